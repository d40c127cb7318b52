/- Plain: the numbers of the reference that stand for a point of the curve. The laws of the reference's numbers and pairs as opaque cells: loads, stores, builds, results. The walks of the reference's Zero, Of, Add. The walks of the reference's Neg, Same. The reference's Zero, Of, Add, Neg, Same said of points; the law's of. The walk of the reference's Bytes of a pair. Plain: the bytes of a point of the curve are got as that point; so two points have the same bytes just if they are one. The laws' reference parts: bytes of a pair, pairs in drawn regions. -/
import Derived.Test.YtpaldgajkhmhbaaDoorZb
import Derived.Test.YtpaldgajkhmhbaaDoorZa
import Derived.Test.YtpaldgajkhmhbaaDoorN13
import Derived.Deep.MidRow
import Derived.Test.YtpaldgajkhmhbaaDoorKb
import Derived.Test.YtpaldgajkhmhbaaDoorEh
namespace Fe
/-- the numbers a, b, c of the reference are the point x, y -/
structure RA (a b c : Nat) (x y : Fin P) : Prop where
  la : a < P
  lb : b < P
  lc : c < P
  nz : zf c ≠ 0
  hx : zf a = x * zf c
  hy : zf b = y * zf c
  cv : Cv x y
theorem PA.ra {a b c d : Nat} {x y : Fin P} (h : PA a b c d x y) : RA a b c x y := ⟨h.la, h.lb, h.lc, h.nz, h.hx, h.hy, h.cv⟩
theorem ra_zero : RA 0 1 1 0 1 := pa_zero.ra
/-- what the reference reckons as the sum -/
def rA (c c2 : Nat) : Nat := c * c2 % P
def rB (c c2 : Nat) : Nat := rA c c2 * rA c c2 % P
def rC (a a2 : Nat) : Nat := a * a2 % P
def rF (a b a2 b2 : Nat) : Nat := dN * (rC a a2 * rC b b2 % P) % P
def rL (a b c a2 b2 c2 : Nat) : Nat := (rB c c2 + (P - rF a b a2 b2)) % P
def rM (a b c a2 b2 c2 : Nat) : Nat := (rB c c2 + rF a b a2 b2) % P
def rX (a b a2 b2 : Nat) : Nat := (a * b2 % P + a2 * b % P) % P
def rAx (a b c a2 b2 c2 : Nat) : Nat := rA c c2 * (rL a b c a2 b2 c2 * rX a b a2 b2 % P) % P
def rAy (a b c a2 b2 c2 : Nat) : Nat := rA c c2 * (rM a b c a2 b2 c2 * ((rC a a2 + rC b b2) % P) % P) % P
def rAz (a b c a2 b2 c2 : Nat) : Nat := rL a b c a2 b2 c2 * rM a b c a2 b2 c2 % P
theorem ra_add {a b c a2 b2 c2 : Nat} {x1 y1 x2 y2 : Fin P} (h : RA a b c x1 y1) (k : RA a2 b2 c2 x2 y2) :
    RA (rAx a b c a2 b2 c2) (rAy a b c a2 b2 c2) (rAz a b c a2 b2 c2) (ax x1 y1 x2 y2) (ay x1 y1 x2 y2) := by
  have ex := ax_eq h.cv k.cv
  have ey := ay_eq h.cv k.cv
  have np := cr_p h.cv k.cv
  have nm := cr_m h.cv k.cv
  have hz : zf c * zf c2 ≠ 0 := f_ne h.nz k.nz
  have hcv := cv_add h.cv k.cv
  have hA : zf (rA c c2) = zf c * zf c2 := by unfold rA; rw [zf_mod, zf_mul]
  have hB : zf (rB c c2) = (zf c * zf c2) * (zf c * zf c2) := by unfold rB; rw [zf_mod, zf_mul, hA]
  have hC : zf (rC a a2) = x1 * x2 * (zf c * zf c2) := by
    unfold rC; rw [zf_mod, zf_mul, h.hx, k.hx]; generalize zf c = z; generalize zf c2 = z2; clear hA hB ex ey np nm hz hcv; grind
  have hE : zf (rC b b2) = y1 * y2 * (zf c * zf c2) := by
    unfold rC; rw [zf_mod, zf_mul, h.hy, k.hy]; generalize zf c = z; generalize zf c2 = z2; clear hA hB hC ex ey np nm hz hcv; grind
  have hF : zf (rF a b a2 b2) = cr x1 y1 x2 y2 * ((zf c * zf c2) * (zf c * zf c2)) := by
    unfold rF cr; rw [zf_mod, zf_mul, zf_mod, zf_mul, hC, hE]; unfold dF; generalize zf dN = dd; generalize zf c * zf c2 = z; clear hA hB hC hE ex ey np nm hz hcv; grind
  have hL : zf (rL a b c a2 b2 c2) = (1 - cr x1 y1 x2 y2) * ((zf c * zf c2) * (zf c * zf c2)) := by
    unfold rL; rw [zf_mod, zf_sub' _ (rF a b a2 b2) (show rF a b a2 b2 < P from mod_lt' _), hB, hF]
    generalize zf c * zf c2 = z; generalize cr x1 y1 x2 y2 = e; clear hA hB hC hE hF ex ey np nm hz hcv; grind
  have hM : zf (rM a b c a2 b2 c2) = (1 + cr x1 y1 x2 y2) * ((zf c * zf c2) * (zf c * zf c2)) := by
    unfold rM; rw [zf_mod, zf_add, hB, hF]
    generalize zf c * zf c2 = z; generalize cr x1 y1 x2 y2 = e; clear hA hB hC hE hF hL ex ey np nm hz hcv; grind
  have hX : zf (rX a b a2 b2) = (x1 * y2 + y1 * x2) * (zf c * zf c2) := by
    unfold rX; rw [zf_mod, zf_add, zf_mod, zf_mod, zf_mul, zf_mul, h.hx, h.hy, k.hx, k.hy]
    generalize zf c = z; generalize zf c2 = z2; clear hA hB hC hE hF hL hM ex ey np nm hz hcv; grind
  have hS : zf ((rC a a2 + rC b b2) % P) = (y1 * y2 + x1 * x2) * (zf c * zf c2) := by
    rw [zf_mod, zf_add, hC, hE]; generalize zf c * zf c2 = z; clear hA hB hC hE hF hL hM hX ex ey np nm hz hcv; grind
  rw [← ex] at hX
  rw [← ey] at hS
  refine ⟨mod_lt' _, mod_lt' _, mod_lt' _, ?_, ?_, ?_, hcv⟩
  · unfold rAz; rw [zf_mod, zf_mul, hL, hM]
    exact f_ne (f_ne nm (f_ne hz hz)) (f_ne np (f_ne hz hz))
  · unfold rAx rAz; rw [zf_mod, zf_mul, zf_mod, zf_mul, zf_mod, zf_mul, hA, hL, hM, hX]
    generalize ax x1 y1 x2 y2 = x; generalize cr x1 y1 x2 y2 = e; generalize zf c * zf c2 = z
    clear hA hB hC hE hF hL hM hX hS ex ey np nm hz hcv h k; grind
  unfold rAy rAz; generalize (rC a a2 + rC b b2) % P = S at hS ⊢; rw [zf_mod, zf_mul, zf_mod, zf_mul, zf_mod, zf_mul, hA, hL, hM, hS]
  generalize ay x1 y1 x2 y2 = y; generalize cr x1 y1 x2 y2 = e; generalize zf c * zf c2 = z
  clear hA hB hC hE hF hL hM hX hS ex ey np nm hz hcv h k; grind
/-- Same of the reference -/
theorem ra_same {a b c a2 b2 c2 : Nat} {x y x2 y2 : Fin P} (h : RA a b c x y) (k : RA a2 b2 c2 x2 y2) :
    (decide (a * c2 % P = a2 * c % P) && decide (b * c2 % P = b2 * c % P)) = (decide (x = x2) && decide (y = y2)) := by
  have e1 : a * c2 % P = a2 * c % P ↔ x = x2 := by
    rw [zf_eq (mod_lt' _) (mod_lt' _), zf_mod, zf_mul, zf_mod, zf_mul, h.hx, k.hx]
    constructor
    · intro e
      refine f_can (f_ne h.nz k.nz) ?_
      generalize zf c = z at *; generalize zf c2 = z2 at *; clear h k; grind
    rintro rfl; generalize zf c = z at *; generalize zf c2 = z2 at *; clear h k; grind
  have e2 : b * c2 % P = b2 * c % P ↔ y = y2 := by
    rw [zf_eq (mod_lt' _) (mod_lt' _), zf_mod, zf_mul, zf_mod, zf_mul, h.hy, k.hy]
    constructor
    · intro e
      refine f_can (f_ne h.nz k.nz) ?_
      generalize zf c = z at *; generalize zf c2 = z2 at *; clear h k; grind
    rintro rfl; generalize zf c = z at *; generalize zf c2 = z2 at *; clear h k; grind
  rw [decide_eq_decide.2 e1, decide_eq_decide.2 e2]
end Fe

namespace Go.Proofs.YtpaldgajkhmhbaaDoor
open Go.RowKit
theorem at_fa {P : Program} {ops : Array Oper} {o : Oper} {l : List Oper} {Q : Exit → Act → World → Prop} {a : Act} {W : World} {t : TypeId} {x : Operand} {n : Nat} (_ : o.op = .fieldAddr t x n) (h : ∀ W0, W0 = W → wpList P ops Q (o :: l) a W0) : wpList P ops Q (o :: l) a W := h W rfl
theorem av_size' (f : Nat → Int) : (av f).size = 16 := rfl
theorem av_one (f : Nat → Int) : (av f).all (·.oneCell') = true := by kernel_rfl
/-- three numbers as cells -/
def tcf (F G H : Nat → Int) : Array Value := av F ++ av G ++ av H
theorem tcf_size (a b c : Nat → Int) : (tcf a b c).size = 48 := by
  unfold tcf; rw [Array.size_append, Array.size_append, av_size', av_size', av_size']
theorem rp_size : (Tryd.prog.info? 35).map (·.size) = some 48 := by kernel_rfl
theorem tcf_one (a b c : Nat → Int) : (tcf a b c).all (·.oneCell') = true := by
  unfold tcf; rw [Array.all_append, Array.all_append, av_one, av_one, av_one]; rfl
theorem tcf_x (F G H : Nat → Int) {j : Nat} (h : j < 16) : (tcf F G H)[j]? = (av F)[j]? := by
  unfold tcf
  rw [Array.getElem?_append_left (by rw [Array.size_append, av_size', av_size']; omega), Array.getElem?_append_left (by rw [av_size']; exact h)]
theorem tcf_y (F G H : Nat → Int) {j : Nat} (h : j < 16) : (tcf F G H)[16 + j]? = (av G)[j]? := by
  unfold tcf
  rw [Array.getElem?_append_left (by rw [Array.size_append, av_size', av_size']; omega), Array.getElem?_append_right (by rw [av_size']; omega), av_size', Nat.add_sub_cancel_left]
theorem tcf_z (F G H : Nat → Int) {j : Nat} (_ : j < 16) : (tcf F G H)[32 + j]? = (av H)[j]? := by
  unfold tcf
  rw [Array.getElem?_append_right (by rw [Array.size_append, av_size', av_size']; omega), Array.size_append, av_size', av_size', show 32 + j - (16 + 16) = j from by omega]
def PostT3 (F G H : Nat → Int) (w : World) (e : Ending) (w' : World) : Prop := e = .returned (.agg (tcf F G H)) ∧ Below w.heap.size w w'
theorem rp_under : ∃ d, Tryd.prog.underlying 35 = some d ∧ (match d with | .struct _ | .array _ _ => true | _ => false) = true := by
  cases h : Tryd.prog.underlying 35 with
  | none => exact absurd (show (Tryd.prog.underlying 35).isSome = true by kernel_rfl) (by rw [h]; decide)
  | some d => exact ⟨d, rfl, by have := show (match Tryd.prog.underlying 35 with | some (.struct _) | some (.array _ _) => true | _ => false) = true by kernel_rfl
                                rw [h] at this
                                cases d <;> simp_all⟩
theorem retT {fn : Func} {p : Tmp} {g : Nat} {tmps : Array Value} {D : List Deferred} {w : World} {R : Ending → World → Prop} {a b c : Nat → Int} (h : fn.results = #[.cell p 35]) (hp : tmps.getD p undef = .pointer (some ⟨g, 0, none⟩)) (hg : Blk w g 35 (tcf a b c)) (hD : D = []) (hR : R (.returned (.agg (tcf a b c))) w) : bodyPost Tryd.prog fn R .ret ⟨tmps, D⟩ w := by
  obtain ⟨d, hd, hs2⟩ := rp_under
  exact bodyPost_ret (results_cell_row h tmps w g 35 (tcf a b c) (0, 0) d hp hg hd (by revert hs2; cases d <;> exact fun h => h) (by rw [tcf_size]; exact rp_size)) hD hR
section
variable {ops : Array Oper} {rest : List Oper} {o : Oper} {a : Act} {w : World} {Q : Exit → Act → World → Prop}
theorem stT (hgd : o.guard = none) {x y : Operand} (ho : o.op = .store 35 x y) {g : Nat} {k l m : Nat → Int} {old : Array Value} (hx : a.eval x = .pointer (some ⟨g, 0, none⟩)) (hy : a.eval y = .agg (tcf k l m)) (hg : Blk w g 35 old) (hs : old.size = 48)
    (h : ∀ w', Blk w' g 35 (tcf k l m) → w.grownBy w' (some g) → w'.heap.size = w.heap.size → wpList Tryd.prog ops Q rest (a.put o.dst undef) w') : wpList Tryd.prog ops Q (o :: rest) a w :=
  wpList_store_blk hgd 35 x y ho g 35 old (tcf k l m) hx hy hg (by rw [hs, tcf_size]) (by rw [tcf_size]; exact rp_size) (tcf_one _ _ _) h
theorem bdT (hw : Region.wanted o (yielded ops a.tmps) = true) {p q r : Operand} (ho : o.op = .build 35 #[(0, p), (1, q), (2, r)]) {k l m : Nat → Int} (hp : a.eval p = .agg (av k)) (hq : a.eval q = .agg (av l)) (hr : a.eval r = .agg (av m))
    (h : wpList Tryd.prog ops Q rest (a.put o.dst (.agg (tcf k l m))) w) : wpList Tryd.prog ops Q (o :: rest) a w := by
  have e : Tryd.prog.built 35 ((#[(0, p), (1, q), (2, r)] : Array (Nat × Operand)).map fun (i, x) => (i, a.eval x)).toList = some (tcf k l m) := by
    simp only [List.map_toArray, List.map_cons, List.map_nil, hp, hq, hr]
    unfold tcf
    clear h hp hq hr
    kernel_rfl
  refine wpList_step fun K hK => ?_
  simp only [hw, if_true]
  refine wp_build 35 _ ho (by rw [e]; rfl) ?_
  rw [e]
  exact hK _ _ h
theorem ldTw (hw : Region.wanted o (yielded ops a.tmps) = true) {x : Operand} (ho : o.op = .load 35 x) {g : Nat} {ty : TypeId} {F G H : Nat → Int} (hx : a.eval x = .pointer (some ⟨g, 0, none⟩)) (hg : Blk w g ty (tcf F G H)) (h : wpList Tryd.prog ops Q rest (a.put o.dst (.agg (tcf F G H))) w) : wpList Tryd.prog ops Q (o :: rest) a w := by
  obtain ⟨d, hd, hs2⟩ := rp_under
  refine wpList_step fun K hK => ?_
  simp only [hw, if_true]
  exact wp_load_row 35 x ho g hx ty (tcf F G H) (0, 0) d hg hd (by revert hs2; cases d <;> exact fun h => h) (by rw [tcf_size]; exact rp_size) (hK _ _ h)
theorem ldTp (p : Nat) (E : Nat → Int) (hw : Region.wanted o (yielded ops a.tmps) = true) {x : Operand} (ho : o.op = .load 33 x) {g : Nat} {ty : TypeId} {cs : Array Value} (hx : a.eval x = .pointer (some ⟨g, p, none⟩)) (hg : Blk w g ty cs) (hE : ∀ j, j < 16 → cs[p + j]? = (av E)[j]?) (h : wpList Tryd.prog ops Q rest (a.put o.dst (.agg (av E))) w) : wpList Tryd.prog ops Q (o :: rest) a w := by
  refine wpList_step fun K hK => ?_
  simp only [hw, if_true]
  refine wp_load_mid 33 x ho g p hx (av E).toList _ (fun j v hv => ?_) N_under rfl N_size (by simpa using hK _ _ h)
  have hj : j < 16 := (List.getElem?_eq_some_iff.1 hv).1
  rw [hg.cell (p + j), hE j hj, ← Array.getElem?_toList]
  exact hv
theorem ldTx (hw : Region.wanted o (yielded ops a.tmps) = true) {x : Operand} (ho : o.op = .load 33 x) {g : Nat} {ty : TypeId} {F G H : Nat → Int} (hx : a.eval x = .pointer (some ⟨g, 0, none⟩)) (hg : Blk w g ty (tcf F G H)) (h : wpList Tryd.prog ops Q rest (a.put o.dst (.agg (av F))) w) : wpList Tryd.prog ops Q (o :: rest) a w :=
  ldTp 0 F hw ho hx hg (fun j hj => by rw [Nat.zero_add]; exact tcf_x F G H hj) h
theorem ldTy (hw : Region.wanted o (yielded ops a.tmps) = true) {x : Operand} (ho : o.op = .load 33 x) {g : Nat} {ty : TypeId} {F G H : Nat → Int} (hx : a.eval x = .pointer (some ⟨g, 16, none⟩)) (hg : Blk w g ty (tcf F G H)) (h : wpList Tryd.prog ops Q rest (a.put o.dst (.agg (av G))) w) : wpList Tryd.prog ops Q (o :: rest) a w :=
  ldTp 16 G hw ho hx hg (fun _ hj => tcf_y F G H hj) h
theorem ldTz (hw : Region.wanted o (yielded ops a.tmps) = true) {x : Operand} (ho : o.op = .load 33 x) {g : Nat} {ty : TypeId} {F G H : Nat → Int} (hx : a.eval x = .pointer (some ⟨g, 32, none⟩)) (hg : Blk w g ty (tcf F G H)) (h : wpList Tryd.prog ops Q rest (a.put o.dst (.agg (av H))) w) : wpList Tryd.prog ops Q (o :: rest) a w :=
  ldTp 32 H hw ho hx hg (fun _ hj => tcf_z F G H hj) h
theorem ldNw (hw : Region.wanted o (yielded ops a.tmps) = true) {x : Operand} (ho : o.op = .load 33 x) {g : Nat} {ty : TypeId} {F : Nat → Int} (hx : a.eval x = .pointer (some ⟨g, 0, none⟩)) (hg : Blk w g ty (av F)) (h : wpList Tryd.prog ops Q rest (a.put o.dst (.agg (av F))) w) : wpList Tryd.prog ops Q (o :: rest) a w :=
  ldTp 0 F hw ho hx hg (fun _ _ => by rw [Nat.zero_add]) h
end
theorem nv_small (n : Nat) (hn : n < 1000000) : Fe.nv ⟨n, 0, 0, 0, 0⟩ = n := by
  have h := Fe.nv_int ⟨n, 0, 0, 0, 0⟩
  have hv : Fe.val ⟨n, 0, 0, 0, 0⟩ = (n : Int) := by unfold Fe.val; simp
  rw [hv] at h
  have : (n : Int) % Fe.p = n := Int.emod_eq_of_lt (by omega) (by unfold Fe.p; omega)
  rw [this] at h
  exact Int.ofNat.inj h
set_option maxRecDepth 20000 in
set_option maxHeartbeats 4000000 in
theorem number_c (n : Nat) (hn : n < 1000000) (w : World) : Calls Tryd.prog 63 #[.int .u64 n] w (PostN (Dg.dg n) w) := by
  have hF : ∀ w, Calls Tryd.prog 73 #[.agg #[.int .u64 n, .int .u64 0, .int .u64 0, .int .u64 0, .int .u64 0]] w (PostN (Dg.dg n) w) := fun w => by
    have h := rFrom_c n 0 0 0 0 (by simp only [Fe.R]; omega) w
    rw [nv_small n hn] at h
    exact h
  obtain ⟨D, hD⟩ : ∃ D, Dg.dg n = D := ⟨_, rfl⟩
  rw [hD] at hF ⊢
  replace hF := Lib.hid hF
  clear hD hn
  go_enter Tryd.func63, Tryd.ntmps63
  go_wp2_with fail
  refine calls_at (fun W0 hW => ?_)
  have k0 : Blk W0 w.heap.size 33 (av (fun _ => 0)) := by rw [hW]; exact Blk.new _ _ _
  have hb0 : Below w.heap.size w W0 := by rw [hW]; go_grown
  clear hW
  obtain ⟨G0, hG0⟩ : ∃ G0, G0 = w.heap.size := ⟨_, rfl⟩
  rw [← hG0] at k0 ⊢
  have lo0 : w.heap.size ≤ G0 := by omega
  clear hG0
  refine (hF.out _).mono ?_
  rintro e w1 ⟨rfl, hb⟩
  replace k0 := k0.below hb
  replace hb0 := hb0.trans (hb.mono hb0.size)
  clear hb hF
  go_wp2_with (refine stN rfl rfl rfl rfl k0 ?_; intro w2 k2 hgr hsz)
  exact retN rfl rfl k2 rfl ⟨rfl, hb0.grown hgr hb0.size (fun k hk => by injection hk with hk; omega)⟩
set_option maxRecDepth 20000 in
set_option maxHeartbeats 4000000 in
theorem rD_c (w : World) : Calls Tryd.prog 38 #[] w (PostN (Dg.dg Fe.dN) w) := by
  have h1 : ∀ w, Calls Tryd.prog 63 #[.int .u64 0] w (PostN (Dg.dg 0) w) := number_c 0 (by decide)
  have h2 : ∀ w, Calls Tryd.prog 63 #[.int .u64 121665] w (PostN (Dg.dg 121665) w) := number_c 121665 (by decide)
  have h3 := rSub_c 0 121665 Fe.P_pos (by unfold Fe.P; decide)
  have h4 : ∀ w, Calls Tryd.prog 63 #[.int .u64 121666] w (PostN (Dg.dg 121666) w) := number_c 121666 (by decide)
  have h5 := rInv_c 121666 (by unfold Fe.P; decide)
  have h6 := rMul_c ((0 + (Fe.P - 121665)) % Fe.P) (121666 ^ (Fe.P - 2) % Fe.P) (Nat.mod_lt _ Fe.P_pos) (Nat.mod_lt _ Fe.P_pos)
  rw [Fe.d_ref] at h6
  obtain ⟨D1, hD1⟩ : ∃ D, Dg.dg 0 = D := ⟨_, rfl⟩
  obtain ⟨D2, hD2⟩ : ∃ D, Dg.dg 121665 = D := ⟨_, rfl⟩
  obtain ⟨D4, hD4⟩ : ∃ D, Dg.dg 121666 = D := ⟨_, rfl⟩
  obtain ⟨D3, hD3⟩ : ∃ D, Dg.dg ((0 + (Fe.P - 121665)) % Fe.P) = D := ⟨_, rfl⟩
  obtain ⟨D5, hD5⟩ : ∃ D, Dg.dg (121666 ^ (Fe.P - 2) % Fe.P) = D := ⟨_, rfl⟩
  obtain ⟨D6, hD6⟩ : ∃ D, Dg.dg Fe.dN = D := ⟨_, rfl⟩
  rw [hD1] at h1
  rw [hD2] at h2
  rw [hD1, hD2, hD3] at h3
  rw [hD4] at h4
  rw [hD4, hD5] at h5
  rw [hD3, hD5, hD6] at h6
  rw [hD6]
  replace h1 := Lib.hid h1
  replace h2 := Lib.hid h2
  replace h3 := Lib.hid h3
  replace h4 := Lib.hid h4
  replace h5 := Lib.hid h5
  replace h6 := Lib.hid h6
  clear hD1 hD2 hD3 hD4 hD5 hD6
  go_enter Tryd.func38, Tryd.ntmps38
  go_wp2_with fail
  refine calls_at (fun W0 hW => ?_)
  have k0 : Blk W0 w.heap.size 33 (av (fun _ => 0)) := by rw [hW]; exact Blk.new _ _ _
  have hb0 : Below w.heap.size w W0 := by rw [hW]; go_grown
  clear hW
  obtain ⟨G0, hG0⟩ : ∃ G0, G0 = w.heap.size := ⟨_, rfl⟩
  rw [← hG0] at k0 ⊢
  have lo0 : w.heap.size ≤ G0 := by omega
  clear hG0
  refine (h1.out _).mono ?_
  rintro e w1 ⟨rfl, hb⟩
  replace k0 := k0.below hb
  replace hb0 := hb0.trans (hb.mono hb0.size)
  clear hb h1
  go_wp2_with fail
  refine (h2.out _).mono ?_
  rintro e w2 ⟨rfl, hb⟩
  replace k0 := k0.below hb
  replace hb0 := hb0.trans (hb.mono hb0.size)
  clear hb h2
  go_wp2_with fail
  refine (h3.out _).mono ?_
  rintro e w3 ⟨rfl, hb⟩
  replace k0 := k0.below hb
  replace hb0 := hb0.trans (hb.mono hb0.size)
  clear hb h3
  go_wp2_with fail
  refine (h4.out _).mono ?_
  rintro e w4 ⟨rfl, hb⟩
  replace k0 := k0.below hb
  replace hb0 := hb0.trans (hb.mono hb0.size)
  clear hb h4
  go_wp2_with fail
  refine (h5.out _).mono ?_
  rintro e w5 ⟨rfl, hb⟩
  replace k0 := k0.below hb
  replace hb0 := hb0.trans (hb.mono hb0.size)
  clear hb h5
  go_wp2_with fail
  refine (h6.out _).mono ?_
  rintro e w6 ⟨rfl, hb⟩
  replace k0 := k0.below hb
  replace hb0 := hb0.trans (hb.mono hb0.size)
  clear hb h6
  go_wp2_with (refine stN rfl rfl rfl rfl k0 ?_; intro w7 k2 hgr hsz)
  exact retN rfl rfl k2 rfl ⟨rfl, hb0.grown hgr hb0.size (fun k hk => by injection hk with hk; omega)⟩
end Go.Proofs.YtpaldgajkhmhbaaDoor

namespace Go.Proofs.YtpaldgajkhmhbaaDoor
open Go.RowKit
set_option maxRecDepth 20000 in
set_option maxHeartbeats 8000000 in
theorem rZero_g {n1 : Nat → Int} {n2 : Nat → Int}
    (c1 : ∀ w, Calls Tryd.prog 63 #[.int .u64 0] w (PostN n1 w))
    (c2 : ∀ w, Calls Tryd.prog 63 #[.int .u64 1] w (PostN n2 w))
    (w : World) : Calls Tryd.prog 47 #[] w (PostT3 n1 n2 n2 w) := by
  replace c1 := Lib.hid c1
  replace c2 := Lib.hid c2
  go_enter Tryd.func47, Tryd.ntmps47
  go_wp2_with fail
  refine calls_at (fun W0 hW => ?_)
  obtain ⟨oldG0, k0, soG0⟩ : ∃ old, Blk W0 (w.heap.size) 35 old ∧ old.size = 48 := (by rw [hW]; exact ⟨_, Blk.new _ _ _, rfl⟩)
  have hb0 : Below w.heap.size w W0 := (by rw [hW]; go_grown)
  clear hW
  obtain ⟨G0, hG0⟩ : ∃ G0, G0 = w.heap.size := ⟨_, rfl⟩
  rw [← hG0] at k0 ⊢
  have loG0 : w.heap.size ≤ G0 := (by omega)
  clear hG0
  refine (c1.out _).mono ?_
  rintro e1 vc1_0 ⟨rfl, hbx⟩
  replace k0 := k0.below hbx
  replace hb0 := hb0.trans (hbx.mono hb0.size)
  clear hbx
  go_wp2_with fail
  refine (c2.out _).mono ?_
  rintro e1 vc1_1 ⟨rfl, hbx⟩
  replace k0 := k0.below hbx
  replace hb0 := hb0.trans (hbx.mono hb0.size)
  clear hbx
  go_wp2_with fail
  refine (c2.out _).mono ?_
  rintro e1 vc1_2 ⟨rfl, hbx⟩
  replace k0 := k0.below hbx
  replace hb0 := hb0.trans (hbx.mono hb0.size)
  clear hbx
  go_wp2_with (first | (refine bdT (by kernel_rfl) rfl rfl rfl rfl ?_) | (refine stT rfl rfl rfl rfl k0 soG0 ?_; intro vp1 mG0 hgr hsz))
  replace hb0 := hb0.grown hgr hb0.size (fun k hk => by injection hk with hk; omega)
  clear hgr hsz
  exact retT rfl rfl mG0 rfl ⟨rfl, hb0⟩
def ro1L (x : Fe.E) (y : Fe.E) (z : Fe.E) (n1 : Nat → Int) (n2 : Nat → Int) (n3 : Nat → Int) : List (Value → World → Prop) := [
  Eq1 (.agg #[.int .u64 x.a0, .int .u64 x.a1, .int .u64 x.a2, .int .u64 x.a3, .int .u64 x.a4]),
  Eq1 (.agg (av n1)),
  Eq1 (.agg #[.int .u64 y.a0, .int .u64 y.a1, .int .u64 y.a2, .int .u64 y.a3, .int .u64 y.a4]),
  Eq1 (.agg (av n2)),
  Eq1 (.agg #[.int .u64 z.a0, .int .u64 z.a1, .int .u64 z.a2, .int .u64 z.a3, .int .u64 z.a4]),
  Eq1 (.agg (av n3)),
  Eq1 (.agg (tcf n1 n2 n3))]
theorem ro1S (x : Fe.E) (y : Fe.E) (z : Fe.E) (n1 : Nat → Int) (n2 : Nat → Int) (n3 : Nat → Int) : ∀ j x' q q', (ro1L x y z n1 n2 n3).getD j (fun _ _ => True) x' q → Below q.heap.size q q' → (ro1L x y z n1 n2 n3).getD j (fun _ _ => True) x' q' := by
  refine sta_all _ ?_
  simp only [ro1L, List.mem_cons, forall_eq_or_imp, List.not_mem_nil, false_implies, implies_true, and_true]
  exact ⟨sta_eq _, sta_eq _, sta_eq _, sta_eq _, sta_eq _, sta_eq _, sta_eq _⟩
set_option maxRecDepth 20000 in
set_option maxHeartbeats 8000000 in
theorem rOf_g {x : Fe.E} {y : Fe.E} {z : Fe.E} {n1 : Nat → Int} {n2 : Nat → Int} {n3 : Nat → Int}
    (c1 : ∀ w, Calls Tryd.prog 73 #[.agg #[.int .u64 x.a0, .int .u64 x.a1, .int .u64 x.a2, .int .u64 x.a3, .int .u64 x.a4]] w (PostN n1 w))
    (c2 : ∀ w, Calls Tryd.prog 73 #[.agg #[.int .u64 y.a0, .int .u64 y.a1, .int .u64 y.a2, .int .u64 y.a3, .int .u64 y.a4]] w (PostN n2 w))
    (c3 : ∀ w, Calls Tryd.prog 73 #[.agg #[.int .u64 z.a0, .int .u64 z.a1, .int .u64 z.a2, .int .u64 z.a3, .int .u64 z.a4]] w (PostN n3 w))
    (w : World) : Calls Tryd.prog 68 #[.agg #[.int .u64 x.a0, .int .u64 x.a1, .int .u64 x.a2, .int .u64 x.a3, .int .u64 x.a4], .agg #[.int .u64 y.a0, .int .u64 y.a1, .int .u64 y.a2, .int .u64 y.a3, .int .u64 y.a4], .agg #[.int .u64 z.a0, .int .u64 z.a1, .int .u64 z.a2, .int .u64 z.a3, .int .u64 z.a4]] w (PostT3 n1 n2 n3 w) := by
  replace c1 := Lib.hid c1
  replace c2 := Lib.hid c2
  replace c3 := Lib.hid c3
  go_enter Tryd.func68, Tryd.ntmps68
  go_wp2_with fail
  refine at_world (fun W0 hW => ?_)
  have k3 : Blk W0 (w.heap.size) 26 (#[.int .u64 x.a0, .int .u64 x.a1, .int .u64 x.a2, .int .u64 x.a3, .int .u64 x.a4]) := (by rw [hW]; exact (((Blk.new _ _ _).alloc _).alloc _).alloc _)
  have k4 : Blk W0 (w.heap.size + 1) 26 (#[.int .u64 y.a0, .int .u64 y.a1, .int .u64 y.a2, .int .u64 y.a3, .int .u64 y.a4]) := (by rw [hW]; exact ((blk_at (by simp) (Blk.new _ _ _)).alloc _).alloc _)
  have k5 : Blk W0 (w.heap.size + 1 + 1) 26 (#[.int .u64 z.a0, .int .u64 z.a1, .int .u64 z.a2, .int .u64 z.a3, .int .u64 z.a4]) := (by rw [hW]; exact (blk_at (by simp) (Blk.new _ _ _)).alloc _)
  obtain ⟨oldG6, k6, soG6⟩ : ∃ old, Blk W0 (w.heap.size + 1 + 1 + 1) 35 old ∧ old.size = 48 := (by rw [hW]; exact ⟨_, blk_at (by simp) (Blk.new _ _ _), rfl⟩)
  have hb0 : Below w.heap.size w W0 := (by rw [hW]; go_grown)
  clear hW
  obtain ⟨G6, hG6⟩ : ∃ G6, G6 = w.heap.size + 1 + 1 + 1 := ⟨_, rfl⟩
  rw [← hG6] at k6 ⊢
  obtain ⟨G5, hG5⟩ : ∃ G5, G5 = w.heap.size + 1 + 1 := ⟨_, rfl⟩
  rw [← hG5] at k5 ⊢
  obtain ⟨G4, hG4⟩ : ∃ G4, G4 = w.heap.size + 1 := ⟨_, rfl⟩
  rw [← hG4] at k4 ⊢
  obtain ⟨G3, hG3⟩ : ∃ G3, G3 = w.heap.size := ⟨_, rfl⟩
  rw [← hG3] at k3 ⊢
  have loG3 : w.heap.size ≤ G3 := (by omega)
  have loG4 : w.heap.size ≤ G4 := (by omega)
  have loG5 : w.heap.size ≤ G5 := (by omega)
  have loG6 : w.heap.size ≤ G6 := (by omega)
  clear hG3 hG4 hG5 hG6
  refine wp_region_grow2 7 (fun k => (Nat.ble 7 k && Nat.ble k 13)) _ [] (fun j x' q => (ro1L x y z n1 n2 n3).getD j (fun _ _ => True) x' q) (fun _ => false) (fun f => #[.agg #[.int .u64 x.a0, .int .u64 x.a1, .int .u64 x.a2, .int .u64 x.a3, .int .u64 x.a4], .agg #[.int .u64 y.a0, .int .u64 y.a1, .int .u64 y.a2, .int .u64 y.a3, .int .u64 y.a4], .agg #[.int .u64 z.a0, .int .u64 z.a1, .int .u64 z.a2, .int .u64 z.a3, .int .u64 z.a4], .pointer (some ⟨G3, 0, none⟩), .pointer (some ⟨G4, 0, none⟩), .pointer (some ⟨G5, 0, none⟩), .pointer (some ⟨G6, 0, none⟩), f 7, f 8, f 9, f 10, f 11, f 12, f 13]) (fun f => rfl) (by kernel_rfl) (by kernel_rfl) (by kernel_rfl) (by kernel_rfl) (by kernel_rfl) (ro1S _ _ _ _ _ _) (fun _ _ _ h => by cases h) ?_ ?_
  · refine steps2_cons ?_ ?_
    · as_aux_lemma =>
      intro f w1 hb hd Q hK
      clear hd
      have hK := Lib.hid hK
      obtain ⟨c0, c1, c2, c3, c4⟩ := blk5 (k3.below hb)
      go_wp2
      exact hK.out _ _ rfl (.refl _ _) nof
    refine steps2_cons ?_ ?_
    · as_aux_lemma =>
      intro f w1 hb hd Q hK
      have e7 : f 7 = .agg #[.int .u64 x.a0, .int .u64 x.a1, .int .u64 x.a2, .int .u64 x.a3, .int .u64 x.a4] := hd.1 rfl
      clear hd
      simp only [e7] at hK
      have hK := Lib.hid hK
      go_wp2_with fail
      refine (c1.out _).mono ?_
      rintro e w2 ⟨rfl, hb2⟩
      go_wp2
      exact hK.out _ _ rfl hb2 nof
    refine steps2_cons ?_ ?_
    · as_aux_lemma =>
      intro f w1 hb hd Q hK
      clear hd
      have hK := Lib.hid hK
      obtain ⟨c0, c1, c2, c3, c4⟩ := blk5 (k4.below hb)
      go_wp2
      exact hK.out _ _ rfl (.refl _ _) nof
    refine steps2_cons ?_ ?_
    · as_aux_lemma =>
      intro f w1 hb hd Q hK
      have e9 : f 9 = .agg #[.int .u64 y.a0, .int .u64 y.a1, .int .u64 y.a2, .int .u64 y.a3, .int .u64 y.a4] := hd.1 rfl
      clear hd
      simp only [e9] at hK
      have hK := Lib.hid hK
      go_wp2_with fail
      refine (c2.out _).mono ?_
      rintro e w2 ⟨rfl, hb2⟩
      go_wp2
      exact hK.out _ _ rfl hb2 nof
    refine steps2_cons ?_ ?_
    · as_aux_lemma =>
      intro f w1 hb hd Q hK
      clear hd
      have hK := Lib.hid hK
      obtain ⟨c0, c1, c2, c3, c4⟩ := blk5 (k5.below hb)
      go_wp2
      exact hK.out _ _ rfl (.refl _ _) nof
    refine steps2_cons ?_ ?_
    · as_aux_lemma =>
      intro f w1 hb hd Q hK
      have e11 : f 11 = .agg #[.int .u64 z.a0, .int .u64 z.a1, .int .u64 z.a2, .int .u64 z.a3, .int .u64 z.a4] := hd.1 rfl
      clear hd
      simp only [e11] at hK
      have hK := Lib.hid hK
      go_wp2_with fail
      refine (c3.out _).mono ?_
      rintro e w2 ⟨rfl, hb2⟩
      go_wp2
      exact hK.out _ _ rfl hb2 nof
    refine steps2_cons ?_ ?_
    · as_aux_lemma =>
      intro f w1 hb hd Q hK
      have e8 : f 8 = .agg (av n1) := hd.1 rfl
      have e10 : f 10 = .agg (av n2) := hd.2.1 rfl
      have e12 : f 12 = .agg (av n3) := hd.2.2.1 rfl
      clear hd
      simp only [e8, e10, e12] at hK
      have hK := Lib.hid hK
      refine bdT (by simp only [e8, e10, e12]; kernel_rfl) rfl e8 e10 e12 ?_
      refine wpList_nil ?_
      simp only [e8, e10, e12]
      exact hK.out _ _ rfl (.refl _ _) nof
    trivial
  intro f1 vd1 hb hf hne
  have d13 : f1 13 = .agg (tcf n1 n2 n3) := hf 6 _ _ (by decide) rfl rfl
  clear hf hne
  simp only [d13]
  clear d13
  replace k3 := k3.below hb
  replace k4 := k4.below hb
  replace k5 := k5.below hb
  replace k6 := k6.below hb
  replace hb0 := hb0.trans (hb.mono hb0.size)
  clear hb
  refine stT rfl rfl rfl rfl k6 soG6 ?_
  intro vs1_0 mG6 hgr hsz
  replace hb0 := hb0.grown hgr hb0.size (fun k hk => by injection hk with hk; omega)
  clear hgr hsz
  refine wpList_nil ?_
  go_wp2
  exact retT rfl rfl mG6 rfl ⟨rfl, hb0⟩
def ra5L (D : Nat → Int) (n3 : Nat → Int) (n4 : Nat → Int) (n5 : Nat → Int) (n6 : Nat → Int) (B0 : Nat) : List (Value → World → Prop) := [
  Eq1 (.agg (av D)),
  Eq1 (.agg (av n3)),
  Eq1 (.agg (av n4)),
  Eq1 (.agg (av n5)),
  Eq1 (.agg (av n6)),
  NewB B0 33 #[.int .u64 0, .int .u64 0, .int .u64 0, .int .u64 0, .int .u64 0, .int .u64 0, .int .u64 0, .int .u64 0, .int .u64 0, .int .u64 0, .int .u64 0, .int .u64 0, .int .u64 0, .int .u64 0, .int .u64 0, .int .u64 0]]
theorem ra5S (D : Nat → Int) (n3 : Nat → Int) (n4 : Nat → Int) (n5 : Nat → Int) (n6 : Nat → Int) (B0 : Nat) : ∀ j x' q q', (ra5L D n3 n4 n5 n6 B0).getD j (fun _ _ => True) x' q → Below q.heap.size q q' → (ra5L D n3 n4 n5 n6 B0).getD j (fun _ _ => True) x' q' := by
  refine sta_all _ ?_
  simp only [ra5L, List.mem_cons, forall_eq_or_imp, List.not_mem_nil, false_implies, implies_true, and_true]
  exact ⟨sta_eq _, sta_eq _, sta_eq _, sta_eq _, sta_eq _, sta_new _ _ _⟩
theorem ra5O (D : Nat → Int) (n3 : Nat → Int) (n4 : Nat → Int) (n5 : Nat → Int) (n6 : Nat → Int) (B0 : Nat) : ∀ j x' q, (fun j => j == 5) j = true → (ra5L D n3 n4 n5 n6 B0).getD j (fun _ _ => True) x' q → ∀ g, x' = .pointer (some ⟨g, 0, none⟩) → g < q.heap.size := by
  intro j x' q hj hv g e
  have hj' : j = 5 := by simpa only [Bool.or_eq_true, beq_iff_eq, or_assoc] using hj
  subst hj'
  all_goals exact new_lt hv e
def ra6L (n2 : Nat → Int) (n6 : Nat → Int) (n7 : Nat → Int) (n8 : Nat → Int) (B0 : Nat) : List (Value → World → Prop) := [
  Eq1 (.agg (av n2)),
  Eq1 (.agg (av n6)),
  Eq1 (.agg (av n7)),
  Eq1 (.agg (av n2)),
  Eq1 (.agg (av n6)),
  Eq1 (.agg (av n8)),
  NewB B0 33 #[.int .u64 0, .int .u64 0, .int .u64 0, .int .u64 0, .int .u64 0, .int .u64 0, .int .u64 0, .int .u64 0, .int .u64 0, .int .u64 0, .int .u64 0, .int .u64 0, .int .u64 0, .int .u64 0, .int .u64 0, .int .u64 0],
  NewB B0 33 #[.int .u64 0, .int .u64 0, .int .u64 0, .int .u64 0, .int .u64 0, .int .u64 0, .int .u64 0, .int .u64 0, .int .u64 0, .int .u64 0, .int .u64 0, .int .u64 0, .int .u64 0, .int .u64 0, .int .u64 0, .int .u64 0]]
theorem ra6S (n2 : Nat → Int) (n6 : Nat → Int) (n7 : Nat → Int) (n8 : Nat → Int) (B0 : Nat) : ∀ j x' q q', (ra6L n2 n6 n7 n8 B0).getD j (fun _ _ => True) x' q → Below q.heap.size q q' → (ra6L n2 n6 n7 n8 B0).getD j (fun _ _ => True) x' q' := by
  refine sta_all _ ?_
  simp only [ra6L, List.mem_cons, forall_eq_or_imp, List.not_mem_nil, false_implies, implies_true, and_true]
  exact ⟨sta_eq _, sta_eq _, sta_eq _, sta_eq _, sta_eq _, sta_eq _, sta_new _ _ _, sta_new _ _ _⟩
theorem ra6O (n2 : Nat → Int) (n6 : Nat → Int) (n7 : Nat → Int) (n8 : Nat → Int) (B0 : Nat) : ∀ j x' q, (fun j => j == 6 || j == 7) j = true → (ra6L n2 n6 n7 n8 B0).getD j (fun _ _ => True) x' q → ∀ g, x' = .pointer (some ⟨g, 0, none⟩) → g < q.heap.size := by
  intro j x' q hj hv g e
  have hj' : j = 6 ∨ j = 7 := by simpa only [Bool.or_eq_true, beq_iff_eq, or_assoc] using hj
  rcases hj' with rfl | rfl
  all_goals exact new_lt hv e
def ra7L (x1 : Nat → Int) (y1 : Nat → Int) (x2 : Nat → Int) (y2 : Nat → Int) (n9 : Nat → Int) (n10 : Nat → Int) (n11 : Nat → Int) (G4 : Nat) (G5 : Nat) (B0 : Nat) : List (Value → World → Prop) := [
  Eq1 (.pointer (some ⟨G4, 0, none⟩)),
  Eq1 (.agg (av x1)),
  Eq1 (.pointer (some ⟨G5, 16, none⟩)),
  Eq1 (.agg (av y2)),
  Eq1 (.agg (av n9)),
  Eq1 (.pointer (some ⟨G5, 0, none⟩)),
  Eq1 (.agg (av x2)),
  Eq1 (.pointer (some ⟨G4, 16, none⟩)),
  Eq1 (.agg (av y1)),
  Eq1 (.agg (av n10)),
  Eq1 (.agg (av n11)),
  NewB B0 33 #[.int .u64 0, .int .u64 0, .int .u64 0, .int .u64 0, .int .u64 0, .int .u64 0, .int .u64 0, .int .u64 0, .int .u64 0, .int .u64 0, .int .u64 0, .int .u64 0, .int .u64 0, .int .u64 0, .int .u64 0, .int .u64 0]]
theorem ra7S (x1 : Nat → Int) (y1 : Nat → Int) (x2 : Nat → Int) (y2 : Nat → Int) (n9 : Nat → Int) (n10 : Nat → Int) (n11 : Nat → Int) (G4 : Nat) (G5 : Nat) (B0 : Nat) : ∀ j x' q q', (ra7L x1 y1 x2 y2 n9 n10 n11 G4 G5 B0).getD j (fun _ _ => True) x' q → Below q.heap.size q q' → (ra7L x1 y1 x2 y2 n9 n10 n11 G4 G5 B0).getD j (fun _ _ => True) x' q' := by
  refine sta_all _ ?_
  simp only [ra7L, List.mem_cons, forall_eq_or_imp, List.not_mem_nil, false_implies, implies_true, and_true]
  exact ⟨sta_eq _, sta_eq _, sta_eq _, sta_eq _, sta_eq _, sta_eq _, sta_eq _, sta_eq _, sta_eq _, sta_eq _, sta_eq _, sta_new _ _ _⟩
theorem ra7O (x1 : Nat → Int) (y1 : Nat → Int) (x2 : Nat → Int) (y2 : Nat → Int) (n9 : Nat → Int) (n10 : Nat → Int) (n11 : Nat → Int) (G4 : Nat) (G5 : Nat) (B0 : Nat) : ∀ j x' q, (fun j => j == 11) j = true → (ra7L x1 y1 x2 y2 n9 n10 n11 G4 G5 B0).getD j (fun _ _ => True) x' q → ∀ g, x' = .pointer (some ⟨g, 0, none⟩) → g < q.heap.size := by
  intro j x' q hj hv g e
  have hj' : j = 11 := by simpa only [Bool.or_eq_true, beq_iff_eq, or_assoc] using hj
  subst hj'
  all_goals exact new_lt hv e
def ra8L (n1 : Nat → Int) (n7 : Nat → Int) (n11 : Nat → Int) (n12 : Nat → Int) (n13 : Nat → Int) (B0 : Nat) : List (Value → World → Prop) := [
  Eq1 (.agg (av n1)),
  Eq1 (.agg (av n7)),
  Eq1 (.agg (av n11)),
  Eq1 (.agg (av n12)),
  Eq1 (.agg (av n13)),
  NewB B0 33 #[.int .u64 0, .int .u64 0, .int .u64 0, .int .u64 0, .int .u64 0, .int .u64 0, .int .u64 0, .int .u64 0, .int .u64 0, .int .u64 0, .int .u64 0, .int .u64 0, .int .u64 0, .int .u64 0, .int .u64 0, .int .u64 0]]
theorem ra8S (n1 : Nat → Int) (n7 : Nat → Int) (n11 : Nat → Int) (n12 : Nat → Int) (n13 : Nat → Int) (B0 : Nat) : ∀ j x' q q', (ra8L n1 n7 n11 n12 n13 B0).getD j (fun _ _ => True) x' q → Below q.heap.size q q' → (ra8L n1 n7 n11 n12 n13 B0).getD j (fun _ _ => True) x' q' := by
  refine sta_all _ ?_
  simp only [ra8L, List.mem_cons, forall_eq_or_imp, List.not_mem_nil, false_implies, implies_true, and_true]
  exact ⟨sta_eq _, sta_eq _, sta_eq _, sta_eq _, sta_eq _, sta_new _ _ _⟩
theorem ra8O (n1 : Nat → Int) (n7 : Nat → Int) (n11 : Nat → Int) (n12 : Nat → Int) (n13 : Nat → Int) (B0 : Nat) : ∀ j x' q, (fun j => j == 5) j = true → (ra8L n1 n7 n11 n12 n13 B0).getD j (fun _ _ => True) x' q → ∀ g, x' = .pointer (some ⟨g, 0, none⟩) → g < q.heap.size := by
  intro j x' q hj hv g e
  have hj' : j = 5 := by simpa only [Bool.or_eq_true, beq_iff_eq, or_assoc] using hj
  subst hj'
  all_goals exact new_lt hv e
def ra9L (n1 : Nat → Int) (n3 : Nat → Int) (n4 : Nat → Int) (n8 : Nat → Int) (n14 : Nat → Int) (n15 : Nat → Int) (n16 : Nat → Int) (B0 : Nat) : List (Value → World → Prop) := [
  Eq1 (.agg (av n1)),
  Eq1 (.agg (av n8)),
  Eq1 (.agg (av n3)),
  Eq1 (.agg (av n4)),
  Eq1 (.agg (av n14)),
  Eq1 (.agg (av n15)),
  Eq1 (.agg (av n16)),
  NewB B0 33 #[.int .u64 0, .int .u64 0, .int .u64 0, .int .u64 0, .int .u64 0, .int .u64 0, .int .u64 0, .int .u64 0, .int .u64 0, .int .u64 0, .int .u64 0, .int .u64 0, .int .u64 0, .int .u64 0, .int .u64 0, .int .u64 0]]
theorem ra9S (n1 : Nat → Int) (n3 : Nat → Int) (n4 : Nat → Int) (n8 : Nat → Int) (n14 : Nat → Int) (n15 : Nat → Int) (n16 : Nat → Int) (B0 : Nat) : ∀ j x' q q', (ra9L n1 n3 n4 n8 n14 n15 n16 B0).getD j (fun _ _ => True) x' q → Below q.heap.size q q' → (ra9L n1 n3 n4 n8 n14 n15 n16 B0).getD j (fun _ _ => True) x' q' := by
  refine sta_all _ ?_
  simp only [ra9L, List.mem_cons, forall_eq_or_imp, List.not_mem_nil, false_implies, implies_true, and_true]
  exact ⟨sta_eq _, sta_eq _, sta_eq _, sta_eq _, sta_eq _, sta_eq _, sta_eq _, sta_new _ _ _⟩
theorem ra9O (n1 : Nat → Int) (n3 : Nat → Int) (n4 : Nat → Int) (n8 : Nat → Int) (n14 : Nat → Int) (n15 : Nat → Int) (n16 : Nat → Int) (B0 : Nat) : ∀ j x' q, (fun j => j == 7) j = true → (ra9L n1 n3 n4 n8 n14 n15 n16 B0).getD j (fun _ _ => True) x' q → ∀ g, x' = .pointer (some ⟨g, 0, none⟩) → g < q.heap.size := by
  intro j x' q hj hv g e
  have hj' : j = 7 := by simpa only [Bool.or_eq_true, beq_iff_eq, or_assoc] using hj
  subst hj'
  all_goals exact new_lt hv e
def ra10L (n7 : Nat → Int) (n8 : Nat → Int) (n13 : Nat → Int) (n16 : Nat → Int) (n17 : Nat → Int) : List (Value → World → Prop) := [
  Eq1 (.agg (av n13)),
  Eq1 (.agg (av n16)),
  Eq1 (.agg (av n7)),
  Eq1 (.agg (av n8)),
  Eq1 (.agg (av n17)),
  Eq1 (.agg (tcf n13 n16 n17))]
theorem ra10S (n7 : Nat → Int) (n8 : Nat → Int) (n13 : Nat → Int) (n16 : Nat → Int) (n17 : Nat → Int) : ∀ j x' q q', (ra10L n7 n8 n13 n16 n17).getD j (fun _ _ => True) x' q → Below q.heap.size q q' → (ra10L n7 n8 n13 n16 n17).getD j (fun _ _ => True) x' q' := by
  refine sta_all _ ?_
  simp only [ra10L, List.mem_cons, forall_eq_or_imp, List.not_mem_nil, false_implies, implies_true, and_true]
  exact ⟨sta_eq _, sta_eq _, sta_eq _, sta_eq _, sta_eq _, sta_eq _⟩
set_option maxRecDepth 20000 in
set_option maxHeartbeats 8000000 in
theorem rAdd_g {D : Nat → Int} {x1 : Nat → Int} {y1 : Nat → Int} {z1 : Nat → Int} {x2 : Nat → Int} {y2 : Nat → Int} {z2 : Nat → Int} {n1 : Nat → Int} {n2 : Nat → Int} {n3 : Nat → Int} {n4 : Nat → Int} {n5 : Nat → Int} {n6 : Nat → Int} {n7 : Nat → Int} {n8 : Nat → Int} {n9 : Nat → Int} {n10 : Nat → Int} {n11 : Nat → Int} {n12 : Nat → Int} {n13 : Nat → Int} {n14 : Nat → Int} {n15 : Nat → Int} {n16 : Nat → Int} {n17 : Nat → Int}
    (c1 : ∀ w, Calls Tryd.prog 60 #[.agg (av z1), .agg (av z2)] w (PostN n1 w))
    (c2 : ∀ w, Calls Tryd.prog 60 #[.agg (av n1), .agg (av n1)] w (PostN n2 w))
    (c3 : ∀ w, Calls Tryd.prog 60 #[.agg (av x1), .agg (av x2)] w (PostN n3 w))
    (c4 : ∀ w, Calls Tryd.prog 60 #[.agg (av y1), .agg (av y2)] w (PostN n4 w))
    (c5 : ∀ w, Calls Tryd.prog 60 #[.agg (av n3), .agg (av n4)] w (PostN n5 w))
    (c6 : ∀ w, Calls Tryd.prog 60 #[.agg (av D), .agg (av n5)] w (PostN n6 w))
    (c7 : ∀ w, Calls Tryd.prog 62 #[.agg (av n2), .agg (av n6)] w (PostN n7 w))
    (c8 : ∀ w, Calls Tryd.prog 64 #[.agg (av n2), .agg (av n6)] w (PostN n8 w))
    (c9 : ∀ w, Calls Tryd.prog 60 #[.agg (av x1), .agg (av y2)] w (PostN n9 w))
    (c10 : ∀ w, Calls Tryd.prog 60 #[.agg (av x2), .agg (av y1)] w (PostN n10 w))
    (c11 : ∀ w, Calls Tryd.prog 64 #[.agg (av n9), .agg (av n10)] w (PostN n11 w))
    (c12 : ∀ w, Calls Tryd.prog 60 #[.agg (av n7), .agg (av n11)] w (PostN n12 w))
    (c13 : ∀ w, Calls Tryd.prog 60 #[.agg (av n1), .agg (av n12)] w (PostN n13 w))
    (c14 : ∀ w, Calls Tryd.prog 64 #[.agg (av n3), .agg (av n4)] w (PostN n14 w))
    (c15 : ∀ w, Calls Tryd.prog 60 #[.agg (av n8), .agg (av n14)] w (PostN n15 w))
    (c16 : ∀ w, Calls Tryd.prog 60 #[.agg (av n1), .agg (av n15)] w (PostN n16 w))
    (c17 : ∀ w, Calls Tryd.prog 60 #[.agg (av n7), .agg (av n8)] w (PostN n17 w))
    (w : World) : Calls Tryd.prog 39 #[.agg (av D), .agg (tcf x1 y1 z1), .agg (tcf x2 y2 z2)] w (PostT3 n13 n16 n17 w) := by
  replace c1 := Lib.hid c1
  replace c2 := Lib.hid c2
  replace c3 := Lib.hid c3
  replace c4 := Lib.hid c4
  replace c5 := Lib.hid c5
  replace c6 := Lib.hid c6
  replace c7 := Lib.hid c7
  replace c8 := Lib.hid c8
  replace c9 := Lib.hid c9
  replace c10 := Lib.hid c10
  replace c11 := Lib.hid c11
  replace c12 := Lib.hid c12
  replace c13 := Lib.hid c13
  replace c14 := Lib.hid c14
  replace c15 := Lib.hid c15
  replace c16 := Lib.hid c16
  replace c17 := Lib.hid c17
  go_enter Tryd.func39, Tryd.ntmps39
  have hmk : True := trivial
  go_wp2_with (first | (clear hmk; refine at_fa rfl (fun W0 hW => ?_); have k3 : Blk W0 (w.heap.size) 33 ((av D)) := (by rw [hW]; exact (((Blk.new _ _ _).alloc _).alloc _).alloc _); have k4 : Blk W0 (w.heap.size + 1) 35 ((tcf x1 y1 z1)) := (by rw [hW]; exact ((blk_at (by simp) (Blk.new _ _ _)).alloc _).alloc _); have k5 : Blk W0 (w.heap.size + 1 + 1) 35 ((tcf x2 y2 z2)) := (by rw [hW]; exact (blk_at (by simp) (Blk.new _ _ _)).alloc _); obtain ⟨oldG6, k6, soG6⟩ : ∃ old, Blk W0 (w.heap.size + 1 + 1 + 1) 35 old ∧ old.size = 48 := (by rw [hW]; exact ⟨_, blk_at (by simp) (Blk.new _ _ _), rfl⟩); have hb0 : Below w.heap.size w W0 := (by rw [hW]; go_grown); clear hW; obtain ⟨G6, hG6⟩ : ∃ G6, G6 = w.heap.size + 1 + 1 + 1 := ⟨_, rfl⟩; rw [← hG6] at k6 ⊢; obtain ⟨G5, hG5⟩ : ∃ G5, G5 = w.heap.size + 1 + 1 := ⟨_, rfl⟩; rw [← hG5] at k5 ⊢; obtain ⟨G4, hG4⟩ : ∃ G4, G4 = w.heap.size + 1 := ⟨_, rfl⟩; rw [← hG4] at k4 ⊢; obtain ⟨G3, hG3⟩ : ∃ G3, G3 = w.heap.size := ⟨_, rfl⟩; rw [← hG3] at k3 ⊢; have loG3 : w.heap.size ≤ G3 := (by omega); have loG4 : w.heap.size ≤ G4 := (by omega); have loG5 : w.heap.size ≤ G5 := (by omega); have loG6 : w.heap.size ≤ G6 := (by omega); clear hG3 hG4 hG5 hG6) | (refine ldNw (by kernel_rfl) rfl rfl k3 ?_) | (refine ldTx (by kernel_rfl) rfl rfl k4 ?_) | (refine ldTy (by kernel_rfl) rfl rfl k4 ?_) | (refine ldTz (by kernel_rfl) rfl rfl k4 ?_) | (refine ldTw (by kernel_rfl) rfl rfl k4 ?_) | (refine ldTx (by kernel_rfl) rfl rfl k5 ?_) | (refine ldTy (by kernel_rfl) rfl rfl k5 ?_) | (refine ldTz (by kernel_rfl) rfl rfl k5 ?_) | (refine ldTw (by kernel_rfl) rfl rfl k5 ?_))
  refine (c1.out _).mono ?_
  rintro e1 vc1_4 ⟨rfl, hbx⟩
  replace k3 := k3.below hbx
  replace k4 := k4.below hbx
  replace k5 := k5.below hbx
  replace k6 := k6.below hbx
  replace hb0 := hb0.trans (hbx.mono hb0.size)
  clear hbx
  have k3lt := k3.lt
  have k4lt := k4.lt
  have k5lt := k5.lt
  have k6lt := k6.lt
  have LO := hb0.size
  go_wp2_with (first | (refine stN (f := n1) (old := fun _ => 0) rfl rfl rfl rfl (Blk.new _ _ _) ?_; intro vp1 k7 hgr hsz; replace k3 := (k3.alloc _).grown hgr (fun hh => by injection hh with hh; omega); replace k4 := (k4.alloc _).grown hgr (fun hh => by injection hh with hh; omega); replace k5 := (k5.alloc _).grown hgr (fun hh => by injection hh with hh; omega); replace k6 := (k6.alloc _).grown hgr (fun hh => by injection hh with hh; omega); replace hb0 := (hb0.alloc hb0.size _).grown hgr (Nat.le_trans hb0.size (by simp)) (fun k hk => by injection hk with hk; have := hb0.size; omega); clear hgr hsz) | (refine ldNw (by kernel_rfl) rfl rfl k3 ?_) | (refine ldTx (by kernel_rfl) rfl rfl k4 ?_) | (refine ldTy (by kernel_rfl) rfl rfl k4 ?_) | (refine ldTz (by kernel_rfl) rfl rfl k4 ?_) | (refine ldTw (by kernel_rfl) rfl rfl k4 ?_) | (refine ldTx (by kernel_rfl) rfl rfl k5 ?_) | (refine ldTy (by kernel_rfl) rfl rfl k5 ?_) | (refine ldTz (by kernel_rfl) rfl rfl k5 ?_) | (refine ldTw (by kernel_rfl) rfl rfl k5 ?_) | (refine ldNw (by kernel_rfl) rfl rfl k7 ?_))
  clear k3lt k4lt k5lt k6lt
  obtain ⟨g7, hg7⟩ : ∃ g, g = vc1_4.heap.size := ⟨_, rfl⟩
  rw [← hg7] at k7 LO ⊢
  have log7 := Lib.hid LO
  clear LO hg7
  refine (c2.out _).mono ?_
  rintro e1 vc2_2 ⟨rfl, hbx⟩
  replace k3 := k3.below hbx
  replace k4 := k4.below hbx
  replace k5 := k5.below hbx
  replace k6 := k6.below hbx
  replace k7 := k7.below hbx
  replace hb0 := hb0.trans (hbx.mono hb0.size)
  clear hbx
  have k3lt := k3.lt
  have k4lt := k4.lt
  have k5lt := k5.lt
  have k6lt := k6.lt
  have k7lt := k7.lt
  have LO := hb0.size
  go_wp2_with (first | (refine stN (f := n2) (old := fun _ => 0) rfl rfl rfl rfl (Blk.new _ _ _) ?_; intro vp2 k8 hgr hsz; replace k3 := (k3.alloc _).grown hgr (fun hh => by injection hh with hh; omega); replace k4 := (k4.alloc _).grown hgr (fun hh => by injection hh with hh; omega); replace k5 := (k5.alloc _).grown hgr (fun hh => by injection hh with hh; omega); replace k6 := (k6.alloc _).grown hgr (fun hh => by injection hh with hh; omega); replace k7 := (k7.alloc _).grown hgr (fun hh => by injection hh with hh; omega); replace hb0 := (hb0.alloc hb0.size _).grown hgr (Nat.le_trans hb0.size (by simp)) (fun k hk => by injection hk with hk; have := hb0.size; omega); clear hgr hsz) | (refine ldNw (by kernel_rfl) rfl rfl k3 ?_) | (refine ldTx (by kernel_rfl) rfl rfl k4 ?_) | (refine ldTy (by kernel_rfl) rfl rfl k4 ?_) | (refine ldTz (by kernel_rfl) rfl rfl k4 ?_) | (refine ldTw (by kernel_rfl) rfl rfl k4 ?_) | (refine ldTx (by kernel_rfl) rfl rfl k5 ?_) | (refine ldTy (by kernel_rfl) rfl rfl k5 ?_) | (refine ldTz (by kernel_rfl) rfl rfl k5 ?_) | (refine ldTw (by kernel_rfl) rfl rfl k5 ?_) | (refine ldNw (by kernel_rfl) rfl rfl k7 ?_) | (refine ldNw (by kernel_rfl) rfl rfl k8 ?_))
  clear k3lt k4lt k5lt k6lt k7lt
  obtain ⟨g8, hg8⟩ : ∃ g, g = vc2_2.heap.size := ⟨_, rfl⟩
  rw [← hg8] at k8 LO ⊢
  have log8 := Lib.hid LO
  clear LO hg8
  refine (c3.out _).mono ?_
  rintro e1 vc3_4 ⟨rfl, hbx⟩
  replace k3 := k3.below hbx
  replace k4 := k4.below hbx
  replace k5 := k5.below hbx
  replace k6 := k6.below hbx
  replace k7 := k7.below hbx
  replace k8 := k8.below hbx
  replace hb0 := hb0.trans (hbx.mono hb0.size)
  clear hbx
  have k3lt := k3.lt
  have k4lt := k4.lt
  have k5lt := k5.lt
  have k6lt := k6.lt
  have k7lt := k7.lt
  have k8lt := k8.lt
  have LO := hb0.size
  go_wp2_with (first | (refine stN (f := n3) (old := fun _ => 0) rfl rfl rfl rfl (Blk.new _ _ _) ?_; intro vp3 k9 hgr hsz; replace k3 := (k3.alloc _).grown hgr (fun hh => by injection hh with hh; omega); replace k4 := (k4.alloc _).grown hgr (fun hh => by injection hh with hh; omega); replace k5 := (k5.alloc _).grown hgr (fun hh => by injection hh with hh; omega); replace k6 := (k6.alloc _).grown hgr (fun hh => by injection hh with hh; omega); replace k7 := (k7.alloc _).grown hgr (fun hh => by injection hh with hh; omega); replace k8 := (k8.alloc _).grown hgr (fun hh => by injection hh with hh; omega); replace hb0 := (hb0.alloc hb0.size _).grown hgr (Nat.le_trans hb0.size (by simp)) (fun k hk => by injection hk with hk; have := hb0.size; omega); clear hgr hsz) | (refine ldNw (by kernel_rfl) rfl rfl k3 ?_) | (refine ldTx (by kernel_rfl) rfl rfl k4 ?_) | (refine ldTy (by kernel_rfl) rfl rfl k4 ?_) | (refine ldTz (by kernel_rfl) rfl rfl k4 ?_) | (refine ldTw (by kernel_rfl) rfl rfl k4 ?_) | (refine ldTx (by kernel_rfl) rfl rfl k5 ?_) | (refine ldTy (by kernel_rfl) rfl rfl k5 ?_) | (refine ldTz (by kernel_rfl) rfl rfl k5 ?_) | (refine ldTw (by kernel_rfl) rfl rfl k5 ?_) | (refine ldNw (by kernel_rfl) rfl rfl k7 ?_) | (refine ldNw (by kernel_rfl) rfl rfl k8 ?_) | (refine ldNw (by kernel_rfl) rfl rfl k9 ?_))
  clear k3lt k4lt k5lt k6lt k7lt k8lt
  obtain ⟨g9, hg9⟩ : ∃ g, g = vc3_4.heap.size := ⟨_, rfl⟩
  rw [← hg9] at k9 LO ⊢
  have log9 := Lib.hid LO
  clear LO hg9
  refine (c4.out _).mono ?_
  rintro e1 vc4_4 ⟨rfl, hbx⟩
  replace k3 := k3.below hbx
  replace k4 := k4.below hbx
  replace k5 := k5.below hbx
  replace k6 := k6.below hbx
  replace k7 := k7.below hbx
  replace k8 := k8.below hbx
  replace k9 := k9.below hbx
  replace hb0 := hb0.trans (hbx.mono hb0.size)
  clear hbx
  have k3lt := k3.lt
  have k4lt := k4.lt
  have k5lt := k5.lt
  have k6lt := k6.lt
  have k7lt := k7.lt
  have k8lt := k8.lt
  have k9lt := k9.lt
  have LO := hb0.size
  go_wp2_with (first | (refine stN (f := n4) (old := fun _ => 0) rfl rfl rfl rfl (Blk.new _ _ _) ?_; intro vp4 k10 hgr hsz; replace k3 := (k3.alloc _).grown hgr (fun hh => by injection hh with hh; omega); replace k4 := (k4.alloc _).grown hgr (fun hh => by injection hh with hh; omega); replace k5 := (k5.alloc _).grown hgr (fun hh => by injection hh with hh; omega); replace k6 := (k6.alloc _).grown hgr (fun hh => by injection hh with hh; omega); replace k7 := (k7.alloc _).grown hgr (fun hh => by injection hh with hh; omega); replace k8 := (k8.alloc _).grown hgr (fun hh => by injection hh with hh; omega); replace k9 := (k9.alloc _).grown hgr (fun hh => by injection hh with hh; omega); replace hb0 := (hb0.alloc hb0.size _).grown hgr (Nat.le_trans hb0.size (by simp)) (fun k hk => by injection hk with hk; have := hb0.size; omega); clear hgr hsz) | (refine ldNw (by kernel_rfl) rfl rfl k3 ?_) | (refine ldTx (by kernel_rfl) rfl rfl k4 ?_) | (refine ldTy (by kernel_rfl) rfl rfl k4 ?_) | (refine ldTz (by kernel_rfl) rfl rfl k4 ?_) | (refine ldTw (by kernel_rfl) rfl rfl k4 ?_) | (refine ldTx (by kernel_rfl) rfl rfl k5 ?_) | (refine ldTy (by kernel_rfl) rfl rfl k5 ?_) | (refine ldTz (by kernel_rfl) rfl rfl k5 ?_) | (refine ldTw (by kernel_rfl) rfl rfl k5 ?_) | (refine ldNw (by kernel_rfl) rfl rfl k7 ?_) | (refine ldNw (by kernel_rfl) rfl rfl k8 ?_) | (refine ldNw (by kernel_rfl) rfl rfl k9 ?_) | (refine ldNw (by kernel_rfl) rfl rfl k10 ?_))
  clear k3lt k4lt k5lt k6lt k7lt k8lt k9lt
  obtain ⟨g10, hg10⟩ : ∃ g, g = vc4_4.heap.size := ⟨_, rfl⟩
  rw [← hg10] at k10 LO ⊢
  have log10 := Lib.hid LO
  clear LO hg10
  refine wp_region_grow2 6 (fun k => Nat.beq k 11 || (Nat.ble 35 k && Nat.ble k 39)) _ [] (fun j x' q => (ra5L D n3 n4 n5 n6 vp4.heap.size).getD j (fun _ _ => True) x' q) (fun j => j == 5) (fun f => #[.agg (av D), .agg (tcf x1 y1 z1), .agg (tcf x2 y2 z2), .pointer (some ⟨G3, 0, none⟩), .pointer (some ⟨G4, 0, none⟩), .pointer (some ⟨G5, 0, none⟩), .pointer (some ⟨G6, 0, none⟩), .pointer (some ⟨g7, 0, none⟩), .pointer (some ⟨g8, 0, none⟩), .pointer (some ⟨g9, 0, none⟩), .pointer (some ⟨g10, 0, none⟩), f 11, undef, undef, undef, undef, undef, .pointer (some ⟨G4, 32, none⟩), .agg (av z1), .pointer (some ⟨G5, 32, none⟩), .agg (av z2), .agg (av n1), .agg (av n1), .agg (av n1), .agg (av n2), .pointer (some ⟨G4, 0, none⟩), .agg (av x1), .pointer (some ⟨G5, 0, none⟩), .agg (av x2), .agg (av n3), .pointer (some ⟨G4, 16, none⟩), .agg (av y1), .pointer (some ⟨G5, 16, none⟩), .agg (av y2), .agg (av n4), f 35, f 36, f 37, f 38, f 39, undef, undef, undef, undef, undef, undef, undef, undef, undef, undef, undef, undef, undef, undef, undef, undef, undef, undef, undef, undef, undef, undef, undef, undef, undef, undef, undef, undef, undef, undef, undef, undef, undef, undef, undef]) (fun f => rfl) (by kernel_rfl) (by kernel_rfl) (by kernel_rfl) (by kernel_rfl) (by kernel_rfl) (ra5S _ _ _ _ _ _) (ra5O _ _ _ _ _ _) ?_ ?_
  · refine steps2_cons ?_ ?_
    · as_aux_lemma =>
      intro f w1 hb hd Q hK
      clear hd
      have hK := Lib.hid hK
      refine ldNw (by kernel_rfl) rfl rfl (k3.below hb) ?_
      refine wpList_nil ?_
      exact hK.out _ _ rfl (.refl _ _) nof
    refine steps2_cons ?_ ?_
    · as_aux_lemma =>
      intro f w1 hb hd Q hK
      clear hd
      have hK := Lib.hid hK
      refine ldNw (by kernel_rfl) rfl rfl (k9.below hb) ?_
      refine wpList_nil ?_
      exact hK.out _ _ rfl (.refl _ _) nof
    refine steps2_cons ?_ ?_
    · as_aux_lemma =>
      intro f w1 hb hd Q hK
      clear hd
      have hK := Lib.hid hK
      refine ldNw (by kernel_rfl) rfl rfl (k10.below hb) ?_
      refine wpList_nil ?_
      exact hK.out _ _ rfl (.refl _ _) nof
    refine steps2_cons ?_ ?_
    · as_aux_lemma =>
      intro f w1 hb hd Q hK
      have e36 : f 36 = .agg (av n3) := hd.1 rfl
      have e37 : f 37 = .agg (av n4) := hd.2.1 rfl
      clear hd
      simp only [e36, e37] at hK
      have hK := Lib.hid hK
      go_wp2_with fail
      refine (c5.out _).mono ?_
      rintro e w2 ⟨rfl, hb2⟩
      go_wp2
      exact hK.out _ _ rfl hb2 nof
    refine steps2_cons ?_ ?_
    · as_aux_lemma =>
      intro f w1 hb hd Q hK
      have e35 : f 35 = .agg (av D) := hd.1 rfl
      have e38 : f 38 = .agg (av n5) := hd.2.1 rfl
      clear hd
      simp only [e35, e38] at hK
      have hK := Lib.hid hK
      go_wp2_with fail
      refine (c6.out _).mono ?_
      rintro e w2 ⟨rfl, hb2⟩
      go_wp2
      exact hK.out _ _ rfl hb2 nof
    refine steps2_cons ?_ ?_
    · as_aux_lemma =>
      intro f w1 hb hd Q hK
      clear hd
      have hK := Lib.hid hK
      have hsz := hb.size
      go_wp2
      exact hK.out _ _ ⟨_, rfl, hsz, Blk.new _ _ _⟩ ((Below.refl _ _).alloc (Nat.le_refl _) _) (fun _ => ⟨_, rfl, Nat.le_refl _⟩)
    trivial
  intro f5 vd5 hb hf hne
  obtain ⟨g11, d11, lo11, bk11⟩ : NewB vp4.heap.size 33 #[.int .u64 0, .int .u64 0, .int .u64 0, .int .u64 0, .int .u64 0, .int .u64 0, .int .u64 0, .int .u64 0, .int .u64 0, .int .u64 0, .int .u64 0, .int .u64 0, .int .u64 0, .int .u64 0, .int .u64 0, .int .u64 0] (f5 11) vd5 := hf 5 _ _ (by decide) rfl rfl
  have d39 : f5 39 = .agg (av n6) := hf 4 _ _ (by decide) rfl rfl
  clear hf hne
  simp only [d11, d39]
  clear d11 d39
  have ne_G3_11 : G3 ≠ g11 := by have := k3.lt; omega
  have ne_G4_11 : G4 ≠ g11 := by have := k4.lt; omega
  have ne_G5_11 : G5 ≠ g11 := by have := k5.lt; omega
  have ne_G6_11 : G6 ≠ g11 := by have := k6.lt; omega
  have ne_g7_11 : g7 ≠ g11 := by have := k7.lt; omega
  have ne_g8_11 : g8 ≠ g11 := by have := k8.lt; omega
  have ne_g9_11 : g9 ≠ g11 := by have := k9.lt; omega
  have ne_g10_11 : g10 ≠ g11 := by have := k10.lt; omega
  replace lo11 : w.heap.size ≤ g11 := Nat.le_trans hb0.size lo11
  replace k3 := k3.below hb
  replace k4 := k4.below hb
  replace k5 := k5.below hb
  replace k6 := k6.below hb
  replace k7 := k7.below hb
  replace k8 := k8.below hb
  replace k9 := k9.below hb
  replace k10 := k10.below hb
  replace hb0 := hb0.trans (hb.mono hb0.size)
  clear hb
  refine stN (old := fun _ => 0) rfl rfl rfl rfl bk11 ?_
  intro vs5_0 k11 hgr hsz
  replace k3 := k3.grown hgr (fun h => ne_G3_11 (by injection h))
  replace k4 := k4.grown hgr (fun h => ne_G4_11 (by injection h))
  replace k5 := k5.grown hgr (fun h => ne_G5_11 (by injection h))
  replace k6 := k6.grown hgr (fun h => ne_G6_11 (by injection h))
  replace k7 := k7.grown hgr (fun h => ne_g7_11 (by injection h))
  replace k8 := k8.grown hgr (fun h => ne_g8_11 (by injection h))
  replace k9 := k9.grown hgr (fun h => ne_g9_11 (by injection h))
  replace k10 := k10.grown hgr (fun h => ne_g10_11 (by injection h))
  replace hb0 := hb0.grown hgr hb0.size (fun k hk => by injection hk with hk; omega)
  clear hgr hsz
  refine wpList_nil ?_
  clear ne_G3_11
  clear ne_G4_11
  clear ne_G5_11
  clear ne_G6_11
  clear ne_g7_11
  clear ne_g8_11
  clear ne_g9_11
  clear ne_g10_11
  replace lo11 := Lib.hid lo11
  go_wp2
  refine wp_region_grow2 8 (fun k => (Nat.ble 12 k && Nat.ble k 13) || (Nat.ble 40 k && Nat.ble k 45)) _ [] (fun j x' q => (ra6L n2 n6 n7 n8 vs5_0.heap.size).getD j (fun _ _ => True) x' q) (fun j => j == 6 || j == 7) (fun f => #[.agg (av D), .agg (tcf x1 y1 z1), .agg (tcf x2 y2 z2), .pointer (some ⟨G3, 0, none⟩), .pointer (some ⟨G4, 0, none⟩), .pointer (some ⟨G5, 0, none⟩), .pointer (some ⟨G6, 0, none⟩), .pointer (some ⟨g7, 0, none⟩), .pointer (some ⟨g8, 0, none⟩), .pointer (some ⟨g9, 0, none⟩), .pointer (some ⟨g10, 0, none⟩), .pointer (some ⟨g11, 0, none⟩), f 12, f 13, undef, undef, undef, .pointer (some ⟨G4, 32, none⟩), .agg (av z1), .pointer (some ⟨G5, 32, none⟩), .agg (av z2), .agg (av n1), .agg (av n1), .agg (av n1), .agg (av n2), .pointer (some ⟨G4, 0, none⟩), .agg (av x1), .pointer (some ⟨G5, 0, none⟩), .agg (av x2), .agg (av n3), .pointer (some ⟨G4, 16, none⟩), .agg (av y1), .pointer (some ⟨G5, 16, none⟩), .agg (av y2), .agg (av n4), f5 35, f5 36, f5 37, f5 38, .agg (av n6), f 40, f 41, f 42, f 43, f 44, f 45, undef, undef, undef, undef, undef, undef, undef, undef, undef, undef, undef, undef, undef, undef, undef, undef, undef, undef, undef, undef, undef, undef, undef, undef, undef, undef, undef, undef, undef]) (fun f => rfl) (by kernel_rfl) (by kernel_rfl) (by kernel_rfl) (by kernel_rfl) (by kernel_rfl) (ra6S _ _ _ _ _) (ra6O _ _ _ _ _) ?_ ?_
  · refine steps2_cons ?_ ?_
    · as_aux_lemma =>
      intro f w1 hb hd Q hK
      clear hd
      have hK := Lib.hid hK
      refine ldNw (by kernel_rfl) rfl rfl (k8.below hb) ?_
      refine wpList_nil ?_
      exact hK.out _ _ rfl (.refl _ _) nof
    refine steps2_cons ?_ ?_
    · as_aux_lemma =>
      intro f w1 hb hd Q hK
      clear hd
      have hK := Lib.hid hK
      refine ldNw (by kernel_rfl) rfl rfl (k11.below hb) ?_
      refine wpList_nil ?_
      exact hK.out _ _ rfl (.refl _ _) nof
    refine steps2_cons ?_ ?_
    · as_aux_lemma =>
      intro f w1 hb hd Q hK
      have e40 : f 40 = .agg (av n2) := hd.1 rfl
      have e41 : f 41 = .agg (av n6) := hd.2.1 rfl
      clear hd
      simp only [e40, e41] at hK
      have hK := Lib.hid hK
      go_wp2_with fail
      refine (c7.out _).mono ?_
      rintro e w2 ⟨rfl, hb2⟩
      go_wp2
      exact hK.out _ _ rfl hb2 nof
    refine steps2_cons ?_ ?_
    · as_aux_lemma =>
      intro f w1 hb hd Q hK
      clear hd
      have hK := Lib.hid hK
      refine ldNw (by kernel_rfl) rfl rfl (k8.below hb) ?_
      refine wpList_nil ?_
      exact hK.out _ _ rfl (.refl _ _) nof
    refine steps2_cons ?_ ?_
    · as_aux_lemma =>
      intro f w1 hb hd Q hK
      clear hd
      have hK := Lib.hid hK
      refine ldNw (by kernel_rfl) rfl rfl (k11.below hb) ?_
      refine wpList_nil ?_
      exact hK.out _ _ rfl (.refl _ _) nof
    refine steps2_cons ?_ ?_
    · as_aux_lemma =>
      intro f w1 hb hd Q hK
      have e43 : f 43 = .agg (av n2) := hd.1 rfl
      have e44 : f 44 = .agg (av n6) := hd.2.1 rfl
      clear hd
      simp only [e43, e44] at hK
      have hK := Lib.hid hK
      go_wp2_with fail
      refine (c8.out _).mono ?_
      rintro e w2 ⟨rfl, hb2⟩
      go_wp2
      exact hK.out _ _ rfl hb2 nof
    refine steps2_cons ?_ ?_
    · as_aux_lemma =>
      intro f w1 hb hd Q hK
      clear hd
      have hK := Lib.hid hK
      have hsz := hb.size
      go_wp2
      exact hK.out _ _ ⟨_, rfl, hsz, Blk.new _ _ _⟩ ((Below.refl _ _).alloc (Nat.le_refl _) _) (fun _ => ⟨_, rfl, Nat.le_refl _⟩)
    refine steps2_cons ?_ ?_
    · as_aux_lemma =>
      intro f w1 hb hd Q hK
      clear hd
      have hK := Lib.hid hK
      have hsz := hb.size
      go_wp2
      exact hK.out _ _ ⟨_, rfl, hsz, Blk.new _ _ _⟩ ((Below.refl _ _).alloc (Nat.le_refl _) _) (fun _ => ⟨_, rfl, Nat.le_refl _⟩)
    trivial
  intro f6 vd6 hb hf hne
  obtain ⟨g12, d12, lo12, bk12⟩ : NewB vs5_0.heap.size 33 #[.int .u64 0, .int .u64 0, .int .u64 0, .int .u64 0, .int .u64 0, .int .u64 0, .int .u64 0, .int .u64 0, .int .u64 0, .int .u64 0, .int .u64 0, .int .u64 0, .int .u64 0, .int .u64 0, .int .u64 0, .int .u64 0] (f6 12) vd6 := hf 6 _ _ (by decide) rfl rfl
  have d42 : f6 42 = .agg (av n7) := hf 2 _ _ (by decide) rfl rfl
  obtain ⟨g13, d13, lo13, bk13⟩ : NewB vs5_0.heap.size 33 #[.int .u64 0, .int .u64 0, .int .u64 0, .int .u64 0, .int .u64 0, .int .u64 0, .int .u64 0, .int .u64 0, .int .u64 0, .int .u64 0, .int .u64 0, .int .u64 0, .int .u64 0, .int .u64 0, .int .u64 0, .int .u64 0] (f6 13) vd6 := hf 7 _ _ (by decide) rfl rfl
  have d45 : f6 45 = .agg (av n8) := hf 5 _ _ (by decide) rfl rfl
  have ne12_13 : g12 ≠ g13 := by
    have := hne 6 7 _ _ _ _ (by decide) (by decide) (by decide) rfl rfl rfl rfl rfl rfl
    rw [d12, d13] at this
    exact fun h => this (by rw [h])
  clear hf hne
  simp only [d12, d42, d13, d45]
  clear d12 d42 d13 d45
  have ne_G3_12 : G3 ≠ g12 := by have := k3.lt; omega
  have ne_G3_13 : G3 ≠ g13 := by have := k3.lt; omega
  have ne_G4_12 : G4 ≠ g12 := by have := k4.lt; omega
  have ne_G4_13 : G4 ≠ g13 := by have := k4.lt; omega
  have ne_G5_12 : G5 ≠ g12 := by have := k5.lt; omega
  have ne_G5_13 : G5 ≠ g13 := by have := k5.lt; omega
  have ne_G6_12 : G6 ≠ g12 := by have := k6.lt; omega
  have ne_G6_13 : G6 ≠ g13 := by have := k6.lt; omega
  have ne_g7_12 : g7 ≠ g12 := by have := k7.lt; omega
  have ne_g7_13 : g7 ≠ g13 := by have := k7.lt; omega
  have ne_g8_12 : g8 ≠ g12 := by have := k8.lt; omega
  have ne_g8_13 : g8 ≠ g13 := by have := k8.lt; omega
  have ne_g9_12 : g9 ≠ g12 := by have := k9.lt; omega
  have ne_g9_13 : g9 ≠ g13 := by have := k9.lt; omega
  have ne_g10_12 : g10 ≠ g12 := by have := k10.lt; omega
  have ne_g10_13 : g10 ≠ g13 := by have := k10.lt; omega
  have ne_g11_12 : g11 ≠ g12 := by have := k11.lt; omega
  have ne_g11_13 : g11 ≠ g13 := by have := k11.lt; omega
  replace lo12 : w.heap.size ≤ g12 := Nat.le_trans hb0.size lo12
  replace lo13 : w.heap.size ≤ g13 := Nat.le_trans hb0.size lo13
  replace k3 := k3.below hb
  replace k4 := k4.below hb
  replace k5 := k5.below hb
  replace k6 := k6.below hb
  replace k7 := k7.below hb
  replace k8 := k8.below hb
  replace k9 := k9.below hb
  replace k10 := k10.below hb
  replace k11 := k11.below hb
  replace hb0 := hb0.trans (hb.mono hb0.size)
  clear hb
  refine stN (old := fun _ => 0) rfl rfl rfl rfl bk12 ?_
  intro vs6_0 k12 hgr hsz
  replace k3 := k3.grown hgr (fun h => ne_G3_12 (by injection h))
  replace k4 := k4.grown hgr (fun h => ne_G4_12 (by injection h))
  replace k5 := k5.grown hgr (fun h => ne_G5_12 (by injection h))
  replace k6 := k6.grown hgr (fun h => ne_G6_12 (by injection h))
  replace k7 := k7.grown hgr (fun h => ne_g7_12 (by injection h))
  replace k8 := k8.grown hgr (fun h => ne_g8_12 (by injection h))
  replace k9 := k9.grown hgr (fun h => ne_g9_12 (by injection h))
  replace k10 := k10.grown hgr (fun h => ne_g10_12 (by injection h))
  replace k11 := k11.grown hgr (fun h => ne_g11_12 (by injection h))
  replace bk13 := bk13.grown hgr (fun h => ne12_13 (by injection h with h; exact h.symm))
  replace hb0 := hb0.grown hgr hb0.size (fun k hk => by injection hk with hk; omega)
  clear hgr hsz
  refine stN (old := fun _ => 0) rfl rfl rfl rfl bk13 ?_
  intro vs6_1 k13 hgr hsz
  replace k3 := k3.grown hgr (fun h => ne_G3_13 (by injection h))
  replace k4 := k4.grown hgr (fun h => ne_G4_13 (by injection h))
  replace k5 := k5.grown hgr (fun h => ne_G5_13 (by injection h))
  replace k6 := k6.grown hgr (fun h => ne_G6_13 (by injection h))
  replace k7 := k7.grown hgr (fun h => ne_g7_13 (by injection h))
  replace k8 := k8.grown hgr (fun h => ne_g8_13 (by injection h))
  replace k9 := k9.grown hgr (fun h => ne_g9_13 (by injection h))
  replace k10 := k10.grown hgr (fun h => ne_g10_13 (by injection h))
  replace k11 := k11.grown hgr (fun h => ne_g11_13 (by injection h))
  replace k12 := k12.grown hgr (fun h => ne12_13 (by injection h))
  replace hb0 := hb0.grown hgr hb0.size (fun k hk => by injection hk with hk; omega)
  clear hgr hsz
  refine wpList_nil ?_
  clear ne_G3_12
  clear ne_G3_13
  clear ne_G4_12
  clear ne_G4_13
  clear ne_G5_12
  clear ne_G5_13
  clear ne_G6_12
  clear ne_G6_13
  clear ne_g7_12
  clear ne_g7_13
  clear ne_g8_12
  clear ne_g8_13
  clear ne_g9_12
  clear ne_g9_13
  clear ne_g10_12
  clear ne_g10_13
  clear ne_g11_12
  clear ne_g11_13
  clear ne12_13
  replace lo12 := Lib.hid lo12
  replace lo13 := Lib.hid lo13
  go_wp2
  refine wp_region_grow2 12 (fun k => Nat.beq k 14 || (Nat.ble 46 k && Nat.ble k 56)) _ [] (fun j x' q => (ra7L x1 y1 x2 y2 n9 n10 n11 G4 G5 vs6_1.heap.size).getD j (fun _ _ => True) x' q) (fun j => j == 11) (fun f => #[.agg (av D), .agg (tcf x1 y1 z1), .agg (tcf x2 y2 z2), .pointer (some ⟨G3, 0, none⟩), .pointer (some ⟨G4, 0, none⟩), .pointer (some ⟨G5, 0, none⟩), .pointer (some ⟨G6, 0, none⟩), .pointer (some ⟨g7, 0, none⟩), .pointer (some ⟨g8, 0, none⟩), .pointer (some ⟨g9, 0, none⟩), .pointer (some ⟨g10, 0, none⟩), .pointer (some ⟨g11, 0, none⟩), .pointer (some ⟨g12, 0, none⟩), .pointer (some ⟨g13, 0, none⟩), f 14, undef, undef, .pointer (some ⟨G4, 32, none⟩), .agg (av z1), .pointer (some ⟨G5, 32, none⟩), .agg (av z2), .agg (av n1), .agg (av n1), .agg (av n1), .agg (av n2), .pointer (some ⟨G4, 0, none⟩), .agg (av x1), .pointer (some ⟨G5, 0, none⟩), .agg (av x2), .agg (av n3), .pointer (some ⟨G4, 16, none⟩), .agg (av y1), .pointer (some ⟨G5, 16, none⟩), .agg (av y2), .agg (av n4), f5 35, f5 36, f5 37, f5 38, .agg (av n6), f6 40, f6 41, .agg (av n7), f6 43, f6 44, .agg (av n8), f 46, f 47, f 48, f 49, f 50, f 51, f 52, f 53, f 54, f 55, f 56, undef, undef, undef, undef, undef, undef, undef, undef, undef, undef, undef, undef, undef, undef, undef, undef, undef, undef]) (fun f => rfl) (by kernel_rfl) (by kernel_rfl) (by kernel_rfl) (by kernel_rfl) (by kernel_rfl) (ra7S _ _ _ _ _ _ _ _ _ _) (ra7O _ _ _ _ _ _ _ _ _ _) ?_ ?_
  · refine steps2_cons ?_ ?_
    · as_aux_lemma =>
      intro f w1 hb hd Q hK
      clear hd
      have hK := Lib.hid hK
      go_wp2
      exact hK.out _ _ rfl (.refl _ _) nof
    refine steps2_cons ?_ ?_
    · as_aux_lemma =>
      intro f w1 hb hd Q hK
      have e46 : f 46 = .pointer (some ⟨G4, 0, none⟩) := hd.1 rfl
      clear hd
      simp only [e46] at hK
      have hK := Lib.hid hK
      refine ldTx (by simp only [e46]; kernel_rfl) rfl e46 (k4.below hb) ?_
      refine wpList_nil ?_
      simp only [e46]
      exact hK.out _ _ rfl (.refl _ _) nof
    refine steps2_cons ?_ ?_
    · as_aux_lemma =>
      intro f w1 hb hd Q hK
      clear hd
      have hK := Lib.hid hK
      go_wp2
      exact hK.out _ _ rfl (.refl _ _) nof
    refine steps2_cons ?_ ?_
    · as_aux_lemma =>
      intro f w1 hb hd Q hK
      have e48 : f 48 = .pointer (some ⟨G5, 16, none⟩) := hd.1 rfl
      clear hd
      simp only [e48] at hK
      have hK := Lib.hid hK
      refine ldTy (by simp only [e48]; kernel_rfl) rfl e48 (k5.below hb) ?_
      refine wpList_nil ?_
      simp only [e48]
      exact hK.out _ _ rfl (.refl _ _) nof
    refine steps2_cons ?_ ?_
    · as_aux_lemma =>
      intro f w1 hb hd Q hK
      have e47 : f 47 = .agg (av x1) := hd.1 rfl
      have e49 : f 49 = .agg (av y2) := hd.2.1 rfl
      clear hd
      simp only [e47, e49] at hK
      have hK := Lib.hid hK
      go_wp2_with fail
      refine (c9.out _).mono ?_
      rintro e w2 ⟨rfl, hb2⟩
      go_wp2
      exact hK.out _ _ rfl hb2 nof
    refine steps2_cons ?_ ?_
    · as_aux_lemma =>
      intro f w1 hb hd Q hK
      clear hd
      have hK := Lib.hid hK
      go_wp2
      exact hK.out _ _ rfl (.refl _ _) nof
    refine steps2_cons ?_ ?_
    · as_aux_lemma =>
      intro f w1 hb hd Q hK
      have e51 : f 51 = .pointer (some ⟨G5, 0, none⟩) := hd.1 rfl
      clear hd
      simp only [e51] at hK
      have hK := Lib.hid hK
      refine ldTx (by simp only [e51]; kernel_rfl) rfl e51 (k5.below hb) ?_
      refine wpList_nil ?_
      simp only [e51]
      exact hK.out _ _ rfl (.refl _ _) nof
    refine steps2_cons ?_ ?_
    · as_aux_lemma =>
      intro f w1 hb hd Q hK
      clear hd
      have hK := Lib.hid hK
      go_wp2
      exact hK.out _ _ rfl (.refl _ _) nof
    refine steps2_cons ?_ ?_
    · as_aux_lemma =>
      intro f w1 hb hd Q hK
      have e53 : f 53 = .pointer (some ⟨G4, 16, none⟩) := hd.1 rfl
      clear hd
      simp only [e53] at hK
      have hK := Lib.hid hK
      refine ldTy (by simp only [e53]; kernel_rfl) rfl e53 (k4.below hb) ?_
      refine wpList_nil ?_
      simp only [e53]
      exact hK.out _ _ rfl (.refl _ _) nof
    refine steps2_cons ?_ ?_
    · as_aux_lemma =>
      intro f w1 hb hd Q hK
      have e52 : f 52 = .agg (av x2) := hd.1 rfl
      have e54 : f 54 = .agg (av y1) := hd.2.1 rfl
      clear hd
      simp only [e52, e54] at hK
      have hK := Lib.hid hK
      go_wp2_with fail
      refine (c10.out _).mono ?_
      rintro e w2 ⟨rfl, hb2⟩
      go_wp2
      exact hK.out _ _ rfl hb2 nof
    refine steps2_cons ?_ ?_
    · as_aux_lemma =>
      intro f w1 hb hd Q hK
      have e50 : f 50 = .agg (av n9) := hd.1 rfl
      have e55 : f 55 = .agg (av n10) := hd.2.1 rfl
      clear hd
      simp only [e50, e55] at hK
      have hK := Lib.hid hK
      go_wp2_with fail
      refine (c11.out _).mono ?_
      rintro e w2 ⟨rfl, hb2⟩
      go_wp2
      exact hK.out _ _ rfl hb2 nof
    refine steps2_cons ?_ ?_
    · as_aux_lemma =>
      intro f w1 hb hd Q hK
      clear hd
      have hK := Lib.hid hK
      have hsz := hb.size
      go_wp2
      exact hK.out _ _ ⟨_, rfl, hsz, Blk.new _ _ _⟩ ((Below.refl _ _).alloc (Nat.le_refl _) _) (fun _ => ⟨_, rfl, Nat.le_refl _⟩)
    trivial
  intro f7 vd7 hb hf hne
  obtain ⟨g14, d14, lo14, bk14⟩ : NewB vs6_1.heap.size 33 #[.int .u64 0, .int .u64 0, .int .u64 0, .int .u64 0, .int .u64 0, .int .u64 0, .int .u64 0, .int .u64 0, .int .u64 0, .int .u64 0, .int .u64 0, .int .u64 0, .int .u64 0, .int .u64 0, .int .u64 0, .int .u64 0] (f7 14) vd7 := hf 11 _ _ (by decide) rfl rfl
  have d56 : f7 56 = .agg (av n11) := hf 10 _ _ (by decide) rfl rfl
  clear hf hne
  simp only [d14, d56]
  clear d14 d56
  have ne_G3_14 : G3 ≠ g14 := by have := k3.lt; omega
  have ne_G4_14 : G4 ≠ g14 := by have := k4.lt; omega
  have ne_G5_14 : G5 ≠ g14 := by have := k5.lt; omega
  have ne_G6_14 : G6 ≠ g14 := by have := k6.lt; omega
  have ne_g7_14 : g7 ≠ g14 := by have := k7.lt; omega
  have ne_g8_14 : g8 ≠ g14 := by have := k8.lt; omega
  have ne_g9_14 : g9 ≠ g14 := by have := k9.lt; omega
  have ne_g10_14 : g10 ≠ g14 := by have := k10.lt; omega
  have ne_g11_14 : g11 ≠ g14 := by have := k11.lt; omega
  have ne_g12_14 : g12 ≠ g14 := by have := k12.lt; omega
  have ne_g13_14 : g13 ≠ g14 := by have := k13.lt; omega
  replace lo14 : w.heap.size ≤ g14 := Nat.le_trans hb0.size lo14
  replace k3 := k3.below hb
  replace k4 := k4.below hb
  replace k5 := k5.below hb
  replace k6 := k6.below hb
  replace k7 := k7.below hb
  replace k8 := k8.below hb
  replace k9 := k9.below hb
  replace k10 := k10.below hb
  replace k11 := k11.below hb
  replace k12 := k12.below hb
  replace k13 := k13.below hb
  replace hb0 := hb0.trans (hb.mono hb0.size)
  clear hb
  refine stN (old := fun _ => 0) rfl rfl rfl rfl bk14 ?_
  intro vs7_0 k14 hgr hsz
  replace k3 := k3.grown hgr (fun h => ne_G3_14 (by injection h))
  replace k4 := k4.grown hgr (fun h => ne_G4_14 (by injection h))
  replace k5 := k5.grown hgr (fun h => ne_G5_14 (by injection h))
  replace k6 := k6.grown hgr (fun h => ne_G6_14 (by injection h))
  replace k7 := k7.grown hgr (fun h => ne_g7_14 (by injection h))
  replace k8 := k8.grown hgr (fun h => ne_g8_14 (by injection h))
  replace k9 := k9.grown hgr (fun h => ne_g9_14 (by injection h))
  replace k10 := k10.grown hgr (fun h => ne_g10_14 (by injection h))
  replace k11 := k11.grown hgr (fun h => ne_g11_14 (by injection h))
  replace k12 := k12.grown hgr (fun h => ne_g12_14 (by injection h))
  replace k13 := k13.grown hgr (fun h => ne_g13_14 (by injection h))
  replace hb0 := hb0.grown hgr hb0.size (fun k hk => by injection hk with hk; omega)
  clear hgr hsz
  refine wpList_nil ?_
  clear ne_G3_14
  clear ne_G4_14
  clear ne_G5_14
  clear ne_G6_14
  clear ne_g7_14
  clear ne_g8_14
  clear ne_g9_14
  clear ne_g10_14
  clear ne_g11_14
  clear ne_g12_14
  clear ne_g13_14
  replace lo14 := Lib.hid lo14
  go_wp2
  refine wp_region_grow2 6 (fun k => Nat.beq k 15 || (Nat.ble 57 k && Nat.ble k 61)) _ [] (fun j x' q => (ra8L n1 n7 n11 n12 n13 vs7_0.heap.size).getD j (fun _ _ => True) x' q) (fun j => j == 5) (fun f => #[.agg (av D), .agg (tcf x1 y1 z1), .agg (tcf x2 y2 z2), .pointer (some ⟨G3, 0, none⟩), .pointer (some ⟨G4, 0, none⟩), .pointer (some ⟨G5, 0, none⟩), .pointer (some ⟨G6, 0, none⟩), .pointer (some ⟨g7, 0, none⟩), .pointer (some ⟨g8, 0, none⟩), .pointer (some ⟨g9, 0, none⟩), .pointer (some ⟨g10, 0, none⟩), .pointer (some ⟨g11, 0, none⟩), .pointer (some ⟨g12, 0, none⟩), .pointer (some ⟨g13, 0, none⟩), .pointer (some ⟨g14, 0, none⟩), f 15, undef, .pointer (some ⟨G4, 32, none⟩), .agg (av z1), .pointer (some ⟨G5, 32, none⟩), .agg (av z2), .agg (av n1), .agg (av n1), .agg (av n1), .agg (av n2), .pointer (some ⟨G4, 0, none⟩), .agg (av x1), .pointer (some ⟨G5, 0, none⟩), .agg (av x2), .agg (av n3), .pointer (some ⟨G4, 16, none⟩), .agg (av y1), .pointer (some ⟨G5, 16, none⟩), .agg (av y2), .agg (av n4), f5 35, f5 36, f5 37, f5 38, .agg (av n6), f6 40, f6 41, .agg (av n7), f6 43, f6 44, .agg (av n8), f7 46, f7 47, f7 48, f7 49, f7 50, f7 51, f7 52, f7 53, f7 54, f7 55, .agg (av n11), f 57, f 58, f 59, f 60, f 61, undef, undef, undef, undef, undef, undef, undef, undef, undef, undef, undef, undef, undef]) (fun f => rfl) (by kernel_rfl) (by kernel_rfl) (by kernel_rfl) (by kernel_rfl) (by kernel_rfl) (ra8S _ _ _ _ _ _) (ra8O _ _ _ _ _ _) ?_ ?_
  · refine steps2_cons ?_ ?_
    · as_aux_lemma =>
      intro f w1 hb hd Q hK
      clear hd
      have hK := Lib.hid hK
      refine ldNw (by kernel_rfl) rfl rfl (k7.below hb) ?_
      refine wpList_nil ?_
      exact hK.out _ _ rfl (.refl _ _) nof
    refine steps2_cons ?_ ?_
    · as_aux_lemma =>
      intro f w1 hb hd Q hK
      clear hd
      have hK := Lib.hid hK
      refine ldNw (by kernel_rfl) rfl rfl (k12.below hb) ?_
      refine wpList_nil ?_
      exact hK.out _ _ rfl (.refl _ _) nof
    refine steps2_cons ?_ ?_
    · as_aux_lemma =>
      intro f w1 hb hd Q hK
      clear hd
      have hK := Lib.hid hK
      refine ldNw (by kernel_rfl) rfl rfl (k14.below hb) ?_
      refine wpList_nil ?_
      exact hK.out _ _ rfl (.refl _ _) nof
    refine steps2_cons ?_ ?_
    · as_aux_lemma =>
      intro f w1 hb hd Q hK
      have e58 : f 58 = .agg (av n7) := hd.1 rfl
      have e59 : f 59 = .agg (av n11) := hd.2.1 rfl
      clear hd
      simp only [e58, e59] at hK
      have hK := Lib.hid hK
      go_wp2_with fail
      refine (c12.out _).mono ?_
      rintro e w2 ⟨rfl, hb2⟩
      go_wp2
      exact hK.out _ _ rfl hb2 nof
    refine steps2_cons ?_ ?_
    · as_aux_lemma =>
      intro f w1 hb hd Q hK
      have e57 : f 57 = .agg (av n1) := hd.1 rfl
      have e60 : f 60 = .agg (av n12) := hd.2.1 rfl
      clear hd
      simp only [e57, e60] at hK
      have hK := Lib.hid hK
      go_wp2_with fail
      refine (c13.out _).mono ?_
      rintro e w2 ⟨rfl, hb2⟩
      go_wp2
      exact hK.out _ _ rfl hb2 nof
    refine steps2_cons ?_ ?_
    · as_aux_lemma =>
      intro f w1 hb hd Q hK
      clear hd
      have hK := Lib.hid hK
      have hsz := hb.size
      go_wp2
      exact hK.out _ _ ⟨_, rfl, hsz, Blk.new _ _ _⟩ ((Below.refl _ _).alloc (Nat.le_refl _) _) (fun _ => ⟨_, rfl, Nat.le_refl _⟩)
    trivial
  intro f8 vd8 hb hf hne
  obtain ⟨g15, d15, lo15, bk15⟩ : NewB vs7_0.heap.size 33 #[.int .u64 0, .int .u64 0, .int .u64 0, .int .u64 0, .int .u64 0, .int .u64 0, .int .u64 0, .int .u64 0, .int .u64 0, .int .u64 0, .int .u64 0, .int .u64 0, .int .u64 0, .int .u64 0, .int .u64 0, .int .u64 0] (f8 15) vd8 := hf 5 _ _ (by decide) rfl rfl
  have d61 : f8 61 = .agg (av n13) := hf 4 _ _ (by decide) rfl rfl
  clear hf hne
  simp only [d15, d61]
  clear d15 d61
  have ne_G3_15 : G3 ≠ g15 := by have := k3.lt; omega
  have ne_G4_15 : G4 ≠ g15 := by have := k4.lt; omega
  have ne_G5_15 : G5 ≠ g15 := by have := k5.lt; omega
  have ne_G6_15 : G6 ≠ g15 := by have := k6.lt; omega
  have ne_g7_15 : g7 ≠ g15 := by have := k7.lt; omega
  have ne_g8_15 : g8 ≠ g15 := by have := k8.lt; omega
  have ne_g9_15 : g9 ≠ g15 := by have := k9.lt; omega
  have ne_g10_15 : g10 ≠ g15 := by have := k10.lt; omega
  have ne_g11_15 : g11 ≠ g15 := by have := k11.lt; omega
  have ne_g12_15 : g12 ≠ g15 := by have := k12.lt; omega
  have ne_g13_15 : g13 ≠ g15 := by have := k13.lt; omega
  have ne_g14_15 : g14 ≠ g15 := by have := k14.lt; omega
  replace lo15 : w.heap.size ≤ g15 := Nat.le_trans hb0.size lo15
  replace k3 := k3.below hb
  replace k4 := k4.below hb
  replace k5 := k5.below hb
  replace k6 := k6.below hb
  replace k7 := k7.below hb
  replace k8 := k8.below hb
  replace k9 := k9.below hb
  replace k10 := k10.below hb
  replace k11 := k11.below hb
  replace k12 := k12.below hb
  replace k13 := k13.below hb
  replace k14 := k14.below hb
  replace hb0 := hb0.trans (hb.mono hb0.size)
  clear hb
  refine stN (old := fun _ => 0) rfl rfl rfl rfl bk15 ?_
  intro vs8_0 k15 hgr hsz
  replace k3 := k3.grown hgr (fun h => ne_G3_15 (by injection h))
  replace k4 := k4.grown hgr (fun h => ne_G4_15 (by injection h))
  replace k5 := k5.grown hgr (fun h => ne_G5_15 (by injection h))
  replace k6 := k6.grown hgr (fun h => ne_G6_15 (by injection h))
  replace k7 := k7.grown hgr (fun h => ne_g7_15 (by injection h))
  replace k8 := k8.grown hgr (fun h => ne_g8_15 (by injection h))
  replace k9 := k9.grown hgr (fun h => ne_g9_15 (by injection h))
  replace k10 := k10.grown hgr (fun h => ne_g10_15 (by injection h))
  replace k11 := k11.grown hgr (fun h => ne_g11_15 (by injection h))
  replace k12 := k12.grown hgr (fun h => ne_g12_15 (by injection h))
  replace k13 := k13.grown hgr (fun h => ne_g13_15 (by injection h))
  replace k14 := k14.grown hgr (fun h => ne_g14_15 (by injection h))
  replace hb0 := hb0.grown hgr hb0.size (fun k hk => by injection hk with hk; omega)
  clear hgr hsz
  refine wpList_nil ?_
  clear ne_G3_15
  clear ne_G4_15
  clear ne_G5_15
  clear ne_G6_15
  clear ne_g7_15
  clear ne_g8_15
  clear ne_g9_15
  clear ne_g10_15
  clear ne_g11_15
  clear ne_g12_15
  clear ne_g13_15
  clear ne_g14_15
  replace lo15 := Lib.hid lo15
  go_wp2
  refine wp_region_grow2 8 (fun k => Nat.beq k 16 || (Nat.ble 62 k && Nat.ble k 68)) _ [] (fun j x' q => (ra9L n1 n3 n4 n8 n14 n15 n16 vs8_0.heap.size).getD j (fun _ _ => True) x' q) (fun j => j == 7) (fun f => #[.agg (av D), .agg (tcf x1 y1 z1), .agg (tcf x2 y2 z2), .pointer (some ⟨G3, 0, none⟩), .pointer (some ⟨G4, 0, none⟩), .pointer (some ⟨G5, 0, none⟩), .pointer (some ⟨G6, 0, none⟩), .pointer (some ⟨g7, 0, none⟩), .pointer (some ⟨g8, 0, none⟩), .pointer (some ⟨g9, 0, none⟩), .pointer (some ⟨g10, 0, none⟩), .pointer (some ⟨g11, 0, none⟩), .pointer (some ⟨g12, 0, none⟩), .pointer (some ⟨g13, 0, none⟩), .pointer (some ⟨g14, 0, none⟩), .pointer (some ⟨g15, 0, none⟩), f 16, .pointer (some ⟨G4, 32, none⟩), .agg (av z1), .pointer (some ⟨G5, 32, none⟩), .agg (av z2), .agg (av n1), .agg (av n1), .agg (av n1), .agg (av n2), .pointer (some ⟨G4, 0, none⟩), .agg (av x1), .pointer (some ⟨G5, 0, none⟩), .agg (av x2), .agg (av n3), .pointer (some ⟨G4, 16, none⟩), .agg (av y1), .pointer (some ⟨G5, 16, none⟩), .agg (av y2), .agg (av n4), f5 35, f5 36, f5 37, f5 38, .agg (av n6), f6 40, f6 41, .agg (av n7), f6 43, f6 44, .agg (av n8), f7 46, f7 47, f7 48, f7 49, f7 50, f7 51, f7 52, f7 53, f7 54, f7 55, .agg (av n11), f8 57, f8 58, f8 59, f8 60, .agg (av n13), f 62, f 63, f 64, f 65, f 66, f 67, f 68, undef, undef, undef, undef, undef, undef]) (fun f => rfl) (by kernel_rfl) (by kernel_rfl) (by kernel_rfl) (by kernel_rfl) (by kernel_rfl) (ra9S _ _ _ _ _ _ _ _) (ra9O _ _ _ _ _ _ _ _) ?_ ?_
  · refine steps2_cons ?_ ?_
    · as_aux_lemma =>
      intro f w1 hb hd Q hK
      clear hd
      have hK := Lib.hid hK
      refine ldNw (by kernel_rfl) rfl rfl (k7.below hb) ?_
      refine wpList_nil ?_
      exact hK.out _ _ rfl (.refl _ _) nof
    refine steps2_cons ?_ ?_
    · as_aux_lemma =>
      intro f w1 hb hd Q hK
      clear hd
      have hK := Lib.hid hK
      refine ldNw (by kernel_rfl) rfl rfl (k13.below hb) ?_
      refine wpList_nil ?_
      exact hK.out _ _ rfl (.refl _ _) nof
    refine steps2_cons ?_ ?_
    · as_aux_lemma =>
      intro f w1 hb hd Q hK
      clear hd
      have hK := Lib.hid hK
      refine ldNw (by kernel_rfl) rfl rfl (k9.below hb) ?_
      refine wpList_nil ?_
      exact hK.out _ _ rfl (.refl _ _) nof
    refine steps2_cons ?_ ?_
    · as_aux_lemma =>
      intro f w1 hb hd Q hK
      clear hd
      have hK := Lib.hid hK
      refine ldNw (by kernel_rfl) rfl rfl (k10.below hb) ?_
      refine wpList_nil ?_
      exact hK.out _ _ rfl (.refl _ _) nof
    refine steps2_cons ?_ ?_
    · as_aux_lemma =>
      intro f w1 hb hd Q hK
      have e64 : f 64 = .agg (av n3) := hd.1 rfl
      have e65 : f 65 = .agg (av n4) := hd.2.1 rfl
      clear hd
      simp only [e64, e65] at hK
      have hK := Lib.hid hK
      go_wp2_with fail
      refine (c14.out _).mono ?_
      rintro e w2 ⟨rfl, hb2⟩
      go_wp2
      exact hK.out _ _ rfl hb2 nof
    refine steps2_cons ?_ ?_
    · as_aux_lemma =>
      intro f w1 hb hd Q hK
      have e63 : f 63 = .agg (av n8) := hd.1 rfl
      have e66 : f 66 = .agg (av n14) := hd.2.1 rfl
      clear hd
      simp only [e63, e66] at hK
      have hK := Lib.hid hK
      go_wp2_with fail
      refine (c15.out _).mono ?_
      rintro e w2 ⟨rfl, hb2⟩
      go_wp2
      exact hK.out _ _ rfl hb2 nof
    refine steps2_cons ?_ ?_
    · as_aux_lemma =>
      intro f w1 hb hd Q hK
      have e62 : f 62 = .agg (av n1) := hd.1 rfl
      have e67 : f 67 = .agg (av n15) := hd.2.1 rfl
      clear hd
      simp only [e62, e67] at hK
      have hK := Lib.hid hK
      go_wp2_with fail
      refine (c16.out _).mono ?_
      rintro e w2 ⟨rfl, hb2⟩
      go_wp2
      exact hK.out _ _ rfl hb2 nof
    refine steps2_cons ?_ ?_
    · as_aux_lemma =>
      intro f w1 hb hd Q hK
      clear hd
      have hK := Lib.hid hK
      have hsz := hb.size
      go_wp2
      exact hK.out _ _ ⟨_, rfl, hsz, Blk.new _ _ _⟩ ((Below.refl _ _).alloc (Nat.le_refl _) _) (fun _ => ⟨_, rfl, Nat.le_refl _⟩)
    trivial
  intro f9 vd9 hb hf hne
  obtain ⟨g16, d16, lo16, bk16⟩ : NewB vs8_0.heap.size 33 #[.int .u64 0, .int .u64 0, .int .u64 0, .int .u64 0, .int .u64 0, .int .u64 0, .int .u64 0, .int .u64 0, .int .u64 0, .int .u64 0, .int .u64 0, .int .u64 0, .int .u64 0, .int .u64 0, .int .u64 0, .int .u64 0] (f9 16) vd9 := hf 7 _ _ (by decide) rfl rfl
  have d68 : f9 68 = .agg (av n16) := hf 6 _ _ (by decide) rfl rfl
  clear hf hne
  simp only [d16, d68]
  clear d16 d68
  have ne_G3_16 : G3 ≠ g16 := by have := k3.lt; omega
  have ne_G4_16 : G4 ≠ g16 := by have := k4.lt; omega
  have ne_G5_16 : G5 ≠ g16 := by have := k5.lt; omega
  have ne_G6_16 : G6 ≠ g16 := by have := k6.lt; omega
  have ne_g7_16 : g7 ≠ g16 := by have := k7.lt; omega
  have ne_g8_16 : g8 ≠ g16 := by have := k8.lt; omega
  have ne_g9_16 : g9 ≠ g16 := by have := k9.lt; omega
  have ne_g10_16 : g10 ≠ g16 := by have := k10.lt; omega
  have ne_g11_16 : g11 ≠ g16 := by have := k11.lt; omega
  have ne_g12_16 : g12 ≠ g16 := by have := k12.lt; omega
  have ne_g13_16 : g13 ≠ g16 := by have := k13.lt; omega
  have ne_g14_16 : g14 ≠ g16 := by have := k14.lt; omega
  have ne_g15_16 : g15 ≠ g16 := by have := k15.lt; omega
  replace lo16 : w.heap.size ≤ g16 := Nat.le_trans hb0.size lo16
  replace k3 := k3.below hb
  replace k4 := k4.below hb
  replace k5 := k5.below hb
  replace k6 := k6.below hb
  replace k7 := k7.below hb
  replace k8 := k8.below hb
  replace k9 := k9.below hb
  replace k10 := k10.below hb
  replace k11 := k11.below hb
  replace k12 := k12.below hb
  replace k13 := k13.below hb
  replace k14 := k14.below hb
  replace k15 := k15.below hb
  replace hb0 := hb0.trans (hb.mono hb0.size)
  clear hb
  refine stN (old := fun _ => 0) rfl rfl rfl rfl bk16 ?_
  intro vs9_0 k16 hgr hsz
  replace k3 := k3.grown hgr (fun h => ne_G3_16 (by injection h))
  replace k4 := k4.grown hgr (fun h => ne_G4_16 (by injection h))
  replace k5 := k5.grown hgr (fun h => ne_G5_16 (by injection h))
  replace k6 := k6.grown hgr (fun h => ne_G6_16 (by injection h))
  replace k7 := k7.grown hgr (fun h => ne_g7_16 (by injection h))
  replace k8 := k8.grown hgr (fun h => ne_g8_16 (by injection h))
  replace k9 := k9.grown hgr (fun h => ne_g9_16 (by injection h))
  replace k10 := k10.grown hgr (fun h => ne_g10_16 (by injection h))
  replace k11 := k11.grown hgr (fun h => ne_g11_16 (by injection h))
  replace k12 := k12.grown hgr (fun h => ne_g12_16 (by injection h))
  replace k13 := k13.grown hgr (fun h => ne_g13_16 (by injection h))
  replace k14 := k14.grown hgr (fun h => ne_g14_16 (by injection h))
  replace k15 := k15.grown hgr (fun h => ne_g15_16 (by injection h))
  replace hb0 := hb0.grown hgr hb0.size (fun k hk => by injection hk with hk; omega)
  clear hgr hsz
  refine wpList_nil ?_
  clear ne_G3_16
  clear ne_G4_16
  clear ne_G5_16
  clear ne_G6_16
  clear ne_g7_16
  clear ne_g8_16
  clear ne_g9_16
  clear ne_g10_16
  clear ne_g11_16
  clear ne_g12_16
  clear ne_g13_16
  clear ne_g14_16
  clear ne_g15_16
  replace lo16 := Lib.hid lo16
  go_wp2
  refine wp_region_grow2 6 (fun k => (Nat.ble 69 k && Nat.ble k 74)) _ [] (fun j x' q => (ra10L n7 n8 n13 n16 n17).getD j (fun _ _ => True) x' q) (fun _ => false) (fun f => #[.agg (av D), .agg (tcf x1 y1 z1), .agg (tcf x2 y2 z2), .pointer (some ⟨G3, 0, none⟩), .pointer (some ⟨G4, 0, none⟩), .pointer (some ⟨G5, 0, none⟩), .pointer (some ⟨G6, 0, none⟩), .pointer (some ⟨g7, 0, none⟩), .pointer (some ⟨g8, 0, none⟩), .pointer (some ⟨g9, 0, none⟩), .pointer (some ⟨g10, 0, none⟩), .pointer (some ⟨g11, 0, none⟩), .pointer (some ⟨g12, 0, none⟩), .pointer (some ⟨g13, 0, none⟩), .pointer (some ⟨g14, 0, none⟩), .pointer (some ⟨g15, 0, none⟩), .pointer (some ⟨g16, 0, none⟩), .pointer (some ⟨G4, 32, none⟩), .agg (av z1), .pointer (some ⟨G5, 32, none⟩), .agg (av z2), .agg (av n1), .agg (av n1), .agg (av n1), .agg (av n2), .pointer (some ⟨G4, 0, none⟩), .agg (av x1), .pointer (some ⟨G5, 0, none⟩), .agg (av x2), .agg (av n3), .pointer (some ⟨G4, 16, none⟩), .agg (av y1), .pointer (some ⟨G5, 16, none⟩), .agg (av y2), .agg (av n4), f5 35, f5 36, f5 37, f5 38, .agg (av n6), f6 40, f6 41, .agg (av n7), f6 43, f6 44, .agg (av n8), f7 46, f7 47, f7 48, f7 49, f7 50, f7 51, f7 52, f7 53, f7 54, f7 55, .agg (av n11), f8 57, f8 58, f8 59, f8 60, .agg (av n13), f9 62, f9 63, f9 64, f9 65, f9 66, f9 67, .agg (av n16), f 69, f 70, f 71, f 72, f 73, f 74]) (fun f => rfl) (by kernel_rfl) (by kernel_rfl) (by kernel_rfl) (by kernel_rfl) (by kernel_rfl) (ra10S _ _ _ _ _) (fun _ _ _ h => by cases h) ?_ ?_
  · refine steps2_cons ?_ ?_
    · as_aux_lemma =>
      intro f w1 hb hd Q hK
      clear hd
      have hK := Lib.hid hK
      refine ldNw (by kernel_rfl) rfl rfl (k15.below hb) ?_
      refine wpList_nil ?_
      exact hK.out _ _ rfl (.refl _ _) nof
    refine steps2_cons ?_ ?_
    · as_aux_lemma =>
      intro f w1 hb hd Q hK
      clear hd
      have hK := Lib.hid hK
      refine ldNw (by kernel_rfl) rfl rfl (k16.below hb) ?_
      refine wpList_nil ?_
      exact hK.out _ _ rfl (.refl _ _) nof
    refine steps2_cons ?_ ?_
    · as_aux_lemma =>
      intro f w1 hb hd Q hK
      clear hd
      have hK := Lib.hid hK
      refine ldNw (by kernel_rfl) rfl rfl (k12.below hb) ?_
      refine wpList_nil ?_
      exact hK.out _ _ rfl (.refl _ _) nof
    refine steps2_cons ?_ ?_
    · as_aux_lemma =>
      intro f w1 hb hd Q hK
      clear hd
      have hK := Lib.hid hK
      refine ldNw (by kernel_rfl) rfl rfl (k13.below hb) ?_
      refine wpList_nil ?_
      exact hK.out _ _ rfl (.refl _ _) nof
    refine steps2_cons ?_ ?_
    · as_aux_lemma =>
      intro f w1 hb hd Q hK
      have e71 : f 71 = .agg (av n7) := hd.1 rfl
      have e72 : f 72 = .agg (av n8) := hd.2.1 rfl
      clear hd
      simp only [e71, e72] at hK
      have hK := Lib.hid hK
      go_wp2_with fail
      refine (c17.out _).mono ?_
      rintro e w2 ⟨rfl, hb2⟩
      go_wp2
      exact hK.out _ _ rfl hb2 nof
    refine steps2_cons ?_ ?_
    · as_aux_lemma =>
      intro f w1 hb hd Q hK
      have e69 : f 69 = .agg (av n13) := hd.1 rfl
      have e70 : f 70 = .agg (av n16) := hd.2.1 rfl
      have e73 : f 73 = .agg (av n17) := hd.2.2.1 rfl
      clear hd
      simp only [e69, e70, e73] at hK
      have hK := Lib.hid hK
      refine bdT (by simp only [e69, e70, e73]; kernel_rfl) rfl e69 e70 e73 ?_
      refine wpList_nil ?_
      simp only [e69, e70, e73]
      exact hK.out _ _ rfl (.refl _ _) nof
    trivial
  intro f10 vd10 hb hf hne
  have d74 : f10 74 = .agg (tcf n13 n16 n17) := hf 5 _ _ (by decide) rfl rfl
  clear hf hne
  simp only [d74]
  clear d74
  replace k3 := k3.below hb
  replace k4 := k4.below hb
  replace k5 := k5.below hb
  replace k6 := k6.below hb
  replace k7 := k7.below hb
  replace k8 := k8.below hb
  replace k9 := k9.below hb
  replace k10 := k10.below hb
  replace k11 := k11.below hb
  replace k12 := k12.below hb
  replace k13 := k13.below hb
  replace k14 := k14.below hb
  replace k15 := k15.below hb
  replace k16 := k16.below hb
  replace hb0 := hb0.trans (hb.mono hb0.size)
  clear hb
  refine stT rfl rfl rfl rfl k6 soG6 ?_
  intro vs10_0 mG6 hgr hsz
  replace hb0 := hb0.grown hgr hb0.size (fun k hk => by injection hk with hk; omega)
  clear hgr hsz
  refine wpList_nil ?_
  go_wp2
  exact retT rfl rfl mG6 rfl ⟨rfl, hb0⟩
end Go.Proofs.YtpaldgajkhmhbaaDoor

namespace Go.Proofs.YtpaldgajkhmhbaaDoor
open Go.RowKit
def rsT1L (x1 : Nat → Int) (y1 : Nat → Int) (z1 : Nat → Int) (x2 : Nat → Int) (y2 : Nat → Int) (z2 : Nat → Int) (n1 : Nat → Int) (n2 : Nat → Int) (n3 : Nat → Int) (n4 : Nat → Int) (b : Bool) (G2 : Nat) (G3 : Nat) : List (Value → World → Prop) := [
  Eq1 (.pointer (some ⟨G2, 0, none⟩)),
  Eq1 (.agg (av x1)),
  Eq1 (.pointer (some ⟨G3, 32, none⟩)),
  Eq1 (.agg (av z2)),
  Eq1 (.agg (av n1)),
  Eq1 (.pointer (some ⟨G3, 0, none⟩)),
  Eq1 (.agg (av x2)),
  Eq1 (.pointer (some ⟨G2, 32, none⟩)),
  Eq1 (.agg (av z1)),
  Eq1 (.agg (av n2)),
  Eq1 (.bool true),
  Eq1 (.bool true),
  Eq1 (.pointer (some ⟨G2, 16, none⟩)),
  Eq1 (.agg (av y1)),
  Eq1 (.pointer (some ⟨G3, 32, none⟩)),
  Eq1 (.agg (av z2)),
  Eq1 (.agg (av n3)),
  Eq1 (.pointer (some ⟨G3, 16, none⟩)),
  Eq1 (.agg (av y2)),
  Eq1 (.pointer (some ⟨G2, 32, none⟩)),
  Eq1 (.agg (av z1)),
  Eq1 (.agg (av n4)),
  Eq1 (.bool b),
  Eq1 (.bool b),
  Eq1 (.bool b)]
theorem rsT1S (x1 : Nat → Int) (y1 : Nat → Int) (z1 : Nat → Int) (x2 : Nat → Int) (y2 : Nat → Int) (z2 : Nat → Int) (n1 : Nat → Int) (n2 : Nat → Int) (n3 : Nat → Int) (n4 : Nat → Int) (b : Bool) (G2 : Nat) (G3 : Nat) : ∀ j x' q q', (rsT1L x1 y1 z1 x2 y2 z2 n1 n2 n3 n4 b G2 G3).getD j (fun _ _ => True) x' q → Below q.heap.size q q' → (rsT1L x1 y1 z1 x2 y2 z2 n1 n2 n3 n4 b G2 G3).getD j (fun _ _ => True) x' q' := by
  refine sta_all _ ?_
  simp only [rsT1L, List.mem_cons, forall_eq_or_imp, List.not_mem_nil, false_implies, implies_true, and_true]
  exact ⟨sta_eq _, sta_eq _, sta_eq _, sta_eq _, sta_eq _, sta_eq _, sta_eq _, sta_eq _, sta_eq _, sta_eq _, sta_eq _, sta_eq _, sta_eq _, sta_eq _, sta_eq _, sta_eq _, sta_eq _, sta_eq _, sta_eq _, sta_eq _, sta_eq _, sta_eq _, sta_eq _, sta_eq _, sta_eq _⟩
set_option maxRecDepth 20000 in
set_option maxHeartbeats 8000000 in
theorem rSame_T {x1 : Nat → Int} {y1 : Nat → Int} {z1 : Nat → Int} {x2 : Nat → Int} {y2 : Nat → Int} {z2 : Nat → Int} {n1 : Nat → Int} {n2 : Nat → Int} {n3 : Nat → Int} {n4 : Nat → Int} {b : Bool}
    (c1 : ∀ w, Calls Tryd.prog 60 #[.agg (av x1), .agg (av z2)] w (PostN n1 w))
    (c2 : ∀ w, Calls Tryd.prog 60 #[.agg (av x2), .agg (av z1)] w (PostN n2 w))
    (q1 : eqN n1 n2 = true)
    (c3 : ∀ w, Calls Tryd.prog 60 #[.agg (av y1), .agg (av z2)] w (PostN n3 w))
    (c4 : ∀ w, Calls Tryd.prog 60 #[.agg (av y2), .agg (av z1)] w (PostN n4 w))
    (q2 : eqN n3 n4 = b)
    (w : World) : Calls Tryd.prog 20 #[.agg (tcf x1 y1 z1), .agg (tcf x2 y2 z2)] w (PostV (.bool b) w) := by
  replace c1 := Lib.hid c1
  replace c2 := Lib.hid c2
  replace q1 := Lib.hid q1
  replace c3 := Lib.hid c3
  replace c4 := Lib.hid c4
  replace q2 := Lib.hid q2
  go_enter Tryd.func20, Tryd.ntmps20
  go_wp2_with fail
  refine at_world (fun W0 hW => ?_)
  have k2 : Blk W0 (w.heap.size) 35 ((tcf x1 y1 z1)) := (by rw [hW]; exact (Blk.new _ _ _).alloc _)
  have k3 : Blk W0 (w.heap.size + 1) 35 ((tcf x2 y2 z2)) := (by rw [hW]; exact blk_at (by simp) (Blk.new _ _ _))
  have hb0 : Below w.heap.size w W0 := (by rw [hW]; go_grown)
  clear hW
  obtain ⟨G3, hG3⟩ : ∃ G3, G3 = w.heap.size + 1 := ⟨_, rfl⟩
  rw [← hG3] at k3 ⊢
  obtain ⟨G2, hG2⟩ : ∃ G2, G2 = w.heap.size := ⟨_, rfl⟩
  rw [← hG2] at k2 ⊢
  have loG2 : w.heap.size ≤ G2 := (by omega)
  have loG3 : w.heap.size ≤ G3 := (by omega)
  clear hG2 hG3
  refine wp_region_grow2 25 (fun k => (Nat.ble 4 k && Nat.ble k 28)) _ [] (fun j x' q => (rsT1L x1 y1 z1 x2 y2 z2 n1 n2 n3 n4 b G2 G3).getD j (fun _ _ => True) x' q) (fun _ => false) (fun f => #[.agg (tcf x1 y1 z1), .agg (tcf x2 y2 z2), .pointer (some ⟨G2, 0, none⟩), .pointer (some ⟨G3, 0, none⟩), f 4, f 5, f 6, f 7, f 8, f 9, f 10, f 11, f 12, f 13, f 14, f 15, f 16, f 17, f 18, f 19, f 20, f 21, f 22, f 23, f 24, f 25, f 26, f 27, f 28]) (fun f => rfl) (by kernel_rfl) (by kernel_rfl) (by kernel_rfl) (by kernel_rfl) (by kernel_rfl) (rsT1S _ _ _ _ _ _ _ _ _ _ _ _ _) (fun _ _ _ h => by cases h) ?_ ?_
  · refine steps2_cons ?_ ?_
    · as_aux_lemma =>
      intro f w1 hb hd Q hK
      clear hd
      have hK := Lib.hid hK
      go_wp2
      exact hK.out _ _ rfl (.refl _ _) nof
    refine steps2_cons ?_ ?_
    · as_aux_lemma =>
      intro f w1 hb hd Q hK
      have e5 : f 5 = .pointer (some ⟨G2, 0, none⟩) := hd.1 rfl
      clear hd
      simp only [e5] at hK
      have hK := Lib.hid hK
      refine ldTx (by simp only [e5]; kernel_rfl) rfl e5 (k2.below hb) ?_
      refine wpList_nil ?_
      simp only [e5]
      exact hK.out _ _ rfl (.refl _ _) nof
    refine steps2_cons ?_ ?_
    · as_aux_lemma =>
      intro f w1 hb hd Q hK
      clear hd
      have hK := Lib.hid hK
      go_wp2
      exact hK.out _ _ rfl (.refl _ _) nof
    refine steps2_cons ?_ ?_
    · as_aux_lemma =>
      intro f w1 hb hd Q hK
      have e7 : f 7 = .pointer (some ⟨G3, 32, none⟩) := hd.1 rfl
      clear hd
      simp only [e7] at hK
      have hK := Lib.hid hK
      refine ldTz (by simp only [e7]; kernel_rfl) rfl e7 (k3.below hb) ?_
      refine wpList_nil ?_
      simp only [e7]
      exact hK.out _ _ rfl (.refl _ _) nof
    refine steps2_cons ?_ ?_
    · as_aux_lemma =>
      intro f w1 hb hd Q hK
      have e6 : f 6 = .agg (av x1) := hd.1 rfl
      have e8 : f 8 = .agg (av z2) := hd.2.1 rfl
      clear hd
      simp only [e6, e8] at hK
      have hK := Lib.hid hK
      go_wp2_with fail
      refine (c1.out _).mono ?_
      rintro e w2 ⟨rfl, hb2⟩
      go_wp2
      exact hK.out _ _ rfl hb2 nof
    refine steps2_cons ?_ ?_
    · as_aux_lemma =>
      intro f w1 hb hd Q hK
      clear hd
      have hK := Lib.hid hK
      go_wp2
      exact hK.out _ _ rfl (.refl _ _) nof
    refine steps2_cons ?_ ?_
    · as_aux_lemma =>
      intro f w1 hb hd Q hK
      have e10 : f 10 = .pointer (some ⟨G3, 0, none⟩) := hd.1 rfl
      clear hd
      simp only [e10] at hK
      have hK := Lib.hid hK
      refine ldTx (by simp only [e10]; kernel_rfl) rfl e10 (k3.below hb) ?_
      refine wpList_nil ?_
      simp only [e10]
      exact hK.out _ _ rfl (.refl _ _) nof
    refine steps2_cons ?_ ?_
    · as_aux_lemma =>
      intro f w1 hb hd Q hK
      clear hd
      have hK := Lib.hid hK
      go_wp2
      exact hK.out _ _ rfl (.refl _ _) nof
    refine steps2_cons ?_ ?_
    · as_aux_lemma =>
      intro f w1 hb hd Q hK
      have e12 : f 12 = .pointer (some ⟨G2, 32, none⟩) := hd.1 rfl
      clear hd
      simp only [e12] at hK
      have hK := Lib.hid hK
      refine ldTz (by simp only [e12]; kernel_rfl) rfl e12 (k2.below hb) ?_
      refine wpList_nil ?_
      simp only [e12]
      exact hK.out _ _ rfl (.refl _ _) nof
    refine steps2_cons ?_ ?_
    · as_aux_lemma =>
      intro f w1 hb hd Q hK
      have e11 : f 11 = .agg (av x2) := hd.1 rfl
      have e13 : f 13 = .agg (av z1) := hd.2.1 rfl
      clear hd
      simp only [e11, e13] at hK
      have hK := Lib.hid hK
      go_wp2_with fail
      refine (c2.out _).mono ?_
      rintro e w2 ⟨rfl, hb2⟩
      go_wp2
      exact hK.out _ _ rfl hb2 nof
    refine steps2_cons ?_ ?_
    · as_aux_lemma =>
      intro f w1 hb hd Q hK
      have e9 : f 9 = .agg (av n1) := hd.1 rfl
      have e14 : f 14 = .agg (av n2) := hd.2.1 rfl
      clear hd
      simp only [e9, e14] at hK
      have hK := Lib.hid hK
      have hq := fun w => (run_eql_N n1 n2 w).trans (by rw [q1.out])
      go_wp2
      exact hK.out _ _ rfl (.refl _ _) nof
    refine steps2_cons ?_ ?_
    · as_aux_lemma =>
      intro f w1 hb hd Q hK
      have e15 : f 15 = .bool true := hd.1 rfl
      clear hd
      simp only [e15] at hK
      have hK := Lib.hid hK
      go_wp2
      exact hK.out _ _ rfl (.refl _ _) nof
    refine steps2_cons ?_ ?_
    · as_aux_lemma =>
      intro f w1 hb hd Q hK
      have e16 : f 16 = .bool true := hd.1 rfl
      clear hd
      simp only [e16] at hK
      have hK := Lib.hid hK
      go_wp2
      exact hK.out _ _ rfl (.refl _ _) nof
    refine steps2_cons ?_ ?_
    · as_aux_lemma =>
      intro f w1 hb hd Q hK
      have e17 : f 17 = .pointer (some ⟨G2, 16, none⟩) := hd.1 rfl
      have e16 : f 16 = .bool true := hd.2.1 rfl
      clear hd
      simp only [e17, e16] at hK
      have hK := Lib.hid hK
      refine ldTy (by simp only [e17, e16]; kernel_rfl) rfl e17 (k2.below hb) ?_
      refine wpList_nil ?_
      simp only [e17, e16]
      exact hK.out _ _ rfl (.refl _ _) nof
    refine steps2_cons ?_ ?_
    · as_aux_lemma =>
      intro f w1 hb hd Q hK
      have e16 : f 16 = .bool true := hd.1 rfl
      clear hd
      simp only [e16] at hK
      have hK := Lib.hid hK
      go_wp2
      exact hK.out _ _ rfl (.refl _ _) nof
    refine steps2_cons ?_ ?_
    · as_aux_lemma =>
      intro f w1 hb hd Q hK
      have e19 : f 19 = .pointer (some ⟨G3, 32, none⟩) := hd.1 rfl
      have e16 : f 16 = .bool true := hd.2.1 rfl
      clear hd
      simp only [e19, e16] at hK
      have hK := Lib.hid hK
      refine ldTz (by simp only [e19, e16]; kernel_rfl) rfl e19 (k3.below hb) ?_
      refine wpList_nil ?_
      simp only [e19, e16]
      exact hK.out _ _ rfl (.refl _ _) nof
    refine steps2_cons ?_ ?_
    · as_aux_lemma =>
      intro f w1 hb hd Q hK
      have e18 : f 18 = .agg (av y1) := hd.1 rfl
      have e20 : f 20 = .agg (av z2) := hd.2.1 rfl
      have e16 : f 16 = .bool true := hd.2.2.1 rfl
      clear hd
      simp only [e18, e20, e16] at hK
      have hK := Lib.hid hK
      go_wp2_with fail
      refine (c3.out _).mono ?_
      rintro e w2 ⟨rfl, hb2⟩
      go_wp2
      exact hK.out _ _ rfl hb2 nof
    refine steps2_cons ?_ ?_
    · as_aux_lemma =>
      intro f w1 hb hd Q hK
      have e16 : f 16 = .bool true := hd.1 rfl
      clear hd
      simp only [e16] at hK
      have hK := Lib.hid hK
      go_wp2
      exact hK.out _ _ rfl (.refl _ _) nof
    refine steps2_cons ?_ ?_
    · as_aux_lemma =>
      intro f w1 hb hd Q hK
      have e22 : f 22 = .pointer (some ⟨G3, 16, none⟩) := hd.1 rfl
      have e16 : f 16 = .bool true := hd.2.1 rfl
      clear hd
      simp only [e22, e16] at hK
      have hK := Lib.hid hK
      refine ldTy (by simp only [e22, e16]; kernel_rfl) rfl e22 (k3.below hb) ?_
      refine wpList_nil ?_
      simp only [e22, e16]
      exact hK.out _ _ rfl (.refl _ _) nof
    refine steps2_cons ?_ ?_
    · as_aux_lemma =>
      intro f w1 hb hd Q hK
      have e16 : f 16 = .bool true := hd.1 rfl
      clear hd
      simp only [e16] at hK
      have hK := Lib.hid hK
      go_wp2
      exact hK.out _ _ rfl (.refl _ _) nof
    refine steps2_cons ?_ ?_
    · as_aux_lemma =>
      intro f w1 hb hd Q hK
      have e24 : f 24 = .pointer (some ⟨G2, 32, none⟩) := hd.1 rfl
      have e16 : f 16 = .bool true := hd.2.1 rfl
      clear hd
      simp only [e24, e16] at hK
      have hK := Lib.hid hK
      refine ldTz (by simp only [e24, e16]; kernel_rfl) rfl e24 (k2.below hb) ?_
      refine wpList_nil ?_
      simp only [e24, e16]
      exact hK.out _ _ rfl (.refl _ _) nof
    refine steps2_cons ?_ ?_
    · as_aux_lemma =>
      intro f w1 hb hd Q hK
      have e23 : f 23 = .agg (av y2) := hd.1 rfl
      have e25 : f 25 = .agg (av z1) := hd.2.1 rfl
      have e16 : f 16 = .bool true := hd.2.2.2.1 rfl
      clear hd
      simp only [e23, e25, e16] at hK
      have hK := Lib.hid hK
      go_wp2_with fail
      refine (c4.out _).mono ?_
      rintro e w2 ⟨rfl, hb2⟩
      go_wp2
      exact hK.out _ _ rfl hb2 nof
    refine steps2_cons ?_ ?_
    · as_aux_lemma =>
      intro f w1 hb hd Q hK
      have e21 : f 21 = .agg (av n3) := hd.1 rfl
      have e26 : f 26 = .agg (av n4) := hd.2.1 rfl
      have e16 : f 16 = .bool true := hd.2.2.1 rfl
      clear hd
      simp only [e21, e26, e16] at hK
      have hK := Lib.hid hK
      have hq := fun w => (run_eql_N n3 n4 w).trans (by rw [q2.out])
      go_wp2
      exact hK.out _ _ rfl (.refl _ _) nof
    refine steps2_cons ?_ ?_
    · as_aux_lemma =>
      intro f w1 hb hd Q hK
      have e16 : f 16 = .bool true := hd.1 rfl
      have e27 : f 27 = .bool b := hd.2.1 rfl
      clear hd
      simp only [e16, e27] at hK
      have hK := Lib.hid hK
      go_wp2
      exact hK.out _ _ rfl (.refl _ _) nof
    refine steps2_cons ?_ ?_
    · as_aux_lemma =>
      intro f w1 hb hd Q hK
      have e28 : f 28 = .bool b := hd.1 rfl
      clear hd
      simp only [e28] at hK
      have hK := Lib.hid hK
      go_wp2
      exact hK.out _ _ rfl (.refl _ _) nof
    trivial
  intro f1 vd1 hb hf hne
  refine wpList_nil ?_
  have d4 : f1 4 = .bool b := hf 24 _ _ (by decide) rfl rfl
  clear hf hne
  simp only [d4]
  clear d4
  replace k2 := k2.below hb
  replace k3 := k3.below hb
  replace hb0 := hb0.trans (hb.mono hb0.size)
  clear hb
  go_wp2
  go_returns
  exact ⟨rfl, hb0⟩
def rsF1L (x1 : Nat → Int) (z1 : Nat → Int) (x2 : Nat → Int) (z2 : Nat → Int) (n1 : Nat → Int) (n2 : Nat → Int) (G2 : Nat) (G3 : Nat) : List (Value → World → Prop) := [
  Eq1 (.pointer (some ⟨G2, 0, none⟩)),
  Eq1 (.agg (av x1)),
  Eq1 (.pointer (some ⟨G3, 32, none⟩)),
  Eq1 (.agg (av z2)),
  Eq1 (.agg (av n1)),
  Eq1 (.pointer (some ⟨G3, 0, none⟩)),
  Eq1 (.agg (av x2)),
  Eq1 (.pointer (some ⟨G2, 32, none⟩)),
  Eq1 (.agg (av z1)),
  Eq1 (.agg (av n2)),
  Eq1 (.bool false),
  Eq1 (.bool false),
  Eq1 (undef),
  Eq1 (undef),
  Eq1 (undef),
  Eq1 (undef),
  Eq1 (undef),
  Eq1 (undef),
  Eq1 (undef),
  Eq1 (undef),
  Eq1 (undef),
  Eq1 (undef),
  Eq1 (undef),
  Eq1 (.bool false),
  Eq1 (.bool false)]
theorem rsF1S (x1 : Nat → Int) (z1 : Nat → Int) (x2 : Nat → Int) (z2 : Nat → Int) (n1 : Nat → Int) (n2 : Nat → Int) (G2 : Nat) (G3 : Nat) : ∀ j x' q q', (rsF1L x1 z1 x2 z2 n1 n2 G2 G3).getD j (fun _ _ => True) x' q → Below q.heap.size q q' → (rsF1L x1 z1 x2 z2 n1 n2 G2 G3).getD j (fun _ _ => True) x' q' := by
  refine sta_all _ ?_
  simp only [rsF1L, List.mem_cons, forall_eq_or_imp, List.not_mem_nil, false_implies, implies_true, and_true]
  exact ⟨sta_eq _, sta_eq _, sta_eq _, sta_eq _, sta_eq _, sta_eq _, sta_eq _, sta_eq _, sta_eq _, sta_eq _, sta_eq _, sta_eq _, sta_eq _, sta_eq _, sta_eq _, sta_eq _, sta_eq _, sta_eq _, sta_eq _, sta_eq _, sta_eq _, sta_eq _, sta_eq _, sta_eq _, sta_eq _⟩
set_option maxRecDepth 20000 in
set_option maxHeartbeats 8000000 in
theorem rSame_F {x1 : Nat → Int} {y1 : Nat → Int} {z1 : Nat → Int} {x2 : Nat → Int} {y2 : Nat → Int} {z2 : Nat → Int} {n1 : Nat → Int} {n2 : Nat → Int}
    (c1 : ∀ w, Calls Tryd.prog 60 #[.agg (av x1), .agg (av z2)] w (PostN n1 w))
    (c2 : ∀ w, Calls Tryd.prog 60 #[.agg (av x2), .agg (av z1)] w (PostN n2 w))
    (q1 : eqN n1 n2 = false)
    (w : World) : Calls Tryd.prog 20 #[.agg (tcf x1 y1 z1), .agg (tcf x2 y2 z2)] w (PostV (.bool false) w) := by
  replace c1 := Lib.hid c1
  replace c2 := Lib.hid c2
  replace q1 := Lib.hid q1
  go_enter Tryd.func20, Tryd.ntmps20
  go_wp2_with fail
  refine at_world (fun W0 hW => ?_)
  have k2 : Blk W0 (w.heap.size) 35 ((tcf x1 y1 z1)) := (by rw [hW]; exact (Blk.new _ _ _).alloc _)
  have k3 : Blk W0 (w.heap.size + 1) 35 ((tcf x2 y2 z2)) := (by rw [hW]; exact blk_at (by simp) (Blk.new _ _ _))
  have hb0 : Below w.heap.size w W0 := (by rw [hW]; go_grown)
  clear hW
  obtain ⟨G3, hG3⟩ : ∃ G3, G3 = w.heap.size + 1 := ⟨_, rfl⟩
  rw [← hG3] at k3 ⊢
  obtain ⟨G2, hG2⟩ : ∃ G2, G2 = w.heap.size := ⟨_, rfl⟩
  rw [← hG2] at k2 ⊢
  have loG2 : w.heap.size ≤ G2 := (by omega)
  have loG3 : w.heap.size ≤ G3 := (by omega)
  clear hG2 hG3
  refine wp_region_grow2 25 (fun k => (Nat.ble 4 k && Nat.ble k 28)) _ [] (fun j x' q => (rsF1L x1 z1 x2 z2 n1 n2 G2 G3).getD j (fun _ _ => True) x' q) (fun _ => false) (fun f => #[.agg (tcf x1 y1 z1), .agg (tcf x2 y2 z2), .pointer (some ⟨G2, 0, none⟩), .pointer (some ⟨G3, 0, none⟩), f 4, f 5, f 6, f 7, f 8, f 9, f 10, f 11, f 12, f 13, f 14, f 15, f 16, f 17, f 18, f 19, f 20, f 21, f 22, f 23, f 24, f 25, f 26, f 27, f 28]) (fun f => rfl) (by kernel_rfl) (by kernel_rfl) (by kernel_rfl) (by kernel_rfl) (by kernel_rfl) (rsF1S _ _ _ _ _ _ _ _) (fun _ _ _ h => by cases h) ?_ ?_
  · refine steps2_cons ?_ ?_
    · as_aux_lemma =>
      intro f w1 hb hd Q hK
      clear hd
      have hK := Lib.hid hK
      go_wp2
      exact hK.out _ _ rfl (.refl _ _) nof
    refine steps2_cons ?_ ?_
    · as_aux_lemma =>
      intro f w1 hb hd Q hK
      have e5 : f 5 = .pointer (some ⟨G2, 0, none⟩) := hd.1 rfl
      clear hd
      simp only [e5] at hK
      have hK := Lib.hid hK
      refine ldTx (by simp only [e5]; kernel_rfl) rfl e5 (k2.below hb) ?_
      refine wpList_nil ?_
      simp only [e5]
      exact hK.out _ _ rfl (.refl _ _) nof
    refine steps2_cons ?_ ?_
    · as_aux_lemma =>
      intro f w1 hb hd Q hK
      clear hd
      have hK := Lib.hid hK
      go_wp2
      exact hK.out _ _ rfl (.refl _ _) nof
    refine steps2_cons ?_ ?_
    · as_aux_lemma =>
      intro f w1 hb hd Q hK
      have e7 : f 7 = .pointer (some ⟨G3, 32, none⟩) := hd.1 rfl
      clear hd
      simp only [e7] at hK
      have hK := Lib.hid hK
      refine ldTz (by simp only [e7]; kernel_rfl) rfl e7 (k3.below hb) ?_
      refine wpList_nil ?_
      simp only [e7]
      exact hK.out _ _ rfl (.refl _ _) nof
    refine steps2_cons ?_ ?_
    · as_aux_lemma =>
      intro f w1 hb hd Q hK
      have e6 : f 6 = .agg (av x1) := hd.1 rfl
      have e8 : f 8 = .agg (av z2) := hd.2.1 rfl
      clear hd
      simp only [e6, e8] at hK
      have hK := Lib.hid hK
      go_wp2_with fail
      refine (c1.out _).mono ?_
      rintro e w2 ⟨rfl, hb2⟩
      go_wp2
      exact hK.out _ _ rfl hb2 nof
    refine steps2_cons ?_ ?_
    · as_aux_lemma =>
      intro f w1 hb hd Q hK
      clear hd
      have hK := Lib.hid hK
      go_wp2
      exact hK.out _ _ rfl (.refl _ _) nof
    refine steps2_cons ?_ ?_
    · as_aux_lemma =>
      intro f w1 hb hd Q hK
      have e10 : f 10 = .pointer (some ⟨G3, 0, none⟩) := hd.1 rfl
      clear hd
      simp only [e10] at hK
      have hK := Lib.hid hK
      refine ldTx (by simp only [e10]; kernel_rfl) rfl e10 (k3.below hb) ?_
      refine wpList_nil ?_
      simp only [e10]
      exact hK.out _ _ rfl (.refl _ _) nof
    refine steps2_cons ?_ ?_
    · as_aux_lemma =>
      intro f w1 hb hd Q hK
      clear hd
      have hK := Lib.hid hK
      go_wp2
      exact hK.out _ _ rfl (.refl _ _) nof
    refine steps2_cons ?_ ?_
    · as_aux_lemma =>
      intro f w1 hb hd Q hK
      have e12 : f 12 = .pointer (some ⟨G2, 32, none⟩) := hd.1 rfl
      clear hd
      simp only [e12] at hK
      have hK := Lib.hid hK
      refine ldTz (by simp only [e12]; kernel_rfl) rfl e12 (k2.below hb) ?_
      refine wpList_nil ?_
      simp only [e12]
      exact hK.out _ _ rfl (.refl _ _) nof
    refine steps2_cons ?_ ?_
    · as_aux_lemma =>
      intro f w1 hb hd Q hK
      have e11 : f 11 = .agg (av x2) := hd.1 rfl
      have e13 : f 13 = .agg (av z1) := hd.2.1 rfl
      clear hd
      simp only [e11, e13] at hK
      have hK := Lib.hid hK
      go_wp2_with fail
      refine (c2.out _).mono ?_
      rintro e w2 ⟨rfl, hb2⟩
      go_wp2
      exact hK.out _ _ rfl hb2 nof
    refine steps2_cons ?_ ?_
    · as_aux_lemma =>
      intro f w1 hb hd Q hK
      have e9 : f 9 = .agg (av n1) := hd.1 rfl
      have e14 : f 14 = .agg (av n2) := hd.2.1 rfl
      clear hd
      simp only [e9, e14] at hK
      have hK := Lib.hid hK
      have hq := fun w => (run_eql_N n1 n2 w).trans (by rw [q1.out])
      go_wp2
      exact hK.out _ _ rfl (.refl _ _) nof
    refine steps2_cons ?_ ?_
    · as_aux_lemma =>
      intro f w1 hb hd Q hK
      have e15 : f 15 = .bool false := hd.1 rfl
      clear hd
      simp only [e15] at hK
      have hK := Lib.hid hK
      go_wp2
      exact hK.out _ _ rfl (.refl _ _) nof
    refine steps2_cons ?_ ?_
    · as_aux_lemma =>
      intro f w1 hb hd Q hK
      have e16 : f 16 = .bool false := hd.1 rfl
      clear hd
      simp only [e16] at hK
      have hK := Lib.hid hK
      go_wp2
      exact hK.out _ _ rfl (.refl _ _) nof
    refine steps2_cons ?_ ?_
    · as_aux_lemma =>
      intro f w1 hb hd Q hK
      have e17 : f 17 = undef := hd.1 rfl
      have e16 : f 16 = .bool false := hd.2.1 rfl
      clear hd
      simp only [e17, e16] at hK
      have hK := Lib.hid hK
      go_wp2
      exact hK.out _ _ rfl (.refl _ _) nof
    refine steps2_cons ?_ ?_
    · as_aux_lemma =>
      intro f w1 hb hd Q hK
      have e16 : f 16 = .bool false := hd.1 rfl
      clear hd
      simp only [e16] at hK
      have hK := Lib.hid hK
      go_wp2
      exact hK.out _ _ rfl (.refl _ _) nof
    refine steps2_cons ?_ ?_
    · as_aux_lemma =>
      intro f w1 hb hd Q hK
      have e19 : f 19 = undef := hd.1 rfl
      have e16 : f 16 = .bool false := hd.2.1 rfl
      clear hd
      simp only [e19, e16] at hK
      have hK := Lib.hid hK
      go_wp2
      exact hK.out _ _ rfl (.refl _ _) nof
    refine steps2_cons ?_ ?_
    · as_aux_lemma =>
      intro f w1 hb hd Q hK
      have e18 : f 18 = undef := hd.1 rfl
      have e20 : f 20 = undef := hd.2.1 rfl
      have e16 : f 16 = .bool false := hd.2.2.1 rfl
      clear hd
      simp only [e18, e20, e16] at hK
      have hK := Lib.hid hK
      go_wp2
      exact hK.out _ _ rfl (.refl _ _) nof
    refine steps2_cons ?_ ?_
    · as_aux_lemma =>
      intro f w1 hb hd Q hK
      have e16 : f 16 = .bool false := hd.1 rfl
      clear hd
      simp only [e16] at hK
      have hK := Lib.hid hK
      go_wp2
      exact hK.out _ _ rfl (.refl _ _) nof
    refine steps2_cons ?_ ?_
    · as_aux_lemma =>
      intro f w1 hb hd Q hK
      have e22 : f 22 = undef := hd.1 rfl
      have e16 : f 16 = .bool false := hd.2.1 rfl
      clear hd
      simp only [e22, e16] at hK
      have hK := Lib.hid hK
      go_wp2
      exact hK.out _ _ rfl (.refl _ _) nof
    refine steps2_cons ?_ ?_
    · as_aux_lemma =>
      intro f w1 hb hd Q hK
      have e16 : f 16 = .bool false := hd.1 rfl
      clear hd
      simp only [e16] at hK
      have hK := Lib.hid hK
      go_wp2
      exact hK.out _ _ rfl (.refl _ _) nof
    refine steps2_cons ?_ ?_
    · as_aux_lemma =>
      intro f w1 hb hd Q hK
      have e24 : f 24 = undef := hd.1 rfl
      have e16 : f 16 = .bool false := hd.2.1 rfl
      clear hd
      simp only [e24, e16] at hK
      have hK := Lib.hid hK
      go_wp2
      exact hK.out _ _ rfl (.refl _ _) nof
    refine steps2_cons ?_ ?_
    · as_aux_lemma =>
      intro f w1 hb hd Q hK
      have e23 : f 23 = undef := hd.1 rfl
      have e25 : f 25 = undef := hd.2.1 rfl
      have e16 : f 16 = .bool false := hd.2.2.2.1 rfl
      clear hd
      simp only [e23, e25, e16] at hK
      have hK := Lib.hid hK
      go_wp2
      exact hK.out _ _ rfl (.refl _ _) nof
    refine steps2_cons ?_ ?_
    · as_aux_lemma =>
      intro f w1 hb hd Q hK
      have e21 : f 21 = undef := hd.1 rfl
      have e26 : f 26 = undef := hd.2.1 rfl
      have e16 : f 16 = .bool false := hd.2.2.1 rfl
      clear hd
      simp only [e21, e26, e16] at hK
      have hK := Lib.hid hK
      go_wp2
      exact hK.out _ _ rfl (.refl _ _) nof
    refine steps2_cons ?_ ?_
    · as_aux_lemma =>
      intro f w1 hb hd Q hK
      have e16 : f 16 = .bool false := hd.1 rfl
      have e27 : f 27 = undef := hd.2.1 rfl
      clear hd
      simp only [e16, e27] at hK
      have hK := Lib.hid hK
      go_wp2
      exact hK.out _ _ rfl (.refl _ _) nof
    refine steps2_cons ?_ ?_
    · as_aux_lemma =>
      intro f w1 hb hd Q hK
      have e28 : f 28 = .bool false := hd.1 rfl
      clear hd
      simp only [e28] at hK
      have hK := Lib.hid hK
      go_wp2
      exact hK.out _ _ rfl (.refl _ _) nof
    trivial
  intro f1 vd1 hb hf hne
  refine wpList_nil ?_
  have d4 : f1 4 = .bool false := hf 24 _ _ (by decide) rfl rfl
  clear hf hne
  simp only [d4]
  clear d4
  replace k2 := k2.below hb
  replace k3 := k3.below hb
  replace hb0 := hb0.trans (hb.mono hb0.size)
  clear hb
  go_wp2
  go_returns
  exact ⟨rfl, hb0⟩
end Go.Proofs.YtpaldgajkhmhbaaDoor

namespace Go.Proofs.YtpaldgajkhmhbaaDoor
open Go.RowKit
def tcs (a b c : Nat) : Array Value := tcf (Dg.dg a) (Dg.dg b) (Dg.dg c)
/-- the pair x, y is answered -/
def PostRp (x y : Fin Fe.P) (w : World) (e : Ending) (w' : World) : Prop := ∃ a b c, e = .returned (.agg (tcs a b c)) ∧ Fe.RA a b c x y ∧ Below w.heap.size w w'
theorem rzero_c (w : World) : Calls Tryd.prog 47 #[] w (PostRp 0 1 w) :=
  (rZero_g (number_c 0 (by decide)) (number_c 1 (by decide)) w).mono fun _ _ h => ⟨0, 1, 1, h.1, Fe.ra_zero, h.2⟩
theorem from_c {X : Fe.E} {a : Nat} (h : El X a) (w : World) : Calls Tryd.prog 73 #[.agg #[.int .u64 X.a0, .int .u64 X.a1, .int .u64 X.a2, .int .u64 X.a3, .int .u64 X.a4]] w (PostN (Dg.dg a) w) := by
  rw [← h.2]
  exact rFrom_c X.a0 X.a1 X.a2 X.a3 X.a4 h.1 w
theorem ofE_c {X Y Z : Fe.E} {a b c : Nat} (hx : El X a) (hy : El Y b) (hz : El Z c) (w : World) : Calls Tryd.prog 68 #[.agg #[.int .u64 X.a0, .int .u64 X.a1, .int .u64 X.a2, .int .u64 X.a3, .int .u64 X.a4], .agg #[.int .u64 Y.a0, .int .u64 Y.a1, .int .u64 Y.a2, .int .u64 Y.a3, .int .u64 Y.a4], .agg #[.int .u64 Z.a0, .int .u64 Z.a1, .int .u64 Z.a2, .int .u64 Z.a3, .int .u64 Z.a4]] w (PostT3 (Dg.dg a) (Dg.dg b) (Dg.dg c) w) :=
  rOf_g (from_c hx) (from_c hy) (from_c hz) w
set_option maxHeartbeats 2000000 in
theorem radd_c {a b c a2 b2 c2 : Nat} {x1 y1 x2 y2 : Fin Fe.P} (h : Fe.RA a b c x1 y1) (k : Fe.RA a2 b2 c2 x2 y2) (w : World) :
    Calls Tryd.prog 39 #[.agg (av (Dg.dg Fe.dN)), .agg (tcs a b c), .agg (tcs a2 b2 c2)] w (PostRp (Fe.ax x1 y1 x2 y2) (Fe.ay x1 y1 x2 y2) w) := by
  have l := Fe.mod_lt'
  have hg := rAdd_g (n1 := Dg.dg (Fe.rA c c2)) (n2 := Dg.dg (Fe.rB c c2)) (n3 := Dg.dg (Fe.rC a a2)) (n4 := Dg.dg (Fe.rC b b2)) (n6 := Dg.dg (Fe.rF a b a2 b2)) (n7 := Dg.dg (Fe.rL a b c a2 b2 c2)) (n8 := Dg.dg (Fe.rM a b c a2 b2 c2)) (n11 := Dg.dg (Fe.rX a b a2 b2)) (n13 := Dg.dg (Fe.rAx a b c a2 b2 c2)) (n16 := Dg.dg (Fe.rAy a b c a2 b2 c2)) (n17 := Dg.dg (Fe.rAz a b c a2 b2 c2))
    (rMul_c c c2 h.lc k.lc) (rMul_c (Fe.rA c c2) (Fe.rA c c2) (l _) (l _)) (rMul_c a a2 h.la k.la) (rMul_c b b2 h.lb k.lb) (rMul_c (Fe.rC a a2) (Fe.rC b b2) (l _) (l _)) (rMul_c Fe.dN _ Fe.dN_lt (l _))
    (rSub_c (Fe.rB c c2) (Fe.rF a b a2 b2) (l _) (l _)) (rAdd_c (Fe.rB c c2) (Fe.rF a b a2 b2) (l _) (l _)) (rMul_c a b2 h.la k.lb) (rMul_c a2 b k.la h.lb) (rAdd_c _ _ (l _) (l _))
    (rMul_c (Fe.rL a b c a2 b2 c2) (Fe.rX a b a2 b2) (l _) (l _)) (rMul_c (Fe.rA c c2) _ (l _) (l _)) (rAdd_c (Fe.rC a a2) (Fe.rC b b2) (l _) (l _)) (rMul_c (Fe.rM a b c a2 b2 c2) _ (l _) (l _)) (rMul_c (Fe.rA c c2) _ (l _) (l _)) (rMul_c (Fe.rL a b c a2 b2 c2) (Fe.rM a b c a2 b2 c2) (l _) (l _)) w
  exact hg.mono fun _ _ q => ⟨_, _, _, q.1, Fe.ra_add h k, q.2⟩
/-- the reference's D and Add over a letter -/
theorem radd_D : ∃ D : Nat → Int, (∀ w, Calls Tryd.prog 38 #[] w (PostN D w)) ∧ (∀ (a b c a2 b2 c2 : Nat) (x1 y1 x2 y2 : Fin Fe.P), Fe.RA a b c x1 y1 → Fe.RA a2 b2 c2 x2 y2 → ∀ w, Calls Tryd.prog 39 #[.agg (av D), .agg (tcs a b c), .agg (tcs a2 b2 c2)] w (PostRp (Fe.ax x1 y1 x2 y2) (Fe.ay x1 y1 x2 y2) w)) :=
  ⟨_, rD_c, fun _ _ _ _ _ _ _ _ _ _ h k w => radd_c h k w⟩
theorem rsame_c {a b c a2 b2 c2 : Nat} {x y x2 y2 : Fin Fe.P} (h : Fe.RA a b c x y) (k : Fe.RA a2 b2 c2 x2 y2) (w : World) :
    Calls Tryd.prog 20 #[.agg (tcs a b c), .agg (tcs a2 b2 c2)] w (PostV (.bool (decide (x = x2) && decide (y = y2))) w) := by
  have l := Fe.mod_lt'
  rw [← Fe.ra_same h k]
  have e1 := eqN_dec (l (a * c2)) (l (a2 * c))
  cases hb : decide (a * c2 % Fe.P = a2 * c % Fe.P)
  · exact rSame_F (rMul_c a c2 h.la k.lc) (rMul_c a2 c k.la h.lc) (e1.trans hb) w
  exact rSame_T (rMul_c a c2 h.la k.lc) (rMul_c a2 c k.la h.lc) (e1.trans hb) (rMul_c b c2 h.lb k.lc) (rMul_c b2 c k.lb h.lc) (eqN_dec (l (b * c2)) (l (b2 * c))) w
theorem pcs_x (X Y Z T : Fe.E) {j : Nat} (h : j < 5) : (pcs X Y Z T)[j]? = (ev X)[j]? := by
  match j, h with | 0, _ => rfl | 1, _ => rfl | 2, _ => rfl | 3, _ => rfl | 4, _ => rfl
theorem pcs_y (X Y Z T : Fe.E) {j : Nat} (h : j < 5) : (pcs X Y Z T)[5 + j]? = (ev Y)[j]? := by
  match j, h with | 0, _ => rfl | 1, _ => rfl | 2, _ => rfl | 3, _ => rfl | 4, _ => rfl
theorem pcs_z (X Y Z T : Fe.E) {j : Nat} (h : j < 5) : (pcs X Y Z T)[10 + j]? = (ev Z)[j]? := by
  match j, h with | 0, _ => rfl | 1, _ => rfl | 2, _ => rfl | 3, _ => rfl | 4, _ => rfl
section
variable {ops : Array Oper} {rest : List Oper} {o : Oper} {a : Act} {w : World} {Q : Exit → Act → World → Prop}
theorem ldEp (p : Nat) (E : Fe.E) (hw : Region.wanted o (yielded ops a.tmps) = true) {x : Operand} (ho : o.op = .load 27 x) {g : Nat} {ty : TypeId} {cs : Array Value} (hx : a.eval x = .pointer (some ⟨g, p, none⟩)) (hg : Blk w g ty cs) (hE : ∀ j, j < 5 → cs[p + j]? = (ev E)[j]?) (h : wpList Tryd.prog ops Q rest (a.put o.dst (.agg (ev E))) w) : wpList Tryd.prog ops Q (o :: rest) a w := by
  refine wpList_step fun K hK => ?_
  simp only [hw, if_true]
  refine wp_load_mid 27 x ho g p hx (ev E).toList _ (fun j v hv => ?_) E_under rfl E_size (by simpa using hK _ _ h)
  have hj : j < 5 := (List.getElem?_eq_some_iff.1 hv).1
  rw [hg.cell (p + j), hE j hj, ← Array.getElem?_toList]
  exact hv
theorem ldEx (hw : Region.wanted o (yielded ops a.tmps) = true) {x : Operand} (ho : o.op = .load 27 x) {g : Nat} {ty : TypeId} {X Y Z T : Fe.E} (hx : a.eval x = .pointer (some ⟨g, 0, none⟩)) (hg : Blk w g ty (pcs X Y Z T)) (h : wpList Tryd.prog ops Q rest (a.put o.dst (.agg (ev X))) w) : wpList Tryd.prog ops Q (o :: rest) a w :=
  ldEp 0 X hw ho hx hg (fun j hj => by rw [Nat.zero_add]; exact pcs_x X Y Z T hj) h
theorem ldEy (hw : Region.wanted o (yielded ops a.tmps) = true) {x : Operand} (ho : o.op = .load 27 x) {g : Nat} {ty : TypeId} {X Y Z T : Fe.E} (hx : a.eval x = .pointer (some ⟨g, 5, none⟩)) (hg : Blk w g ty (pcs X Y Z T)) (h : wpList Tryd.prog ops Q rest (a.put o.dst (.agg (ev Y))) w) : wpList Tryd.prog ops Q (o :: rest) a w :=
  ldEp 5 Y hw ho hx hg (fun _ hj => pcs_y X Y Z T hj) h
theorem ldEz (hw : Region.wanted o (yielded ops a.tmps) = true) {x : Operand} (ho : o.op = .load 27 x) {g : Nat} {ty : TypeId} {X Y Z T : Fe.E} (hx : a.eval x = .pointer (some ⟨g, 10, none⟩)) (hg : Blk w g ty (pcs X Y Z T)) (h : wpList Tryd.prog ops Q rest (a.put o.dst (.agg (ev Z))) w) : wpList Tryd.prog ops Q (o :: rest) a w :=
  ldEp 10 Z hw ho hx hg (fun _ hj => pcs_z X Y Z T hj) h
end
set_option maxRecDepth 20000 in
set_option maxHeartbeats 4000000 in
theorem ofT_c {X Y Z T : Fe.E} {a b c : Nat} (hx : El X a) (hy : El Y b) (hz : El Z c) (w : World) : Calls Tryd.prog 21 #[.agg (pcs X Y Z T)] w (PostT3 (Dg.dg a) (Dg.dg b) (Dg.dg c) w) := by
  have hO := Lib.hid (ofE_c hx hy hz)
  obtain ⟨A, hA⟩ : ∃ D, Dg.dg a = D := ⟨_, rfl⟩
  obtain ⟨B, hB⟩ : ∃ D, Dg.dg b = D := ⟨_, rfl⟩
  obtain ⟨C, hC⟩ : ∃ D, Dg.dg c = D := ⟨_, rfl⟩
  rw [hA, hB, hC] at hO ⊢
  clear hA hB hC hx hy hz
  go_enter Tryd.func21, Tryd.ntmps21
  have hmk : True := trivial
  go_wp2_with (first | (clear hmk; refine at_fa rfl (fun W0 hW => ?_); have k1 : Blk W0 w.heap.size 29 (pcs X Y Z T) := (by rw [hW]; exact (Blk.new _ _ _).alloc _); obtain ⟨old, k2, so⟩ : ∃ old, Blk W0 (w.heap.size + 1) 35 old ∧ old.size = 48 := (by rw [hW]; exact ⟨_, blk_at (by simp) (Blk.new _ _ _), rfl⟩); have hb0 : Below w.heap.size w W0 := (by rw [hW]; go_grown); clear hW; obtain ⟨G2, hG2⟩ : ∃ G, G = w.heap.size + 1 := ⟨_, rfl⟩; obtain ⟨G1, hG1⟩ : ∃ G, G = w.heap.size := ⟨_, rfl⟩; rw [← hG2] at k2 ⊢; rw [← hG1] at k1 ⊢; have lo2 : w.heap.size ≤ G2 := (by omega); clear hG1 hG2) | (refine ldEx (by kernel_rfl) rfl rfl k1 ?_) | (refine ldEy (by kernel_rfl) rfl rfl k1 ?_) | (refine ldEz (by kernel_rfl) rfl rfl k1 ?_))
  refine (hO.out _).mono ?_
  rintro e w1 ⟨rfl, hb⟩
  replace k2 := k2.below hb
  replace hb0 := hb0.trans (hb.mono hb0.size)
  clear hb k1 hO
  go_wp2_with (refine stT rfl rfl rfl rfl k2 so ?_; intro w2 m2 hgr hsz)
  exact retT rfl rfl m2 rfl ⟨rfl, hb0.grown hgr hb0.size (fun k hk => by injection hk with hk; omega)⟩
/-- a point of the program as the reference has it -/
theorem of_c {X Y Z T : Fe.E} {x y : Fin Fe.P} (h : PtE X Y Z T x y) (w : World) : Calls Tryd.prog 21 #[.agg (pcs X Y Z T)] w (PostRp x y w) := by
  obtain ⟨a, b, c, d, hX, hY, hZ, _, hA⟩ := h
  exact (ofT_c hX hY hZ w).mono fun _ _ q => ⟨a, b, c, q.1, hA.ra, q.2⟩
end Go.Proofs.YtpaldgajkhmhbaaDoor

namespace Go.Proofs.YtpaldgajkhmhbaaDoor
open Go.RowKit
/-- 32 bytes of one's own are answered -/
def PostRb (f : Nat → Int) (w : World) (e : Ending) (w' : World) : Prop := ∃ g c, w.heap.size ≤ g ∧ e = .returned (.slice (some ⟨g, 0, none⟩) 32 c) ∧ RowB w' g 32 c f ∧ Below w.heap.size w w'
def RbW (w : World) (f : Nat → Int) : Value → World → Prop := fun v w' => ∃ g c, v = .slice (some ⟨g, 0, none⟩) 32 c ∧ w.heap.size ≤ g ∧ RowB w' g 32 c f
theorem sta_rbw (w : World) (f : Nat → Int) : Sta (RbW w f) := fun _ _ _ h hb => h.elim fun g h => h.elim fun c h => ⟨g, c, h.1, h.2.1, h.2.2.below hb⟩
theorem rb_own (n : Nat) (w : World) : Calls Tryd.prog 67 #[.agg (av (Dg.dg n))] w (PostRb (Dg.rb n) w) := by
  refine (rBytes_o n w).mono ?_
  rintro e wr ⟨v, rfl, h, hb⟩
  obtain ⟨hl, h | ⟨g, cap, cur, h1, h2, h3, h4, h5, h6, h7⟩⟩ := h
  · exact absurd h.2 (by decide)
  subst h1
  refine ⟨g, cap, by omega, rfl, ⟨cur, h3, ?_, ?_, ?_, ?_⟩, hb⟩
  all_goals first | omega | assumption | (simpa using h6) | (simpa [bl, cB] using h7)
theorem or_top {x y : Int} (h0 : 0 ≤ x) (h1 : x < 128) (hy : 0 ≤ y ∧ y < 256) : bits .or .u8 x (y.tmod 2 * 128 % 256) = x + (if y % 2 = 1 then 128 else 0) := by
  have h : ∀ (a : Fin 128), bits .or .u8 (a.val : Int) 128 = (a.val : Int) + 128 ∧ bits .or .u8 (a.val : Int) 0 = (a.val : Int) := by decide +kernel
  have := h ⟨x.toNat, by omega⟩
  simp only [Int.toNat_of_nonneg h0] at this
  rw [Int.tmod_eq_emod_of_nonneg hy.1]
  rcases (by omega : y % 2 = 0 ∨ y % 2 = 1) with e | e
  · rw [e, if_neg (by decide)]; simpa using this.2
  rw [e, if_pos rfl]; simpa using this.1
def rb2L (x1 : Nat → Int) (y1 : Nat → Int) (n1 : Nat → Int) (w : World) (n2 : Nat → Int) (bx : Nat → Int) (n3 : Nat → Int) (bY : Nat → Int) (G1 : Nat) : List (Value → World → Prop) := [
  Eq1 (.pointer (some ⟨G1, 0, none⟩)),
  Eq1 (.agg (av x1)),
  Eq1 (.agg (av n1)),
  Eq1 (.agg (av n2)),
  RbW w bx,
  Eq1 (.pointer (some ⟨G1, 16, none⟩)),
  Eq1 (.agg (av y1)),
  Eq1 (.agg (av n1)),
  Eq1 (.agg (av n3)),
  RbW w bY,
  RbW w bx,
  RbW w bY]
theorem rb2S (x1 : Nat → Int) (y1 : Nat → Int) (n1 : Nat → Int) (w : World) (n2 : Nat → Int) (bx : Nat → Int) (n3 : Nat → Int) (bY : Nat → Int) (G1 : Nat) : ∀ j x' q q', (rb2L x1 y1 n1 w n2 bx n3 bY G1).getD j (fun _ _ => True) x' q → Below q.heap.size q q' → (rb2L x1 y1 n1 w n2 bx n3 bY G1).getD j (fun _ _ => True) x' q' := by
  refine sta_all _ ?_
  simp only [rb2L, List.mem_cons, forall_eq_or_imp, List.not_mem_nil, false_implies, implies_true, and_true]
  exact ⟨sta_eq _, sta_eq _, sta_eq _, sta_eq _, sta_rbw _ _, sta_eq _, sta_eq _, sta_eq _, sta_eq _, sta_rbw _ _, sta_rbw _ _, sta_rbw _ _⟩
set_option maxRecDepth 20000 in
set_option maxHeartbeats 8000000 in
theorem rBytesP_g {x1 : Nat → Int} {y1 : Nat → Int} {z1 : Nat → Int} {n1 : Nat → Int} {n2 : Nat → Int} {bx : Nat → Int} {n3 : Nat → Int} {bY : Nat → Int} {v31 : Int}
    (c1 : ∀ w, Calls Tryd.prog 66 #[.agg (av z1)] w (PostN n1 w))
    (c2 : ∀ w, Calls Tryd.prog 60 #[.agg (av x1), .agg (av n1)] w (PostN n2 w))
    (cbx : ∀ w, Calls Tryd.prog 67 #[.agg (av n2)] w (PostRb bx w))
    (c3 : ∀ w, Calls Tryd.prog 60 #[.agg (av y1), .agg (av n1)] w (PostN n3 w))
    (cby : ∀ w, Calls Tryd.prog 67 #[.agg (av n3)] w (PostRb bY w))
    (hor0 : bits .or .u8 (bY 31) ((bx 0).tmod 2 * 128 % 256) = v31)
    (w : World) : Calls Tryd.prog 19 #[.agg (tcf x1 y1 z1)] w (PostRb (fun j => if j = 31 then v31 else bY j) w) := by
  replace c1 := Lib.hid c1
  replace c2 := Lib.hid c2
  replace cbx := Lib.hid cbx
  replace c3 := Lib.hid c3
  replace cby := Lib.hid cby
  replace hor0 := Lib.hid hor0
  go_enter Tryd.func19, Tryd.ntmps19
  have hmk : True := trivial
  go_wp2_with (first | (clear hmk; refine at_fa rfl (fun W0 hW => ?_); have k1 : Blk W0 (w.heap.size) 35 ((tcf x1 y1 z1)) := (by rw [hW]; exact Blk.new _ _ _); have hb0 : Below w.heap.size w W0 := (by rw [hW]; go_grown); clear hW; obtain ⟨G1, hG1⟩ : ∃ G1, G1 = w.heap.size := ⟨_, rfl⟩; rw [← hG1] at k1 ⊢; have loG1 : w.heap.size ≤ G1 := (by omega); clear hG1) | (refine ldTx (by kernel_rfl) rfl rfl k1 ?_) | (refine ldTy (by kernel_rfl) rfl rfl k1 ?_) | (refine ldTz (by kernel_rfl) rfl rfl k1 ?_) | (refine ldTw (by kernel_rfl) rfl rfl k1 ?_))
  refine (c1.out _).mono ?_
  rintro e1 vc1_2 ⟨rfl, hbx⟩
  replace k1 := k1.below hbx
  replace hb0 := hb0.trans (hbx.mono hb0.size)
  clear hbx
  have k1lt := k1.lt
  have LO := hb0.size
  go_wp2_with (first | (refine stN (f := n1) (old := fun _ => 0) rfl rfl rfl rfl (Blk.new _ _ _) ?_; intro vp1 k3 hgr hsz; replace k1 := (k1.alloc _).grown hgr (fun hh => by injection hh with hh; omega); replace hb0 := (hb0.alloc hb0.size _).grown hgr (Nat.le_trans hb0.size (by simp)) (fun k hk => by injection hk with hk; have := hb0.size; omega); clear hgr hsz) | (refine ldTx (by kernel_rfl) rfl rfl k1 ?_) | (refine ldTy (by kernel_rfl) rfl rfl k1 ?_) | (refine ldTz (by kernel_rfl) rfl rfl k1 ?_) | (refine ldTw (by kernel_rfl) rfl rfl k1 ?_) | (refine ldNw (by kernel_rfl) rfl rfl k3 ?_))
  clear k1lt
  obtain ⟨g3, hg3⟩ : ∃ g, g = vc1_2.heap.size := ⟨_, rfl⟩
  rw [← hg3] at k3 LO ⊢
  have log3 := Lib.hid LO
  clear LO hg3
  refine wp_region_grow2 12 (fun k => (Nat.ble 4 k && Nat.ble k 5) || (Nat.ble 9 k && Nat.ble k 18)) _ [] (fun j x' q => (rb2L x1 y1 n1 w n2 bx n3 bY G1).getD j (fun _ _ => True) x' q) (fun _ => false) (fun f => #[.agg (tcf x1 y1 z1), .pointer (some ⟨G1, 0, none⟩), .slice none 0 0, .pointer (some ⟨g3, 0, none⟩), f 4, f 5, .pointer (some ⟨G1, 32, none⟩), .agg (av z1), .agg (av n1), f 9, f 10, f 11, f 12, f 13, f 14, f 15, f 16, f 17, f 18, undef, undef, undef, undef, undef, undef, undef, undef, undef, undef, undef, undef]) (fun f => rfl) (by kernel_rfl) (by kernel_rfl) (by kernel_rfl) (by kernel_rfl) (by kernel_rfl) (rb2S _ _ _ _ _ _ _ _ _) (fun _ _ _ h => by cases h) ?_ ?_
  · refine steps2_cons ?_ ?_
    · as_aux_lemma =>
      intro f w1 hb hd Q hK
      clear hd
      have hK := Lib.hid hK
      go_wp2
      exact hK.out _ _ rfl (.refl _ _) nof
    refine steps2_cons ?_ ?_
    · as_aux_lemma =>
      intro f w1 hb hd Q hK
      have e9 : f 9 = .pointer (some ⟨G1, 0, none⟩) := hd.1 rfl
      clear hd
      simp only [e9] at hK
      have hK := Lib.hid hK
      refine ldTx (by simp only [e9]; kernel_rfl) rfl e9 (k1.below hb) ?_
      refine wpList_nil ?_
      simp only [e9]
      exact hK.out _ _ rfl (.refl _ _) nof
    refine steps2_cons ?_ ?_
    · as_aux_lemma =>
      intro f w1 hb hd Q hK
      clear hd
      have hK := Lib.hid hK
      refine ldNw (by kernel_rfl) rfl rfl (k3.below hb) ?_
      refine wpList_nil ?_
      exact hK.out _ _ rfl (.refl _ _) nof
    refine steps2_cons ?_ ?_
    · as_aux_lemma =>
      intro f w1 hb hd Q hK
      have e10 : f 10 = .agg (av x1) := hd.1 rfl
      have e11 : f 11 = .agg (av n1) := hd.2.1 rfl
      clear hd
      simp only [e10, e11] at hK
      have hK := Lib.hid hK
      go_wp2_with fail
      refine (c2.out _).mono ?_
      rintro e w2 ⟨rfl, hb2⟩
      go_wp2
      exact hK.out _ _ rfl hb2 nof
    refine steps2_cons ?_ ?_
    · as_aux_lemma =>
      intro f w1 hb hd Q hK
      have e12 : f 12 = .agg (av n2) := hd.1 rfl
      clear hd
      simp only [e12] at hK
      have hK := Lib.hid hK
      go_wp2_with fail
      refine (cbx.out _).mono ?_
      rintro e w2 ⟨g, c, hg, rfl, hR, hb2⟩
      go_wp2
      exact hK.out _ _ ⟨g, c, rfl, Nat.le_trans hb0.size (Nat.le_trans hb.size hg), hR⟩ hb2 nof
    refine steps2_cons ?_ ?_
    · as_aux_lemma =>
      intro f w1 hb hd Q hK
      clear hd
      have hK := Lib.hid hK
      go_wp2
      exact hK.out _ _ rfl (.refl _ _) nof
    refine steps2_cons ?_ ?_
    · as_aux_lemma =>
      intro f w1 hb hd Q hK
      have e14 : f 14 = .pointer (some ⟨G1, 16, none⟩) := hd.1 rfl
      clear hd
      simp only [e14] at hK
      have hK := Lib.hid hK
      refine ldTy (by simp only [e14]; kernel_rfl) rfl e14 (k1.below hb) ?_
      refine wpList_nil ?_
      simp only [e14]
      exact hK.out _ _ rfl (.refl _ _) nof
    refine steps2_cons ?_ ?_
    · as_aux_lemma =>
      intro f w1 hb hd Q hK
      clear hd
      have hK := Lib.hid hK
      refine ldNw (by kernel_rfl) rfl rfl (k3.below hb) ?_
      refine wpList_nil ?_
      exact hK.out _ _ rfl (.refl _ _) nof
    refine steps2_cons ?_ ?_
    · as_aux_lemma =>
      intro f w1 hb hd Q hK
      have e15 : f 15 = .agg (av y1) := hd.1 rfl
      have e16 : f 16 = .agg (av n1) := hd.2.1 rfl
      clear hd
      simp only [e15, e16] at hK
      have hK := Lib.hid hK
      go_wp2_with fail
      refine (c3.out _).mono ?_
      rintro e w2 ⟨rfl, hb2⟩
      go_wp2
      exact hK.out _ _ rfl hb2 nof
    refine steps2_cons ?_ ?_
    · as_aux_lemma =>
      intro f w1 hb hd Q hK
      have e17 : f 17 = .agg (av n3) := hd.1 rfl
      clear hd
      simp only [e17] at hK
      have hK := Lib.hid hK
      go_wp2_with fail
      refine (cby.out _).mono ?_
      rintro e w2 ⟨g, c, hg, rfl, hR, hb2⟩
      go_wp2
      exact hK.out _ _ ⟨g, c, rfl, Nat.le_trans hb0.size (Nat.le_trans hb.size hg), hR⟩ hb2 nof
    refine steps2_cons ?_ ?_
    · as_aux_lemma =>
      intro f w1 hb hd Q hK
      obtain ⟨g13, c13, e13, l13, h13⟩ := (hd.1 rfl : RbW w bx (f 13) w1)
      clear hd
      simp only [e13] at hK
      have hK := Lib.hid hK
      go_wp2
      exact hK.out _ _ ⟨g13, c13, rfl, l13, h13⟩ (.refl _ _) nof
    refine steps2_cons ?_ ?_
    · as_aux_lemma =>
      intro f w1 hb hd Q hK
      obtain ⟨g18, c18, e18, l18, h18⟩ := (hd.1 rfl : RbW w bY (f 18) w1)
      clear hd
      simp only [e18] at hK
      have hK := Lib.hid hK
      go_wp2
      exact hK.out _ _ ⟨g18, c18, rfl, l18, h18⟩ (.refl _ _) nof
    trivial
  intro f2 vd2 hb hf hne
  refine wpList_nil ?_
  obtain ⟨g4, c4, d4, l4, h4⟩ : RbW w bx (f2 4) vd2 := hf 10 _ _ (by decide) rfl rfl
  obtain ⟨g5, c5, d5, l5, h5⟩ : RbW w bY (f2 5) vd2 := hf 11 _ _ (by decide) rfl rfl
  clear hf hne
  simp only [d4, d5]
  clear d4 d5
  replace k1 := k1.below hb
  replace k3 := k3.below hb
  replace hb0 := hb0.trans (hb.mono hb0.size)
  clear hb
  go_wp2
  have q31 := h5.cell 31 (by decide)
  have q0 := h4.cell 0 (by decide)
  have fz := fun i => h5.frozen i
  have hl5 := h5.lt
  go_region
  rw [hor0.out]
  have hR := h5.set_ 31 (by decide) v31
  have hb' := hb0.setCell (p := ⟨g5, 31, none⟩) l5 (.int .u8 v31)
  clear q31 q0 fz hl5 h5 h4 hb0
  replace hR := Lib.hid hR
  replace hb' := Lib.hid hb'
  go_wp2
  go_returns
  exact ⟨g5, c5, l5, rfl, hR.out, hb'.out.drew⟩
end Go.Proofs.YtpaldgajkhmhbaaDoor

namespace Fe
/-- a point's bytes -/
def enc (x y : Fin P) (j : Nat) : Int := Go.Proofs.YtpaldgajkhmhbaaDoor.ptB y.val x.val j
theorem rb_r (n j : Nat) : 0 ≤ Dg.rb n j ∧ Dg.rb n j < 256 := by
  unfold Dg.rb; omega
end Fe

namespace Go.Proofs.YtpaldgajkhmhbaaDoor
open Go.RowKit
/-- a pair of the reference, some bytes of it -/
def RqP (x y : Fin Fe.P) : Value → World → Prop := fun v _ => ∃ a b c, v = .agg (tcs a b c) ∧ Fe.RA a b c x y
theorem sta_rq (x y : Fin Fe.P) : Sta (RqP x y) := fun _ _ _ h _ => h
def RbQ (x y : Fin Fe.P) : Value → World → Prop := fun v w => ∃ g c, v = .slice (some ⟨g, 0, none⟩) 32 c ∧ RowB w g 32 c (fun j => ptB y.val x.val j)
theorem sta_rbq (x y : Fin Fe.P) : Sta (RbQ x y) := fun _ _ _ h hb => h.elim fun g h => h.elim fun c h => ⟨g, c, h.1, h.2.below hb⟩
/-- a new block for a pair -/
def NewS (B : Nat) : Value → World → Prop := fun v w => ∃ g, v = .pointer (some ⟨g, 0, none⟩) ∧ B ≤ g ∧ ∃ old, Blk w g 35 old ∧ old.size = 48
theorem sta_ns (B : Nat) : Sta (NewS B) := fun _ _ _ h hb => h.elim fun g h => ⟨g, h.1, h.2.1, h.2.2.elim fun o h => ⟨o, h.1.below hb, h.2⟩⟩
theorem Fe_ra_xy {a b c : Nat} {x y : Fin Fe.P} (h : Fe.RA a b c x y) : a * (c ^ (Fe.P - 2) % Fe.P) % Fe.P = x.val ∧ b * (c ^ (Fe.P - 2) % Fe.P) % Fe.P = y.val := by
  have hp : Fe.PA a b c (x * y * Fe.zf c).val x y := ⟨h.la, h.lb, h.lc, (x * y * Fe.zf c).isLt, h.nz, h.hx, h.hy, Fe.zf_val _, h.cv⟩
  exact ⟨Fe.pa_x hp, Fe.pa_y hp⟩
theorem rbytes_c {a b c : Nat} {x y : Fin Fe.P} (h : Fe.RA a b c x y) (w : World) : Calls Tryd.prog 19 #[.agg (tcs a b c)] w (PostRb (fun j => ptB y.val x.val j) w) := by
  obtain ⟨hx, hy⟩ := Fe_ra_xy h
  have l := Fe.mod_lt'
  have c1 := rInv_c c h.lc
  have c2 := rMul_c a (c ^ (Fe.P - 2) % Fe.P) h.la (l _)
  have c3 := rMul_c b (c ^ (Fe.P - 2) % Fe.P) h.lb (l _)
  rw [hx] at c2
  rw [hy] at c3
  have hlt : Dg.rb y.val 31 < 128 := (rb31 y.isLt).2
  have hr := Fe.rb_r
  refine (rBytesP_g c1 c2 (rb_own x.val) c3 (rb_own y.val) (or_top (hr _ _).1 hlt (hr _ _)) w).mono ?_
  rintro e w' ⟨g, cc, hg, he, hR, hb⟩
  refine ⟨g, cc, hg, he, hR.congr fun j _ => ?_, hb⟩
  unfold ptB
  split
  · congr 1
    have hm : (Dg.rb x.val 0 % 2 = 1) ↔ (x.val % 2 = 1) := by
      unfold Dg.rb
      omega
    by_cases q : x.val % 2 = 1
    · rw [if_pos q, if_pos (hm.2 q)]
    rw [if_neg q, if_neg (fun z => q (hm.1 z))]
  rfl
theorem rsameV {a b c a2 b2 c2 : Nat} {x y x2 y2 : Fin Fe.P} {v : Bool} (h : Fe.RA a b c x y) (k : Fe.RA a2 b2 c2 x2 y2) (e : (decide (x = x2) && decide (y = y2)) = v) (w : World) : Calls Tryd.prog 20 #[.agg (tcs a b c), .agg (tcs a2 b2 c2)] w (PostV (.bool v) w) := by
  rw [← e]; exact rsame_c h k w
end Go.Proofs.YtpaldgajkhmhbaaDoor
