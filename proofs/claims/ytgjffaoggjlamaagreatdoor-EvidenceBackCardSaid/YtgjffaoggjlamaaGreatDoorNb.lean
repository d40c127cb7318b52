/- root: a root's text; Right, Text. root: Text, Put. root: Put. root: Put, whole. root: bytes.Clone, NewReader. root: Get's closure. root: Get. -/
import Derived.Test.YtgjffaoggjlamaaGreatDoorNa
import Derived.Test.YtgjffaoggjlamaaGreatDoorCu
import Derived.Test.YtgjffaoggjlamaaGreatDoorCv
import Derived.Deep.RegionHeld3
namespace Go.Proofs.YtgjffaoggjlamaaGreatDoor
open Go Go.RowKit
set_option maxRecDepth 20000 in
set_option maxHeartbeats 1000000 in
theorem wjoin_c (g c : Nat) (cs : List Value) (l : Sh.Ps) (w : World) (hg : g < w.heap.size) (hcell : ∀ j u, cs[j]? = some u → w.cell? ⟨g, 0 + j, none⟩ = some u) (hl : PVs w cs l) (h0 : 0 < Sh.lenI l) (hn : Sh.lenI l ≤ 10000000) (hk : cs.length ≤ 1000000) : Calls Tryz.prog 83 #[.slice (some ⟨g, 0, none⟩) cs.length c] w (PostBs (Sh.lenI l) (Sh.catI l) w) := by
  have hc := Lib.hid (concat_c g 0 c cs l w hg hcell hl h0 hn hk)
  clear hcell hl h0 hn hk
  go_enter Tryz.func83, Tryz.ntmps83
  go_wp2_with fail
  refine hc.out.mono ?_
  rintro e w2 ⟨g2, c2, rfl, hg2, hR, hb⟩
  have hP := Lib.hid (show PostBs (Sh.lenI l) (Sh.catI l) w (.returned (.slice (some ⟨g2, 0, none⟩) (Sh.lenI l) c2)) w2 from ⟨g2, c2, rfl, hg2, hR, hb⟩)
  clear hR hb hc hg2
  go_wp2_with fail
  go_returns
  exact hP.out
theorem blk5v {w : World} {g : Nat} {t : TypeId} {x0 x1 x2 x3 x4 : Value} (h : Blk w g t #[x0, x1, x2, x3, x4]) : w.cell? ⟨g, 0, none⟩ = some x0 ∧ w.cell? ⟨g, 1, none⟩ = some x1 ∧ w.cell? ⟨g, 2, none⟩ = some x2 ∧ w.cell? ⟨g, 3, none⟩ = some x3 ∧ w.cell? ⟨g, 4, none⟩ = some x4 := ⟨h.cell 0, h.cell 1, h.cell 2, h.cell 3, h.cell 4⟩
/-- a root's text -/
def txI (r h q : Int) (S : Nat → Int) : Nat → Int := Sh.catI [(1, fun _ => 2), (24, num3 r h q), (64, S)]
theorem BX.below {w w' : World} {p : Option Addr} {n : Nat} {b : Nat → Int} (h : BX [] w p n b) (hb : Below w.heap.size w w') : BX [] w' p n b := h.ext (Ext.below hb)
theorem blk_pv1 {w : World} {g : Nat} {x : Int} (h : Blk w g 5 #[.int .u8 x]) : PV w (.slice (some ⟨g, 0, none⟩) 1 1) 1 (fun _ => x) := ⟨_, 1, rfl, Nat.le_refl _, fun _ => ⟨g, 0, rfl, h.lt, by simp, fun j hj => by
  obtain rfl : j = 0 := by omega
  exact h.cell 0⟩⟩
set_option maxRecDepth 20000 in
set_option maxHeartbeats 8000000 in
theorem ptext_c (r h q : Int) (p1 : Option Addr) (c1 : Nat) (p2 : Option Addr) (n2 c2 : Nat) (S : Nat → Int) (hc1 : 64 ≤ c1) (hr : 0 ≤ r ∧ r < 4611686018427387904) (hh : 0 ≤ h ∧ h < 4611686018427387904) (hq : 0 ≤ q ∧ q < 4611686018427387904) (w : World) (hS : BX [] w p1 64 S) :
    Calls Tryz.prog 68 #[.agg #[.int .i64 r, .int .i64 h, .int .i64 q, .slice p1 64 c1, .slice p2 n2 c2]] w (PostBs 89 (txI r h q S) w) := by
  have hnum := Lib.hid (fun g w' (hB : Blk w' g 3 #[.int .i64 r, .int .i64 h, .int .i64 q]) => nums_c g r h q hr hh hq w' hB)
  have hj := Lib.hid (fun gA g7 c7 gP W3 (hA : Blk W3 gA 5 #[.int .u8 2]) (hR : RowB W3 g7 24 c7 (num3 r h q)) (hx : BX [] W3 p1 64 S) (hP : Blk W3 gP 26 #[.slice (some ⟨gA, 0, none⟩) 1 1, .slice (some ⟨g7, 0, none⟩) 24 c7, .slice p1 64 c1]) => show Calls Tryz.prog 83 #[.slice (some ⟨gP, 0, none⟩) 3 3] W3 (PostBs 89 (txI r h q S) W3) from wjoin_c gP 3 [.slice (some ⟨gA, 0, none⟩) 1 1, .slice (some ⟨g7, 0, none⟩) 24 c7, .slice p1 64 c1] [(1, fun _ => 2), (24, num3 r h q), (64, S)] W3 hP.lt (fun j u hu => by rw [Nat.zero_add, hP.cell j]; simpa using hu) ⟨blk_pv1 hA, hR.pv, ⟨p1, c1, rfl, hc1, hx⟩, trivial⟩ (by show 0 < 1 + (24 + (64 + 0)); decide) (by show 1 + (24 + (64 + 0)) ≤ 10000000; decide) (by show 3 ≤ 1000000; decide))
  obtain ⟨N3, hN3⟩ : ∃ N, N = num3 r h q := ⟨_, rfl⟩
  obtain ⟨TX, hTX⟩ : ∃ N, N = txI r h q S := ⟨_, rfl⟩
  rw [← hTX] at hj ⊢
  rw [← hN3] at hnum hj
  replace hS := Lib.hid hS
  clear hr hh hq hN3 hTX
  go_enter Tryz.func68, Tryz.ntmps68
  go_wp2
  refine at_world (fun W0 hW => ?_)
  have hG : Blk W0 w.heap.size 101 #[.int .i64 r, .int .i64 h, .int .i64 q, .slice p1 64 c1, .slice p2 n2 c2] := by rw [hW]; exact Blk.new _ _ _
  have hb0 : Below w.heap.size w W0 := by rw [hW]; go_grown
  replace hS := Lib.hid (hS.out.below hb0)
  have hBs : w.heap.size ≤ W0.heap.size := hb0.size
  clear hW
  generalize hgb : w.heap.size = gb at *
  go_region_held3 (fun w' => w'.cell? ⟨gb, 0, none⟩ = some (.int .i64 r) ∧ w'.cell? ⟨gb, 1, none⟩ = some (.int .i64 h) ∧ w'.cell? ⟨gb, 2, none⟩ = some (.int .i64 q) ∧ w'.cell? ⟨gb, 3, none⟩ = some (.slice p1 64 c1) ∧ w'.cell? ⟨gb, 4, none⟩ = some (.slice p2 n2 c2)) (first | exact blk5v hG | exact blk5v hG2 | exact blk5v hG3 | exact blk5v (hG2.alloc _) | exact blk5v ((hG2.alloc _).alloc _) | exact blk5v (hG.alloc _) | exact blk5v ((hG.alloc _).alloc _) | exact blk5v hG.drew | exact blk5v (hG.alloc _).drew | exact blk5v ((hG.alloc _).alloc _).drew) (first | (go_at_call 132; refine calls_at (fun W1 hW1 => ?_); have hb1 : Below W0.heap.size W0 W1 := (by rw [hW1]; go_grown); (first | have h2 : Blk W1 W0.heap.size 5 #[.int .u8 2] := (by rw [hW1]; exact ((Blk.new _ _ _).alloc _).drew) | have h2 : Blk W1 (W0.heap.size + 1) 5 #[.int .u8 2] := (by rw [hW1]; exact (blk_at (by simp) (Blk.new _ _ _)).drew) | skip); refine (hnum.out _ _ (by rw [hW1]; first | exact (blk_at (by simp) (Blk.new _ _ _)).drew | exact (blk_at (by simp) ((Blk.new _ _ _).alloc _)).drew)).mono ?_; clear hW1; rintro e w2 ⟨g7, c7, rfl, hg7, hR7, hb2⟩; have hG2 := (hG.below hb1).below hb2; (try have h22 := h2.below hb2); have hS2 := Lib.hid (hS.out.below (hb1.trans (hb2.mono hb1.size))); have hb02 := hb0.trans ((hb1.trans (hb2.mono hb1.size)).mono hBs); have hbs2 := Nat.le_trans hBs (Nat.le_trans hb1.size hb2.size)) | (go_at_call 83; refine calls_at (fun W3 hW3 => ?_); have hb3 : Below w2.heap.size w2 W3 := (by rw [hW3]; go_grown); (first | have h23 := h22.below hb3 | have h23 : Blk W3 w2.heap.size 5 #[.int .u8 2] := (by rw [hW3]; exact (Blk.new _ _ _).alloc _)); refine (hj.out _ g7 c7 _ W3 h23 (hR7.below hb3) (hS2.out.below hb3) (by rw [hW3]; first | exact Blk.new _ _ _ | exact blk_at (by simp) (Blk.new _ _ _))).mono ?_; clear hW3; rintro e w4 ⟨g8, c8, rfl, hg8, hR8, hb4⟩; have hG3 := (hG2.below hb3).below hb4; have hb04 := hb02.trans ((hb3.trans (hb4.mono hb3.size)).mono hbs2); have hg8' := Nat.le_trans hbs2 (Nat.le_trans hb3.size hg8)))
  all_goals
    go_wp2
    go_returns
    subst hgb
    exact ⟨g8, c8, rfl, hg8', hR8, hb04⟩
set_option maxRecDepth 20000 in
set_option maxHeartbeats 2000000 in
theorem rright_c (r h q : Int) (p1 : Option Addr) (n1 c1 : Nat) (p2 : Option Addr) (n2 c2 : Nat) (w : World) :
    Calls Tryz.prog 67 #[.agg #[.int .i64 r, .int .i64 h, .int .i64 q, .slice p1 n1 c1, .slice p2 n2 c2]] w (PostV (.bool (shT r h q n1 && decide (n2 = 64))) w) := by
  have hsh := Lib.hid (fun w1 => rshape_c r h q p1 n1 c1 p2 n2 c2 w1)
  obtain ⟨E, hE⟩ : ∃ E, E = shT r h q n1 := ⟨_, rfl⟩
  rw [← hE] at hsh ⊢
  clear hE
  go_enter Tryz.func67, Tryz.ntmps67
  go_wp2_with fail
  refine calls_at (fun w1 hW => ?_)
  have k1 : Blk w1 w.heap.size 101 #[.int .i64 r, .int .i64 h, .int .i64 q, .slice p1 n1 c1, .slice p2 n2 c2] := by rw [hW]; exact Blk.new _ _ _
  have hb1 : Below w.heap.size w w1 := by rw [hW]; exact (Below.refl _ _).alloc (Nat.le_refl _) _
  generalize hgb : w.heap.size = gb at *
  clear hW
  refine (hsh.out w1).mono ?_
  rintro e w2 ⟨rfl, hb2⟩
  have c4 : w2.cell? ⟨gb, 4, none⟩ = some (.slice p2 n2 c2) := (k1.below hb2).cell 4
  have hb : Below gb w w2 := hb1.trans (hb2.mono (by have := hb1.size; omega))
  replace hb := Lib.hid hb
  replace hgb := Lib.hid hgb
  clear hb1 hb2 k1 hsh
  cases E with
  | false =>
    go_wp2
    go_returns
    exact ⟨rfl, hgb.out ▸ hb.out⟩
  | true =>
    have h64 : ((n2 : Int) == 64) = (true && decide (n2 = 64)) := by rw [Bool.eq_iff_iff]; simp; omega
    replace h64 := Lib.hid h64
    go_wp2
    go_returns
    exact ⟨congrArg (fun b => Ending.returned (.bool b)) h64.out, hgb.out ▸ hb.out⟩
set_option maxRecDepth 20000 in
set_option maxHeartbeats 2000000 in
theorem Right_c (r h q : Int) (p1 : Option Addr) (n1 c1 : Nat) (p2 : Option Addr) (n2 c2 : Nat) (w : World) :
    Calls Tryz.prog 27 #[.agg #[.int .i64 r, .int .i64 h, .int .i64 q, .slice p1 n1 c1, .slice p2 n2 c2]] w (PostV (.bool (shT r h q n1 && decide (n2 = 64))) w) := by
  have hsh := Lib.hid (fun w1 (hb : Below w.heap.size w w1) => (rright_c r h q p1 n1 c1 p2 n2 c2 w1).mono fun e w' k => (⟨k.1, hb.trans (k.2.mono hb.size)⟩ : PostV (.bool (shT r h q n1 && decide (n2 = 64))) w e w'))
  generalize (shT r h q n1 && decide (n2 = 64)) = E at *
  go_enter Tryz.func27, Tryz.ntmps27
  go_wp2_with fail
  refine (hsh.out _ ((Below.refl _ _).alloc (Nat.le_refl _) _)).mono ?_
  rintro e w2 ⟨rfl, hb⟩
  replace hb := Lib.hid hb
  clear hsh
  go_wp2
  go_returns
  exact ⟨rfl, hb.out⟩
end Go.Proofs.YtgjffaoggjlamaaGreatDoor

namespace Go.Proofs.YtgjffaoggjlamaaGreatDoor
open Go Go.RowKit
/-- what a root's text is: of a right shape alone -/
def PostTx (r h q : Int) (n : Nat) (S : Nat → Int) (w : World) (e : Ending) (w' : World) : Prop := if shT r h q n then PostBs 89 (txI r h q S) w e w' else PostV (.slice none 0 0) w e w'
set_option maxRecDepth 20000 in
set_option maxHeartbeats 2000000 in
theorem Text_c (r h q : Int) (p1 : Option Addr) (n1 c1 : Nat) (p2 : Option Addr) (n2 c2 : Nat) (S : Nat → Int) (hc1 : n1 ≤ c1) (w : World) (hS : BX [] w p1 n1 S) :
    Calls Tryz.prog 31 #[.agg #[.int .i64 r, .int .i64 h, .int .i64 q, .slice p1 n1 c1, .slice p2 n2 c2]] w (PostTx r h q n1 S w) := by
  have hsh := Lib.hid (fun w1 => rshape_c r h q p1 n1 c1 p2 n2 c2 w1)
  have htx : shT r h q n1 = true → ∀ w1, Below w.heap.size w w1 → Calls Tryz.prog 68 #[.agg #[.int .i64 r, .int .i64 h, .int .i64 q, .slice p1 n1 c1, .slice p2 n2 c2]] w1 (PostBs 89 (txI r h q S) w1) := fun e w1 hb => by
    obtain ⟨a1, a2, a3, a4, a5, a6, a7⟩ := shT_true e
    subst a7
    exact ptext_c r h q p1 c1 p2 n2 c2 S hc1 (by omega) (by omega) (by omega) w1 (hS.below hb)
  unfold PostTx
  generalize shT r h q n1 = E at *
  obtain ⟨TX, hTX⟩ : ∃ N, N = txI r h q S := ⟨_, rfl⟩
  rw [← hTX] at htx ⊢
  clear hS hc1 hTX
  replace htx := Lib.hid htx
  go_enter Tryz.func31, Tryz.ntmps31
  go_wp2_with fail
  refine calls_at (fun w1 hW => ?_)
  obtain ⟨gb, hgb⟩ : ∃ gb, gb = w.heap.size := ⟨_, rfl⟩
  have k1 : Blk w1 (gb + 1) 101 #[.int .i64 r, .int .i64 h, .int .i64 q, .slice p1 n1 c1, .slice p2 n2 c2] := by
    rw [hW, hgb]
    exact blk_at (by simp) (Blk.new _ _ _)
  have hb1 : Below w.heap.size w w1 := by rw [hW]; go_grown
  rw [← hgb]
  clear hW hgb
  refine (hsh.out w1).mono ?_
  rintro e w2 ⟨rfl, hb2⟩
  obtain ⟨x0, x1, x2, x3, x4⟩ := blk5v (k1.below hb2)
  have hs1 := hb1.size
  have hb := hb1.trans (hb2.mono hs1)
  have htx2 := fun e => Lib.hid (htx.out e w2 hb)
  replace hb := Lib.hid hb
  have hs := hb.out.size
  clear hb1 hb2 k1 hsh htx hs1
  cases E with
  | false =>
    clear htx2
    go_wp2
    go_returns
    exact ⟨rfl, hb.out⟩
  | true =>
    have htx := htx2 rfl
    clear htx2
    go_wp2_with fail
    refine htx.out.mono ?_
    rintro e w3 ⟨g8, c8, rfl, hg8, hR8, hb3⟩
    have hP := Lib.hid (show PostBs 89 TX w (.returned (.slice (some ⟨g8, 0, none⟩) 89 c8)) w3 from ⟨g8, c8, rfl, Nat.le_trans hs hg8, hR8, hb.out.trans (hb3.mono hs)⟩)
    clear hR8 hb3 htx hg8
    go_wp2_with fail
    go_returns
    exact hP.out
end Go.Proofs.YtgjffaoggjlamaaGreatDoor

namespace Go.Proofs.YtgjffaoggjlamaaGreatDoor
open Go Go.RowKit
/-- a root's bytes -/
def rpI (r h q : Int) (S G : Nat → Int) : Nat → Int := Sh.catI [(89, txI r h q S), (64, G)]
set_option maxRecDepth 20000 in
set_option maxHeartbeats 4000000 in
theorem putCl_err (gr : Nat) (r h q : Int) (p1 : Option Addr) (n1 c1 : Nat) (p2 : Option Addr) (n2 c2 : Nat) (hno : (shT r h q n1 && decide (n2 = 64)) = false) (w : World) (hB : Blk w gr 28 #[.int .i64 r, .int .i64 h, .int .i64 q, .slice p1 n1 c1, .slice p2 n2 c2]) :
    Calls Tryz.prog 82 #[.pointer (some ⟨gr, 0, none⟩)] w fun e w' => e = .panicked (errP 4) ∧ Below w.heap.size w w' := by
  have hr := fun w1 => rright_c r h q p1 n1 c1 p2 n2 c2 w1
  rw [hno] at hr
  replace hr := Lib.hid hr
  have hmt := Lib.hid (rmust_f 4)
  obtain ⟨x0, x1, x2, x3, x4⟩ := blk5v hB
  have hl := hB.lt
  clear hB hno
  go_enter Tryz.func82, Tryz.ntmps82
  go_wp2_with fail
  refine calls_at (fun w1 hW => ?_)
  have hb1 : Below w.heap.size w w1 := by rw [hW]; go_grown
  clear hW
  refine (hr.out w1).mono ?_
  rintro e w2 ⟨rfl, hb2⟩
  replace hb2 := Lib.hid (hb1.trans (hb2.mono hb1.size))
  clear hr hb1
  go_wp2_with fail
  refine (hmt.out w2).mono ?_
  rintro e w3 ⟨rfl, rfl⟩
  go_wp2_with fail
  exact ⟨rfl, rfl, hb2.out⟩
set_option maxRecDepth 20000 in
set_option maxHeartbeats 4000000 in
theorem putCl_ok (gr : Nat) (r h q : Int) (p1 : Option Addr) (c1 : Nat) (p2 : Option Addr) (c2 : Nat) (S G : Nat → Int) (hyes : shT r h q 64 = true) (hc1 : 64 ≤ c1) (hc2 : 64 ≤ c2) (w : World) (hB : Blk w gr 28 #[.int .i64 r, .int .i64 h, .int .i64 q, .slice p1 64 c1, .slice p2 64 c2]) (hS : BX [] w p1 64 S) (hG : BX [] w p2 64 G) :
    Calls Tryz.prog 82 #[.pointer (some ⟨gr, 0, none⟩)] w (PostBs 153 (rpI r h q S G) w) := by
  have hr := fun w1 => rright_c r h q p1 64 c1 p2 64 c2 w1
  rw [hyes] at hr
  replace hr := Lib.hid (fun w1 => show Calls Tryz.prog 67 #[.agg #[.int .i64 r, .int .i64 h, .int .i64 q, .slice p1 64 c1, .slice p2 64 c2]] w1 (PostV (.bool true) w1) from hr w1)
  obtain ⟨a1, a2, a3, a4, a5, a6, _⟩ := shT_true hyes
  have htx := Lib.hid (fun w1 (hb : Below w.heap.size w w1) => ptext_c r h q p1 c1 p2 64 c2 S hc1 (by omega) (by omega) (by omega) w1 (hS.below hb))
  have hj := fun g8 c8 gP W3 (hb : Below w.heap.size w W3) (hR : RowB W3 g8 89 c8 (txI r h q S)) (hP : Blk W3 gP 26 #[.slice (some ⟨g8, 0, none⟩) 89 c8, .slice p2 64 c2]) => show Calls Tryz.prog 83 #[.slice (some ⟨gP, 0, none⟩) 2 2] W3 (PostBs 153 (rpI r h q S G) W3) from wjoin_c gP 2 [.slice (some ⟨g8, 0, none⟩) 89 c8, .slice p2 64 c2] [(89, txI r h q S), (64, G)] W3 hP.lt (fun j u hu => by rw [Nat.zero_add, hP.cell j]; simpa using hu) ⟨hR.pv, ⟨p2, c2, rfl, hc2, hG.below hb⟩, trivial⟩ (by show 0 < 89 + (64 + 0); decide) (by show 89 + (64 + 0) ≤ 10000000; decide) (by show 2 ≤ 1000000; decide)
  obtain ⟨TX, hTX⟩ : ∃ N, N = txI r h q S := ⟨_, rfl⟩
  obtain ⟨PX', hPX⟩ : ∃ N, N = rpI r h q S G := ⟨_, rfl⟩
  rw [← hPX] at hj ⊢
  rw [← hTX] at hj htx
  replace hj := Lib.hid hj
  have hmt := Lib.hid (rmust_t 4)
  obtain ⟨x0, x1, x2, x3, x4⟩ := blk5v hB
  have hl := hB.lt
  clear hB hyes a1 a2 a3 a4 a5 a6 hS hG hTX hPX
  go_enter Tryz.func82, Tryz.ntmps82
  go_wp2_with fail
  refine calls_at (fun w1 hW => ?_)
  have hb1 : Below w.heap.size w w1 := by rw [hW]; go_grown
  obtain ⟨gb, hgb⟩ : ∃ gb, gb = w.heap.size := ⟨_, rfl⟩
  have k1 : Blk w1 gb 101 #[.int .i64 r, .int .i64 h, .int .i64 q, .slice p1 64 c1, .slice p2 64 c2] := by rw [hW, hgb]; exact Blk.new _ _ _
  rw [← hgb]
  clear hW hgb
  refine (hr.out w1).mono ?_
  rintro e w2 ⟨rfl, hb2⟩
  have k2 := k1.below hb2
  have hb := hb1.trans (hb2.mono hb1.size)
  replace k2 := Lib.hid k2
  clear hr hb1 hb2 k1
  go_wp2_with fail
  refine (hmt.out w2).mono ?_
  rintro e w3 ⟨rfl, rfl⟩
  have hb0 := Below.refl w2.heap.size w2
  obtain ⟨y0, y1, y2, y3, y4⟩ := blk5v k2.out
  have hs := hb.size
  go_wp2_with fail
  go_region_held3 (fun w' => w'.cell? ⟨gb, 0, none⟩ = some (.int .i64 r) ∧ w'.cell? ⟨gb, 1, none⟩ = some (.int .i64 h) ∧ w'.cell? ⟨gb, 2, none⟩ = some (.int .i64 q) ∧ w'.cell? ⟨gb, 3, none⟩ = some (.slice p1 64 c1) ∧ w'.cell? ⟨gb, 4, none⟩ = some (.slice p2 64 c2)) (first | exact blk5v (k2.out.below k6) | exact blk5v ((k2.out.below k4).alloc _) | exact blk5v (k2.out.below k4) | exact blk5v (k2.out.below hb0.drew) | exact blk5v (k2.out.below hb0)) (first | (go_at_call 68; refine (htx.out _ (hb.trans (hb0.drew.mono hs))).mono ?_; rintro e w4 ⟨g8, c8, rfl, hg8, hR8, k4⟩; replace hR8 := Lib.hid hR8; replace k4 := hb0.drew.trans (k4.mono hb0.size)) | (go_at_call 83; refine calls_at (fun W5 hW5 => ?_); have k5 : Below w4.heap.size w4 W5 := (by rw [hW5]; go_grown); refine (hj.out g8 c8 w4.heap.size W5 (hb.trans ((k4.trans (k5.mono k4.size)).mono hs)) (hR8.out.below k5) (by rw [hW5]; exact Blk.new _ _ _)).mono ?_; clear hW5; rintro e w6 ⟨g9, c9, rfl, hg9, hR9, k6⟩; replace k6 := (k4.trans (k5.mono k4.size)).trans (k6.mono (Nat.le_trans k4.size k5.size)); have hg9' := Nat.le_trans hs (Nat.le_trans k4.size (Nat.le_trans k5.size hg9))))
  have hP := Lib.hid (show PostBs 153 PX' w (.returned (.slice (some ⟨g9, 0, none⟩) 153 c9)) w6 from ⟨g9, c9, rfl, hg9', hR9, hb.trans (k6.mono hs)⟩)
  clear hR9 k6 k4 htx hj hR8 hmt
  go_wp2_with fail
  go_returns
  exact hP.out
end Go.Proofs.YtgjffaoggjlamaaGreatDoor

namespace Go.Proofs.YtgjffaoggjlamaaGreatDoor
open Go Go.RowKit
set_option maxRecDepth 20000 in
set_option maxHeartbeats 2000000 in
theorem Put_err (r h q : Int) (p1 : Option Addr) (n1 c1 : Nat) (p2 : Option Addr) (n2 c2 : Nat) (hno : (shT r h q n1 && decide (n2 = 64)) = false) (w : World) :
    Calls Tryz.prog 26 #[.agg #[.int .i64 r, .int .i64 h, .int .i64 q, .slice p1 n1 c1, .slice p2 n2 c2]] w fun e w' => e = .returned (.tuple #[.slice none 0 0, .int .i64 4]) ∧ Below w.heap.size w w' := by
  have hmf : ∀ (fn : Fn) (first cap : Array Value) (w : World), (Instr.makeFunc fn first cap).run Tryz.prog w = .ok (.func fn first cap) w := fun _ _ _ _ => rfl
  have ht := Lib.hid (fun gr w1 (hB : Blk w1 gr 28 #[.int .i64 r, .int .i64 h, .int .i64 q, .slice p1 n1 c1, .slice p2 n2 c2]) => rtPut_err gr 4 w1 (fun w2 hb => putCl_err gr r h q p1 n1 c1 p2 n2 c2 hno w2 (hB.below hb)))
  clear hno
  go_enter Tryz.func26, Tryz.ntmps26
  go_wp2_with fail
  refine calls_at (fun w1 hW => ?_)
  have hb1 : Below w.heap.size w w1 := by rw [hW]; go_grown
  refine (ht.out w.heap.size w1 (by rw [hW]; exact Blk.new _ _ _)).mono ?_
  clear hW
  rintro e w2 ⟨rfl, hb2⟩
  replace hb2 := Lib.hid (hb1.trans (hb2.mono hb1.size))
  clear ht hb1
  go_wp2_with fail
  go_returns
  exact ⟨rfl, hb2.out⟩
/-- a new row of n bytes f is answered, and no error -/
def PostB0 (n : Nat) (f : Nat → Int) (w : World) (e : Ending) (w' : World) : Prop := ∃ g c, e = .returned (.tuple #[.slice (some ⟨g, 0, none⟩) n c, .int .i64 0]) ∧ w.heap.size ≤ g ∧ RowB w' g n c f ∧ Below w.heap.size w w'
set_option maxRecDepth 20000 in
set_option maxHeartbeats 2000000 in
theorem Put_ok (r h q : Int) (p1 : Option Addr) (c1 : Nat) (p2 : Option Addr) (c2 : Nat) (S G : Nat → Int) (hyes : shT r h q 64 = true) (hc1 : 64 ≤ c1) (hc2 : 64 ≤ c2) (w : World) (hS : BX [] w p1 64 S) (hG : BX [] w p2 64 G) :
    Calls Tryz.prog 26 #[.agg #[.int .i64 r, .int .i64 h, .int .i64 q, .slice p1 64 c1, .slice p2 64 c2]] w (PostB0 153 (rpI r h q S G) w) := by
  have hmf : ∀ (fn : Fn) (first cap : Array Value) (w : World), (Instr.makeFunc fn first cap).run Tryz.prog w = .ok (.func fn first cap) w := fun _ _ _ _ => rfl
  have ht := Lib.hid (fun gr w1 (hb0 : Below w.heap.size w w1) (hB : Blk w1 gr 28 #[.int .i64 r, .int .i64 h, .int .i64 q, .slice p1 64 c1, .slice p2 64 c2]) => rtPut_ok gr (fun w1 p n c w2 => ∃ g, p = some ⟨g, 0, none⟩ ∧ n = 153 ∧ w1.heap.size ≤ g ∧ RowB w2 g 153 c (rpI r h q S G)) w1 (fun w2 hb => (putCl_ok gr r h q p1 c1 p2 c2 S G hyes hc1 hc2 w2 (hB.below hb) (hS.below (hb0.trans (hb.mono hb0.size))) (hG.below (hb0.trans (hb.mono hb0.size)))).mono fun e w' ⟨g, c, he, hg, hR, hb⟩ => ⟨_, _, _, he, ⟨g, rfl, rfl, hg, hR⟩, hb⟩))
  generalize rpI r h q S G = PX' at *
  clear hyes hS hG hc1 hc2
  go_enter Tryz.func26, Tryz.ntmps26
  go_wp2_with fail
  refine calls_at (fun w1 hW => ?_)
  have hb1 : Below w.heap.size w w1 := by rw [hW]; go_grown
  refine (ht.out w.heap.size w1 hb1 (by rw [hW]; exact Blk.new _ _ _)).mono ?_
  clear hW
  rintro e w5 ⟨p, n, c, w2, w3, GX, rfl, ⟨g, rfl, rfl, hg, hR⟩, hb2, lo, l1, l2, rfl⟩
  have hs := hb1.size
  have hP := Lib.hid (show PostB0 153 PX' w (.returned (.tuple #[.slice (some ⟨g, 0, none⟩) 153 c, .int .i64 0])) ((w3.setCell ⟨GX, 0, none⟩ (.slice (some ⟨g, 0, none⟩) 153 c)).setCell ⟨GX + 1, 0, none⟩ (.int .i64 0)) from ⟨g, c, rfl, by omega, (hR.far (p := ⟨GX, 0, none⟩) (by show g ≠ GX; omega) _).far (p := ⟨GX + 1, 0, none⟩) (by show g ≠ GX + 1; omega) _, ((hb1.trans (hb2.mono hs)).setCell (p := ⟨GX, 0, none⟩) (by show w.heap.size ≤ GX; omega) _).setCell (p := ⟨GX + 1, 0, none⟩) (by show w.heap.size ≤ GX + 1; omega) _⟩)
  obtain ⟨W, hW⟩ : ∃ W, W = (w3.setCell ⟨GX, 0, none⟩ (.slice (some ⟨g, 0, none⟩) 153 c)).setCell ⟨GX + 1, 0, none⟩ (.int .i64 0) := ⟨_, rfl⟩
  rw [← hW] at hP ⊢
  clear hW hb2 hR ht hb1 hg lo l1 l2 hs
  go_wp2_with fail
  go_returns
  exact hP.out
end Go.Proofs.YtgjffaoggjlamaaGreatDoor

namespace Go.Proofs.YtgjffaoggjlamaaGreatDoor
open Go Go.RowKit
set_option maxRecDepth 20000 in
set_option maxHeartbeats 8000000 in
theorem bcloneB_c (g o n c : Nat) (b : Nat → Int) (hn : n ≤ 1000000) (w : World) (hg : g < w.heap.size) (hc : ∀ j, j < n → w.cell? ⟨g, o + j, none⟩ = some (.int .u8 (b j))) :
    Calls Tryz.prog 80 #[.slice (some ⟨g, o, none⟩) n c] w (PostCb n b w) := by
  have hR0 : RowB (w.alloc (.cells #[] 5)) w.heap.size 0 0 b := ⟨#[], heap_alloc_new w _, Nat.le_refl _, Nat.zero_le _, rfl, rfl⟩
  have hb0 : Below w.heap.size w (w.alloc (.cells #[] 5)) := (Below.refl _ _).alloc (Nat.le_refl _) _
  have hcs : ∀ j, j < n → (w.alloc (.cells #[] 5)).cell? ((⟨g, o, none⟩ : Addr).add j) = some (.int .u8 (b (0 + j))) := fun j hj => by
    rw [add_o, Nat.zero_add]
    exact (hb0.cell (p := ⟨g, o + j, none⟩) hg).trans (hc j hj)
  replace hR0 := Lib.hid hR0
  replace hcs := Lib.hid hcs
  replace hb0 := Lib.hid hb0
  clear hc hg
  have he := eqnilB_some ⟨g, o, none⟩ n c
  go_enter Tryz.func80, Tryz.ntmps80
  go_wp2_with (at_builtin; refine wpList_app rfl rfl rfl hR0.out rfl b (fun _ _ => rfl) hcs.out (by omega) ?_; intro g' c' w' hR hgr hcase; have hle : w.heap.size ≤ g' := (by have := hb0.out.size; rcases hcase with h | h <;> omega); have hP := Lib.hid (show PostCb n b w (.returned (.slice (some ⟨g', 0, none⟩) n c')) w' from ⟨g', c', rfl, hle, by rw [Nat.zero_add] at hR; exact hR, hb0.out.grown hgr hb0.out.size (fun k hk => by injection hk with hk; omega)⟩); clear hR hgr hcase hle)
  go_returns
  exact hP.out
set_option maxRecDepth 20000 in
set_option maxHeartbeats 1000000 in
theorem newrd_c (g o n c : Nat) (b : Nat → Int) (hn : n ≤ 1000000) (w : World) (hg : g < w.heap.size) (hc : ∀ j, j < n → w.cell? ⟨g, o + j, none⟩ = some (.int .u8 (b j))) :
    Calls Tryz.prog 78 #[.slice (some ⟨g, o, none⟩) n c] w fun e w' => ∃ gR, e = .returned (.pointer (some ⟨gR, 0, none⟩)) ∧ w.heap.size ≤ gR ∧ Rd gR w' gR n b false ∧ Below w.heap.size w w' := by
  have hcl := Lib.hid (cloneB_c g o n c b hn w hg hc)
  clear hc
  go_enter Tryz.func78, Tryz.ntmps78
  go_wp2_with fail
  refine hcl.out.mono ?_
  rintro e w2 ⟨g2, c2, rfl, hg2, hR, hb⟩
  have hs := hb.size
  have hlt := hR.lt
  obtain ⟨cur, k1, k2, k3⟩ := id hR
  have hP := Lib.hid (show ∀ W, W = w2.alloc (.cells (rdC (some ⟨g2, 0, none⟩) n c2 false) 183) → (Rd w2.heap.size W w2.heap.size n b false ∧ Below w.heap.size w W) from fun W hW => ⟨⟨some ⟨g2, 0, none⟩, c2, by rw [hW]; exact Blk.new _ _ _, by rw [hW, World.size_alloc]; omega, k2, fun _ => ⟨g2, 0, rfl, hlt, by omega, fun j hj => by
    have ha : Below w2.heap.size w2 W := by rw [hW]; exact (Below.refl _ _).alloc (Nat.le_refl _) _
    rw [Nat.zero_add]
    exact (hR.below ha).cell j hj⟩⟩, by rw [hW]; exact hb.alloc hs _⟩)
  clear hR hb hcl k1 k2 k3
  go_wp2
  go_returns
  exact ⟨w2.heap.size, rfl, hs, (hP.out _ rfl).1, (hP.out _ rfl).2⟩
end Go.Proofs.YtgjffaoggjlamaaGreatDoor

namespace Go.Proofs.YtgjffaoggjlamaaGreatDoor
open Go Go.RowKit
def getR (b : Nat → Int) : Int := intv (fun j => b (1 + j))
def getH (b : Nat → Int) : Int := intv (fun j => b (9 + j))
def getQ (b : Nat → Int) : Int := intv (fun j => b (17 + j))
/-- what Get's closure tells of 153 bytes that begin with 2 -/
def GetP0 (b : Nat → Int) (r h q : Int) (E : Bool) (w : World) (e : Ending) (w' : World) : Prop := (E = true → ∃ g1 c1 g2 c2, e = .returned (.agg (rtC r h q (some ⟨g1, 0, none⟩) 64 c1 (some ⟨g2, 0, none⟩) 64 c2)) ∧ w.heap.size ≤ g1 ∧ w.heap.size ≤ g2 ∧ RowB w' g1 64 c1 (fun j => b (25 + j)) ∧ RowB w' g2 64 c2 (fun j => b (89 + j)) ∧ Below w.heap.size w w') ∧ (E = false → e = .panicked (errP 4) ∧ Below w.heap.size w w')
theorem get_x1 (gb : Nat) (p : Option Addr) (n c : Nat) (hn : n ≠ 153) (w : World) (hB : Blk w gb 26 #[.slice p n c]) : Calls Tryz.prog 77 #[.pointer (some ⟨gb, 0, none⟩)] w fun e w' => e = .panicked (errP 4) ∧ Below w.heap.size w w' := by
  have hmt := Lib.hid (rmust_f 4)
  have x0 : w.cell? ⟨gb, 0, none⟩ = some (.slice p n c) := hB.cell 0
  have hl := hB.lt
  have hn1 : ¬ (n : Int) = 153 := by omega
  clear hB
  go_enter Tryz.func77, Tryz.ntmps77
  go_wp2_with fail
  refine (hmt.out _).mono ?_
  rintro e w3 ⟨rfl, rfl⟩
  have hb := Lib.hid (show Below w.heap.size w (w.alloc (.cells rtZ 28)) from (Below.refl _ _).alloc (Nat.le_refl _) _)
  go_wp2_with fail
  exact ⟨rfl, rfl, hb.out⟩
theorem get_x2 (gb g o c : Nat) (x : Int) (hx : ¬ x = 2) (w : World) (hB : Blk w gb 26 #[.slice (some ⟨g, o, none⟩) 153 c]) (hg : g < w.heap.size) (hc : w.cell? ⟨g, o, none⟩ = some (.int .u8 x)) : Calls Tryz.prog 77 #[.pointer (some ⟨gb, 0, none⟩)] w fun e w' => e = .panicked (errP 4) ∧ Below w.heap.size w w' := by
  have hmt := Lib.hid (rmust_f 4)
  have x0 : w.cell? ⟨gb, 0, none⟩ = some (.slice (some ⟨g, o, none⟩) 153 c) := hB.cell 0
  have hl := hB.lt
  have hx2 : (x == 2) = false := by simpa using hx
  clear hB hx
  go_enter Tryz.func77, Tryz.ntmps77
  go_wp2_with fail
  refine (hmt.out _).mono ?_
  rintro e w3 ⟨rfl, rfl⟩
  have hb := Lib.hid (show Below w.heap.size w (w.alloc (.cells rtZ 28)) from (Below.refl _ _).alloc (Nat.le_refl _) _)
  go_wp2_with fail
  exact ⟨rfl, rfl, hb.out⟩
theorem run_slMid (p : Option Addr) (l c i k : Nat) (h : i ≤ k) (h2 : k ≤ c) (w : World) : (Instr.slice 26 (.slice p l c) (some (.int .i64 (i : Int))) (some (.int .i64 (k : Int))) none).run Tryz.prog w = .ok (.slice (cutP p c i) (k - i) (c - i)) w := by
  obtain ⟨u, hi, hz, hs, hby⟩ := info3 u8_info'
  have h1 : (0 : Int) ≤ (i : Int) ∧ (i : Int) ≤ (k : Int) := by omega
  have h3 : (0 : Int) ≤ (k : Int) ∧ (k : Int) ≤ (c : Int) := by omega
  simp [Instr.slice, Instr.sliceBounds, Instr.sliceBound, asIntOf, run_underlying by_under', sizeOf, typeInfo, hi, hs, h1, h3, h, h2, cutP]
set_option maxRecDepth 20000 in
set_option maxHeartbeats 4000000 in
theorem get_c0 (gb g o c : Nat) (b : Nat → Int) (hr : Sc.Byt b) (hc153 : 153 ≤ c) (h2 : b 0 = 2) (r s q : Int) (hrr : r = getR b) (hhh : s = getH b) (hqq : q = getQ b) (E : Bool) (hE : E = shT r s q 64) (w : World) (hB : Blk w gb 26 #[.slice (some ⟨g, o, none⟩) 153 c]) (hg : g < w.heap.size) (hc : ∀ j, j < 153 → w.cell? ⟨g, o + j, none⟩ = some (.int .u8 (b j))) : Calls Tryz.prog 77 #[.pointer (some ⟨gb, 0, none⟩)] w (GetP0 b r s q E w) := by
  have hmt := Lib.hid (rmust_t 4)
  have hmf := Lib.hid (rmust_f 4)
  have x0 : w.cell? ⟨gb, 0, none⟩ = some (.slice (some ⟨g, o, none⟩) 153 c) := hB.cell 0
  have hl := hB.lt
  have hi : (153 : Int) ≤ (c : Int) := by omega
  have hsA : ∀ w : World, (Instr.slice 26 (.slice (some ⟨g, o, none⟩) 153 c) (some (.int .i64 25)) (some (.int .i64 89)) none).run Tryz.prog w = .ok (.slice (some ⟨g, o + 25, none⟩) 64 (c - 25)) w := fun w => by
    have := run_slMid (some ⟨g, o, none⟩) 153 c 25 89 (by decide) (by omega) w
    rw [show cutP (some ⟨g, o, none⟩) c 25 = some ⟨g, o + 25, none⟩ by unfold cutP; rw [if_neg (by omega), Option.map_some, add_o]] at this
    exact this
  have hsB : ∀ w : World, (Instr.slice 26 (.slice (some ⟨g, o, none⟩) 153 c) (some (.int .i64 89)) none none).run Tryz.prog w = .ok (.slice (some ⟨g, o + 89, none⟩) 64 (c - 89)) w := fun w => by
    have := run_slLo (some ⟨g, o, none⟩) 153 c 89 (by decide) w
    rw [show cutP (some ⟨g, o, none⟩) c 89 = some ⟨g, o + 89, none⟩ by unfold cutP; rw [if_neg (by omega), Option.map_some, add_o]] at this
    exact this
  have c0 : w.cell? ⟨g, o, none⟩ = some (.int .u8 2) := by have := hc 0 (by decide); rwa [Nat.add_zero, h2] at this
  have hnr := Lib.hid (fun w1 (hb : Below w.heap.size w w1) => newrd_c g (o + 1) 24 (c - 1) (fun j => b (1 + j)) (by decide) w1 (Nat.lt_of_lt_of_le hg hb.size) (fun j hj => by rw [Nat.add_assoc]; exact (hb.cell (p := ⟨g, o + (1 + j), none⟩) hg).trans (hc _ (by omega))))
  have hc1 := Lib.hid (fun w1 (hb : Below w.heap.size w w1) => bcloneB_c g (o + 25) 64 (c - 25) (fun j => b (25 + j)) (by decide) w1 (Nat.lt_of_lt_of_le hg hb.size) (fun j hj => by rw [Nat.add_assoc]; exact (hb.cell (p := ⟨g, o + (25 + j), none⟩) hg).trans (hc _ (by omega))))
  have hc2 := Lib.hid (fun w1 (hb : Below w.heap.size w w1) => bcloneB_c g (o + 89) 64 (c - 89) (fun j => b (89 + j)) (by decide) w1 (Nat.lt_of_lt_of_le hg hb.size) (fun j hj => by rw [Nat.add_assoc]; exact (hb.cell (p := ⟨g, o + (89 + j), none⟩) hg).trans (hc _ (by omega))))
  have hrd := Lib.hid (fun n k gR B w1 (hk : 8 ≤ n) (hR : Rd B w1 gR n (fun j => b (k + j)) false) => rdNumber_c B gR n (fun j => b (k + j)) hk (fun j => hr _) w1 hR)
  replace hB := Lib.hid hB
  clear hc hr h2
  replace hrr := Lib.hid hrr
  replace hhh := Lib.hid hhh
  replace hqq := Lib.hid hqq
  replace hE := Lib.hid hE
  go_enter Tryz.func77, Tryz.ntmps77
  go_wp2_with fail
  refine calls_at (fun w1 hW => ?_)
  have hb1 : Below w.heap.size w w1 := by rw [hW]; go_grown
  obtain ⟨GZ, hGZ⟩ : ∃ G, G = w.heap.size := ⟨_, rfl⟩
  have kZ : Blk w1 GZ 28 rtZ := by rw [hW, hGZ]; exact Blk.new _ _ _
  have wZ : w.heap.size ≤ GZ := by omega
  rw [← hGZ]
  clear hW hGZ
  refine (hmt.out w1).mono ?_
  rintro e w1 ⟨rfl, rfl⟩
  have x1 : w1.cell? ⟨gb, 0, none⟩ = some (.slice (some ⟨g, o, none⟩) 153 c) := (hB.out.below hb1).cell 0
  have hs1 := hb1.size
  go_wp2_with fail
  refine (hnr.out w1 hb1).mono ?_
  rintro e w2 ⟨gR, rfl, hgR, hR, hb2⟩
  have hb2' := hb1.trans (hb2.mono hs1)
  have kB2 := hB.out.below hb2'
  have kZ2 := kZ.below hb2
  have lZ := kZ.lt
  have n1 : gb ≠ gR := by omega
  have n2 : GZ ≠ gR := by omega
  have wR : w.heap.size ≤ gR := by omega
  have hN := Lib.hid (hrd.out 24 1 gR gR w2 (by decide) hR)
  replace hb2' := Lib.hid hb2'
  replace kB2 := Lib.hid kB2
  replace kZ2 := Lib.hid kZ2
  clear hnr hb1 hb2 kZ x0 x1 hR hs1 c0
  go_wp2_with fail
  refine hN.out.mono ?_
  rintro e w3 ⟨rfl, hR3, hg3⟩
  have kB3 := kB2.out.grown hg3 (fun e => n1 (Option.some.inj e))
  have kZ3 := kZ2.out.grown hg3 (fun e => n2 (Option.some.inj e))
  have hb3 := hb2'.out.grown hg3 hb2'.out.size (fun k hk => by have : gR = k := Option.some.inj hk; omega)
  have lR3 := hR3.lt
  clear hN hb2' kB2 kZ2 hg3
  rw [show intv (fun j => b (1 + j)) = r from hrr.out.symm]
  replace kB3 := Lib.hid kB3
  replace kZ3 := Lib.hid kZ3
  replace hR3 := Lib.hid hR3
  replace hb3 := Lib.hid hb3
  have hR3' := hR3.out
  rw [show (fun j => (fun j => b (1 + j)) (8 + j)) = fun j => b (9 + j) from funext fun j => by show b (1 + (8 + j)) = _; rw [show 1 + (8 + j) = 9 + j by omega]] at hR3'
  go_wp2_with fail
  refine calls_at (fun w4 hW => ?_)
  have ha : Below w3.heap.size w3 w4 := by rw [hW]; exact (Below.refl _ _).alloc (Nat.le_refl _) _
  obtain ⟨GT, hGT⟩ : ∃ G, G = w3.heap.size := ⟨_, rfl⟩
  have kT : Blk w4 GT 28 #[.int .i64 r, .int .i64 0, .int .i64 0, .slice none 0 0, .slice none 0 0] := by rw [hW, hGT]; exact Blk.new _ _ _
  have n3 : GT ≠ gR := by omega
  have wT : w.heap.size ≤ GT := by have := hb3.out.size; omega
  have nZT : GZ ≠ GT := by have := kZ3.out.lt; omega
  have nBT : gb ≠ GT := by omega
  rw [← hGT]
  clear hW hGT
  have kB4 := kB3.out.below ha
  have kZ4 := kZ3.out.below ha
  have hb4 := hb3.out.trans (ha.mono hb3.out.size)
  have hN := Lib.hid (hrd.out 16 9 gR gR w4 (by decide) (hR3'.below ha))
  clear hR3 hR3' ha kB3 kZ3 hb3
  refine hN.out.mono ?_
  rintro e w5 ⟨rfl, hR5, hg5⟩
  have kB5 := kB4.grown hg5 (fun e => n1 (Option.some.inj e))
  have kZ5 := kZ4.grown hg5 (fun e => n2 (Option.some.inj e))
  have kT5 := kT.grown hg5 (fun e => n3 (Option.some.inj e))
  have hb5 := hb4.grown hg5 hb4.size (fun k hk => by have : gR = k := Option.some.inj hk; omega)
  rw [show (fun j => (fun j => b (9 + j)) (8 + j)) = fun j => b (17 + j) from funext fun j => by show b (9 + (8 + j)) = _; rw [show 9 + (8 + j) = 17 + j by omega]] at hR5
  rw [show intv (fun j => b (9 + j)) = s from hhh.out.symm]
  have hN2 := Lib.hid (hrd.out 8 17 gR gR w5 (by decide) hR5)
  clear hN kB4 kZ4 kT hb4 hg5 hR5 hrd
  replace kB5 := Lib.hid kB5
  replace kZ5 := Lib.hid kZ5
  replace kT5 := Lib.hid kT5
  replace hb5 := Lib.hid hb5
  go_wp2_with fail
  refine hN2.out.mono ?_
  rintro e w6 ⟨rfl, _, hg6⟩
  have kB6 := kB5.out.grown hg6 (fun e => n1 (Option.some.inj e))
  have kZ6 := kZ5.out.grown hg6 (fun e => n2 (Option.some.inj e))
  have kT6 := kT5.out.grown hg6 (fun e => n3 (Option.some.inj e))
  have hb6 := hb5.out.grown hg6 hb5.out.size (fun k hk => by have : gR = k := Option.some.inj hk; omega)
  rw [show intv (fun j => b (17 + j)) = q from hqq.out.symm]
  clear hN2 kB5 kZ5 kT5 hb5 hg6
  obtain ⟨t0, t1, t2, t3, t4⟩ := blk5v kT6
  have f1 := kT6.frozen 1
  have f2 := kT6.frozen 2
  have kT7 := Lib.hid ((kT6.set_ 1 (.int .i64 s)).set_ 2 (.int .i64 q))
  have kB7 := Lib.hid ((kB6.far (p := ⟨GT, 1, none⟩) nBT (.int .i64 s)).far (p := ⟨GT, 2, none⟩) nBT (.int .i64 q))
  have kZ7 := Lib.hid ((kZ6.far (p := ⟨GT, 1, none⟩) nZT (.int .i64 s)).far (p := ⟨GT, 2, none⟩) nZT (.int .i64 q))
  have hb7 := Lib.hid ((hb6.setCell (p := ⟨GT, 1, none⟩) wT (.int .i64 s)).setCell (p := ⟨GT, 2, none⟩) wT (.int .i64 q))
  clear kB6 kZ6 kT6 hb6
  go_wp2_with fail
  refine at_world (fun w7 hW => ?_)
  rw [← hW] at kT7 kB7 kZ7 hb7
  clear hW t0 t1 t2 t3 t4 f1 f2
  have y0 : w7.cell? ⟨gb, 0, none⟩ = some (.slice (some ⟨g, o, none⟩) 153 c) := kB7.out.cell 0
  have hs7 := hb7.out.size
  have hb0 := Below.refl w7.heap.size w7
  go_region_held3 (fun w' => w'.cell? ⟨gb, 0, none⟩ = some (.slice (some ⟨g, o, none⟩) 153 c)) (first | exact ((kB9.far (p := ⟨GT, 3, none⟩) nBT _).far (p := ⟨GT, 4, none⟩) nBT _).cell 0 | exact (kB9.far (p := ⟨GT, 3, none⟩) nBT _).cell 0 | exact kB9.cell 0 | exact kB8.cell 0 | exact kB7.out.cell 0) (first | (go_at_call 80; (with_reducible refine (hc1.out _ hb7.out.drew).mono ?_); rintro e w8 ⟨g1, d1, rfl, hg1, hR1, k8⟩; replace hg1 : w7.heap.size ≤ g1 := hg1; replace k8 := hb0.drew.trans (k8.mono hb0.size); have kB8 := kB7.out.below k8; have hb8 := hb7.out.trans (k8.mono hs7)) | (go_at_call 80; (with_reducible refine (hc2.out _ hb8).mono ?_); rintro e w9 ⟨g2, d2, rfl, hg2, hR2, k9⟩; have hR19 := hR1.below k9; have hs8 := k8.size; have hs9 := k9.size; replace k9 := k8.trans (k9.mono k8.size); have kB9 := kB7.out.below k9; have kT9 := kT7.out.below k9; have kZ9 := kZ7.out.below k9; have hb9 := hb7.out.trans (k9.mono hs7); have t3 : w9.cell? ⟨GT, 3, none⟩ = some (.slice none 0 0) := kT9.cell 3; have t4 : w9.cell? ⟨GT, 4, none⟩ = some (.slice none 0 0) := kT9.cell 4; have f3 := kT9.frozen 3; have f4 := kT9.frozen 4))
  have kT10 := (kT9.set_ 3 (.slice (some ⟨g1, 0, none⟩) 64 d1)).set_ 4 (.slice (some ⟨g2, 0, none⟩) 64 d2)
  have kZ10 := (kZ9.far (p := ⟨GT, 3, none⟩) nZT (.slice (some ⟨g1, 0, none⟩) 64 d1)).far (p := ⟨GT, 4, none⟩) nZT (.slice (some ⟨g2, 0, none⟩) 64 d2)
  have lT7 := kT7.out.lt
  have hR110 := (hR19.far (p := ⟨GT, 3, none⟩) (by show g1 ≠ GT; omega) (.slice (some ⟨g1, 0, none⟩) 64 d1)).far (p := ⟨GT, 4, none⟩) (by show g1 ≠ GT; omega) (.slice (some ⟨g2, 0, none⟩) 64 d2)
  have hR210 := (hR2.far (p := ⟨GT, 3, none⟩) (by show g2 ≠ GT; omega) (.slice (some ⟨g1, 0, none⟩) 64 d1)).far (p := ⟨GT, 4, none⟩) (by show g2 ≠ GT; omega) (.slice (some ⟨g2, 0, none⟩) 64 d2)
  have hb10 := (hb9.setCell (p := ⟨GT, 3, none⟩) wT (.slice (some ⟨g1, 0, none⟩) 64 d1)).setCell (p := ⟨GT, 4, none⟩) wT (.slice (some ⟨g2, 0, none⟩) 64 d2)
  have wg1 : w.heap.size ≤ g1 := by omega
  have lZ7 := kZ7.out.lt
  have nGZ1 : g1 ≠ GZ := by omega
  have nGZ2 : g2 ≠ GZ := by omega
  have wg2 : w.heap.size ≤ g2 := by omega
  generalize (w9.setCell ⟨GT, 3, none⟩ (.slice (some ⟨g1, 0, none⟩) 64 d1)).setCell ⟨GT, 4, none⟩ (.slice (some ⟨g2, 0, none⟩) 64 d2) = w10 at *
  replace kT10 : Blk w10 GT 28 #[.int .i64 r, .int .i64 s, .int .i64 q, .slice (some ⟨g1, 0, none⟩) 64 d1, .slice (some ⟨g2, 0, none⟩) 64 d2] := kT10
  replace kZ10 : Blk w10 GZ 28 rtZ := kZ10
  obtain ⟨t0, t1, t2, t3, t4⟩ := blk5v kT10
  have hrt := Right_c r s q (some ⟨g1, 0, none⟩) 64 d1 (some ⟨g2, 0, none⟩) 64 d2 w10
  rw [show (shT r s q 64 && decide (64 = 64)) = E by rw [← hE.out]; simp] at hrt
  replace hrt := Lib.hid hrt
  replace hR110 := Lib.hid hR110
  replace hR210 := Lib.hid hR210
  clear hc1 hc2 hR1 hR19 hR2 k8 k9 kB7 kB8 kB9 kT7 kT9 kZ7 kZ9 hb7 hb8 hb9 f3 f4 y0 hb0 hs8 hs9 hB
  go_wp2_with fail
  refine hrt.out.mono ?_
  rintro e w11 ⟨rfl, hb11⟩
  have kT11 := kT10.below hb11
  have kZ11 := kZ10.below hb11
  have hb12 := hb10.trans (hb11.mono hb10.size)
  replace hR110 := Lib.hid (hR110.out.below hb11)
  replace hR210 := Lib.hid (hR210.out.below hb11)
  obtain ⟨s0, s1, s2, s3, s4⟩ := blk5v kT11
  obtain ⟨z0, z1, z2, z3, z4⟩ : w11.cell? ⟨GZ, 0, none⟩ = some (.int .i64 0) ∧ w11.cell? ⟨GZ, 1, none⟩ = some (.int .i64 0) ∧ w11.cell? ⟨GZ, 2, none⟩ = some (.int .i64 0) ∧ w11.cell? ⟨GZ, 3, none⟩ = some (.slice none 0 0) ∧ w11.cell? ⟨GZ, 4, none⟩ = some (.slice none 0 0) := ⟨kZ11.cell 0, kZ11.cell 1, kZ11.cell 2, kZ11.cell 3, kZ11.cell 4⟩
  have v0 := kZ11.frozen 0
  have v1 := kZ11.frozen 1
  have v2 := kZ11.frozen 2
  have v3 := kZ11.frozen 3
  have v4 := kZ11.frozen 4
  have lZ11 := kZ11.lt
  clear hrt hb11 kT10 kZ10 kT11 hb10 t0 t1 t2 t3 t4
  replace hb12 := Lib.hid hb12
  replace kZ11 := Lib.hid kZ11
  cases E with
  | false =>
    go_wp2_with fail
    refine (hmf.out w11).mono ?_
    rintro e w12 ⟨rfl, rfl⟩
    go_wp2_with fail
    exact ⟨rfl, And.intro (fun h => by cases h) (fun _ => ⟨rfl, hb12.out⟩)⟩
  | true =>
    go_wp2_with fail
    refine (hmt.out w11).mono ?_
    rintro e w12 ⟨rfl, rfl⟩
    go_wp2_with fail
    have kR := setRoot w11 GZ (.int .i64 r) (.int .i64 s) (.int .i64 q) (.slice (some ⟨g1, 0, none⟩) 64 d1) (.slice (some ⟨g2, 0, none⟩) 64 d2) kZ11.out
    obtain ⟨kF, hgF⟩ := kR
    generalize ((((w11.setCell ⟨GZ, 0, none⟩ (.int .i64 r)).setCell ⟨GZ, 1, none⟩ (.int .i64 s)).setCell ⟨GZ, 2, none⟩ (.int .i64 q)).setCell ⟨GZ, 3, none⟩ (.slice (some ⟨g1, 0, none⟩) 64 d1)).setCell ⟨GZ, 4, none⟩ (.slice (some ⟨g2, 0, none⟩) 64 d2) = w13 at *
    obtain ⟨u0, u1, u2, u3, u4⟩ := blk5v kF
    have hR1f := hR110.out.grown hgF (fun e => nGZ1 (Option.some.inj e))
    have hR2f := hR210.out.grown hgF (fun e => nGZ2 (Option.some.inj e))
    have hbf : Below w.heap.size w w13 := hb12.out.grown hgF hb12.out.size (fun k hk => by have : GZ = k := Option.some.inj hk; omega)
    refine bodyPost_ret (v := .agg (rtC r s q (some ⟨g1, 0, none⟩) 64 d1 (some ⟨g2, 0, none⟩) 64 d2)) (by simp [results, Tryz.results77, go_sem, u0, u1, u2, u3, u4, rtC]) rfl (And.intro (fun _ => ⟨g1, d1, g2, d2, rfl, wg1, wg2, hR1f, hR2f, hbf⟩) (fun h => by cases h))
/-- the same, told of the bytes -/
theorem get_c (gb g o c : Nat) (b : Nat → Int) (hr : Sc.Byt b) (hc153 : 153 ≤ c) (h2 : b 0 = 2) (w : World) (hB : Blk w gb 26 #[.slice (some ⟨g, o, none⟩) 153 c]) (hg : g < w.heap.size) (hc : ∀ j, j < 153 → w.cell? ⟨g, o + j, none⟩ = some (.int .u8 (b j))) : Calls Tryz.prog 77 #[.pointer (some ⟨gb, 0, none⟩)] w (GetP0 b (getR b) (getH b) (getQ b) (shT (getR b) (getH b) (getQ b) 64) w) := get_c0 gb g o c b hr hc153 h2 _ _ _ rfl rfl rfl _ rfl w hB hg hc
end Go.Proofs.YtgjffaoggjlamaaGreatDoor

namespace Go.Proofs.YtgjffaoggjlamaaGreatDoor
open Go Go.RowKit
/-- no root, and an error -/
def PostGx (w : World) (e : Ending) (w' : World) : Prop := e = .returned (.tuple #[.agg rtZ, .int .i64 4]) ∧ Below w.heap.size w w'
/-- the root that 153 bytes say -/
def PostGt (b : Nat → Int) (w : World) (e : Ending) (w' : World) : Prop := ∃ g1 c1 g2 c2, e = .returned (.tuple #[.agg (rtC (getR b) (getH b) (getQ b) (some ⟨g1, 0, none⟩) 64 c1 (some ⟨g2, 0, none⟩) 64 c2), .int .i64 0]) ∧ w.heap.size ≤ g1 ∧ w.heap.size ≤ g2 ∧ RowB w' g1 64 c1 (fun j => b (25 + j)) ∧ RowB w' g2 64 c2 (fun j => b (89 + j)) ∧ Below w.heap.size w w'
set_option maxRecDepth 20000 in
set_option maxHeartbeats 2000000 in
theorem Get_x (p : Option Addr) (n c : Nat) (w : World) (hcl : ∀ gb w1, Below w.heap.size w w1 → Blk w1 gb 26 #[.slice p n c] → Calls Tryz.prog 77 #[.pointer (some ⟨gb, 0, none⟩)] w1 fun e w' => e = .panicked (errP 4) ∧ Below w1.heap.size w1 w') :
    Calls Tryz.prog 25 #[.slice p n c] w (PostGx w) := by
  have hmf : ∀ (fn : Fn) (first cap : Array Value) (w : World), (Instr.makeFunc fn first cap).run Tryz.prog w = .ok (.func fn first cap) w := fun _ _ _ _ => rfl
  have ht := Lib.hid (fun gb w1 (hb0 : Below w.heap.size w w1) (hB : Blk w1 gb 26 #[.slice p n c]) => rtGet_err gb 4 w1 (fun w2 hb => hcl gb w2 (hb0.trans (hb.mono hb0.size)) (hB.below hb)))
  clear hcl
  go_enter Tryz.func25, Tryz.ntmps25
  go_wp2_with fail
  refine calls_at (fun w1 hW => ?_)
  have hb1 : Below w.heap.size w w1 := by rw [hW]; go_grown
  obtain ⟨GZ, hGZ⟩ : ∃ G, G = w.heap.size := ⟨_, rfl⟩
  have kZ : Blk w1 (GZ + 1) 28 rtZ := by rw [hW, hGZ]; exact blk_at (by simp) (Blk.new _ _ _)
  have kB : Blk w1 GZ 26 #[.slice p n c] := by rw [hW, hGZ]; exact (Blk.new _ _ _).alloc _
  have wZ : w.heap.size ≤ GZ := by omega
  rw [← hGZ]
  clear hW hGZ
  refine (ht.out GZ w1 hb1 kB).mono ?_
  rintro e w2 ⟨rfl, hb2⟩
  have kZ2 := kZ.below hb2
  replace hb2 := hb1.trans (hb2.mono hb1.size)
  obtain ⟨z0, z1, z2, z3, z4⟩ : w2.cell? ⟨GZ + 1, 0, none⟩ = some (.int .i64 0) ∧ w2.cell? ⟨GZ + 1, 1, none⟩ = some (.int .i64 0) ∧ w2.cell? ⟨GZ + 1, 2, none⟩ = some (.int .i64 0) ∧ w2.cell? ⟨GZ + 1, 3, none⟩ = some (.slice none 0 0) ∧ w2.cell? ⟨GZ + 1, 4, none⟩ = some (.slice none 0 0) := ⟨kZ2.cell 0, kZ2.cell 1, kZ2.cell 2, kZ2.cell 3, kZ2.cell 4⟩
  have v0 := kZ2.frozen 0
  have v1 := kZ2.frozen 1
  have v2 := kZ2.frozen 2
  have v3 := kZ2.frozen 3
  have v4 := kZ2.frozen 4
  unfold rtZ
  replace kZ2 := Lib.hid kZ2
  replace hb2 := Lib.hid hb2
  clear ht hb1 kZ kB
  go_wp2_with fail
  obtain ⟨kF, hgF⟩ := setRoot w2 (GZ + 1) (.int .i64 0) (.int .i64 0) (.int .i64 0) (.slice none 0 0) (.slice none 0 0) kZ2.out
  generalize ((((w2.setCell ⟨GZ + 1, 0, none⟩ (.int .i64 0)).setCell ⟨GZ + 1, 1, none⟩ (.int .i64 0)).setCell ⟨GZ + 1, 2, none⟩ (.int .i64 0)).setCell ⟨GZ + 1, 3, none⟩ (.slice none 0 0)).setCell ⟨GZ + 1, 4, none⟩ (.slice none 0 0) = w13 at *
  obtain ⟨u0, u1, u2, u3, u4⟩ := blk5v kF
  have hbf : Below w.heap.size w w13 := hb2.out.grown hgF hb2.out.size (fun k hk => by have : GZ + 1 = k := Option.some.inj hk; omega)
  exact bodyPost_ret (v := .tuple #[.agg rtZ, .int .i64 4]) (by simp [results, Tryz.results25, go_sem, u0, u1, u2, u3, u4, rtZ]) rfl ⟨rfl, hbf⟩
set_option maxRecDepth 20000 in
set_option maxHeartbeats 2000000 in
theorem Get_ok (g o c : Nat) (b : Nat → Int) (hr : Sc.Byt b) (hc153 : 153 ≤ c) (h2 : b 0 = 2) (hE : shT (getR b) (getH b) (getQ b) 64 = true) (w : World) (hg : g < w.heap.size) (hc : ∀ j, j < 153 → w.cell? ⟨g, o + j, none⟩ = some (.int .u8 (b j))) :
    Calls Tryz.prog 25 #[.slice (some ⟨g, o, none⟩) 153 c] w (PostGt b w) := by
  have hmf : ∀ (fn : Fn) (first cap : Array Value) (w : World), (Instr.makeFunc fn first cap).run Tryz.prog w = .ok (.func fn first cap) w := fun _ _ _ _ => rfl
  obtain ⟨r, hrr⟩ : ∃ r, r = getR b := ⟨_, rfl⟩
  obtain ⟨s, hss⟩ : ∃ r, r = getH b := ⟨_, rfl⟩
  obtain ⟨q, hqq⟩ : ∃ r, r = getQ b := ⟨_, rfl⟩
  have ht := fun gb w1 (hb0 : Below w.heap.size w w1) (hB : Blk w1 gb 26 #[.slice (some ⟨g, o, none⟩) 153 c]) => rtGet_ok gb (fun w1 a x y p1 n1 c1 p2 n2 c2 w2 => ∃ g1 g2, a = r ∧ x = s ∧ y = q ∧ p1 = some ⟨g1, 0, none⟩ ∧ n1 = 64 ∧ p2 = some ⟨g2, 0, none⟩ ∧ n2 = 64 ∧ w1.heap.size ≤ g1 ∧ w1.heap.size ≤ g2 ∧ RowB w2 g1 64 c1 (fun j => b (25 + j)) ∧ RowB w2 g2 64 c2 (fun j => b (89 + j))) w1 (fun w2 hb => (get_c gb g o c b hr hc153 h2 w2 (hB.below hb) (Nat.lt_of_lt_of_le hg (Nat.le_trans hb0.size hb.size)) (fun j hj => ((hb0.trans (hb.mono hb0.size)).cell (p := ⟨g, o + j, none⟩) hg).trans (hc j hj))).mono fun e w' k => by
    obtain ⟨g1, c1, g2, c2, he, k1, k2, k3, k4, k5⟩ := k.1 hE
    rw [← hrr, ← hss, ← hqq] at he
    exact ⟨_, _, _, _, _, _, _, _, _, he, ⟨g1, g2, rfl, rfl, rfl, rfl, rfl, rfl, rfl, k1, k2, k3, k4⟩, k5⟩)
  replace ht := Lib.hid ht
  unfold PostGt
  rw [← hrr, ← hss, ← hqq]
  clear hc hE hr h2 hrr hss hqq
  go_enter Tryz.func25, Tryz.ntmps25
  go_wp2_with fail
  refine calls_at (fun w1 hW => ?_)
  have hb1 : Below w.heap.size w w1 := by rw [hW]; go_grown
  obtain ⟨GZ, hGZ⟩ : ∃ G, G = w.heap.size := ⟨_, rfl⟩
  have kZ : Blk w1 (GZ + 1) 28 rtZ := by rw [hW, hGZ]; exact blk_at (by simp) (Blk.new _ _ _)
  have kB : Blk w1 GZ 26 #[.slice (some ⟨g, o, none⟩) 153 c] := by rw [hW, hGZ]; exact (Blk.new _ _ _).alloc _
  have wZ : w.heap.size ≤ GZ := by omega
  rw [← hGZ]
  clear hW hGZ
  have lZ := kZ.lt
  refine (ht.out GZ w1 hb1 kB).mono ?_
  rintro e w5 ⟨a, x, y, p1, n1, c1, p2, n2, c2, w2, w3, w4, GX, rfl, ⟨g1, g2, rfl, rfl, rfl, rfl, rfl, rfl, rfl, k1, k2, k3, k4⟩, hb2, lo, l1, l2, hg3, hg4⟩
  have hs1 := hb1.size
  have hb5 : Below w1.heap.size w1 w5 := (hb2.grown hg3 (by omega) (fun k hk => by have : GX = k := Option.some.inj hk; omega)).grown hg4 (by have := hg3.size; omega) (fun k hk => by have : GX + 1 = k := Option.some.inj hk; omega)
  have kZ5 := kZ.below hb5
  have r1 := (k3.grown hg3 (fun e => by have := Option.some.inj e; omega)).grown hg4 (fun e => by have := Option.some.inj e; omega)
  have r2 := (k4.grown hg3 (fun e => by have := Option.some.inj e; omega)).grown hg4 (fun e => by have := Option.some.inj e; omega)
  have hb6 := hb1.trans (hb5.mono hs1)
  obtain ⟨z0, z1, z2, z3, z4⟩ : w5.cell? ⟨GZ + 1, 0, none⟩ = some (.int .i64 0) ∧ w5.cell? ⟨GZ + 1, 1, none⟩ = some (.int .i64 0) ∧ w5.cell? ⟨GZ + 1, 2, none⟩ = some (.int .i64 0) ∧ w5.cell? ⟨GZ + 1, 3, none⟩ = some (.slice none 0 0) ∧ w5.cell? ⟨GZ + 1, 4, none⟩ = some (.slice none 0 0) := ⟨kZ5.cell 0, kZ5.cell 1, kZ5.cell 2, kZ5.cell 3, kZ5.cell 4⟩
  have v0 := kZ5.frozen 0
  have v1 := kZ5.frozen 1
  have v2 := kZ5.frozen 2
  have v3 := kZ5.frozen 3
  have v4 := kZ5.frozen 4
  have ng1 : g1 ≠ GZ + 1 := by omega
  have ng2 : g2 ≠ GZ + 1 := by omega
  have wg1 : w.heap.size ≤ g1 := by omega
  have wg2 : w.heap.size ≤ g2 := by omega
  unfold rtC
  replace kZ5 := Lib.hid kZ5
  replace hb6 := Lib.hid hb6
  replace r1 := Lib.hid r1
  replace r2 := Lib.hid r2
  clear ht hb1 kZ kB hb5 k3 k4 hb2 hg3 hg4 k1 k2 l1 l2 lo
  go_wp2_with fail
  obtain ⟨kF, hgF⟩ := setRoot w5 (GZ + 1) (.int .i64 a) (.int .i64 x) (.int .i64 y) (.slice (some ⟨g1, 0, none⟩) 64 c1) (.slice (some ⟨g2, 0, none⟩) 64 c2) kZ5.out
  generalize ((((w5.setCell ⟨GZ + 1, 0, none⟩ (.int .i64 a)).setCell ⟨GZ + 1, 1, none⟩ (.int .i64 x)).setCell ⟨GZ + 1, 2, none⟩ (.int .i64 y)).setCell ⟨GZ + 1, 3, none⟩ (.slice (some ⟨g1, 0, none⟩) 64 c1)).setCell ⟨GZ + 1, 4, none⟩ (.slice (some ⟨g2, 0, none⟩) 64 c2) = w13 at *
  obtain ⟨u0, u1, u2, u3, u4⟩ := blk5v kF
  have hbf : Below w.heap.size w w13 := hb6.out.grown hgF hb6.out.size (fun k hk => by have : GZ + 1 = k := Option.some.inj hk; omega)
  exact bodyPost_ret (v := .tuple #[.agg (rtC a x y (some ⟨g1, 0, none⟩) 64 c1 (some ⟨g2, 0, none⟩) 64 c2), .int .i64 0]) (by simp [results, Tryz.results25, go_sem, u0, u1, u2, u3, u4, rtC]) rfl ⟨g1, c1, g2, c2, rfl, wg1, wg2, r1.out.grown hgF (fun e => ng1 (Option.some.inj e)), r2.out.grown hgF (fun e => ng2 (Option.some.inj e)), hbf⟩
end Go.Proofs.YtgjffaoggjlamaaGreatDoor
