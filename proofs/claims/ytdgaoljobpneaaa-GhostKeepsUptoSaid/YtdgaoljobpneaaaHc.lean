/- The walks of root's text, Text. -/
import Derived.Test.YtdgaoljobpneaaaHb
namespace Go.Proofs.Ytdgaoljobpneaaa
open Go.RowKit
theorem blk5v {w : World} {g : Nat} {t : TypeId} {x0 x1 x2 x3 x4 : Value} (h : Blk w g t #[x0, x1, x2, x3, x4]) : w.cell? ⟨g, 0, none⟩ = some x0 ∧ w.cell? ⟨g, 1, none⟩ = some x1 ∧ w.cell? ⟨g, 2, none⟩ = some x2 ∧ w.cell? ⟨g, 3, none⟩ = some x3 ∧ w.cell? ⟨g, 4, none⟩ = some x4 := ⟨h.cell 0, h.cell 1, h.cell 2, h.cell 3, h.cell 4⟩
theorem blk_row3 {w : World} {g : Nat} {t : TypeId} {a b c : Int} (h : Blk w g t #[.int .i64 a, .int .i64 b, .int .i64 c]) : RowAt w (some ⟨g, 0, none⟩) 3 (fun j => .int .i64 ([a, b, c].getD j 0)) := fun _ => ⟨g, 0, rfl, h.lt, fun j hj => by
  have : j = 0 ∨ j = 1 ∨ j = 2 := by omega
  rcases this with rfl | rfl | rfl
  · exact h.cell 0
  · exact h.cell 1
  · exact h.cell 2⟩
theorem PostO.from {xs : List Int} {w W w' : World} {e : Ending} (h : PostO xs W e w') (hb : Below w.heap.size w W) : PostO xs w e w' := by
  obtain ⟨v, n, e1, h1, h2⟩ := h
  exact ⟨v, n, e1, own_mono h1 hb.size, hb.trans (h2.mono hb.size)⟩
theorem parts3 {w : World} {g : Nat} {q1 q2 q3 : Option Addr} {n1 n2 n3 c1 c2 c3 : Nat} {x1 x2 x3 : List Int} (h : Blk w g 23 #[.slice q1 n1 c1, .slice q2 n2 c2, .slice q3 n3 c3]) (e1 : n1 = x1.length) (e2 : n2 = x2.length) (e3 : n3 = x3.length) (h1 : BytesL w q1 x1) (h2 : BytesL w q2 x2) (h3 : BytesL w q3 x3) : PartsAt w g 0 [x1, x2, x3] :=
  ⟨h.lt, fun i hi => by
    have : i = 0 ∨ i = 1 ∨ i = 2 := by simp only [List.length_cons, List.length_nil] at hi; omega
    rcases this with rfl | rfl | rfl
    · exact ⟨q1, n1, c1, h.cell 0, e1, h1⟩
    · exact ⟨q2, n2, c2, h.cell 1, e2, h2⟩
    · exact ⟨q3, n3, c3, h.cell 2, e3, h3⟩⟩
theorem one_byte {w : World} {g : Nat} (h : Blk w g 5 #[.int .u8 2]) : BytesL w (some ⟨g, 0, none⟩) [2] := fun _ => ⟨g, 0, rfl, h.lt, fun j hj => by
  have : j = 0 := by simpa using hj
  subst this
  exact h.cell 0⟩
def rtxL (r h q : Int) (sum : List Int) : List Int := [[2], numsL [r, h, q] 3, sum].flatten
theorem rtx_len (r h q : Int) (sum : List Int) (hs : sum.length ≤ 1000) : ([[2], numsL [r, h, q] 3, sum] : List (List Int)).flatten.length ≤ 100000000 := by
  have := numsL_len [r, h, q] 3
  simp only [List.flatten_cons, List.flatten_nil, List.append_nil, List.length_append, List.length_cons, List.length_nil]
  omega
set_option maxRecDepth 20000 in
set_option maxHeartbeats 8000000 in
theorem rtext_o (r h q : Int) (p1 : Option Addr) (n1 c1 : Nat) (p2 : Option Addr) (n2 c2 : Nat) (sum : List Int) (hn : n1 = sum.length) (hs : sum.length ≤ 1000) (hr : 0 ≤ r ∧ r < 4611686018427387904) (hh : 0 ≤ h ∧ h < 4611686018427387904) (hq : 0 ≤ q ∧ q < 4611686018427387904) (w : World) (hS : BytesL w p1 sum) :
    Calls Try.prog 49 #[.agg #[.int .i64 r, .int .i64 h, .int .i64 q, .slice p1 n1 c1, .slice p2 n2 c2]] w (PostO (rtxL r h q sum) w) := by
  have hnum := fun g w' (hB : Blk w' g 3 #[.int .i64 r, .int .i64 h, .int .i64 q]) => numbers_o (some ⟨g, 0, none⟩) 3 3 [r, h, q] rfl (by omega) (fun i hi => by
    have : i = 0 ∨ i = 1 ∨ i = 2 := by omega
    rcases this with rfl | rfl | rfl
    · exact hr
    · exact hh
    · exact hq) w' (blk_row3 hB)
  have hl := rtx_len r h q sum hs
  unfold rtxL
  generalize numsL [r, h, q] 3 = N at *
  have hj := fun g w' hP => join_o g 0 3 3 [[2], N, sum] rfl hl (by omega) w' hP
  replace hnum := Lib.hid hnum
  replace hj := Lib.hid hj
  replace hS := Lib.hid hS
  replace hn := Lib.hid hn
  clear hr hh hq hl hs
  go_enter Try.func49, Try.ntmps49
  go_wp2
  refine at_world (fun W0 hW => ?_)
  have hG : Blk W0 w.heap.size 83 #[.int .i64 r, .int .i64 h, .int .i64 q, .slice p1 n1 c1, .slice p2 n2 c2] := by rw [hW]; exact Blk.new _ _ _
  have hb0 : Below w.heap.size w W0 := by rw [hW]; go_grown
  replace hS := Lib.hid (hS.out.below hb0)
  have hBs : w.heap.size ≤ W0.heap.size := hb0.size
  clear hW
  generalize hgb : w.heap.size = gb at *
  go_region_held3 (fun w' => w'.cell? ⟨gb, 0, none⟩ = some (.int .i64 r) ∧ w'.cell? ⟨gb, 1, none⟩ = some (.int .i64 h) ∧ w'.cell? ⟨gb, 2, none⟩ = some (.int .i64 q) ∧ w'.cell? ⟨gb, 3, none⟩ = some (.slice p1 n1 c1) ∧ w'.cell? ⟨gb, 4, none⟩ = some (.slice p2 n2 c2)) (first | exact blk5v hG | exact blk5v hG2 | exact blk5v hG3 | exact blk5v (hG2.alloc _) | exact blk5v ((hG2.alloc _).alloc _) | exact blk5v (hG.alloc _) | exact blk5v ((hG.alloc _).alloc _) | exact blk5v hG.drew | exact blk5v (hG.alloc _).drew | exact blk5v ((hG.alloc _).alloc _).drew) (first | (go_at_call 81; refine calls_at (fun W1 hW1 => ?_); have hb1 : Below W0.heap.size W0 W1 := (by rw [hW1]; go_grown); (first | have h2 : Blk W1 W0.heap.size 5 #[.int .u8 2] := (by rw [hW1]; exact ((Blk.new _ _ _).alloc _).drew) | have h2 : Blk W1 (W0.heap.size + 1) 5 #[.int .u8 2] := (by rw [hW1]; exact (blk_at (by simp) (Blk.new _ _ _)).drew) | skip); refine (hnum.out _ _ (by rw [hW1]; first | exact (blk_at (by simp) (Blk.new _ _ _)).drew | exact (blk_at (by simp) ((Blk.new _ _ _).alloc _)).drew)).mono ?_; clear hW1; rintro e w2 ho; obtain ⟨q1, m1, d1, rfl, hm1, hR1, hb2, -⟩ := ho.l; replace hm1 := Lib.hid hm1; have hG2 := (hG.below hb1).below hb2; (try have h22 := h2.below hb2); have hS2 := Lib.hid (hS.out.below (hb1.trans (hb2.mono hb1.size))); have hb02 := hb0.trans ((hb1.trans (hb2.mono hb1.size)).mono hBs); have hb02s := Nat.le_trans hBs (Nat.le_trans hb1.size hb2.size); clear hS hnum hb1 hb2 hG hb0 ho; (try clear h2)) | (go_at_call 80; refine calls_at (fun W3 hW3 => ?_); have hb3 : Below w2.heap.size w2 W3 := (by rw [hW3]; go_grown); (first | (have hp : Blk W3 w2.heap.size 23 #[.slice (some ⟨W0.heap.size, 0, none⟩) 1 1, .slice q1 m1 d1, .slice p1 n1 c1] := (by rw [hW3]; first | exact Blk.new _ _ _ | exact blk_at (by simp) (Blk.new _ _ _)); have hone := one_byte (h22.below hb3)) | (have hp : Blk W3 w2.heap.size 23 #[.slice (some ⟨(W0.heap.size + 1), 0, none⟩) 1 1, .slice q1 m1 d1, .slice p1 n1 c1] := (by rw [hW3]; first | exact Blk.new _ _ _ | exact blk_at (by simp) (Blk.new _ _ _)); have hone := one_byte (h22.below hb3)) | (have hp : Blk W3 (w2.heap.size + 1) 23 #[.slice (some ⟨w2.heap.size, 0, none⟩) 1 1, .slice q1 m1 d1, .slice p1 n1 c1] := (by rw [hW3]; first | exact Blk.new _ _ _ | exact blk_at (by simp) (Blk.new _ _ _)); have hone : BytesL W3 (some ⟨w2.heap.size, 0, none⟩) [2] := one_byte (by rw [hW3]; exact (Blk.new _ _ _).alloc _))); refine (hj.out _ _ (parts3 hp rfl hm1.out hn.out hone (hR1.below hb3) (hS2.out.below hb3))).mono ?_; clear hW3; rintro e w4 ⟨v, m4, rfl, hown, hb4⟩; have hG3 := (hG2.below hb3).below hb4; have hb04 := hb02.trans ((hb3.trans (hb4.mono hb3.size)).mono hb02s); have hown2 := Lib.hid (own_mono hown (Nat.le_trans hb02s hb3.size))))
  all_goals
    go_wp2
    go_returns
    subst hgb
    exact ⟨_, _, rfl, hown2.out, hb04⟩
def rootTL (r h q : Int) (sum : List Int) : List Int := if shT r h q sum.length then rtxL r h q sum else []
set_option maxRecDepth 20000 in
set_option maxHeartbeats 8000000 in
theorem rootText_o (r h q : Int) (p1 : Option Addr) (n1 c1 : Nat) (p2 : Option Addr) (n2 c2 : Nat) (sum : List Int) (hn : n1 = sum.length) (w : World) (hS : BytesL w p1 sum) :
    Calls Try.prog 19 #[.agg #[.int .i64 r, .int .i64 h, .int .i64 q, .slice p1 n1 c1, .slice p2 n2 c2]] w (PostO (rootTL r h q sum) w) := by
  have hsh := fun w' => shape_c r h q p1 n1 c1 p2 n2 c2 w'
  have htx := fun (e : shT r h q n1 = true) w' hS' => rtext_o r h q p1 n1 c1 p2 n2 c2 sum hn (by have := shT_true e; omega) (by have := shT_true e; omega) (by have := shT_true e; omega) (by have := shT_true e; omega) w' hS'
  have hT : shT r h q n1 = true → rootTL r h q sum = rtxL r h q sum := fun e => by unfold rootTL; rw [← hn, e]; rfl
  have hF : shT r h q n1 = false → rootTL r h q sum = [] := fun e => by unfold rootTL; rw [← hn, e]; rfl
  obtain ⟨T, hTe⟩ : ∃ T, T = rootTL r h q sum := ⟨_, rfl⟩
  rw [← hTe] at hT hF ⊢
  obtain ⟨X, hXe⟩ : ∃ X, X = rtxL r h q sum := ⟨_, rfl⟩
  rw [← hXe] at hT htx
  clear hTe hXe
  cases hs : shT r h q n1
  · replace hF := Lib.hid (hF hs)
    rw [hs] at hsh
    replace hsh := Lib.hid hsh
    clear hs htx hT hn
    go_enter Try.func19, Try.ntmps19
    go_wp2_with fail
    refine calls_at (fun W1 hW => ?_)
    have hb1 : Below w.heap.size w W1 := by rw [hW]; go_grown
    clear hW
    refine (hsh.out _).mono ?_
    rintro e w2 ⟨rfl, hb2⟩
    have hb3 := hb1.trans (hb2.mono hb1.size)
    go_wp2
    go_returns
    rw [hF.out]
    exact ⟨_, 0, rfl, ⟨rfl, .inl ⟨rfl, rfl⟩⟩, hb3⟩
  · replace hT := Lib.hid (hT hs)
    replace htx := Lib.hid (htx hs)
    rw [hs] at hsh
    replace hsh := Lib.hid hsh
    replace hS := Lib.hid hS
    clear hs hF hn
    go_enter Try.func19, Try.ntmps19
    go_wp2_with fail
    refine calls_at (fun W1 hW => ?_)
    have hb1 : Below w.heap.size w W1 := by rw [hW]; go_grown
    have hG : Blk W1 (w.heap.size + 1) 83 #[.int .i64 r, .int .i64 h, .int .i64 q, .slice p1 n1 c1, .slice p2 n2 c2] := by rw [hW]; exact blk_at (by simp) (Blk.new _ _ _)
    clear hW
    refine (hsh.out _).mono ?_
    rintro e w2 ⟨rfl, hb2⟩
    have hb3 := hb1.trans (hb2.mono hb1.size)
    replace hG := hG.below hb2
    obtain ⟨y0, y1, y2, y3, y4⟩ := blk5v hG
    clear hb1 hb2 hsh
    go_wp2_with fail
    clear y0 y1 y2 y3 y4
    refine (htx.out _ (hS.out.below hb3)).mono ?_
    rintro e w4 ⟨v, m4, rfl, hown, hb4⟩
    have hb5 := hb3.trans (hb4.mono hb3.size)
    have hown2 := Lib.hid (own_mono hown hb3.size)
    clear hown
    go_wp2
    go_returns
    rw [hT.out]
    exact ⟨_, _, rfl, hown2.out, hb5⟩
end Go.Proofs.Ytdgaoljobpneaaa
