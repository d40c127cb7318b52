/- The walk of the law EdwardsOften. -/
import Derived.Test.YtigcobcpfmnhoaaDoorSj
namespace Go.Proofs.YtigcobcpfmnhoaaDoor
open Go.RowKit
/-- the lowest bit struck, and set -/
def evB (b : Nat → Int) (j : Nat) : Int := if j = 0 then bits .andNot .u8 (b 0) 1 else b j
def odB' (b : Nat → Int) (j : Nat) : Int := if j = 0 then bits .or .u8 (bits .andNot .u8 (b 0) 1) 1 else b j
theorem ev_od {b : Nat → Int} (h : Sc.Byt b) : Sc.Byt (evB b) ∧ Sc.Byt (odB' b) ∧ Sc.leV (odB' b) 32 = Sc.leV (evB b) 32 + 1 := by
  obtain ⟨x, hx⟩ : ∃ x : Fin 256, b 0 = (x.val : Int) := ⟨⟨(b 0).toNat, by have := h 0; omega⟩, by have := h 0; dsimp only; omega⟩
  have key : ∀ x : Fin 256, 0 ≤ bits .andNot .u8 (x.val : Int) 1 ∧ bits .andNot .u8 (x.val : Int) 1 < 256 ∧ bits .or .u8 (bits .andNot .u8 (x.val : Int) 1) 1 = bits .andNot .u8 (x.val : Int) 1 + 1 ∧ bits .andNot .u8 (x.val : Int) 1 < 255 := by decide +kernel
  have k := key x
  rw [← hx] at k
  refine ⟨fun j => ?_, fun j => ?_, ?_⟩
  · unfold evB
    split
    · exact ⟨k.1, k.2.1⟩
    · exact h j
  · unfold odB'
    split
    · rw [k.2.2.1]; have := k.1; have := k.2.2.2; omega
    · exact h j
  · rw [Sc.leV_shift (odB' b) 31, Sc.leV_shift (evB b) 31]
    have e : (fun j => odB' b (j + 1)) = fun j => evB b (j + 1) := funext fun j => by unfold odB' evB; rw [if_neg (by omega), if_neg (by omega)]
    rw [e]
    have e0 : odB' b 0 = evB b 0 + 1 := by unfold odB' evB; rw [if_pos rfl, if_pos rfl]; exact k.2.2.1
    rw [e0]
    omega
theorem same_pq {p q : Fe.Pt} (h : p = q) : (decide (p.1 = q.1) && decide (p.2 = q.2)) = true := by rw [h, decide_eq_true rfl, decide_eq_true rfl]; rfl
theorem fz_leV {f : Nat → Int} (hf : f 0 = 1) : Sc.leV (fz f 1) 32 = 1 := by
  have e : ∀ j, fz f 1 (j + 1) = 0 := fun j => by unfold fz; rw [if_neg (by omega)]
  rw [Sc.leV_shift, show (fun j => fz f 1 (j + 1)) = fun _ => 0 from funext e, Sc.leV_zero]
  unfold fz
  rw [if_pos (by decide), hf]
  rfl
theorem st_ev {w : World} {g c : Nat} {b : Nat → Int} (h : RowB w g 32 c b) : RowB (w.setCell ⟨g, 0, none⟩ (.int .u8 (bits .andNot .u8 (b 0) 1))) g 32 c (evB b) := (h.set_ 0 (by decide) _).congr fun j _ => rfl
theorem st_od {w : World} {g c : Nat} {b : Nat → Int} (h : RowB w g 32 c (evB b)) : RowB (w.setCell ⟨g, 0, none⟩ (.int .u8 (bits .or .u8 (evB b 0) 1))) g 32 c (odB' b) := (h.set_ 0 (by decide) _).congr fun j _ => by unfold odB' evB; split <;> rfl
theorem byt_fz : Sc.Byt (fz (fun _ => 1) 1) := fun j => by
  unfold fz
  split
  · exact (show (0 : Int) ≤ 1 ∧ (1 : Int) < 256 by decide)
  · exact (show (0 : Int) ≤ 0 ∧ (0 : Int) < 256 by decide)
theorem byt_0 : Sc.Byt (fun _ => 0) := fun _ => show (0 : Int) ≤ 0 ∧ (0 : Int) < 256 by decide
def of9L (gx : Nat) (cx : Nat) (gy : Nat) (cy : Nat) (gs : Nat) (cs : Nat) (gp : Nat) (cp : Nat) (nx : Nat) (ny : Nat) (ns : Nat) (np : Nat) (B : Fe.Pt) : List (Value → World → Prop) := [
  Eq1 (.slice (some ⟨gx, 0, none⟩) 32 cx),
  PqP B.1 B.2,
  PqP ((Fe.nP nx B).1) ((Fe.nP nx B).2),
  Eq1 (.slice (some ⟨gy, 0, none⟩) 32 cy),
  PqP B.1 B.2,
  PqP ((Fe.nP ny B).1) ((Fe.nP ny B).2),
  SlP 2 (p2 ((Fe.nP nx B).1) ((Fe.nP ny B).1)) (p2 ((Fe.nP nx B).2) ((Fe.nP ny B).2)),
  PqP (Fe.ax ((Fe.nP nx B).1) ((Fe.nP nx B).2) ((Fe.nP ny B).1) ((Fe.nP ny B).2)) (Fe.ay ((Fe.nP nx B).1) ((Fe.nP nx B).2) ((Fe.nP ny B).1) ((Fe.nP ny B).2)),
  Eq1 (.slice (some ⟨gs, 0, none⟩) 32 cs),
  PqP B.1 B.2,
  PqP ((Fe.nP ns B).1) ((Fe.nP ns B).2),
  Eq1 (.bool true),
  Eq1 (.bool false),
  Eq1 (.bool false),
  Eq1 (.slice (some ⟨gx, 0, none⟩) 32 cx),
  Eq1 (.slice (some ⟨gy, 0, none⟩) 32 cy),
  PqP B.1 B.2,
  PqP ((Fe.nP ny B).1) ((Fe.nP ny B).2),
  PqP ((Fe.nP nx (Fe.nP ny B)).1) ((Fe.nP nx (Fe.nP ny B)).2),
  Eq1 (.slice (some ⟨gp, 0, none⟩) 32 cp),
  PqP B.1 B.2,
  PqP ((Fe.nP np B).1) ((Fe.nP np B).2),
  Eq1 (.bool true),
  Eq1 (.bool false),
  Eq1 (.bool false)]
theorem of9S (gx : Nat) (cx : Nat) (gy : Nat) (cy : Nat) (gs : Nat) (cs : Nat) (gp : Nat) (cp : Nat) (nx : Nat) (ny : Nat) (ns : Nat) (np : Nat) (B : Fe.Pt) : ∀ j x' q q', (of9L gx cx gy cy gs cs gp cp nx ny ns np B).getD j (fun _ _ => True) x' q → Below q.heap.size q q' → (of9L gx cx gy cy gs cs gp cp nx ny ns np B).getD j (fun _ _ => True) x' q' := by
  refine sta_all _ ?_
  simp only [of9L, List.mem_cons, forall_eq_or_imp, List.not_mem_nil, false_implies, implies_true, and_true]
  exact ⟨sta_eq _, sta_pq _ _, sta_pq _ _, sta_eq _, sta_pq _ _, sta_pq _ _, sta_sl _ _ _, sta_pq _ _, sta_eq _, sta_pq _ _, sta_pq _ _, sta_eq _, sta_eq _, sta_eq _, sta_eq _, sta_eq _, sta_pq _ _, sta_pq _ _, sta_pq _ _, sta_eq _, sta_pq _ _, sta_pq _ _, sta_eq _, sta_eq _, sta_eq _⟩
def of16L (gx : Nat) (cx : Nat) (gy : Nat) (cy : Nat) (ge : Nat) (ce : Nat) (gh : Nat) (ch : Nat) (nx : Nat) (ny : Nat) (ne : Nat) (B : Fe.Pt) (p : Fe.Pt) : List (Value → World → Prop) := [
  Eq1 (.slice (some ⟨ge, 0, none⟩) 32 ce),
  PqP p.1 p.2,
  PqP ((Fe.nP ne p).1) ((Fe.nP ne p).2),
  PqP p.1 p.2,
  SlP 2 (p2 ((Fe.nP ne p).1) p.1) (p2 ((Fe.nP ne p).2) p.2),
  PqP (Fe.ax ((Fe.nP ne p).1) ((Fe.nP ne p).2) p.1 p.2) (Fe.ay ((Fe.nP ne p).1) ((Fe.nP ne p).2) p.1 p.2),
  Eq1 (.slice (some ⟨gh, 0, none⟩) 32 ch),
  PqP p.1 p.2,
  PqP ((Fe.nP (ne + 1) p).1) ((Fe.nP (ne + 1) p).2),
  Eq1 (.bool true),
  Eq1 (.bool true),
  Eq1 (.slice (some ⟨gx, 0, none⟩) 32 cx),
  PqP p.1 p.2,
  Eq1 (.slice (some ⟨gy, 0, none⟩) 32 cy),
  PqP ((Fe.gad (Fe.nP nx p) (Fe.nP ny B)).1) ((Fe.gad (Fe.nP nx p) (Fe.nP ny B)).2),
  Eq1 (.slice (some ⟨gx, 0, none⟩) 32 cx),
  PqP p.1 p.2,
  PqP ((Fe.nP nx p).1) ((Fe.nP nx p).2),
  Eq1 (.slice (some ⟨gy, 0, none⟩) 32 cy),
  PqP B.1 B.2,
  PqP ((Fe.nP ny B).1) ((Fe.nP ny B).2),
  SlP 2 (p2 ((Fe.nP nx p).1) ((Fe.nP ny B).1)) (p2 ((Fe.nP nx p).2) ((Fe.nP ny B).2)),
  PqP (Fe.ax ((Fe.nP nx p).1) ((Fe.nP nx p).2) ((Fe.nP ny B).1) ((Fe.nP ny B).2)) (Fe.ay ((Fe.nP nx p).1) ((Fe.nP nx p).2) ((Fe.nP ny B).1) ((Fe.nP ny B).2)),
  Eq1 (.bool true),
  Eq1 (.bool true)]
theorem of16S (gx : Nat) (cx : Nat) (gy : Nat) (cy : Nat) (ge : Nat) (ce : Nat) (gh : Nat) (ch : Nat) (nx : Nat) (ny : Nat) (ne : Nat) (B : Fe.Pt) (p : Fe.Pt) : ∀ j x' q q', (of16L gx cx gy cy ge ce gh ch nx ny ne B p).getD j (fun _ _ => True) x' q → Below q.heap.size q q' → (of16L gx cx gy cy ge ce gh ch nx ny ne B p).getD j (fun _ _ => True) x' q' := by
  refine sta_all _ ?_
  simp only [of16L, List.mem_cons, forall_eq_or_imp, List.not_mem_nil, false_implies, implies_true, and_true]
  exact ⟨sta_eq _, sta_pq _ _, sta_pq _ _, sta_pq _ _, sta_sl _ _ _, sta_pq _ _, sta_eq _, sta_pq _ _, sta_pq _ _, sta_eq _, sta_eq _, sta_eq _, sta_pq _ _, sta_eq _, sta_pq _ _, sta_eq _, sta_pq _ _, sta_pq _ _, sta_eq _, sta_pq _ _, sta_pq _ _, sta_sl _ _ _, sta_pq _ _, sta_eq _, sta_eq _⟩
set_option maxRecDepth 20000 in
set_option maxHeartbeats 8000000 in
theorem often4_c (q1 : Option Addr) (n1 d1 : Nat) (b1 : Nat → Int) (q2 : Option Addr) (n2 d2 : Nat) (b2 : Nat → Int) (q3 : Option Addr) (n3 d3 : Nat) (b3 : Nat → Int) (hr1 : ∀ j, 0 ≤ b1 j ∧ b1 j < 256) (hr2 : ∀ j, 0 ≤ b2 j ∧ b2 j < 256) (hr3 : ∀ j, 0 ≤ b3 j ∧ b3 j < 256) (hn1 : n1 ≤ 100) (hn2 : n2 ≤ 100) (hn3 : n3 ≤ 100) (w : World) (hB1 : BAt w q1 n1 b1) (hB2 : BAt w q2 n2 b2) (hB3 : BAt w q3 n3 b3) (hCv : CvP w) : Calls Tryd.prog 3 #[.slice q1 n1 d1, .slice q2 n2 d2, .slice q3 n3 d3] w fun e w' => e = .returned (.bool true) ∧ Below w.heap.size w w' := by
  have hi1 : (n1 : Int) ≤ 100 := by omega
  have hi2 : (n2 : Int) ≤ 100 := by omega
  have hi3 : (n3 : Int) ≤ 100 := by omega
  have hF1 := Lib.hid (fun w1 (hb : Below w.heap.size w w1) => fold_c q1 n1 d1 b1 hn1 w1 (hB1.below hb))
  have hF2 := Lib.hid (fun w1 (hb : Below w.heap.size w w1) => fold_c q2 n2 d2 b2 hn2 w1 (hB2.below hb))
  have hP3 := Lib.hid (fun w1 (hb : Below w.heap.size w w1) => point_c q3 n3 d3 b3 hr3 hn3 w1 (hB3.below hb) (hCv.below hb hCv.lt))
  have hyx : Sc.Byt (foldB b1 n1) := fun j => foldB_r hr1 n1 j
  have hyy : Sc.Byt (foldB b2 n2) := fun j => foldB_r hr2 n2 j
  obtain ⟨bx, hbx⟩ : ∃ f, f = foldB b1 n1 := ⟨_, rfl⟩
  obtain ⟨by', hby⟩ : ∃ f, f = foldB b2 n2 := ⟨_, rfl⟩
  rw [← hbx] at hF1 hyx
  rw [← hby] at hF2 hyy
  clear hbx hby
  have hMA1 := Lib.hid (fun gx cx go co gy cy W (hx : RowB W gx 32 cx bx) (ho : RowB W go 32 co (fz (fun _ => 1) 1)) (hy : RowB W gy 32 cy by') => muladd_c gx 0 cx go 0 co gy 0 cy bx (fz (fun _ => 1) 1) by' hyx byt_fz hyy W hx.lt (fun j hj => by rw [Nat.zero_add]; exact hx.cell j hj) ho.lt (fun j hj => by rw [Nat.zero_add]; exact ho.cell j hj) hy.lt (fun j hj => by rw [Nat.zero_add]; exact hy.cell j hj))
  have hMA2 := Lib.hid (fun gx cx gy cy go co W (hx : RowB W gx 32 cx bx) (hy : RowB W gy 32 cy by') (ho : RowB W go 32 co (fun _ => 0)) => muladd_c gx 0 cx gy 0 cy go 0 co bx by' (fun _ => 0) hyx hyy byt_0 W hx.lt (fun j hj => by rw [Nat.zero_add]; exact hx.cell j hj) hy.lt (fun j hj => by rw [Nat.zero_add]; exact hy.cell j hj) ho.lt (fun j hj => by rw [Nat.zero_add]; exact ho.cell j hj))
  have vx := Sc.leV_bd hyx 32
  have vy := Sc.leV_bd hyy 32
  obtain ⟨B, hB⟩ : ∃ B : Fe.Pt, B = Fe.Bp := ⟨_, rfl⟩
  have hBon : Fe.On2 B := by rw [hB]; exact Fe.Bp_on
  have hBo := Lib.hid (fun g1 c1 g2 c2 (X Y Z T : Fe.E) (p : Fe.Pt) W (k1 : g1 < W.heap.size) (e1 : ∀ j, j < 32 → W.cell? ⟨g1, 0 + j, none⟩ = some (.int .u8 (bx j))) (k2 : g2 < W.heap.size) (e2 : ∀ j, j < 32 → W.cell? ⟨g2, 0 + j, none⟩ = some (.int .u8 (by' j))) (hp : PtE X Y Z T p.1 p.2) (hC : CvP W) => fboth_c g1 0 c1 hyx g2 0 c2 hyy W k1 e1 k2 e2 hp hC)
  rw [← hB] at hBo
  have hMx := Lib.hid (fun g c (X Y Z T : Fe.E) (p : Fe.Pt) W (k1 : g < W.heap.size) (e1 : ∀ j, j < 32 → W.cell? ⟨g, 0 + j, none⟩ = some (.int .u8 (bx j))) (hp : PtE X Y Z T p.1 p.2) (hC : CvP W) => fmul_c g 0 c hyx W k1 e1 hp hC)
  have hMy := Lib.hid (fun g c (X Y Z T : Fe.E) (p : Fe.Pt) W (k1 : g < W.heap.size) (e1 : ∀ j, j < 32 → W.cell? ⟨g, 0 + j, none⟩ = some (.int .u8 (by' j))) (hp : PtE X Y Z T p.1 p.2) (hC : CvP W) => fmul_c g 0 c hyy W k1 e1 hp hC)
  obtain ⟨bs, hbs⟩ : ∃ f, f = Sc.byt ((Sc.leV bx 32 * Sc.leV (fz (fun _ => 1) 1) 32 + Sc.leV by' 32) % LI) := ⟨_, rfl⟩
  obtain ⟨bp, hbp⟩ : ∃ f, f = Sc.byt ((Sc.leV bx 32 * Sc.leV by' 32 + Sc.leV (fun _ => 0) 32) % LI) := ⟨_, rfl⟩
  have hys : Sc.Byt bs := by rw [hbs]; exact Sc.byt_r _
  have hyp : Sc.Byt bp := by rw [hbp]; exact Sc.byt_r _
  have hMs := Lib.hid (fun g c (X Y Z T : Fe.E) (p : Fe.Pt) W (k1 : g < W.heap.size) (e1 : ∀ j, j < 32 → W.cell? ⟨g, 0 + j, none⟩ = some (.int .u8 (bs j))) (hp : PtE X Y Z T p.1 p.2) (hC : CvP W) => fmul_c g 0 c hys W k1 e1 hp hC)
  have hMp := Lib.hid (fun g c (X Y Z T : Fe.E) (p : Fe.Pt) W (k1 : g < W.heap.size) (e1 : ∀ j, j < 32 → W.cell? ⟨g, 0 + j, none⟩ = some (.int .u8 (bp j))) (hp : PtE X Y Z T p.1 p.2) (hC : CvP W) => fmul_c g 0 c hyp W k1 e1 hp hC)
  obtain ⟨hye, hyo, hvo⟩ := ev_od hyx
  have hMe := Lib.hid (fun g c (X Y Z T : Fe.E) (p : Fe.Pt) W (k1 : g < W.heap.size) (e1 : ∀ j, j < 32 → W.cell? ⟨g, 0 + j, none⟩ = some (.int .u8 (evB bx j))) (hp : PtE X Y Z T p.1 p.2) (hC : CvP W) => fmul_c g 0 c hye W k1 e1 hp hC)
  have hMo := Lib.hid (fun g c (X Y Z T : Fe.E) (p : Fe.Pt) W (k1 : g < W.heap.size) (e1 : ∀ j, j < 32 → W.cell? ⟨g, 0 + j, none⟩ = some (.int .u8 (odB' bx j))) (hp : PtE X Y Z T p.1 p.2) (hC : CvP W) => fmul_c g 0 c hyo W k1 e1 hp hC)
  have ve := Sc.leV_bd hye 32
  have hL : LI = (Fe.ordN : Int) := rfl
  have hns : (Sc.leV bs 32).toNat = ((Sc.leV bx 32).toNat + (Sc.leV by' 32).toNat) % Fe.ordN := by
    rw [hbs, Sc.leV_byt, fz_leV rfl, Int.mul_one]
    have h1 : 0 ≤ (Sc.leV bx 32 + Sc.leV by' 32) % LI ∧ (Sc.leV bx 32 + Sc.leV by' 32) % LI < LI := ⟨Int.emod_nonneg _ (by unfold LI; decide), Int.emod_lt_of_pos _ (by unfold LI; decide)⟩
    have h2 : LI < 256 ^ 32 := by unfold LI; decide
    rw [Int.emod_eq_of_lt h1.1 (by omega), hL]
    obtain ⟨X, hX⟩ := Int.eq_ofNat_of_zero_le vx.1
    obtain ⟨Y, hY⟩ := Int.eq_ofNat_of_zero_le vy.1
    rw [hX, hY, Int.toNat_natCast, Int.toNat_natCast, ← Int.natCast_add, ← Int.natCast_emod, Int.toNat_natCast]
  have hnp : (Sc.leV bp 32).toNat = ((Sc.leV by' 32).toNat * (Sc.leV bx 32).toNat) % Fe.ordN := by
    rw [hbp, Sc.leV_byt, Sc.leV_zero, Int.add_zero]
    have h1 : 0 ≤ (Sc.leV bx 32 * Sc.leV by' 32) % LI ∧ (Sc.leV bx 32 * Sc.leV by' 32) % LI < LI := ⟨Int.emod_nonneg _ (by unfold LI; decide), Int.emod_lt_of_pos _ (by unfold LI; decide)⟩
    have h2 : LI < 256 ^ 32 := by unfold LI; decide
    rw [Int.emod_eq_of_lt h1.1 (by omega), hL]
    obtain ⟨X, hX⟩ := Int.eq_ofNat_of_zero_le vx.1
    obtain ⟨Y, hY⟩ := Int.eq_ofNat_of_zero_le vy.1
    rw [hX, hY, Int.toNat_natCast, Int.toNat_natCast, ← Int.natCast_mul, Nat.mul_comm Y X, ← Int.natCast_emod, Int.toNat_natCast]
  have hno : (Sc.leV (odB' bx) 32).toNat = (Sc.leV (evB bx) 32).toNat + 1 := by omega
  obtain ⟨nx, hnx⟩ : ∃ n, (Sc.leV bx 32).toNat = n := ⟨_, rfl⟩
  obtain ⟨ny, hny⟩ : ∃ n, (Sc.leV by' 32).toNat = n := ⟨_, rfl⟩
  obtain ⟨ns, hnse⟩ : ∃ n, (Sc.leV bs 32).toNat = n := ⟨_, rfl⟩
  obtain ⟨np, hnpe⟩ : ∃ n, (Sc.leV bp 32).toNat = n := ⟨_, rfl⟩
  obtain ⟨ne, hnee⟩ : ∃ n, (Sc.leV (evB bx) 32).toNat = n := ⟨_, rfl⟩
  rw [hno] at hMo
  rw [hnx] at hMx hBo hns hnp
  rw [hny] at hMy hBo hns hnp
  rw [hnse] at hMs hns
  rw [hnpe] at hMp hnp
  rw [hnee] at hMe hMo
  have hf1 : (decide (Fe.ax (Fe.nP nx B).1 (Fe.nP nx B).2 (Fe.nP ny B).1 (Fe.nP ny B).2 = (Fe.nP ns B).1) && decide (Fe.ay (Fe.nP nx B).1 (Fe.nP nx B).2 (Fe.nP ny B).1 (Fe.nP ny B).2 = (Fe.nP ns B).2)) = true := by
    refine same_pq (p := Fe.gad (Fe.nP nx B) (Fe.nP ny B)) (q := Fe.nP ns B) ?_
    rw [hns, hB, Fe.nP_mod, Fe.nP_add Fe.Bp_on]
  have hf2 : (decide ((Fe.nP nx (Fe.nP ny B)).1 = (Fe.nP np B).1) && decide ((Fe.nP nx (Fe.nP ny B)).2 = (Fe.nP np B).2)) = true := by
    refine same_pq ?_
    rw [hnp, hB, Fe.nP_mod, Fe.nP_mul Fe.Bp_on]
  have hf3 : ∀ p : Fe.Pt, Fe.On2 p → (decide (Fe.ax (Fe.nP ne p).1 (Fe.nP ne p).2 p.1 p.2 = (Fe.nP (ne + 1) p).1) && decide (Fe.ay (Fe.nP ne p).1 (Fe.nP ne p).2 p.1 p.2 = (Fe.nP (ne + 1) p).2)) = true := fun p _ => same_pq (p := Fe.gad (Fe.nP ne p) p) (q := Fe.nP (ne + 1) p) rfl
  have hf4 : ∀ p : Fe.Pt, (decide ((Fe.gad (Fe.nP nx p) (Fe.nP ny B)).1 = Fe.ax (Fe.nP nx p).1 (Fe.nP nx p).2 (Fe.nP ny B).1 (Fe.nP ny B).2) && decide ((Fe.gad (Fe.nP nx p) (Fe.nP ny B)).2 = Fe.ay (Fe.nP nx p).1 (Fe.nP nx p).2 (Fe.nP ny B).1 (Fe.nP ny B).2)) = true := fun p => same_pq (p := Fe.gad (Fe.nP nx p) (Fe.nP ny B)) (q := Fe.gad (Fe.nP nx p) (Fe.nP ny B)) rfl
  have hbase := Lib.hid (fun w hC => base_c w hC)
  rw [show Fe.zf Fe.bX = Fe.Bp.1 from rfl, show Fe.zf Fe.bY = Fe.Bp.2 from rfl, ← hB] at hbase
  replace hf1 := Lib.hid hf1
  replace hf2 := Lib.hid hf2
  replace hf3 := Lib.hid hf3
  replace hf4 := Lib.hid hf4
  replace hBon := Lib.hid hBon
  rw [← hbs] at hMA1
  rw [← hbp] at hMA2
  replace hCv := Lib.hid hCv
  clear hnx hny hnse hnpe hnee hns hnp hno hL ve hye hyo hvo hys hyp hbs hbp vx vy hyx hyy hr1 hr2 hr3 hn1 hn2 hn3 hB1 hB2 hB3 hB
  go_enter Tryd.func3, Tryd.ntmps3
  go_wp2_with fail
  refine (awake4_c w hCv.out).mono ?_
  rintro e w1 ⟨rfl, hb0⟩
  go_wp2_with fail
  refine (hF1.out w1 hb0).mono ?_
  rintro e w2 ⟨gx, cx, rfl, _, hRx, hb⟩
  replace hb0 := hb0.trans (hb.mono hb0.size)
  clear hb
  replace hRx := Lib.hid hRx
  go_wp2_with fail
  refine (hF2.out w2 hb0).mono ?_
  rintro e w3 ⟨gy, cy, rfl, _, hRy, hb⟩
  replace hb0 := hb0.trans (hb.mono hb0.size)
  replace hRx := Lib.hid (hRx.out.below hb)
  replace hRy := Lib.hid hRy
  clear hb hF2
  go_wp2_with fail
  refine calls_at (fun w4 hW => ?_)
  have hb : Below w3.heap.size w3 w4 := by rw [hW]; exact (Below.refl _ _).alloc (Nat.le_refl _) _
  have hc1 : ∀ j, j < 1 → w4.cell? ⟨w3.heap.size, 0 + j, none⟩ = some (.int .u8 ((fun _ => 1) j)) := fun j hj => by
    obtain rfl : j = 0 := by omega
    rw [hW, (Blk.new w3 _ _).cell 0]
    rfl
  have hlt : w3.heap.size < w4.heap.size := by rw [hW, World.size_alloc]; omega
  clear hW
  replace hb0 := hb0.trans (hb.mono hb0.size)
  replace hRx := Lib.hid (hRx.out.below hb)
  replace hRy := Lib.hid (hRy.out.below hb)
  clear hb
  refine (bytes32_c _ 0 1 1 (fun _ => 1) (by decide) (by decide) w4 hlt hc1).mono ?_
  clear hlt hc1
  rintro e w5 ⟨go, co, rfl, _, hRo, hb⟩
  replace hb0 := hb0.trans (hb.mono hb0.size)
  replace hRx := Lib.hid (hRx.out.below hb)
  replace hRy := Lib.hid (hRy.out.below hb)
  replace hRo := Lib.hid hRo
  clear hb
  go_wp2_with fail
  refine (bytes0_c w5).mono ?_
  rintro e w6 ⟨gz, cz, rfl, _, hRz, hb⟩
  replace hb0 := hb0.trans (hb.mono hb0.size)
  replace hRx := Lib.hid (hRx.out.below hb)
  replace hRy := Lib.hid (hRy.out.below hb)
  replace hRo := Lib.hid (hRo.out.below hb)
  replace hRz := Lib.hid hRz
  clear hb
  go_wp2_with fail
  refine (hbase.out w6 (hCv.out.below hb0 hCv.out.lt)).mono ?_
  rintro e w7 ⟨XB, YB, ZB, TB, rfl, hEB, hb⟩
  replace hb0 := hb0.trans (hb.mono hb0.size)
  replace hRx := Lib.hid (hRx.out.below hb)
  replace hRy := Lib.hid (hRy.out.below hb)
  replace hRo := Lib.hid (hRo.out.below hb)
  replace hRz := Lib.hid (hRz.out.below hb)
  replace hEB := Lib.hid hEB
  clear hb
  have LO := hb0.size
  go_wp2_with (refine stPt rfl rfl rfl rfl (Blk.new _ _ _) rfl rfl (by kernel_rfl) ?_; intro w8 k11 hgr hsz; have hb : Below w7.heap.size w7 w8 := ((Below.refl _ _).alloc (Nat.le_refl _) _).grown hgr (by simp) (fun k hk => by injection hk with hk; omega); clear hgr hsz)
  obtain ⟨G11, hG11⟩ : ∃ G, G = w7.heap.size := ⟨_, rfl⟩
  rw [← hG11] at k11 ⊢
  clear hG11 LO
  replace hb0 := hb0.trans (hb.mono hb0.size)
  replace hRx := Lib.hid (hRx.out.below hb)
  replace hRy := Lib.hid (hRy.out.below hb)
  replace hRo := Lib.hid (hRo.out.below hb)
  replace hRz := Lib.hid (hRz.out.below hb)
  clear hb
  refine (hMA1.out gx cx go co gy cy w8 hRx.out hRo.out hRy.out).mono ?_
  rintro e w9 ⟨gs, cs, rfl, _, hRs, hb⟩
  replace hb0 := hb0.trans (hb.mono hb0.size)
  replace k11 := k11.below hb
  replace hRx := Lib.hid (hRx.out.below hb)
  replace hRy := Lib.hid (hRy.out.below hb)
  replace hRz := Lib.hid (hRz.out.below hb)
  replace hRs := Lib.hid hRs
  clear hb hRo hMA1
  go_wp2_with fail
  refine (hMA2.out gx cx gy cy gz cz w9 hRx.out hRy.out hRz.out).mono ?_
  rintro e w10 ⟨gp, cp, rfl, _, hRp, hb⟩
  replace hb0 := hb0.trans (hb.mono hb0.size)
  replace k11 := k11.below hb
  replace hRx := Lib.hid (hRx.out.below hb)
  replace hRy := Lib.hid (hRy.out.below hb)
  replace hRs := Lib.hid (hRs.out.below hb)
  replace hRp := Lib.hid hRp
  clear hb hRz hMA2
  have hC7 := hCv.out.below hb0 hCv.out.lt
  go_wp2_with fail
  refine wp_region_grow2 25 (fun k => (Nat.ble 48 k && Nat.ble k 72)) _ [] (fun j x' q => (of9L gx cx gy cy gs cs gp cp nx ny ns np B).getD j (fun _ _ => True) x' q) (fun _ => false) (fun f => #[_, _, _, _, _, _, _, .slice (some ⟨gx, 0, none⟩) 32 cx, .slice (some ⟨gy, 0, none⟩) 32 cy, _, _, .pointer (some ⟨G11, 0, none⟩), .slice (some ⟨gs, 0, none⟩) 32 cs, .slice (some ⟨gp, 0, none⟩) 32 cp, _, _, _, _, _, _, _, _, _, _, _, _, _, _, _, _, _, _, _, _, _, _, _, _, _, _, _, _, _, _, _, _, _, _, f 48, f 49, f 50, f 51, f 52, f 53, f 54, f 55, f 56, f 57, f 58, f 59, f 60, f 61, f 62, f 63, f 64, f 65, f 66, f 67, f 68, f 69, f 70, f 71, f 72, _, _, _, _, _, _, _, _, _, _, _, _, _, _, _, _, _, _, _, _, _, _, _, _, _, _, _, _, _, _, _, _, _, _, _, _, _, _, _, _, _, _, _]) (fun f => rfl) (by kernel_rfl) (by kernel_rfl) (by kernel_rfl) (by kernel_rfl) (by kernel_rfl) (of9S _ _ _ _ _ _ _ _ _ _ _ _ _) (fun _ _ _ h => by cases h) ?_ ?_
  · refine steps2_cons ?_ ?_
    · as_aux_lemma =>
      intro f w1 hb hd Q hK
      clear hd
      have hK := Lib.hid hK
      go_wp2
      exact hK.out _ _ rfl (Below.refl _ _) (fun h => by cases h)
    refine steps2_cons ?_ ?_
    · as_aux_lemma =>
      intro f w1 hb hd Q hK
      clear hd
      have hK := Lib.hid hK
      refine ldPtG (by kernel_rfl) rfl rfl (k11.below hb) ?_
      refine wpList_nil ?_
      exact hK.out _ _ ⟨_, _, _, _, rfl, hEB.out⟩ (Below.refl _ _) (fun h => by cases h)
    refine steps2_cons ?_ ?_
    · as_aux_lemma =>
      intro f w1 hb hd Q hK
      have e48 : f 48 = .slice (some ⟨gx, 0, none⟩) 32 cx := hd.1 rfl
      obtain ⟨X49, Y49, Z49, T49, e49, h49⟩ := (hd.2.1 rfl : PqP B.1 B.2 (f 49) w1)
      clear hd
      simp only [e48, e49] at hK
      have hK := Lib.hid hK
      go_wp2_with fail
      refine (hMx.out _ _ _ _ _ _ B _ (hRx.out.below hb).lt (fun j hj => by rw [Nat.zero_add]; exact (hRx.out.below hb).cell j hj) h49 (hC7.below hb hC7.lt)).mono ?_
      rintro e w2 ⟨X, Y, Z, T, rfl, hx, hb2⟩
      go_wp2
      exact hK.out _ _ ⟨X, Y, Z, T, rfl, hx⟩ hb2 (fun h => by cases h)
    refine steps2_cons ?_ ?_
    · as_aux_lemma =>
      intro f w1 hb hd Q hK
      clear hd
      have hK := Lib.hid hK
      go_wp2
      exact hK.out _ _ rfl (Below.refl _ _) (fun h => by cases h)
    refine steps2_cons ?_ ?_
    · as_aux_lemma =>
      intro f w1 hb hd Q hK
      clear hd
      have hK := Lib.hid hK
      refine ldPtG (by kernel_rfl) rfl rfl (k11.below hb) ?_
      refine wpList_nil ?_
      exact hK.out _ _ ⟨_, _, _, _, rfl, hEB.out⟩ (Below.refl _ _) (fun h => by cases h)
    refine steps2_cons ?_ ?_
    · as_aux_lemma =>
      intro f w1 hb hd Q hK
      have e51 : f 51 = .slice (some ⟨gy, 0, none⟩) 32 cy := hd.1 rfl
      obtain ⟨X52, Y52, Z52, T52, e52, h52⟩ := (hd.2.1 rfl : PqP B.1 B.2 (f 52) w1)
      clear hd
      simp only [e51, e52] at hK
      have hK := Lib.hid hK
      go_wp2_with fail
      refine (hMy.out _ _ _ _ _ _ B _ (hRy.out.below hb).lt (fun j hj => by rw [Nat.zero_add]; exact (hRy.out.below hb).cell j hj) h52 (hC7.below hb hC7.lt)).mono ?_
      rintro e w2 ⟨X, Y, Z, T, rfl, hx, hb2⟩
      go_wp2
      exact hK.out _ _ ⟨X, Y, Z, T, rfl, hx⟩ hb2 (fun h => by cases h)
    refine steps2_cons ?_ ?_
    · as_aux_lemma =>
      intro f w1 hb hd Q hK
      obtain ⟨X50, Y50, Z50, T50, e50, h50⟩ := (hd.1 rfl : PqP ((Fe.nP nx B).1) ((Fe.nP nx B).2) (f 50) w1)
      obtain ⟨X53, Y53, Z53, T53, e53, h53⟩ := (hd.2.1 rfl : PqP ((Fe.nP ny B).1) ((Fe.nP ny B).2) (f 53) w1)
      clear hd
      simp only [e50, e53] at hK
      have hK := Lib.hid hK
      refine bs2G (by simp only [e50, e53]; kernel_rfl) rfl e50 e53 ?_
      refine wpList_nil ?_
      simp only [e50, e53]
      exact hK.out _ _ (slP2 _ h50 h53) ((Below.refl _ _).alloc (Nat.le_refl _) _) (fun h => by cases h)
    refine steps2_cons ?_ ?_
    · as_aux_lemma =>
      intro f w1 hb hd Q hK
      obtain ⟨g54, e54, lt54, h54⟩ := (hd.1 rfl : SlP 2 (p2 ((Fe.nP nx B).1) ((Fe.nP ny B).1)) (p2 ((Fe.nP nx B).2) ((Fe.nP ny B).2)) (f 54) w1)
      clear hd
      simp only [e54] at hK
      have hK := Lib.hid hK
      go_wp2_with fail
      refine (addq2_c g54 _ _ _ _ _ lt54 h54 (hC7.below hb hC7.lt)).mono ?_
      rintro e w2 ⟨X, Y, Z, T, rfl, hx, hb2⟩
      go_wp2
      exact hK.out _ _ ⟨X, Y, Z, T, rfl, hx⟩ hb2 (fun h => by cases h)
    refine steps2_cons ?_ ?_
    · as_aux_lemma =>
      intro f w1 hb hd Q hK
      clear hd
      have hK := Lib.hid hK
      go_wp2
      exact hK.out _ _ rfl (Below.refl _ _) (fun h => by cases h)
    refine steps2_cons ?_ ?_
    · as_aux_lemma =>
      intro f w1 hb hd Q hK
      clear hd
      have hK := Lib.hid hK
      refine ldPtG (by kernel_rfl) rfl rfl (k11.below hb) ?_
      refine wpList_nil ?_
      exact hK.out _ _ ⟨_, _, _, _, rfl, hEB.out⟩ (Below.refl _ _) (fun h => by cases h)
    refine steps2_cons ?_ ?_
    · as_aux_lemma =>
      intro f w1 hb hd Q hK
      have e56 : f 56 = .slice (some ⟨gs, 0, none⟩) 32 cs := hd.1 rfl
      obtain ⟨X57, Y57, Z57, T57, e57, h57⟩ := (hd.2.1 rfl : PqP B.1 B.2 (f 57) w1)
      clear hd
      simp only [e56, e57] at hK
      have hK := Lib.hid hK
      go_wp2_with fail
      refine (hMs.out _ _ _ _ _ _ B _ (hRs.out.below hb).lt (fun j hj => by rw [Nat.zero_add]; exact (hRs.out.below hb).cell j hj) h57 (hC7.below hb hC7.lt)).mono ?_
      rintro e w2 ⟨X, Y, Z, T, rfl, hx, hb2⟩
      go_wp2
      exact hK.out _ _ ⟨X, Y, Z, T, rfl, hx⟩ hb2 (fun h => by cases h)
    refine steps2_cons ?_ ?_
    · as_aux_lemma =>
      intro f w1 hb hd Q hK
      obtain ⟨X55, Y55, Z55, T55, e55, h55⟩ := (hd.1 rfl : PqP (Fe.ax ((Fe.nP nx B).1) ((Fe.nP nx B).2) ((Fe.nP ny B).1) ((Fe.nP ny B).2)) (Fe.ay ((Fe.nP nx B).1) ((Fe.nP nx B).2) ((Fe.nP ny B).1) ((Fe.nP ny B).2)) (f 55) w1)
      obtain ⟨X58, Y58, Z58, T58, e58, h58⟩ := (hd.2.1 rfl : PqP ((Fe.nP ns B).1) ((Fe.nP ns B).2) (f 58) w1)
      clear hd
      simp only [e55, e58] at hK
      have hK := Lib.hid hK
      go_wp2_with fail
      refine (pssameV h55 h58 hf1.out _).mono ?_
      rintro e w2 ⟨rfl, hb2⟩
      go_wp2
      exact hK.out _ _ rfl hb2 (fun h => by cases h)
    refine steps2_cons ?_ ?_
    · as_aux_lemma =>
      intro f w1 hb hd Q hK
      have e59 : f 59 = .bool true := hd.1 rfl
      clear hd
      simp only [e59] at hK
      have hK := Lib.hid hK
      go_wp2
      exact hK.out _ _ rfl (Below.refl _ _) (fun h => by cases h)
    refine steps2_cons ?_ ?_
    · as_aux_lemma =>
      intro f w1 hb hd Q hK
      have e60 : f 60 = .bool false := hd.1 rfl
      clear hd
      simp only [e60] at hK
      have hK := Lib.hid hK
      go_wp2
      exact hK.out _ _ rfl (Below.refl _ _) (fun h => by cases h)
    refine steps2_cons ?_ ?_
    · as_aux_lemma =>
      intro f w1 hb hd Q hK
      have e61 : f 61 = .bool false := hd.1 rfl
      clear hd
      simp only [e61] at hK
      have hK := Lib.hid hK
      go_wp2
      exact hK.out _ _ rfl (Below.refl _ _) (fun h => by cases h)
    refine steps2_cons ?_ ?_
    · as_aux_lemma =>
      intro f w1 hb hd Q hK
      have e61 : f 61 = .bool false := hd.1 rfl
      clear hd
      simp only [e61] at hK
      have hK := Lib.hid hK
      go_wp2
      exact hK.out _ _ rfl (Below.refl _ _) (fun h => by cases h)
    refine steps2_cons ?_ ?_
    · as_aux_lemma =>
      intro f w1 hb hd Q hK
      have e61 : f 61 = .bool false := hd.1 rfl
      clear hd
      simp only [e61] at hK
      have hK := Lib.hid hK
      refine ldPtG (by simp only [e61]; kernel_rfl) rfl rfl (k11.below hb) ?_
      refine wpList_nil ?_
      simp only [e61]
      exact hK.out _ _ ⟨_, _, _, _, rfl, hEB.out⟩ (Below.refl _ _) (fun h => by cases h)
    refine steps2_cons ?_ ?_
    · as_aux_lemma =>
      intro f w1 hb hd Q hK
      have e63 : f 63 = .slice (some ⟨gy, 0, none⟩) 32 cy := hd.1 rfl
      obtain ⟨X64, Y64, Z64, T64, e64, h64⟩ := (hd.2.1 rfl : PqP B.1 B.2 (f 64) w1)
      have e61 : f 61 = .bool false := hd.2.2.1 rfl
      clear hd
      simp only [e63, e64, e61] at hK
      have hK := Lib.hid hK
      go_wp2_with fail
      refine (hMy.out _ _ _ _ _ _ B _ (hRy.out.below hb).lt (fun j hj => by rw [Nat.zero_add]; exact (hRy.out.below hb).cell j hj) h64 (hC7.below hb hC7.lt)).mono ?_
      rintro e w2 ⟨X, Y, Z, T, rfl, hx, hb2⟩
      go_wp2
      exact hK.out _ _ ⟨X, Y, Z, T, rfl, hx⟩ hb2 (fun h => by cases h)
    refine steps2_cons ?_ ?_
    · as_aux_lemma =>
      intro f w1 hb hd Q hK
      have e62 : f 62 = .slice (some ⟨gx, 0, none⟩) 32 cx := hd.1 rfl
      obtain ⟨X65, Y65, Z65, T65, e65, h65⟩ := (hd.2.1 rfl : PqP ((Fe.nP ny B).1) ((Fe.nP ny B).2) (f 65) w1)
      have e61 : f 61 = .bool false := hd.2.2.2.1 rfl
      clear hd
      simp only [e62, e65, e61] at hK
      have hK := Lib.hid hK
      go_wp2_with fail
      refine (hMx.out _ _ _ _ _ _ ((Fe.nP ny B)) _ (hRx.out.below hb).lt (fun j hj => by rw [Nat.zero_add]; exact (hRx.out.below hb).cell j hj) h65 (hC7.below hb hC7.lt)).mono ?_
      rintro e w2 ⟨X, Y, Z, T, rfl, hx, hb2⟩
      go_wp2
      exact hK.out _ _ ⟨X, Y, Z, T, rfl, hx⟩ hb2 (fun h => by cases h)
    refine steps2_cons ?_ ?_
    · as_aux_lemma =>
      intro f w1 hb hd Q hK
      have e61 : f 61 = .bool false := hd.1 rfl
      clear hd
      simp only [e61] at hK
      have hK := Lib.hid hK
      go_wp2
      exact hK.out _ _ rfl (Below.refl _ _) (fun h => by cases h)
    refine steps2_cons ?_ ?_
    · as_aux_lemma =>
      intro f w1 hb hd Q hK
      have e61 : f 61 = .bool false := hd.1 rfl
      clear hd
      simp only [e61] at hK
      have hK := Lib.hid hK
      refine ldPtG (by simp only [e61]; kernel_rfl) rfl rfl (k11.below hb) ?_
      refine wpList_nil ?_
      simp only [e61]
      exact hK.out _ _ ⟨_, _, _, _, rfl, hEB.out⟩ (Below.refl _ _) (fun h => by cases h)
    refine steps2_cons ?_ ?_
    · as_aux_lemma =>
      intro f w1 hb hd Q hK
      have e67 : f 67 = .slice (some ⟨gp, 0, none⟩) 32 cp := hd.1 rfl
      obtain ⟨X68, Y68, Z68, T68, e68, h68⟩ := (hd.2.1 rfl : PqP B.1 B.2 (f 68) w1)
      have e61 : f 61 = .bool false := hd.2.2.2.1 rfl
      clear hd
      simp only [e67, e68, e61] at hK
      have hK := Lib.hid hK
      go_wp2_with fail
      refine (hMp.out _ _ _ _ _ _ B _ (hRp.out.below hb).lt (fun j hj => by rw [Nat.zero_add]; exact (hRp.out.below hb).cell j hj) h68 (hC7.below hb hC7.lt)).mono ?_
      rintro e w2 ⟨X, Y, Z, T, rfl, hx, hb2⟩
      go_wp2
      exact hK.out _ _ ⟨X, Y, Z, T, rfl, hx⟩ hb2 (fun h => by cases h)
    refine steps2_cons ?_ ?_
    · as_aux_lemma =>
      intro f w1 hb hd Q hK
      obtain ⟨X66, Y66, Z66, T66, e66, h66⟩ := (hd.1 rfl : PqP ((Fe.nP nx (Fe.nP ny B)).1) ((Fe.nP nx (Fe.nP ny B)).2) (f 66) w1)
      obtain ⟨X69, Y69, Z69, T69, e69, h69⟩ := (hd.2.1 rfl : PqP ((Fe.nP np B).1) ((Fe.nP np B).2) (f 69) w1)
      have e61 : f 61 = .bool false := hd.2.2.2.1 rfl
      clear hd
      simp only [e66, e69, e61] at hK
      have hK := Lib.hid hK
      go_wp2_with fail
      refine (pssameV h66 h69 hf2.out _).mono ?_
      rintro e w2 ⟨rfl, hb2⟩
      go_wp2
      exact hK.out _ _ rfl hb2 (fun h => by cases h)
    refine steps2_cons ?_ ?_
    · as_aux_lemma =>
      intro f w1 hb hd Q hK
      have e70 : f 70 = .bool true := hd.1 rfl
      have e61 : f 61 = .bool false := hd.2.1 rfl
      clear hd
      simp only [e70, e61] at hK
      have hK := Lib.hid hK
      go_wp2
      exact hK.out _ _ rfl (Below.refl _ _) (fun h => by cases h)
    refine steps2_cons ?_ ?_
    · as_aux_lemma =>
      intro f w1 hb hd Q hK
      have e61 : f 61 = .bool false := hd.1 rfl
      have e71 : f 71 = .bool false := hd.2.1 rfl
      clear hd
      simp only [e61, e71] at hK
      have hK := Lib.hid hK
      go_wp2
      exact hK.out _ _ rfl (Below.refl _ _) (fun h => by cases h)
    trivial
  · intro f9 w11 hb hf hne
    refine wpList_nil ?_
    have d72 : f9 72 = .bool false := hf 24 _ _ (by decide) rfl rfl
    clear hf hne hC7
    simp only [d72]
    clear d72
    replace hb0 := hb0.trans (hb.mono hb0.size)
    replace k11 := k11.below hb
    replace hRx := Lib.hid (hRx.out.below hb)
    replace hRy := Lib.hid (hRy.out.below hb)
    clear hb hRs hRp hf1 hf2 hMs hMp
    go_wp2_with fail
    refine (hP3.out w11 hb0).mono ?_
    rintro e w12 ⟨XP, YP, ZP, TP, rfl, hEP, hb⟩
    replace hb0 := hb0.trans (hb.mono hb0.size)
    replace k11 := k11.below hb
    replace hRx := Lib.hid (hRx.out.below hb)
    replace hRy := Lib.hid (hRy.out.below hb)
    obtain ⟨p, hp⟩ : ∃ p : Fe.Pt, p = (ptX n3 b3, ptY n3 b3) := ⟨_, rfl⟩
    rw [show ptX n3 b3 = p.1 by rw [hp], show ptY n3 b3 = p.2 by rw [hp]] at hEP
    have hpo : Fe.On2 p := hEP.cv
    replace hEP := Lib.hid hEP
    replace hf3 := Lib.hid (hf3.out p hpo)
    replace hf4 := Lib.hid (hf4.out p)
    clear hb hP3 hp hpo
    have LO := hb0.size
    go_wp2_with (refine stPt rfl rfl rfl rfl (Blk.new _ _ _) rfl rfl (by kernel_rfl) ?_; intro w13 k14 hgr hsz; have hb : Below w12.heap.size w12 w13 := ((Below.refl _ _).alloc (Nat.le_refl _) _).grown hgr (by simp) (fun k hk => by injection hk with hk; omega); clear hgr hsz)
    obtain ⟨G14, hG14⟩ : ∃ G, G = w12.heap.size := ⟨_, rfl⟩
    rw [← hG14] at k14 ⊢
    have lo14 : w.heap.size ≤ G14 := by omega
    clear hG14 LO
    replace hb0 := hb0.trans (hb.mono hb0.size)
    replace k11 := k11.below hb
    replace hRx := Lib.hid (hRx.out.below hb)
    replace hRy := Lib.hid (hRy.out.below hb)
    clear hb
    refine (hF1.out w13 hb0).mono ?_
    rintro e w14 ⟨ge, ce, rfl, hge, hRe, hb⟩
    have l1 := k11.lt
    have l2 := k14.lt
    have l3 := hRx.out.lt
    have l4 := hRy.out.lt
    have lz := hb0.size
    have ne1 : G11 ≠ ge := by omega
    have ne2 : G14 ≠ ge := by omega
    have ne3 : gx ≠ ge := by omega
    have ne4 : gy ≠ ge := by omega
    have loe : w.heap.size ≤ ge := by omega
    replace hb0 := hb0.trans (hb.mono hb0.size)
    replace k11 := k11.below hb
    replace k14 := k14.below hb
    replace hRx := Lib.hid (hRx.out.below hb)
    replace hRy := Lib.hid (hRy.out.below hb)
    have cE := hRe.cell 0 (by decide)
    have fE := hRe.frozen 0
    have hRe2 := Lib.hid (st_ev hRe)
    clear hb hF1 hge hRe l1 l2 l3 l4 lz
    go_wp2_with fail
    refine calls_at (fun w15 hW => ?_)
    replace k11 : Blk w15 G11 30 (pcs XB YB ZB TB) := by rw [hW]; exact k11.far (by exact ne1) _
    replace k14 : Blk w15 G14 30 (pcs XP YP ZP TP) := by rw [hW]; exact k14.far (by exact ne2) _
    replace hRx := Lib.hid (show RowB w15 gx 32 cx bx by rw [hW]; exact hRx.out.far (by exact ne3) _)
    replace hRy := Lib.hid (show RowB w15 gy 32 cy by' by rw [hW]; exact hRy.out.far (by exact ne4) _)
    have hRe : RowB w15 ge 32 ce (evB bx) := by rw [hW]; exact hRe2.out
    replace hb0 : Below w.heap.size w w15 := by rw [hW]; exact hb0.setCell (p := ⟨ge, 0, none⟩) loe _
    clear hW cE fE hRe2
    refine (copyB_c ge 0 32 ce (evB bx) (by decide) (by decide) w15 (fun j hj => by rw [Nat.zero_add]; exact hRe.cell j hj)).mono ?_
    rintro e w16 ⟨gh, ch, rfl, hgh, hRh, hb⟩
    have l1 := k11.lt
    have l2 := k14.lt
    have l3 := hRx.out.lt
    have l4 := hRy.out.lt
    have l5 := hRe.lt
    have lz := hb0.size
    have ne5 : G11 ≠ gh := by omega
    have ne6 : G14 ≠ gh := by omega
    have ne7 : gx ≠ gh := by omega
    have ne8 : gy ≠ gh := by omega
    have ne9 : ge ≠ gh := by omega
    have loh : w.heap.size ≤ gh := by omega
    replace hb0 := hb0.trans (hb.mono hb0.size)
    replace k11 := k11.below hb
    replace k14 := k14.below hb
    replace hRx := Lib.hid (hRx.out.below hb)
    replace hRy := Lib.hid (hRy.out.below hb)
    replace hRe := Lib.hid (hRe.below hb)
    have cE := hRh.cell 0 (by decide)
    have fE := hRh.frozen 0
    have hRe2 := Lib.hid (st_od hRh)
    clear hb hgh hRh l1 l2 l3 l4 l5 lz
    go_wp2
    refine at_world (fun w17 hW => ?_)
    replace k11 : Blk w17 G11 30 (pcs XB YB ZB TB) := by rw [hW]; exact k11.far (by exact ne5) _
    replace k14 : Blk w17 G14 30 (pcs XP YP ZP TP) := by rw [hW]; exact k14.far (by exact ne6) _
    replace hRx := Lib.hid (show RowB w17 gx 32 cx bx by rw [hW]; exact hRx.out.far (by exact ne7) _)
    replace hRy := Lib.hid (show RowB w17 gy 32 cy by' by rw [hW]; exact hRy.out.far (by exact ne8) _)
    replace hRe := Lib.hid (show RowB w17 ge 32 ce (evB bx) by rw [hW]; exact hRe.out.far (by exact ne9) _)
    have hRo : RowB w17 gh 32 ch (odB' bx) := by rw [hW]; exact hRe2.out
    replace hRo := Lib.hid hRo
    replace hb0 : Below w.heap.size w w17 := by rw [hW]; exact hb0.setCell (p := ⟨gh, 0, none⟩) loh _
    clear hW cE fE hRe2
    have hC7 := hCv.out.below hb0 hCv.out.lt
    refine wp_region_grow2 25 (fun k => (Nat.ble 91 k && Nat.ble k 115)) _ [] (fun j x' q => (of16L gx cx gy cy ge ce gh ch nx ny ne B p).getD j (fun _ _ => True) x' q) (fun _ => false) (fun f => #[_, _, _, _, _, _, .bool false, .slice (some ⟨gx, 0, none⟩) 32 cx, .slice (some ⟨gy, 0, none⟩) 32 cy, _, _, .pointer (some ⟨G11, 0, none⟩), _, _, .pointer (some ⟨G14, 0, none⟩), .slice (some ⟨ge, 0, none⟩) 32 ce, .slice (some ⟨gh, 0, none⟩) 32 ch, _, _, _, _, _, _, _, _, _, _, _, _, _, _, _, _, _, _, _, _, _, _, _, _, _, _, _, _, _, _, _, _, _, _, _, _, _, _, _, _, _, _, _, _, _, _, _, _, _, _, _, _, _, _, _, _, _, _, _, _, _, _, _, _, _, _, _, _, _, _, _, _, _, _, f 91, f 92, f 93, f 94, f 95, f 96, f 97, f 98, f 99, f 100, f 101, f 102, f 103, f 104, f 105, f 106, f 107, f 108, f 109, f 110, f 111, f 112, f 113, f 114, f 115]) (fun f => rfl) (by kernel_rfl) (by kernel_rfl) (by kernel_rfl) (by kernel_rfl) (by kernel_rfl) (of16S _ _ _ _ _ _ _ _ _ _ _ _ _) (fun _ _ _ h => by cases h) ?_ ?_
    · refine steps2_cons ?_ ?_
      · as_aux_lemma =>
        intro f w1 hb hd Q hK
        clear hd
        have hK := Lib.hid hK
        go_wp2
        exact hK.out _ _ rfl (Below.refl _ _) (fun h => by cases h)
      refine steps2_cons ?_ ?_
      · as_aux_lemma =>
        intro f w1 hb hd Q hK
        clear hd
        have hK := Lib.hid hK
        refine ldPtG (by kernel_rfl) rfl rfl (k14.below hb) ?_
        refine wpList_nil ?_
        exact hK.out _ _ ⟨_, _, _, _, rfl, hEP.out⟩ (Below.refl _ _) (fun h => by cases h)
      refine steps2_cons ?_ ?_
      · as_aux_lemma =>
        intro f w1 hb hd Q hK
        have e91 : f 91 = .slice (some ⟨ge, 0, none⟩) 32 ce := hd.1 rfl
        obtain ⟨X92, Y92, Z92, T92, e92, h92⟩ := (hd.2.1 rfl : PqP p.1 p.2 (f 92) w1)
        clear hd
        simp only [e91, e92] at hK
        have hK := Lib.hid hK
        go_wp2_with fail
        refine (hMe.out _ _ _ _ _ _ p _ (hRe.out.below hb).lt (fun j hj => by rw [Nat.zero_add]; exact (hRe.out.below hb).cell j hj) h92 (hC7.below hb hC7.lt)).mono ?_
        rintro e w2 ⟨X, Y, Z, T, rfl, hx, hb2⟩
        go_wp2
        exact hK.out _ _ ⟨X, Y, Z, T, rfl, hx⟩ hb2 (fun h => by cases h)
      refine steps2_cons ?_ ?_
      · as_aux_lemma =>
        intro f w1 hb hd Q hK
        clear hd
        have hK := Lib.hid hK
        refine ldPtG (by kernel_rfl) rfl rfl (k14.below hb) ?_
        refine wpList_nil ?_
        exact hK.out _ _ ⟨_, _, _, _, rfl, hEP.out⟩ (Below.refl _ _) (fun h => by cases h)
      refine steps2_cons ?_ ?_
      · as_aux_lemma =>
        intro f w1 hb hd Q hK
        obtain ⟨X93, Y93, Z93, T93, e93, h93⟩ := (hd.1 rfl : PqP ((Fe.nP ne p).1) ((Fe.nP ne p).2) (f 93) w1)
        obtain ⟨X94, Y94, Z94, T94, e94, h94⟩ := (hd.2.1 rfl : PqP p.1 p.2 (f 94) w1)
        clear hd
        simp only [e93, e94] at hK
        have hK := Lib.hid hK
        refine bs2G (by simp only [e93, e94]; kernel_rfl) rfl e93 e94 ?_
        refine wpList_nil ?_
        simp only [e93, e94]
        exact hK.out _ _ (slP2 _ h93 h94) ((Below.refl _ _).alloc (Nat.le_refl _) _) (fun h => by cases h)
      refine steps2_cons ?_ ?_
      · as_aux_lemma =>
        intro f w1 hb hd Q hK
        obtain ⟨g95, e95, lt95, h95⟩ := (hd.1 rfl : SlP 2 (p2 ((Fe.nP ne p).1) p.1) (p2 ((Fe.nP ne p).2) p.2) (f 95) w1)
        clear hd
        simp only [e95] at hK
        have hK := Lib.hid hK
        go_wp2_with fail
        refine (addq2_c g95 _ _ _ _ _ lt95 h95 (hC7.below hb hC7.lt)).mono ?_
        rintro e w2 ⟨X, Y, Z, T, rfl, hx, hb2⟩
        go_wp2
        exact hK.out _ _ ⟨X, Y, Z, T, rfl, hx⟩ hb2 (fun h => by cases h)
      refine steps2_cons ?_ ?_
      · as_aux_lemma =>
        intro f w1 hb hd Q hK
        clear hd
        have hK := Lib.hid hK
        go_wp2
        exact hK.out _ _ rfl (Below.refl _ _) (fun h => by cases h)
      refine steps2_cons ?_ ?_
      · as_aux_lemma =>
        intro f w1 hb hd Q hK
        clear hd
        have hK := Lib.hid hK
        refine ldPtG (by kernel_rfl) rfl rfl (k14.below hb) ?_
        refine wpList_nil ?_
        exact hK.out _ _ ⟨_, _, _, _, rfl, hEP.out⟩ (Below.refl _ _) (fun h => by cases h)
      refine steps2_cons ?_ ?_
      · as_aux_lemma =>
        intro f w1 hb hd Q hK
        have e97 : f 97 = .slice (some ⟨gh, 0, none⟩) 32 ch := hd.1 rfl
        obtain ⟨X98, Y98, Z98, T98, e98, h98⟩ := (hd.2.1 rfl : PqP p.1 p.2 (f 98) w1)
        clear hd
        simp only [e97, e98] at hK
        have hK := Lib.hid hK
        go_wp2_with fail
        refine (hMo.out _ _ _ _ _ _ p _ (hRo.out.below hb).lt (fun j hj => by rw [Nat.zero_add]; exact (hRo.out.below hb).cell j hj) h98 (hC7.below hb hC7.lt)).mono ?_
        rintro e w2 ⟨X, Y, Z, T, rfl, hx, hb2⟩
        go_wp2
        exact hK.out _ _ ⟨X, Y, Z, T, rfl, hx⟩ hb2 (fun h => by cases h)
      refine steps2_cons ?_ ?_
      · as_aux_lemma =>
        intro f w1 hb hd Q hK
        obtain ⟨X96, Y96, Z96, T96, e96, h96⟩ := (hd.1 rfl : PqP (Fe.ax ((Fe.nP ne p).1) ((Fe.nP ne p).2) p.1 p.2) (Fe.ay ((Fe.nP ne p).1) ((Fe.nP ne p).2) p.1 p.2) (f 96) w1)
        obtain ⟨X99, Y99, Z99, T99, e99, h99⟩ := (hd.2.1 rfl : PqP ((Fe.nP (ne + 1) p).1) ((Fe.nP (ne + 1) p).2) (f 99) w1)
        clear hd
        simp only [e96, e99] at hK
        have hK := Lib.hid hK
        go_wp2_with fail
        refine (pssameV h96 h99 hf3.out _).mono ?_
        rintro e w2 ⟨rfl, hb2⟩
        go_wp2
        exact hK.out _ _ rfl hb2 (fun h => by cases h)
      refine steps2_cons ?_ ?_
      · as_aux_lemma =>
        intro f w1 hb hd Q hK
        have e100 : f 100 = .bool true := hd.1 rfl
        clear hd
        simp only [e100] at hK
        have hK := Lib.hid hK
        go_wp2
        exact hK.out _ _ rfl (Below.refl _ _) (fun h => by cases h)
      refine steps2_cons ?_ ?_
      · as_aux_lemma =>
        intro f w1 hb hd Q hK
        have e101 : f 101 = .bool true := hd.1 rfl
        clear hd
        simp only [e101] at hK
        have hK := Lib.hid hK
        go_wp2
        exact hK.out _ _ rfl (Below.refl _ _) (fun h => by cases h)
      refine steps2_cons ?_ ?_
      · as_aux_lemma =>
        intro f w1 hb hd Q hK
        have e101 : f 101 = .bool true := hd.1 rfl
        clear hd
        simp only [e101] at hK
        have hK := Lib.hid hK
        refine ldPtG (by simp only [e101]; kernel_rfl) rfl rfl (k14.below hb) ?_
        refine wpList_nil ?_
        simp only [e101]
        exact hK.out _ _ ⟨_, _, _, _, rfl, hEP.out⟩ (Below.refl _ _) (fun h => by cases h)
      refine steps2_cons ?_ ?_
      · as_aux_lemma =>
        intro f w1 hb hd Q hK
        have e101 : f 101 = .bool true := hd.1 rfl
        clear hd
        simp only [e101] at hK
        have hK := Lib.hid hK
        go_wp2
        exact hK.out _ _ rfl (Below.refl _ _) (fun h => by cases h)
      refine steps2_cons ?_ ?_
      · as_aux_lemma =>
        intro f w1 hb hd Q hK
        have e102 : f 102 = .slice (some ⟨gx, 0, none⟩) 32 cx := hd.1 rfl
        obtain ⟨X103, Y103, Z103, T103, e103, h103⟩ := (hd.2.1 rfl : PqP p.1 p.2 (f 103) w1)
        have e104 : f 104 = .slice (some ⟨gy, 0, none⟩) 32 cy := hd.2.2.1 rfl
        have e101 : f 101 = .bool true := hd.2.2.2.1 rfl
        clear hd
        simp only [e102, e103, e104, e101] at hK
        have hK := Lib.hid hK
        go_wp2_with fail
        refine (hBo.out _ _ _ _ _ _ _ _ p _ (hRx.out.below hb).lt (fun j hj => by rw [Nat.zero_add]; exact (hRx.out.below hb).cell j hj) (hRy.out.below hb).lt (fun j hj => by rw [Nat.zero_add]; exact (hRy.out.below hb).cell j hj) h103 (hC7.below hb hC7.lt)).mono ?_
        rintro e w2 ⟨X, Y, Z, T, rfl, hx, hb2⟩
        go_wp2
        exact hK.out _ _ ⟨X, Y, Z, T, rfl, hx⟩ hb2 (fun h => by cases h)
      refine steps2_cons ?_ ?_
      · as_aux_lemma =>
        intro f w1 hb hd Q hK
        have e101 : f 101 = .bool true := hd.1 rfl
        clear hd
        simp only [e101] at hK
        have hK := Lib.hid hK
        go_wp2
        exact hK.out _ _ rfl (Below.refl _ _) (fun h => by cases h)
      refine steps2_cons ?_ ?_
      · as_aux_lemma =>
        intro f w1 hb hd Q hK
        have e101 : f 101 = .bool true := hd.1 rfl
        clear hd
        simp only [e101] at hK
        have hK := Lib.hid hK
        refine ldPtG (by simp only [e101]; kernel_rfl) rfl rfl (k14.below hb) ?_
        refine wpList_nil ?_
        simp only [e101]
        exact hK.out _ _ ⟨_, _, _, _, rfl, hEP.out⟩ (Below.refl _ _) (fun h => by cases h)
      refine steps2_cons ?_ ?_
      · as_aux_lemma =>
        intro f w1 hb hd Q hK
        have e106 : f 106 = .slice (some ⟨gx, 0, none⟩) 32 cx := hd.1 rfl
        obtain ⟨X107, Y107, Z107, T107, e107, h107⟩ := (hd.2.1 rfl : PqP p.1 p.2 (f 107) w1)
        have e101 : f 101 = .bool true := hd.2.2.2.1 rfl
        clear hd
        simp only [e106, e107, e101] at hK
        have hK := Lib.hid hK
        go_wp2_with fail
        refine (hMx.out _ _ _ _ _ _ p _ (hRx.out.below hb).lt (fun j hj => by rw [Nat.zero_add]; exact (hRx.out.below hb).cell j hj) h107 (hC7.below hb hC7.lt)).mono ?_
        rintro e w2 ⟨X, Y, Z, T, rfl, hx, hb2⟩
        go_wp2
        exact hK.out _ _ ⟨X, Y, Z, T, rfl, hx⟩ hb2 (fun h => by cases h)
      refine steps2_cons ?_ ?_
      · as_aux_lemma =>
        intro f w1 hb hd Q hK
        have e101 : f 101 = .bool true := hd.1 rfl
        clear hd
        simp only [e101] at hK
        have hK := Lib.hid hK
        go_wp2
        exact hK.out _ _ rfl (Below.refl _ _) (fun h => by cases h)
      refine steps2_cons ?_ ?_
      · as_aux_lemma =>
        intro f w1 hb hd Q hK
        have e101 : f 101 = .bool true := hd.1 rfl
        clear hd
        simp only [e101] at hK
        have hK := Lib.hid hK
        refine ldPtG (by simp only [e101]; kernel_rfl) rfl rfl (k11.below hb) ?_
        refine wpList_nil ?_
        simp only [e101]
        exact hK.out _ _ ⟨_, _, _, _, rfl, hEB.out⟩ (Below.refl _ _) (fun h => by cases h)
      refine steps2_cons ?_ ?_
      · as_aux_lemma =>
        intro f w1 hb hd Q hK
        have e109 : f 109 = .slice (some ⟨gy, 0, none⟩) 32 cy := hd.1 rfl
        obtain ⟨X110, Y110, Z110, T110, e110, h110⟩ := (hd.2.1 rfl : PqP B.1 B.2 (f 110) w1)
        have e101 : f 101 = .bool true := hd.2.2.2.1 rfl
        clear hd
        simp only [e109, e110, e101] at hK
        have hK := Lib.hid hK
        go_wp2_with fail
        refine (hMy.out _ _ _ _ _ _ B _ (hRy.out.below hb).lt (fun j hj => by rw [Nat.zero_add]; exact (hRy.out.below hb).cell j hj) h110 (hC7.below hb hC7.lt)).mono ?_
        rintro e w2 ⟨X, Y, Z, T, rfl, hx, hb2⟩
        go_wp2
        exact hK.out _ _ ⟨X, Y, Z, T, rfl, hx⟩ hb2 (fun h => by cases h)
      refine steps2_cons ?_ ?_
      · as_aux_lemma =>
        intro f w1 hb hd Q hK
        obtain ⟨X108, Y108, Z108, T108, e108, h108⟩ := (hd.1 rfl : PqP ((Fe.nP nx p).1) ((Fe.nP nx p).2) (f 108) w1)
        obtain ⟨X111, Y111, Z111, T111, e111, h111⟩ := (hd.2.1 rfl : PqP ((Fe.nP ny B).1) ((Fe.nP ny B).2) (f 111) w1)
        have e101 : f 101 = .bool true := hd.2.2.1 rfl
        clear hd
        simp only [e108, e111, e101] at hK
        have hK := Lib.hid hK
        refine bs2G (by simp only [e108, e111, e101]; kernel_rfl) rfl e108 e111 ?_
        refine wpList_nil ?_
        simp only [e108, e111, e101]
        exact hK.out _ _ (slP2 _ h108 h111) ((Below.refl _ _).alloc (Nat.le_refl _) _) (fun h => by cases h)
      refine steps2_cons ?_ ?_
      · as_aux_lemma =>
        intro f w1 hb hd Q hK
        obtain ⟨g112, e112, lt112, h112⟩ := (hd.1 rfl : SlP 2 (p2 ((Fe.nP nx p).1) ((Fe.nP ny B).1)) (p2 ((Fe.nP nx p).2) ((Fe.nP ny B).2)) (f 112) w1)
        have e101 : f 101 = .bool true := hd.2.2.1 rfl
        clear hd
        simp only [e112, e101] at hK
        have hK := Lib.hid hK
        go_wp2_with fail
        refine (addq2_c g112 _ _ _ _ _ lt112 h112 (hC7.below hb hC7.lt)).mono ?_
        rintro e w2 ⟨X, Y, Z, T, rfl, hx, hb2⟩
        go_wp2
        exact hK.out _ _ ⟨X, Y, Z, T, rfl, hx⟩ hb2 (fun h => by cases h)
      refine steps2_cons ?_ ?_
      · as_aux_lemma =>
        intro f w1 hb hd Q hK
        obtain ⟨X105, Y105, Z105, T105, e105, h105⟩ := (hd.1 rfl : PqP ((Fe.gad (Fe.nP nx p) (Fe.nP ny B)).1) ((Fe.gad (Fe.nP nx p) (Fe.nP ny B)).2) (f 105) w1)
        obtain ⟨X113, Y113, Z113, T113, e113, h113⟩ := (hd.2.1 rfl : PqP (Fe.ax ((Fe.nP nx p).1) ((Fe.nP nx p).2) ((Fe.nP ny B).1) ((Fe.nP ny B).2)) (Fe.ay ((Fe.nP nx p).1) ((Fe.nP nx p).2) ((Fe.nP ny B).1) ((Fe.nP ny B).2)) (f 113) w1)
        have e101 : f 101 = .bool true := hd.2.2.2.1 rfl
        clear hd
        simp only [e105, e113, e101] at hK
        have hK := Lib.hid hK
        go_wp2_with fail
        refine (pssameV h105 h113 hf4.out _).mono ?_
        rintro e w2 ⟨rfl, hb2⟩
        go_wp2
        exact hK.out _ _ rfl hb2 (fun h => by cases h)
      refine steps2_cons ?_ ?_
      · as_aux_lemma =>
        intro f w1 hb hd Q hK
        have e101 : f 101 = .bool true := hd.1 rfl
        have e114 : f 114 = .bool true := hd.2.1 rfl
        clear hd
        simp only [e101, e114] at hK
        have hK := Lib.hid hK
        go_wp2
        exact hK.out _ _ rfl (Below.refl _ _) (fun h => by cases h)
      trivial
    · intro f16 w18 hb hf hne
      have d115 : f16 115 = .bool true := hf 24 _ _ (by decide) rfl rfl
      clear hf hne hC7
      simp only [d115]
      clear d115
      have hP := Lib.hid (hb0.trans (hb.mono hb0.size))
      go_wp2
      go_returns
      exact ⟨rfl, hP.out⟩
end Go.Proofs.YtigcobcpfmnhoaaDoor
