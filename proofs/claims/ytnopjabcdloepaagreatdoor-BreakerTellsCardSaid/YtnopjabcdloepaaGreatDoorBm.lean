import Derived.Test.YtnopjabcdloepaaGreatDoorKk
import Derived.Lib.SlBytesConst
import Derived.Lib.SmallJoins
namespace Go.Proofs.YtnopjabcdloepaaGreatDoor.Rc
open Go Go.RowKit
theorem ra1_C {S : List Nat} {w : World} {q1 : Option Addr} {d1 : Nat} {q2 : Option Addr} {d2 g3 d3 : Nat} (k : RowB w g3 64 d3 (Sh.sigI (sdB 1) (tP ka 1 1 0 [] false []))) (hg : g3 ∉ S) : RecC S w (recV ra1 q1 d1 q2 d2 (some ⟨g3, 0, none⟩) d3) ra1 :=
  ⟨q1, d1, q2, d2, some ⟨g3, 0, none⟩, d3, rfl, ⟨rfl, fun h => absurd h (by decide)⟩, (fun h => absurd h (by decide)), (fun h0 => by
    obtain ⟨g, o, e, hl, hc⟩ := (rowB_l k) h0
    injection e with e
    injection e with e1 e2
    subst e1 e2
    exact ⟨_, _, rfl, hl, hg, hc⟩), Nat.zero_le _, by show (fL 64 _).length ≤ d3; rw [fL_len]; exact k.cap⟩
theorem ra1_recs {S : List Nat} {w : World} {gL : Nat} {q1 : Option Addr} {d1 : Nat} {q2 : Option Addr} {d2 g3 d3 : Nat} (h : Blk w gL 45 #[.string ⟨#[107]⟩, .int .i64 1, .int .i64 1, .slice q1 0 d1, .bool false, .slice q2 0 d2, .slice (some ⟨g3, 0, none⟩) 64 d3]) (hL : gL ∉ S) (k : RowB w g3 64 d3 (Sh.sigI (sdB 1) (tP ka 1 1 0 [] false []))) (hg : g3 ∉ S) : RecsC S w (some ⟨gL, 0, none⟩) [ra1] :=
  recs_one' (by show Blk w gL _ #[.string ka, .int .i64 1, .int .i64 1, .slice q1 0 d1, .bool false, .slice q2 0 d2, .slice (some ⟨g3, 0, none⟩) (fL 64 _).length d3]; rw [fL_len]; exact h) hL (ra1_C k hg)
theorem blk_ext {S S' : List Nat} {w w' : World} {g : Nat} {t : TypeId} {cs : Array Value} (h : Blk w g t cs) (hE : Ext S w S' w') (hg : g ∉ S) : Blk w' g t cs := (hE.block g h.lt hg).trans h
theorem rowB_ext {S S' : List Nat} {w w' : World} {g n c : Nat} {f : Nat → Int} (h : RowB w g n c f) (hE : Ext S w S' w') (hg : g ∉ S) : RowB w' g n c f := by
  have hl := h.lt
  obtain ⟨cur, h1, h2⟩ := h
  exact ⟨cur, (hE.block g hl hg).trans h1, h2⟩
theorem own_l {w : World} {B n : Nat} {p : Option Addr} {m c : Nat} {xs : List Int} (h : w.ownsRow B 5 1 (.slice p m c) n (bL xs)) : BytesL w p xs := by
  obtain ⟨p', c', e, _, hx⟩ := own_pv h
  injection e with e1 e2 e3
  subst e1
  exact fun h0 => by obtain ⟨g, o, e, hg, -, hc⟩ := hx h0; exact ⟨g, o, e, hg, hc⟩
def MBlk (w : World) (g : Nat) (x : Int) : Prop := w.heap[g]? = some (.cells #[.int .u8 x] 5 (1, 2))
theorem MBlk.lt {w : World} {g : Nat} {x : Int} (h : MBlk w g x) : g < w.heap.size := (Array.getElem?_eq_some_iff.1 h).1
theorem MBlk.alloc {w : World} {g : Nat} {x : Int} (h : MBlk w g x) (o : Obj) : MBlk (w.alloc o) g x := (((Below.refl w.heap.size w).alloc (Nat.le_refl _) o).block g h.lt).trans h
theorem MBlk.new (w : World) (x : Int) : MBlk (w.alloc (.cells #[.int .u8 x] 5 (1, 2))) w.heap.size x := heap_alloc_new w _
theorem mblk_at {w : World} {g g' : Nat} {x : Int} (e : g = g') (h : MBlk w g' x) : MBlk w g x := e ▸ h
theorem byte1 {w : World} {g : Nat} {x : Int} (h : MBlk w g x) : BytesL w (some ⟨g, 0, none⟩) [x] := fun _ => ⟨g, 0, rfl, h.lt, fun j hj => by
  have e : j = 0 := by have : [x].length = 1 := rfl; omega
  subst e
  show w.cell? ⟨g, 0, none⟩ = _
  unfold MBlk at h
  simp [World.cell?, h]⟩
theorem tsat3 {w : World} {g1 g2 g3 gT : Nat} {x1 x2 x3 : Int} (k1 : MBlk w g1 x1) (k2 : MBlk w g2 x2) (k3 : MBlk w g3 x3) (kT : Blk w gT 22 #[.slice (some ⟨g1, 0, none⟩) 1 1, .slice (some ⟨g2, 0, none⟩) 1 1, .slice (some ⟨g3, 0, none⟩) 1 1]) : TsAt w (some ⟨gT, 0, none⟩) [⟨some ⟨g1, 0, none⟩, 1, [x1]⟩, ⟨some ⟨g2, 0, none⟩, 1, [x2]⟩, ⟨some ⟨g3, 0, none⟩, 1, [x3]⟩] := fun _ => ⟨gT, 0, rfl, kT.lt, fun i x hx => by
  match i, hx with
  | 0, hx =>
      obtain rfl : _ = x := by simpa using hx
      exact ⟨kT.cell 0, byte1 k1, Nat.le_refl _⟩
  | 1, hx =>
      obtain rfl : _ = x := by simpa using hx
      exact ⟨kT.cell 1, byte1 k2, Nat.le_refl _⟩
  | 2, hx =>
      obtain rfl : _ = x := by simpa using hx
      exact ⟨kT.cell 2, byte1 k3, Nat.le_refl _⟩
  | i + 3, hx => simp at hx⟩
theorem sameK {s1 : Option Addr} {t1 : Nat} {s2 : Option Addr} {t2 : Nat} {s3 : Option Addr} {t3 : Nat} {q1 : Option Addr} {d1 : Nat} {q2 : Option Addr} {d2 g3 d3 : Nat} {SG : Nat → Int} {B : Nat} (w1 : World) (kG : RowB w1 g3 64 d3 SG) (oF : w1.ownsRow B 5 1 (.slice s3 64 t3) 64 (bL (fL 64 SG))) : Calls Tryz.prog 36 #[.agg #[.string ⟨#[107]⟩, .int .i64 1, .int .i64 1, .slice s1 0 t1, .bool false, .slice s2 0 t2, .slice s3 64 t3], .agg #[.string ⟨#[107]⟩, .int .i64 1, .int .i64 1, .slice q1 0 d1, .bool false, .slice q2 0 d2, .slice (some ⟨g3, 0, none⟩) 64 d3]] w1 (PostV (.bool true) w1) :=
  (sameRec_c ⟨#[107]⟩ 1 1 s1 0 t1 false s2 0 t2 s3 64 t3 ⟨#[107]⟩ 1 1 q1 0 d1 false q2 0 d2 (some ⟨g3, 0, none⟩) 64 d3 [] [] (fL 64 SG) [] [] (fL 64 SG) (by decide) (by decide) rfl (by decide) (fL_len _ _).symm (by decide) rfl (by decide) (fL_len _ _).symm (by decide) w1 ⟨rfl, fun h => absurd h (by decide)⟩ (fun h => absurd h (by decide)) (by
    exact own_l oF) ⟨rfl, fun h => absurd h (by decide)⟩ (fun h => absurd h (by decide)) (rowB_l kG)).mono (fun e w' k => ⟨by rw [k.1]; simp [sameR, eqL], k.2⟩)
theorem fo_0 : foR [] [ra1] = ra1 := by unfold foR; rw [ra_f0]; rfl
theorem fo_1 : foR [ra1] [ra1] = rec0 := by unfold foR; rw [ra_f1]; rfl
set_option maxRecDepth 20000 in
set_option maxHeartbeats 8000000 in
theorem awake29_c (w : World) (hS : ShP w) (hCv : CvP w) : Calls Tryz.prog 67 #[] w (PostV (.bool true) w) := by
  have hB := hS.lt
  obtain ⟨SG, hSG⟩ : ∃ S, S = Sh.sigI (sdB 1) (tP ka 1 1 0 [] false []) := ⟨_, rfl⟩
  have hse := Lib.hid (fun w1 => show Calls Tryz.prog 84 #[.int .i64 1] w1 (PostBs 32 (sdB 1) w1) from seed29_c 1 w1)
  have hsl := Lib.hid (fun g c w1 (hb : Below w.heap.size w w1) (k : RowB w1 g 32 c (sdB 1)) => show Calls Tryz.prog 35 #[.slice (some ⟨g, 0, none⟩) 32 c, .agg #[.string ⟨#[107]⟩, .int .i64 1, .int .i64 1, .slice none 0 0, .bool false, .slice none 0 0, .slice none 0 0]] w1 (fun e w' => ∃ q1 d1 q2 d2 g3 d3, e = .returned (.tuple #[.agg #[.string ⟨#[107]⟩, .int .i64 1, .int .i64 1, .slice q1 0 d1, .bool false, .slice q2 0 d2, .slice (some ⟨g3, 0, none⟩) 64 d3], .int .i64 0]) ∧ w1.heap.size ≤ g3 ∧ RowB w' g3 64 d3 SG ∧ Below w1.heap.size w1 w') from (Seal_ok (some ⟨g, 0, none⟩) c (sdB 1) k.cap (sdB_byt 1) ra0 ra0_ok none 0 none 0 none 0 ra_sh w1 k.bx ⟨rfl, fun h => absurd h (by decide)⟩ (fun h => absurd h (by decide)) (fun h => absurd h (by decide)) (hS.below hb hB) (hCv.below hb hCv.lt)).mono (fun e w' ⟨q1, d1, q2, d2, g3, d3, he, _, _, h5, h6, h7⟩ => ⟨q1, d1, q2, d2, g3, d3, he, h5, by rw [hSG]; exact h6, h7⟩))
  have hnw := Lib.hid (fun w1 => new_c w1)
  have hgr := Lib.hid (fun w1 (hb : Below w.heap.size w w1) => grants29_c w1 (hS.below hb hB) (hCv.below hb hCv.lt))
  have hF0 := Lib.hid (fun pg cg LG (h4 : Gr4 LG) B gb S X q1 d1 q2 d2 g3 d3 w1 (hb : Below w.heap.size w w1) (hG : GsAt w1 pg LG) (hGS : GS B w1 S gb [] []) (hX : Blk w1 X 45 #[.string ⟨#[107]⟩, .int .i64 1, .int .i64 1, .slice q1 0 d1, .bool false, .slice q2 0 d2, .slice (some ⟨g3, 0, none⟩) 64 d3]) (k : RowB w1 g3 64 d3 SG) => show Calls Tryz.prog 73 #[.slice pg 4 cg, .pointer (some ⟨gb, 0, none⟩), .slice (some ⟨X, 0, none⟩) 1 1] w1 (fun e w' => ∃ s1 t1 s2 t2 s3 t3, e = .returned (.tuple #[.agg #[.string ⟨#[107]⟩, .int .i64 1, .int .i64 1, .slice s1 0 t1, .bool false, .slice s2 0 t2, .slice s3 64 t3], .bool true]) ∧ w'.ownsRow w1.heap.size 5 1 (.slice s3 64 t3) 64 (bL (fL 64 SG)) ∧ Below w1.heap.size w1 w') from (Forged_c pg cg LG h4 B gb S [] [] (some ⟨X, 0, none⟩) 1 1 [ra1] rfl (by decide) (fun r hr => by obtain rfl : r = ra1 := (by simpa using hr); exact ra1_ok) w1 hG hGS (ra1_recs hX (by simp) (by rw [← hSG]; exact k) (by simp)) (hS.below hb hB) (hCv.below hb hCv.lt)).mono (fun e w' h => by
    rw [fo_0, ra_f0] at h
    obtain ⟨s1, t1, s2, t2, s3, t3, he, _, _, h6, h7⟩ := h
    have e64 : ra1.ss.length = 64 := fL_len _ _
    rw [e64] at he h6
    exact ⟨s1, t1, s2, t2, s3, t3, he, by rw [hSG]; exact h6, h7⟩))
  have hF1 := Lib.hid (fun pg cg LG (h4 : Gr4 LG) B gb S X q1 d1 q2 d2 g3 d3 w1 (hb : Below w.heap.size w w1) (hG : GsAt w1 pg LG) (hGS : GS B w1 S gb [ra1] []) (hX : Blk w1 X 45 #[.string ⟨#[107]⟩, .int .i64 1, .int .i64 1, .slice q1 0 d1, .bool false, .slice q2 0 d2, .slice (some ⟨g3, 0, none⟩) 64 d3]) (k : RowB w1 g3 64 d3 SG) => show Calls Tryz.prog 73 #[.slice pg 4 cg, .pointer (some ⟨gb, 0, none⟩), .slice (some ⟨X, 0, none⟩) 1 1] w1 (fun e w' => ∃ s1 t1 s2 t2 s3 t3, e = .returned (.tuple #[.agg #[.string ⟨#[]⟩, .int .i64 0, .int .i64 0, .slice s1 0 t1, .bool false, .slice s2 0 t2, .slice s3 0 t3], .bool false]) ∧ Below w1.heap.size w1 w') from (Forged_c pg cg LG h4 B gb S [ra1] [] (some ⟨X, 0, none⟩) 1 1 [ra1] rfl (by decide) (fun r hr => by obtain rfl : r = ra1 := (by simpa using hr); exact ra1_ok) w1 hG hGS (ra1_recs hX (by simp) (by rw [← hSG]; exact k) (by simp)) (hS.below hb hB) (hCv.below hb hCv.lt)).mono (fun e w' h => by
    rw [fo_1, ra_f1] at h
    obtain ⟨s1, t1, s2, t2, s3, t3, he, _, _, h6, h7⟩ := h
    exact ⟨s1, t1, s2, t2, s3, t3, he, h7⟩))
  have hSG2 := Lib.hid hSG
  clear hSG
  go_enter Tryz.func67, Tryz.ntmps67
  go_wp2_with fail
  refine (hse.out w).mono ?_
  rintro e w1 ⟨gs, cs, rfl, _, ks, hb0⟩
  clear hse
  go_wp2_with fail
  refine (hsl.out gs cs w1 hb0 ks).mono ?_
  rintro e w2 ⟨q1, d1, q2, d2, g3, d3, rfl, lg3, kG, hb⟩
  have hs1 := hb0.size
  replace hb0 := hb0.trans (hb.mono hb0.size)
  clear hb hsl ks
  go_wp2_with fail
  refine calls_at (fun W hW => ?_)
  have hb : Below w2.heap.size w2 W := by rw [hW]; go_grown
  obtain ⟨gR, hgR⟩ : ∃ g, g = w2.heap.size := ⟨_, rfl⟩
  have kR : Blk W gR 45 #[.string ⟨#[107]⟩, .int .i64 1, .int .i64 1, .slice q1 0 d1, .bool false, .slice q2 0 d2, .slice (some ⟨g3, 0, none⟩) 64 d3] := by rw [hW, hgR]; exact Blk.new _ _ _
  rw [← hgR]
  clear hW hgR
  replace kG := kG.below hb
  replace hb0 := hb0.trans (hb.mono hb0.size)
  clear hb
  have lR := kR.lt
  have lG := kG.lt
  obtain ⟨B, hBB⟩ : ∃ B, B = W.heap.size := ⟨_, rfl⟩
  rw [← hBB] at lR lG
  refine (hnw.out W).mono ?_
  rintro e w3 ⟨gb, S, rfl, hGS, hb⟩
  rw [← hBB] at hGS
  replace kR := kR.below hb
  replace kG := kG.below hb
  have lB : B ≤ w3.heap.size := by rw [hBB]; exact hb.size
  have hW3 := Lib.hid (show w.heap.size ≤ B by rw [hBB]; exact hb0.size)
  replace hBB := Lib.hid hBB
  replace hb0 := hb0.trans (hb.mono hb0.size)
  clear hb hnw
  go_upto_region 3 with fail
  go_cut [4, 5] from 18 to 71 (fun u v wx => ∃ (gF : Nat) (s1 : Option Addr) (t1 : Nat) (s2 : Option Addr) (t2 : Nat) (s3 : Option Addr) (t3 : Nat), u = .pointer (some ⟨gF, 0, none⟩) ∧ v = .bool true ∧ w3.heap.size ≤ gF ∧ Blk wx gF 45 #[.string ⟨#[107]⟩, .int .i64 1, .int .i64 1, .slice s1 0 t1, .bool false, .slice s2 0 t2, .slice s3 64 t3] ∧ wx.ownsRow w3.heap.size 5 1 (.slice s3 64 t3) 64 (bL (fL 64 SG)) ∧ Below w3.heap.size w3 wx)
  case first =>
    have hSS := Lib.hid (fun w' (hb : Below w3.heap.size w3 w') => (blk7 (kR.below hb) : w'.cell? ⟨gR, 0, none⟩ = some (.string ⟨#[107]⟩) ∧ w'.cell? ⟨gR, 1, none⟩ = some (.int .i64 1) ∧ w'.cell? ⟨gR, 2, none⟩ = some (.int .i64 1) ∧ w'.cell? ⟨gR, 3, none⟩ = some (.slice q1 0 d1) ∧ w'.cell? ⟨gR, 4, none⟩ = some (.bool false) ∧ w'.cell? ⟨gR, 5, none⟩ = some (.slice q2 0 d2) ∧ w'.cell? ⟨gR, 6, none⟩ = some (.slice (some ⟨g3, 0, none⟩) 64 d3)))
    have z0 := Below.refl w3.heap.size w3
    have hs := Lib.hid hb0.size
    replace hb0 := Lib.hid hb0
    replace kG := Lib.hid kG
    replace hGS := Lib.hid hGS
    clear kR hF1
    go_region_held3 (fun w' => w'.cell? ⟨gR, 0, none⟩ = some (.string ⟨#[107]⟩) ∧ w'.cell? ⟨gR, 1, none⟩ = some (.int .i64 1) ∧ w'.cell? ⟨gR, 2, none⟩ = some (.int .i64 1) ∧ w'.cell? ⟨gR, 3, none⟩ = some (.slice q1 0 d1) ∧ w'.cell? ⟨gR, 4, none⟩ = some (.bool false) ∧ w'.cell? ⟨gR, 5, none⟩ = some (.slice q2 0 d2) ∧ w'.cell? ⟨gR, 6, none⟩ = some (.slice (some ⟨g3, 0, none⟩) 64 d3)) (first | (with_reducible exact hSS.out _ n5) | (with_reducible exact hSS.out _ n4) | (with_reducible exact hSS.out _ z0) | (with_reducible exact hSS.out _ z0.drew) | exact hSS.out _ (by go_grown)) (first | (go_at_call 71; refine calls_at (fun V1 h1 => ?_); have m1 : Below w3.heap.size w3 V1 := (by rw [h1]; go_grown); (first | have kA0 : Blk V1 w3.heap.size 45 #[.string ⟨#[]⟩, .int .i64 0, .int .i64 0, .slice none 0 0, .bool false, .slice none 0 0, .slice none 0 0] := (by rw [h1]; first | exact Blk.new _ _ _ | exact (Blk.new _ _ _).alloc _) | have kA0 : Blk V1 (w3.heap.size + 1) 45 #[.string ⟨#[]⟩, .int .i64 0, .int .i64 0, .slice none 0 0, .bool false, .slice none 0 0, .slice none 0 0] := (by rw [h1]; exact blk_at (by simp) (Blk.new _ _ _)) | skip); (first | have kL0 : Blk V1 w3.heap.size 45 #[.string ⟨#[107]⟩, .int .i64 1, .int .i64 1, .slice q1 0 d1, .bool false, .slice q2 0 d2, .slice (some ⟨g3, 0, none⟩) 64 d3] := (by rw [h1]; first | exact Blk.new _ _ _ | exact (Blk.new _ _ _).alloc _) | have kL0 : Blk V1 (w3.heap.size + 1) 45 #[.string ⟨#[107]⟩, .int .i64 1, .int .i64 1, .slice q1 0 d1, .bool false, .slice q2 0 d2, .slice (some ⟨g3, 0, none⟩) 64 d3] := (by rw [h1]; exact blk_at (by simp) (Blk.new _ _ _)) | skip); clear h1; (with_reducible refine (hgr.out V1 (hb0.out.trans (m1.mono hs.out))).mono ?_); rintro e w4 ⟨pg, cg, LG, rfl, h4, hG, hbb⟩; have n4 := m1.trans (hbb.mono m1.size); have s4 := n4.size; (try (have kA4 := kA0.below hbb)); (try (have kL4 := kL0.below hbb)); have hG4 := Lib.hid hG; clear hbb m1 hG) | (go_at_call 73; refine calls_at (fun V2 h2 => ?_); have m2 : Below w4.heap.size w4 V2 := (by rw [h2]; go_grown); (try (have kA5 := kA4.below m2)); (try (have kL5 := kL4.below m2)); (first | have kA5 : Blk V2 w4.heap.size 45 #[.string ⟨#[]⟩, .int .i64 0, .int .i64 0, .slice none 0 0, .bool false, .slice none 0 0, .slice none 0 0] := (by rw [h2]; first | exact Blk.new _ _ _ | exact (Blk.new _ _ _).alloc _) | have kA5 : Blk V2 (w4.heap.size + 1) 45 #[.string ⟨#[]⟩, .int .i64 0, .int .i64 0, .slice none 0 0, .bool false, .slice none 0 0, .slice none 0 0] := (by rw [h2]; exact blk_at (by simp) (Blk.new _ _ _)) | skip); (first | have kL5 : Blk V2 w4.heap.size 45 #[.string ⟨#[107]⟩, .int .i64 1, .int .i64 1, .slice q1 0 d1, .bool false, .slice q2 0 d2, .slice (some ⟨g3, 0, none⟩) 64 d3] := (by rw [h2]; first | exact Blk.new _ _ _ | exact (Blk.new _ _ _).alloc _) | have kL5 : Blk V2 (w4.heap.size + 1) 45 #[.string ⟨#[107]⟩, .int .i64 1, .int .i64 1, .slice q1 0 d1, .bool false, .slice q2 0 d2, .slice (some ⟨g3, 0, none⟩) 64 d3] := (by rw [h2]; exact blk_at (by simp) (Blk.new _ _ _)) | skip); clear h2; have m5 := n4.trans (m2.mono n4.size); (with_reducible refine (hF0.out pg cg LG h4 B gb S _ q1 d1 q2 d2 g3 d3 V2 (hb0.out.trans (m5.mono hs.out)) (hG4.out.below m2) (hGS.out.below m5) kL5 (kG.out.below m5)).mono ?_); rintro e w5 ⟨s1, t1, s2, t2, s3, t3, rfl, o3, hbb⟩; have n5 := m5.trans (hbb.mono m5.size); have s5 := n5.size; replace o3 := Lib.hid o3; have sV := m5.size; (try have lA5 := kA5.lt); (try (have kA6 := kA5.below hbb; have f0 := kA6.frozen 0; have f1 := kA6.frozen 1; have f2 := kA6.frozen 2; have f3 := kA6.frozen 3; have f4 := kA6.frozen 4; have f5 := kA6.frozen 5; have f6 := kA6.frozen 6; have lA := kA6.lt; obtain ⟨y0, y1, y2, y3, y4, y5, y6⟩ := blk7 kA6)); clear hbb m2))
    all_goals
      refine at_exit (fun Wx hWx => ?_)
      replace hWx := Lib.hid hWx
      try clear y0 y1 y2 y3 y4 y5 y6 f0 f1 f2 f3 f4 f5 f6
      go_wp2
      go_meet
    all_goals
      case rel =>
        have hW := hWx.out
        first
        | (have qq := setSeven w5 _ (.string ⟨#[107]⟩) (.int .i64 1) (.int .i64 1) (.slice s1 0 t1) (.bool false) (.slice s2 0 t2) (.slice s3 64 t3) kA6
           rw [← hW] at qq
           exact ⟨_, s1, t1, s2, t2, s3, t3, rfl, rfl, by omega, qq.1, own_mono (own_grown o3.out qq.2 (fun g e => by injection e; omega)) sV, n5.grown qq.2 n5.size (fun k hk => by have := Option.some.inj hk; omega)⟩)
        | (have hbl : Below w5.heap.size w5 Wx := by rw [hW]; exact (Below.refl _ _).alloc (Nat.le_refl _) _
           have q0 : Blk Wx w5.heap.size 45 #[.string ⟨#[107]⟩, .int .i64 1, .int .i64 1, .slice s1 0 t1, .bool false, .slice s2 0 t2, .slice s3 64 t3] := by rw [hW]; exact Blk.new _ _ _
           exact ⟨w5.heap.size, s1, t1, s2, t2, s3, t3, rfl, rfl, n5.size, q0, own_mono (below_kept o3.out hbl) sV, n5.trans (hbl.mono n5.size)⟩)
  case rest =>
    obtain ⟨gF, s1, t1, s2, t2, s3, t3, rfl, rfl, lF, kF, oF, hbw⟩ := hcut
    obtain ⟨l1', m1', l2', m2', -, -, hSr, -⟩ := id hGS
    have hs3 := hb0.size
    have oF2 := own_ob oF
    replace kR := kR.below hbw
    replace kG := kG.below hbw
    replace hGS := hGS.below hbw
    replace lB := Nat.le_trans lB hbw.size
    replace hb0 := hb0.trans (hbw.mono hb0.size)
    clear hbw
    obtain ⟨y0, y1, y2, y3, y4, y5, y6⟩ := blk7 kR
    go_wp2_with fail
    refine calls_at (fun W2 hW => ?_)
    have hb : Below wc.heap.size wc W2 := by rw [hW]; go_grown
    obtain ⟨gL, hgL⟩ : ∃ g, g = wc.heap.size := ⟨_, rfl⟩
    have kL : Blk W2 gL 45 #[.string ⟨#[107]⟩, .int .i64 1, .int .i64 1, .slice q1 0 d1, .bool false, .slice q2 0 d2, .slice (some ⟨g3, 0, none⟩) 64 d3] := by rw [hW, hgL]; exact Blk.new _ _ _
    have lL : w3.heap.size ≤ gL := by have := kF.lt; have := hb.size; omega
    rw [← hgL]
    clear hW hgL y0 y1 y2 y3 y4 y5 y6
    replace kR := kR.below hb
    replace kG := kG.below hb
    replace kF := kF.below hb
    replace oF := below_kept oF hb
    replace hGS := hGS.below hb
    replace lB := Nat.le_trans lB hb.size
    replace hb0 := hb0.trans (hb.mono hb0.size)
    clear hb
    have nR : gR ∉ S := fun h => by have := (hSr gR h).1; omega
    have nG : g3 ∉ S := fun h => by have := (hSr g3 h).1; omega
    have nL : gL ∉ S := fun h => by have := (hSr gL h).2; omega
    have nF : gF ∉ S := fun h => by have := (hSr gF h).2; omega
    have nO : ∀ g, (Value.slice s3 64 t3).ownBlock = some g → g ∉ S := fun g h hs => by have h1 := (oF2 g (ob_own h)).1; have h2 := (hSr g hs).2; omega
    refine (gWrote_c B gb S [] [] (some ⟨gL, 0, none⟩) 1 1 [ra1] rfl (fun r hr => by obtain rfl : r = ra1 := (by simpa using hr); exact ra1_ok) (by show 0 + 1 ≤ 100000; decide) W2 lB hGS (ra1_recs kL nL (hSG2.out ▸ kG) nG).f).mono ?_
    rintro e w6 ⟨rfl, S', hGS6, hE⟩
    rw [ra_puts] at hGS6
    have hBw := hBB.out
    have hSB : ∀ k, k ∈ S → w.heap.size ≤ k := fun k hk => by have := (hSr k hk).1; have := hW3.out; omega
    have hb := hE.old hb0.size hSB
    replace kR := blk_ext kR hE nR
    replace kG := rowB_ext kG hE nG
    replace kF := blk_ext kF hE nF
    replace oF := own_ext oF hE nO
    replace hb0 := hb0.trans hb
    clear hb hE hGS kL nR nG nL nF nO oF2 hSB lL
    go_upto_region 5 with fail
    go_cut [6, 7] from 30 to 71 (fun u v wx => ∃ gH : Nat, u = .pointer (some ⟨gH, 0, none⟩) ∧ v = .bool false ∧ Below w6.heap.size w6 wx)
    case first =>
      have hSS := Lib.hid (fun w' (hb : Below w6.heap.size w6 w') => (blk7 (kR.below hb) : w'.cell? ⟨gR, 0, none⟩ = some (.string ⟨#[107]⟩) ∧ w'.cell? ⟨gR, 1, none⟩ = some (.int .i64 1) ∧ w'.cell? ⟨gR, 2, none⟩ = some (.int .i64 1) ∧ w'.cell? ⟨gR, 3, none⟩ = some (.slice q1 0 d1) ∧ w'.cell? ⟨gR, 4, none⟩ = some (.bool false) ∧ w'.cell? ⟨gR, 5, none⟩ = some (.slice q2 0 d2) ∧ w'.cell? ⟨gR, 6, none⟩ = some (.slice (some ⟨g3, 0, none⟩) 64 d3)))
      have z0 := Below.refl w6.heap.size w6
      have hs := Lib.hid hb0.size
      replace hb0 := Lib.hid hb0
      replace kG := Lib.hid kG
      replace hGS6 := Lib.hid hGS6
      clear kR hF0 kF oF
      go_region_held3 (fun w' => w'.cell? ⟨gR, 0, none⟩ = some (.string ⟨#[107]⟩) ∧ w'.cell? ⟨gR, 1, none⟩ = some (.int .i64 1) ∧ w'.cell? ⟨gR, 2, none⟩ = some (.int .i64 1) ∧ w'.cell? ⟨gR, 3, none⟩ = some (.slice q1 0 d1) ∧ w'.cell? ⟨gR, 4, none⟩ = some (.bool false) ∧ w'.cell? ⟨gR, 5, none⟩ = some (.slice q2 0 d2) ∧ w'.cell? ⟨gR, 6, none⟩ = some (.slice (some ⟨g3, 0, none⟩) 64 d3)) (first | (with_reducible exact hSS.out _ n5) | (with_reducible exact hSS.out _ n4) | (with_reducible exact hSS.out _ z0) | (with_reducible exact hSS.out _ z0.drew) | exact hSS.out _ (by go_grown)) (first | (go_at_call 71; refine calls_at (fun V1 h1 => ?_); have m1 : Below w6.heap.size w6 V1 := (by rw [h1]; go_grown); (first | have kA0 : Blk V1 w6.heap.size 45 #[.string ⟨#[]⟩, .int .i64 0, .int .i64 0, .slice none 0 0, .bool false, .slice none 0 0, .slice none 0 0] := (by rw [h1]; first | exact Blk.new _ _ _ | exact (Blk.new _ _ _).alloc _) | have kA0 : Blk V1 (w6.heap.size + 1) 45 #[.string ⟨#[]⟩, .int .i64 0, .int .i64 0, .slice none 0 0, .bool false, .slice none 0 0, .slice none 0 0] := (by rw [h1]; exact blk_at (by simp) (Blk.new _ _ _)) | skip); (first | have kL0 : Blk V1 w6.heap.size 45 #[.string ⟨#[107]⟩, .int .i64 1, .int .i64 1, .slice q1 0 d1, .bool false, .slice q2 0 d2, .slice (some ⟨g3, 0, none⟩) 64 d3] := (by rw [h1]; first | exact Blk.new _ _ _ | exact (Blk.new _ _ _).alloc _) | have kL0 : Blk V1 (w6.heap.size + 1) 45 #[.string ⟨#[107]⟩, .int .i64 1, .int .i64 1, .slice q1 0 d1, .bool false, .slice q2 0 d2, .slice (some ⟨g3, 0, none⟩) 64 d3] := (by rw [h1]; exact blk_at (by simp) (Blk.new _ _ _)) | skip); clear h1; (with_reducible refine (hgr.out V1 (hb0.out.trans (m1.mono hs.out))).mono ?_); rintro e w4 ⟨pg, cg, LG, rfl, h4, hG, hbb⟩; have n4 := m1.trans (hbb.mono m1.size); have s4 := n4.size; (try (have kA4 := kA0.below hbb)); (try (have kL4 := kL0.below hbb)); have hG4 := Lib.hid hG; clear hbb m1 hG) | (go_at_call 73; refine calls_at (fun V2 h2 => ?_); have m2 : Below w4.heap.size w4 V2 := (by rw [h2]; go_grown); (try (have kA5 := kA4.below m2)); (try (have kL5 := kL4.below m2)); (first | have kA5 : Blk V2 w4.heap.size 45 #[.string ⟨#[]⟩, .int .i64 0, .int .i64 0, .slice none 0 0, .bool false, .slice none 0 0, .slice none 0 0] := (by rw [h2]; first | exact Blk.new _ _ _ | exact (Blk.new _ _ _).alloc _) | have kA5 : Blk V2 (w4.heap.size + 1) 45 #[.string ⟨#[]⟩, .int .i64 0, .int .i64 0, .slice none 0 0, .bool false, .slice none 0 0, .slice none 0 0] := (by rw [h2]; exact blk_at (by simp) (Blk.new _ _ _)) | skip); (first | have kL5 : Blk V2 w4.heap.size 45 #[.string ⟨#[107]⟩, .int .i64 1, .int .i64 1, .slice q1 0 d1, .bool false, .slice q2 0 d2, .slice (some ⟨g3, 0, none⟩) 64 d3] := (by rw [h2]; first | exact Blk.new _ _ _ | exact (Blk.new _ _ _).alloc _) | have kL5 : Blk V2 (w4.heap.size + 1) 45 #[.string ⟨#[107]⟩, .int .i64 1, .int .i64 1, .slice q1 0 d1, .bool false, .slice q2 0 d2, .slice (some ⟨g3, 0, none⟩) 64 d3] := (by rw [h2]; exact blk_at (by simp) (Blk.new _ _ _)) | skip); clear h2; have m5 := n4.trans (m2.mono n4.size); (with_reducible refine (hF1.out pg cg LG h4 B gb S' _ q1 d1 q2 d2 g3 d3 V2 (hb0.out.trans (m5.mono hs.out)) (hG4.out.below m2) (hGS6.out.below m5) kL5 (kG.out.below m5)).mono ?_); rintro e w5 ⟨s1, t1, s2, t2, s3, t3, rfl, hbb⟩; have n5 := m5.trans (hbb.mono m5.size); have s5 := n5.size; have sV := m5.size; (try have lA5 := kA5.lt); (try (have kA6 := kA5.below hbb; have f0 := kA6.frozen 0; have f1 := kA6.frozen 1; have f2 := kA6.frozen 2; have f3 := kA6.frozen 3; have f4 := kA6.frozen 4; have f5 := kA6.frozen 5; have f6 := kA6.frozen 6; have lA := kA6.lt; obtain ⟨y0, y1, y2, y3, y4, y5, y6⟩ := blk7 kA6)); clear hbb m2))
      all_goals
        refine at_exit (fun Wx hWx => ?_)
        replace hWx := Lib.hid hWx
        try clear y0 y1 y2 y3 y4 y5 y6 f0 f1 f2 f3 f4 f5 f6
        go_wp2
        go_meet
      all_goals
        case rel =>
          have hW := hWx.out
          first
          | (have qq := setSeven w5 _ (.string ⟨#[]⟩) (.int .i64 0) (.int .i64 0) (.slice s1 0 t1) (.bool false) (.slice s2 0 t2) (.slice s3 0 t3) kA6
             rw [← hW] at qq
             exact ⟨_, rfl, rfl, n5.grown qq.2 n5.size (fun k hk => by have := Option.some.inj hk; omega)⟩)
          | (have hbl : Below w5.heap.size w5 Wx := by rw [hW]; exact (Below.refl _ _).alloc (Nat.le_refl _) _
             exact ⟨w5.heap.size, rfl, rfl, n5.trans (hbl.mono n5.size)⟩)
    case rest =>
      obtain ⟨gH, rfl, rfl, hbw⟩ := hcut
      replace kR := kR.below hbw
      replace kG := kG.below hbw
      replace kF := kF.below hbw
      replace oF := below_kept oF hbw
      replace hb0 := hb0.trans (hbw.mono hb0.size)
      have hcl := Lib.hid (fun g1 g2 g3 gT w1 (hb : Below w.heap.size w w1) (k1 : MBlk w1 g1 120) (k2 : MBlk w1 g2 120) (k3 : MBlk w1 g3 121) (kT : Blk w1 gT 22 #[.slice (some ⟨g1, 0, none⟩) 1 1, .slice (some ⟨g2, 0, none⟩) 1 1, .slice (some ⟨g3, 0, none⟩) 1 1]) => show Calls Tryz.prog 79 #[.slice (some ⟨gT, 0, none⟩) 3 3] w1 (PostV (.tuple #[.slice none 0 0, .slice none 0 0, .bool false]) w1) from (Clash_c (some ⟨gT, 0, none⟩) 3 3 [⟨some ⟨g1, 0, none⟩, 1, [120]⟩, ⟨some ⟨g2, 0, none⟩, 1, [120]⟩, ⟨some ⟨g3, 0, none⟩, 1, [121]⟩] rfl (by decide) (fun x hx => by
        simp only [List.mem_cons, List.not_mem_nil, or_false] at hx
        rcases hx with rfl | rfl | rfl
        · exact ⟨br_one _ (by decide), by show 1 ≤ 1000000; decide⟩
        · exact ⟨br_one _ (by decide), by show 1 ≤ 1000000; decide⟩
        exact ⟨br_one _ (by decide), by show 1 ≤ 1000000; decide⟩) w1 (tsat3 k1 k2 k3 kT) (hS.below hb hB)).mono (fun e w' h => no_clash (clash3 _ _ _ _ _ _) h))
      have hsr := Lib.hid (fun w1 (kG : RowB w1 g3 64 d3 SG) (oF : w1.ownsRow w3.heap.size 5 1 (.slice s3 64 t3) 64 (bL (fL 64 SG))) => show Calls Tryz.prog 36 #[.agg #[.string ⟨#[107]⟩, .int .i64 1, .int .i64 1, .slice s1 0 t1, .bool false, .slice s2 0 t2, .slice s3 64 t3], .agg #[.string ⟨#[107]⟩, .int .i64 1, .int .i64 1, .slice q1 0 d1, .bool false, .slice q2 0 d2, .slice (some ⟨g3, 0, none⟩) 64 d3]] w1 (PostV (.bool true) w1) from sameK w1 kG oF)
      have hc1 : (convert 22 22 (.slice (some ⟨wc.heap.size, 0, none⟩) 1 1)).run Tryz.prog (wc.alloc (.cells #[.int .u8 120] 5)) = .ok (.slice (some ⟨wc.heap.size, 0, none⟩) 1 1) (wc.alloc (.cells #[.int .u8 120] 5 (1, 2))) := Lib.run_convert_bytes_const wc 22 5 #[.int .u8 120] 1 1 bs_under u8_under
      have hc2 : (convert 22 22 (.slice (some ⟨wc.heap.size + 1, 0, none⟩) 1 1)).run Tryz.prog ((wc.alloc (.cells #[.int .u8 120] 5 (1, 2))).alloc (.cells #[.int .u8 120] 5)) = .ok (.slice (some ⟨wc.heap.size + 1, 0, none⟩) 1 1) ((wc.alloc (.cells #[.int .u8 120] 5 (1, 2))).alloc (.cells #[.int .u8 120] 5 (1, 2))) := Go.Joins.run_convert_bytes_const_at (wc.alloc (.cells #[.int .u8 120] 5 (1, 2))) 22 5 #[.int .u8 120] 1 1 (wc.heap.size + 1) (by simp) bs_under u8_under
      have hc3 : (convert 22 22 (.slice (some ⟨wc.heap.size + 1 + 1, 0, none⟩) 1 1)).run Tryz.prog (((wc.alloc (.cells #[.int .u8 120] 5 (1, 2))).alloc (.cells #[.int .u8 120] 5 (1, 2))).alloc (.cells #[.int .u8 121] 5)) = .ok (.slice (some ⟨wc.heap.size + 1 + 1, 0, none⟩) 1 1) (((wc.alloc (.cells #[.int .u8 120] 5 (1, 2))).alloc (.cells #[.int .u8 120] 5 (1, 2))).alloc (.cells #[.int .u8 121] 5 (1, 2))) := Go.Joins.run_convert_bytes_const_at ((wc.alloc (.cells #[.int .u8 120] 5 (1, 2))).alloc (.cells #[.int .u8 120] 5 (1, 2))) 22 5 #[.int .u8 121] 1 1 (wc.heap.size + 1 + 1) (by simp) bs_under u8_under
      clear hbw hgr hF0 hF1 hGS6
      go_wp2_with fail
      refine calls_at (fun W7 hW => ?_)
      have hb : Below wc.heap.size wc W7 := by rw [hW]; go_grown
      have k1 : MBlk W7 wc.heap.size 120 := by rw [hW]; exact (((MBlk.new _ _).alloc _).alloc _).alloc _
      have k2 : MBlk W7 (wc.heap.size + 1) 120 := by rw [hW]; exact ((mblk_at (by simp) (MBlk.new _ _)).alloc _).alloc _
      have k3 : MBlk W7 (wc.heap.size + 1 + 1) 121 := by rw [hW]; exact (mblk_at (by simp) (MBlk.new _ _)).alloc _
      have kT : Blk W7 (wc.heap.size + 1 + 1 + 1) 22 #[.slice (some ⟨wc.heap.size, 0, none⟩) 1 1, .slice (some ⟨wc.heap.size + 1, 0, none⟩) 1 1, .slice (some ⟨wc.heap.size + 1 + 1, 0, none⟩) 1 1] := by rw [hW]; exact blk_at (by simp) (Blk.new _ _ _)
      clear hW
      replace kR := kR.below hb
      replace kG := kG.below hb
      replace kF := kF.below hb
      replace oF := below_kept oF hb
      replace hb0 := hb0.trans (hb.mono hb0.size)
      clear hb
      refine (hcl.out _ _ _ _ W7 hb0 k1 k2 k3 kT).mono ?_
      rintro e w8 ⟨rfl, hb⟩
      replace kR := kR.below hb
      replace kG := kG.below hb
      replace kF := kF.below hb
      replace oF := below_kept oF hb
      replace hb0 := hb0.trans (hb.mono hb0.size)
      clear hb hcl k1 k2 k3 kT
      obtain ⟨y0, y1, y2, y3, y4, y5, y6⟩ := blk7 kF
      obtain ⟨z0, z1, z2, z3, z4, z5, z6⟩ := blk7 kR
      go_wp2_with fail
      refine (hsr.out w8 kG oF).mono ?_
      rintro e w9 ⟨rfl, hb⟩
      replace hb0 := hb0.trans (hb.mono hb0.size)
      clear hb hsr y0 y1 y2 y3 y4 y5 y6 z0 z1 z2 z3 z4 z5 z6 kF kR kG oF
      go_wp2_with fail
      go_returns
      exact ⟨rfl, hb0⟩
end Go.Proofs.YtnopjabcdloepaaGreatDoor.Rc
