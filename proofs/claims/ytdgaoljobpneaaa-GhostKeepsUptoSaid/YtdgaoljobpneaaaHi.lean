/- The walk of a ghost's book's put. -/
import Derived.Test.YtdgaoljobpneaaaHj
import Derived.Test.YtdgaoljobpneaaaRv
namespace Go.Proofs.Ytdgaoljobpneaaa
open Go.RowKit
theorem str_empty (X : List Int) : (strOfNums X).toList.isEmpty = decide (X = []) := by
  rw [ByteArray.toList_eq, strOfNums_data]
  cases X <;> rfl
def OwnV {α : Type} (O : Nat → World → Value → α → List Nat → Prop) (B0 : Nat) (r : α) : Value → World → Prop := fun v w => ∃ bl, O B0 w v r bl
theorem sta_ownR (B0 : Nat) (r : RecD) : Sta (OwnV RecO B0 r) := fun _ _ _ ⟨bl, h⟩ hb => ⟨bl, h.ext (S := []) (S' := []) (.below hb) (fun _ _ h => by cases h)⟩
theorem sta_ownT (B0 : Nat) (r : RootD) : Sta (OwnV RootO B0 r) := fun _ _ _ ⟨bl, h⟩ hb => ⟨bl, h.ext (S := []) (S' := []) (.below hb) (fun _ _ h => by cases h)⟩
def Sl1 {α : Type} (O : Nat → World → Value → α → List Nat → Prop) (t : TypeId) (B0 : Nat) (r : α) : Value → World → Prop := fun x w => ∃ g v bl, x = .slice (some ⟨g, 0, none⟩) 1 1 ∧ B0 ≤ g ∧ Blk w g t (cellsV v).toArray ∧ O B0 w v r bl
theorem sta_slR (t : TypeId) (B0 : Nat) (r : RecD) : Sta (Sl1 RecO t B0 r) := fun _ _ _ ⟨g, v, bl, h1, h2, h3, h4⟩ hb => ⟨g, v, bl, h1, h2, h3.below hb, h4.ext (S := []) (S' := []) (.below hb) (fun _ _ h => by cases h)⟩
theorem sta_slT (t : TypeId) (B0 : Nat) (r : RootD) : Sta (Sl1 RootO t B0 r) := fun _ _ _ ⟨g, v, bl, h1, h2, h3, h4⟩ hb => ⟨g, v, bl, h1, h2, h3.below hb, h4.ext (S := []) (S' := []) (.below hb) (fun _ _ h => by cases h)⟩
theorem puts_snoc {α : Type} (T : α → List Int) (L l : List α) (i : Nat) (r : α) (h : l[i]? = some r) : putsT T L (l.take (i + 1)) = putT T (putsT T L (l.take i)) r := by
  have hi := (List.getElem?_eq_some_iff.1 h).1
  unfold putsT
  rw [List.take_succ_eq_append_getElem hi, List.foldl_append]
  have : l[i] = r := by have := List.getElem?_eq_getElem hi; rw [this] at h; exact Option.some.inj h
  rw [this]
  rfl
theorem puts_len {α : Type} (T : α → List Int) : ∀ (l L : List α), (putsT T L l).length ≤ L.length + l.length
  | [], L => by simp [putsT]
  | x :: l, L => by
    have := puts_len T l (putT T L x)
    have h2 : (putT T L x).length ≤ L.length + 1 := by unfold putT; split <;> simp
    simp only [putsT, List.foldl_cons, List.length_cons] at this ⊢
    omega
def p3RecL (r : RecD) (p1 : Option Addr) (c1 : Nat) (p2 : Option Addr) (c2 : Nat) (p3 : Option Addr) (c3 : Nat) (gb : Nat) (X : List Int) : List (Value → World → Prop) := [
  Eq1 (.pointer (some ⟨gb, 0, none⟩)),
  Eq1 (.pointer (some ⟨gb, 0, none⟩)),
  Eq1 (.pointer (some ⟨gb, 2, none⟩)),
  Eq1 (.func (.func 16) #[] #[]),
  Eq1 (.agg #[.string r.k, .int .i64 r.cl, .int .i64 r.sq, .slice p1 r.n c1, .bool r.gone, .slice p2 r.vs.length c2, .slice p3 r.ss.length c3]),
  SlL X,
  Eq1 (.string (strOfNums X)),
  Eq1 (.string (strOfNums X))]
theorem p3RecS (r : RecD) (p1 : Option Addr) (c1 : Nat) (p2 : Option Addr) (c2 : Nat) (p3 : Option Addr) (c3 : Nat) (gb : Nat) (X : List Int) : ∀ j x' q q', (p3RecL r p1 c1 p2 c2 p3 c3 gb X).getD j (fun _ _ => True) x' q → Below q.heap.size q q' → (p3RecL r p1 c1 p2 c2 p3 c3 gb X).getD j (fun _ _ => True) x' q' := by
  refine sta_all _ ?_
  simp only [p3RecL, List.mem_cons, forall_eq_or_imp, List.not_mem_nil, false_implies, implies_true, and_true]
  exact ⟨sta_eq _, sta_eq _, sta_eq _, sta_eq _, sta_eq _, sta_slL _, sta_eq _, sta_eq _⟩
def p5RecL (gb m1 N cc : Nat) (lq : Option Addr) (s : ByteArray) : List (Value → World → Prop) := [
  Eq1 (.pointer (some ⟨gb, 0, none⟩)),
  Eq1 (.pointer (some ⟨gb, 0, none⟩)),
  Eq1 (.pointer (some ⟨gb, 1, none⟩)),
  Eq1 (.map (some m1)),
  Eq1 (.string s),
  Eq1 (.pointer (some ⟨gb, 0, none⟩)),
  Eq1 (.pointer (some ⟨gb, 0, none⟩)),
  Eq1 (.pointer (some ⟨gb, 0, none⟩)),
  Eq1 (.slice lq N cc),
  Eq1 (.int .i64 (N : Int))]
theorem p5RecS (gb m1 N cc : Nat) (lq : Option Addr) (s : ByteArray) : ∀ j x' q q', (p5RecL gb m1 N cc lq s).getD j (fun _ _ => True) x' q → Below q.heap.size q q' → (p5RecL gb m1 N cc lq s).getD j (fun _ _ => True) x' q' := by
  refine sta_all _ ?_
  simp only [p5RecL, List.mem_cons, forall_eq_or_imp, List.not_mem_nil, false_implies, implies_true, and_true]
  exact ⟨sta_eq _, sta_eq _, sta_eq _, sta_eq _, sta_eq _, sta_eq _, sta_eq _, sta_eq _, sta_eq _, sta_eq _⟩
def p6RecL (r : RecD) (p1 : Option Addr) (c1 : Nat) (p2 : Option Addr) (c2 : Nat) (p3 : Option Addr) (c3 : Nat) (gb N cc : Nat) (lq : Option Addr) (B0 : Nat) : List (Value → World → Prop) := [
  Eq1 (.pointer (some ⟨gb, 0, none⟩)),
  Eq1 (.pointer (some ⟨gb, 0, none⟩)),
  Eq1 (.pointer (some ⟨gb, 0, none⟩)),
  Eq1 (.pointer (some ⟨gb, 0, none⟩)),
  Eq1 (.slice lq N cc),
  Eq1 (.pointer (some ⟨gb, 0, none⟩)),
  Eq1 (.pointer (some ⟨gb, 0, none⟩)),
  Eq1 (.pointer (some ⟨gb, 3, none⟩)),
  Eq1 (.func (.func 42) #[] #[]),
  Eq1 (.agg #[.string r.k, .int .i64 r.cl, .int .i64 r.sq, .slice p1 r.n c1, .bool r.gone, .slice p2 r.vs.length c2, .slice p3 r.ss.length c3]),
  OwnV RecO B0 r,
  Sl1 RecO 25 B0 r]
theorem p6RecS (r : RecD) (p1 : Option Addr) (c1 : Nat) (p2 : Option Addr) (c2 : Nat) (p3 : Option Addr) (c3 : Nat) (gb N cc : Nat) (lq : Option Addr) (B0 : Nat) : ∀ j x' q q', (p6RecL r p1 c1 p2 c2 p3 c3 gb N cc lq B0).getD j (fun _ _ => True) x' q → Below q.heap.size q q' → (p6RecL r p1 c1 p2 c2 p3 c3 gb N cc lq B0).getD j (fun _ _ => True) x' q' := by
  refine sta_all _ ?_
  simp only [p6RecL, List.mem_cons, forall_eq_or_imp, List.not_mem_nil, false_implies, implies_true, and_true]
  exact ⟨sta_eq _, sta_eq _, sta_eq _, sta_eq _, sta_eq _, sta_eq _, sta_eq _, sta_eq _, sta_eq _, sta_eq _, sta_ownR _ _, sta_slR _ _ _⟩
set_option maxRecDepth 20000 in
set_option maxHeartbeats 16000000 in
theorem putRec_c (B gb : Nat) (S : List Nat) (L : List RecD) (M : List RootD) (p : Option Addr) (n ca : Nat) (rs : List RecD) (hn : n = rs.length) (hok : ∀ r, r ∈ rs → r.ok) (hlen : L.length + rs.length ≤ 100000) (w : World) (hB : B ≤ w.heap.size) (hGS : GS B w S gb L M) (hR : RecsF S w p rs) :
    Calls Try.prog 31 #[.pointer (some ⟨gb, 0, none⟩), .slice p n ca] w fun e w' => e = .returned (.tuple #[]) ∧ ∃ S', GS B w' S' gb (putsT recT L rs) M ∧ Ext S w S' w' := by
  obtain ⟨P, hP⟩ : ∃ P : Nat → List RecD, P = fun i => putsT recT L (rs.take i) := ⟨_, rfl⟩
  have hP0 : P 0 = L := by rw [hP]; rfl
  have hPn : putsT recT L rs = P n := by rw [hP, hn]; show _ = putsT recT L (rs.take rs.length); rw [List.take_length]
  have hPs : ∀ i r, rs[i]? = some r → P (i + 1) = putT recT (P i) r := fun i r h => by rw [hP]; exact puts_snoc recT L rs i r h
  have hPl : ∀ i, (P i).length ≤ 100000 := fun i => by rw [hP]; exact Nat.le_trans (puts_len recT _ _) (by rw [List.length_take]; omega)
  rw [hPn]
  rw [← hP0] at hGS
  have hnb : n ≤ 100000 := by omega
  clear hP hPn hP0 hlen
  replace hPs := Lib.hid hPs
  replace hPl := Lib.hid hPl
  replace hGS := Lib.hid hGS
  replace hok := Lib.hid hok
  replace hR := Lib.hid hR
  replace hn := Lib.hid hn
  go_enter Try.func31, Try.ntmps31
  go_wp2
  go_loopw [9] (fun i wr => ∃ (kk : Nat) (S' : List Nat), kk ≤ n ∧ i = .int .i64 kk ∧ GS B wr S' gb (P kk) M ∧ Ext S w S' wr) (fun i _ => (n - intOf i).toNat)
  case atStart => exact ⟨0, S, by omega, rfl, hGS.out, .refl _ _⟩
  case round =>
    obtain ⟨kk, S1, hk, hi, hGk, hE⟩ := hrel
    subst hi
    by_cases he : kk = n
    · subst he
      have hpo := Lib.hid (show ∃ S', GS B wr S' gb (P kk) M ∧ Ext S w S' wr from ⟨S1, hGk, hE⟩)
      clear hGk hE hk
      go_wp2
      go_returns
      exact ⟨rfl, hpo.out⟩
    · have hk0 : (0 : Int) ≤ (kk : Int) := by omega
      have hk1 : (kk : Int) < (n : Int) := by omega
      have hk2 : kk < rs.length := by have := hn.out; omega
      obtain ⟨r, hr⟩ : ∃ r, rs[kk]? = some r := ⟨_, List.getElem?_eq_getElem hk2⟩
      obtain ⟨ga, oa, rfl, hga, hgS, hcc⟩ := hR.out (by omega)
      have hrok := hok.out r (List.mem_of_getElem? hr)
      obtain ⟨vv, hv, hj⟩ := hcc kk r hr
      obtain ⟨p1, c1, p2, c2, p3, c3, rfl, h1, h2, h3⟩ := hv
      obtain ⟨z1, z2, z3⟩ := hE.at hga hgS
      have y0 : wr.cell? ⟨ga, oa + kk * 7, none⟩ = some (.string r.k) := (World.cell?_of_block (w := w) (a := ⟨ga, oa + kk * 7, none⟩) z1).trans (hj 0 _ rfl)
      have y1 : wr.cell? ⟨ga, oa + kk * 7 + 1, none⟩ = some (.int .i64 r.cl) := (World.cell?_of_block (w := w) (a := ⟨ga, oa + kk * 7 + 1, none⟩) z1).trans (hj 1 _ rfl)
      have y2 : wr.cell? ⟨ga, oa + kk * 7 + 2, none⟩ = some (.int .i64 r.sq) := (World.cell?_of_block (w := w) (a := ⟨ga, oa + kk * 7 + 2, none⟩) z1).trans (hj 2 _ rfl)
      have y3 : wr.cell? ⟨ga, oa + kk * 7 + 3, none⟩ = some (.slice p1 r.n c1) := (World.cell?_of_block (w := w) (a := ⟨ga, oa + kk * 7 + 3, none⟩) z1).trans (hj 3 _ rfl)
      have y4 : wr.cell? ⟨ga, oa + kk * 7 + 4, none⟩ = some (.bool r.gone) := (World.cell?_of_block (w := w) (a := ⟨ga, oa + kk * 7 + 4, none⟩) z1).trans (hj 4 _ rfl)
      have y5 : wr.cell? ⟨ga, oa + kk * 7 + 5, none⟩ = some (.slice p2 r.vs.length c2) := (World.cell?_of_block (w := w) (a := ⟨ga, oa + kk * 7 + 5, none⟩) z1).trans (hj 5 _ rfl)
      have y6 : wr.cell? ⟨ga, oa + kk * 7 + 6, none⟩ = some (.slice p3 r.ss.length c3) := (World.cell?_of_block (w := w) (a := ⟨ga, oa + kk * 7 + 6, none⟩) z1).trans (hj 6 _ rfl)
      replace h1 := h1.ext hE
      replace h2 := h2.ext hE
      replace h3 := h3.ext hE
      have hnx := hPs.out kk r hr
      have hPk := hPl.out kk
      have hBw := Nat.le_trans hB hE.size
      obtain ⟨X, hX0⟩ : ∃ X, X = recT r := ⟨_, rfl⟩
      have hkey := klit_key (recT r) (rec_len r hrok)
      have hbr := br_rec hrok
      have hct0 := fun w1 (hb : Below wr.heap.size wr w1) => (recText_c r.k r.cl r.sq p1 r.n c1 r.gone p2 r.vs.length c2 p3 r.ss.length c3 r.ds r.vs (by have := hrok.1; omega) rfl w1 (h1.d.below hb) (h2.b.below hb))
      change ∀ w1, Below wr.heap.size wr w1 → Calls _ _ _ w1 (PostL (recT r) w1) at hct0
      have hco0 := fun w1 (hb : Ext S1 wr S1 w1) => ownRecord_c r p1 c1 p2 c2 p3 c3 hrok w1 (h1.ext hb).d (h2.ext hb).b (h3.ext hb).b
      have hGk2 := Lib.hid hGk
      obtain ⟨l1, m1, l2, m2, g1, g2, g3, g4, g5, g6⟩ := hGk
      have hhas0 := fun w1 (hb : Below wr.heap.size wr w1) (N : Nat) (D : DataW Unit) hD => hasRec_d gb l1 m1 l2 m2 r p1 c1 p2 c2 p3 c3 hrok w1 (g1.below hb) (h1.d.below hb) (h2.b.below hb) N D hD
      rw [← hX0] at hkey hbr hct0 hhas0
      unfold recV at hco0 hhas0
      have g5' := g5
      obtain ⟨vs, bls, D, a1, a2, a3, a4, a5, a6, a7, a8⟩ := g5'
      have hhl := a7 X hbr
      have hnil := hasT_nil (fun r h => (a8 r h).2)
      obtain ⟨lq, cc, hl1⟩ := own_sl a1
      obtain ⟨N, hN⟩ : ∃ N, N = (P kk).length := ⟨_, rfl⟩
      rw [← hN] at a1 a5 hl1 hPk
      subst hl1
      replace hkey := Lib.hid hkey
      replace hct0 := Lib.hid hct0
      replace hco0 := Lib.hid hco0
      replace hhas0 := Lib.hid hhas0
      replace a1 := Lib.hid a1
      replace a2 := Lib.hid a2
      replace a3 := Lib.hid a3
      replace a4 := Lib.hid a4
      replace a5 := Lib.hid a5
      replace a7 := Lib.hid a7
      replace a8 := Lib.hid a8
      replace hhl := Lib.hid hhl
      replace hnil := Lib.hid hnil
      replace hnx := Lib.hid hnx
      replace hX0 := Lib.hid hX0
      replace hN := Lib.hid hN
      replace hbr := Lib.hid hbr
      replace g3 := Lib.hid g3
      replace g4 := Lib.hid g4
      replace g5 := Lib.hid g5
      replace g6 := Lib.hid g6
      replace a6 := Lib.hid a6
      replace g2 := Lib.hid g2
      replace hE := Lib.hid hE
      unfold ghC at g1
      replace hrok := Lib.hid hrok
      clear he hcc hj z1 z2 z3 hr hk2 hgS hga h1 h2 h3
      go_wp2
      refine at_world (fun W1 hW => ?_)
      have hbW : Below wr.heap.size wr W1 := by rw [hW]; go_grown
      have hX : Blk W1 wr.heap.size 25 #[.string r.k, .int .i64 r.cl, .int .i64 r.sq, .slice p1 r.n c1, .bool r.gone, .slice p2 r.vs.length c2, .slice p3 r.ss.length c3] := by rw [hW]; exact Blk.new _ _ _
      clear hW y0 y1 y2 y3 y4 y5 y6
      have hG := g1.below hbW
      obtain ⟨XB, hXB⟩ : ∃ XB, XB = wr.heap.size := ⟨_, rfl⟩
      rw [← hXB] at hX ⊢
      have hXBl : wr.heap.size ≤ XB := Nat.le_of_eq hXB.symm
      clear hXB
      have hct := Lib.hid fun w1 (hb : Below W1.heap.size W1 w1) => hct0.out w1 (hbW.trans (hb.mono hbW.size))
      clear hct0
      refine wp_region_grow5 8 (fun k => Nat.beq k 6 || (Nat.ble 13 k && Nat.ble k 19)) _ [] (fun a b => Below a.heap.size a b) (Below.refl _ _).drew below_tr (fun j x' q => (p3RecL r p1 c1 p2 c2 p3 c3 gb X).getD j (fun _ _ => True) x' q) (fun _ => false) (fun f => #[.pointer (some ⟨gb, 0, none⟩), .slice (some ⟨ga, oa, none⟩) n ca, undef, undef, undef, .pointer (some ⟨XB, 0, none⟩), f 6, .slice (some ⟨ga, oa, none⟩) n ca, .int .i64 (n : Int), .int .i64 (kk : Int), .bool true, _, _, f 13, f 14, f 15, f 16, f 17, f 18, f 19, _, _, _, _, _, _, _, _, _, _, _, _, _, _, _, _, _, _, _, _, _, _, _, _, _, _, _, _, _, _, _, _, _]) (fun f => rfl) (by kernel_rfl) (by kernel_rfl) (by kernel_rfl) (by kernel_rfl) (by kernel_rfl) (p3RecS _ _ _ _ _ _ _ _ _) (fun _ _ _ h => by cases h) ?_ ?_
      · refine steps5_cons ?_ ?_
        · intro f w1 hb hd Q hK
          clear hd
          have hK := Lib.hid hK
          go_wp2
          exact hK.out _ _ rfl (Below.refl _ _) (fun h => by cases h)
        refine steps5_cons ?_ ?_
        · intro f w1 hb hd Q hK
          have e13 : f 13 = .pointer (some ⟨gb, 0, none⟩) := hd.1 rfl
          clear hd
          simp only [e13] at hK
          have hK := Lib.hid hK
          go_wp2
          exact hK.out _ _ rfl (Below.refl _ _) (fun h => by cases h)
        refine steps5_cons ?_ ?_
        · intro f w1 hb hd Q hK
          have e14 : f 14 = .pointer (some ⟨gb, 0, none⟩) := hd.1 rfl
          clear hd
          simp only [e14] at hK
          have hK := Lib.hid hK
          go_wp2
          exact hK.out _ _ rfl (Below.refl _ _) (fun h => by cases h)
        refine steps5_cons ?_ ?_
        · intro f w1 hb hd Q hK
          have e15 : f 15 = .pointer (some ⟨gb, 2, none⟩) := hd.1 rfl
          clear hd
          simp only [e15] at hK
          have hK := Lib.hid hK
          have c0 := (hG.below hb).cell 2
          simp only [List.getElem?_toArray, List.getElem?_cons_zero, List.getElem?_cons_succ] at c0
          go_wp2
          exact hK.out _ _ rfl (Below.refl _ _) (fun h => by cases h)
        refine steps5_cons ?_ ?_
        · intro f w1 hb hd Q hK
          clear hd
          have hK := Lib.hid hK
          obtain ⟨c0, c1, c2, c3, c4, c5, c6⟩ := blk7 (hX.below hb)
          go_wp2
          exact hK.out _ _ rfl (Below.refl _ _) (fun h => by cases h)
        refine steps5_cons ?_ ?_
        · intro f w1 hb hd Q hK
          have e16 : f 16 = .func (.func 16) #[] #[] := hd.1 rfl
          have e17 : f 17 = .agg #[.string r.k, .int .i64 r.cl, .int .i64 r.sq, .slice p1 r.n c1, .bool r.gone, .slice p2 r.vs.length c2, .slice p3 r.ss.length c3] := hd.2.1 rfl
          clear hd
          simp only [e16, e17] at hK
          have hK := Lib.hid hK
          go_wp2_with fail
          refine (hct.out _ hb).mono ?_
          rintro e w2 ⟨r', m, c2', rfl, hm, hR, hb2, -⟩
          replace hm := Lib.hid hm
          go_wp2
          exact hK.out _ _ ⟨_, _, _, rfl, hm.out, hR⟩ hb2 (fun h => by cases h)
        refine steps5_cons ?_ ?_
        · intro f w1 hb hd Q hK
          obtain ⟨p18, n18, c18, e18, l18, b18⟩ := (hd.1 rfl : SlL X (f 18) w1)
          replace l18 := Lib.hid l18
          replace b18 := Lib.hid b18
          clear hd
          simp only [e18] at hK
          have hK := Lib.hid hK
          have kc := conv_str w1 p18 n18 c18 X l18.out b18.out
          go_wp2
          exact hK.out _ _ rfl (Below.refl _ _) (fun h => by cases h)
        refine steps5_cons ?_ ?_
        · intro f w1 hb hd Q hK
          have e19 : f 19 = .string (strOfNums X) := hd.1 rfl
          clear hd
          simp only [e19] at hK
          have hK := Lib.hid hK
          go_wp2
          exact hK.out _ _ rfl (Below.refl _ _) (fun h => by cases h)
        trivial
      · intro f3 w3 hb3 hf3 hne3
        refine wpList_nil ?_
        have d6 : f3 6 = .string (strOfNums X) := hf3 7 _ _ (by decide) rfl rfl
        simp only [d6]
        clear hf3 hne3 hct d6
        replace hG := hG.below hb3
        replace hX := hX.below hb3
        have hb0 := hbW.trans (hb3.mono hbW.size)
        clear hb3 hbW
        obtain ⟨s, hs⟩ : ∃ s, s = strOfNums X := ⟨_, rfl⟩
        rw [← hs] at hkey ⊢
        have hse : s.toList.isEmpty = decide (X = []) := by rw [hs]; exact str_empty X
        replace hs := Lib.hid hs
        by_cases hXe : X = []
        · rw [decide_eq_true hXe] at hse
          have hp := Lib.hid (show P (kk + 1) = P kk by rw [hnx.out]; unfold putT; rw [if_pos (.inl (by rw [← hX0.out]; exact hXe))])
          have hfin := Lib.hid (show GS B w3 S1 gb (P kk) M ∧ Ext S w S1 w3 from ⟨hGk2.out.below hb0, hE.out.trans (.below hb0)⟩)
          clear hXe hX hG hb0 hBw hXBl
          go_wp2
          exact ⟨⟨kk + 1, S1, by omega, rfl, by rw [hp.out]; exact hfin.out.1, hfin.out.2⟩, by simp [intOf]; omega⟩
        · rw [decide_eq_false hXe] at hse
          replace hXe := Lib.hid hXe
          have hha := hhas0.out w3 hb0 N D (a5.out.kept (w' := w3) (row := none) ⟨hb0.os, hb0.tape, hb0.output, hb0.size, fun k hk _ => hb0.block k hk⟩ (by simp))
          rw [hhl.out] at hha
          obtain ⟨x0, x1, x2, x3, x4, x5, x6⟩ := blk7 hX
          cases hh : hasT recT (P kk) X
          case' true => rw [hh] at hha
          case' false => rw [hh] at hha
          all_goals replace hha := Lib.hid hha
          · go_wp2_with fail
            clear x0 x1 x2 x3 x4 x5 x6
            have hp := Lib.hid (show P (kk + 1) = P kk ++ [r] by rw [hnx.out]; unfold putT; rw [if_neg]; rw [← hX0.out]; exact fun h => h.elim hXe.out (fun h => by rw [hh] at h; cases h))
            have hXl := Lib.hid (show X.length ≤ 2000000 by rw [hX0.out]; exact rec_len r hrok.out)
            clear hh
            refine hha.out.mono ?_
            rintro e w4 ⟨rfl, hb4⟩
            replace hG := hG.below hb4
            replace hX := hX.below hb4
            replace hb0 := hb0.trans (hb4.mono hb0.size)
            clear hb4 hha
            go_wp2_with fail
            refine wp_region_grow5 10 (fun k => (Nat.ble 27 k && Nat.ble k 36)) _ [] (fun a b => Below a.heap.size a b) (Below.refl _ _).drew below_tr (fun j x' q => (p5RecL gb m1 N cc lq s).getD j (fun _ _ => True) x' q) (fun _ => false) (fun f => #[.pointer (some ⟨gb, 0, none⟩), .slice (some ⟨ga, oa, none⟩) n ca, undef, undef, undef, .pointer (some ⟨XB, 0, none⟩), .string s, .slice (some ⟨ga, oa, none⟩) n ca, .int .i64 (n : Int), .int .i64 (kk : Int), .bool true, _, _, _, _, _, _, _, _, _, _, _, _, _, _, _, _, f 27, f 28, f 29, f 30, f 31, f 32, f 33, f 34, f 35, f 36, _, _, _, _, _, _, _, _, _, _, _, _, _, _, _, _]) (fun f => rfl) (by kernel_rfl) (by kernel_rfl) (by kernel_rfl) (by kernel_rfl) (by kernel_rfl) (p5RecS _ _ _ _ _ _) (fun _ _ _ h => by cases h) ?_ ?_
            · refine steps5_cons ?_ ?_
              · intro f w1 hb hd Q hK
                clear hd
                have hK := Lib.hid hK
                go_wp2
                exact hK.out _ _ rfl (Below.refl _ _) (fun h => by cases h)
              refine steps5_cons ?_ ?_
              · intro f w1 hb hd Q hK
                have e27 : f 27 = .pointer (some ⟨gb, 0, none⟩) := hd.1 rfl
                clear hd
                simp only [e27] at hK
                have hK := Lib.hid hK
                go_wp2
                exact hK.out _ _ rfl (Below.refl _ _) (fun h => by cases h)
              refine steps5_cons ?_ ?_
              · intro f w1 hb hd Q hK
                have e28 : f 28 = .pointer (some ⟨gb, 0, none⟩) := hd.1 rfl
                clear hd
                simp only [e28] at hK
                have hK := Lib.hid hK
                go_wp2
                exact hK.out _ _ rfl (Below.refl _ _) (fun h => by cases h)
              refine steps5_cons ?_ ?_
              · intro f w1 hb hd Q hK
                have e29 : f 29 = .pointer (some ⟨gb, 1, none⟩) := hd.1 rfl
                clear hd
                simp only [e29] at hK
                have hK := Lib.hid hK
                have c0 := (hG.below hb).cell 1
                simp only [List.getElem?_toArray, List.getElem?_cons_zero, List.getElem?_cons_succ] at c0
                go_wp2
                exact hK.out _ _ rfl (Below.refl _ _) (fun h => by cases h)
              refine steps5_cons ?_ ?_
              · intro f w1 hb hd Q hK
                clear hd
                have hK := Lib.hid hK
                go_wp2
                exact hK.out _ _ rfl (Below.refl _ _) (fun h => by cases h)
              refine steps5_cons ?_ ?_
              · intro f w1 hb hd Q hK
                clear hd
                have hK := Lib.hid hK
                go_wp2
                exact hK.out _ _ rfl (Below.refl _ _) (fun h => by cases h)
              refine steps5_cons ?_ ?_
              · intro f w1 hb hd Q hK
                have e32 : f 32 = .pointer (some ⟨gb, 0, none⟩) := hd.1 rfl
                clear hd
                simp only [e32] at hK
                have hK := Lib.hid hK
                go_wp2
                exact hK.out _ _ rfl (Below.refl _ _) (fun h => by cases h)
              refine steps5_cons ?_ ?_
              · intro f w1 hb hd Q hK
                have e33 : f 33 = .pointer (some ⟨gb, 0, none⟩) := hd.1 rfl
                clear hd
                simp only [e33] at hK
                have hK := Lib.hid hK
                go_wp2
                exact hK.out _ _ rfl (Below.refl _ _) (fun h => by cases h)
              refine steps5_cons ?_ ?_
              · intro f w1 hb hd Q hK
                have e34 : f 34 = .pointer (some ⟨gb, 0, none⟩) := hd.1 rfl
                clear hd
                simp only [e34] at hK
                have hK := Lib.hid hK
                have c0 := (hG.below hb).cell 0
                simp only [List.getElem?_toArray, List.getElem?_cons_zero] at c0
                go_wp2
                exact hK.out _ _ rfl (Below.refl _ _) (fun h => by cases h)
              refine steps5_cons ?_ ?_
              · intro f w1 hb hd Q hK
                have e35 : f 35 = .slice lq N cc := hd.1 rfl
                clear hd
                simp only [e35] at hK
                have hK := Lib.hid hK
                go_wp2
                exact hK.out _ _ rfl (Below.refl _ _) (fun h => by cases h)
              trivial
            · intro f5 w5 hb5 hf5 hne5
              have d30 : f5 30 = .map (some m1) := hf5 3 _ _ (by decide) rfl rfl
              have d31 : f5 31 = .string s := hf5 4 _ _ (by decide) rfl rfl
              have d36 : f5 36 = .int .i64 (N : Int) := hf5 9 _ _ (by decide) rfl rfl
              simp only [d30, d31, d36]
              clear hf5 hne5 d30 d31 d36
              replace hG := hG.below hb5
              replace hX := hX.below hb5
              replace hb0 := hb0.trans (hb5.mono hb0.size)
              clear hb5
              have ho5 := Lib.hid (a5.out.kept (w' := w5) (row := none) ⟨hb0.os, hb0.tape, hb0.output, hb0.size, fun k hk _ => hb0.block k hk⟩ (by simp))
              have hNm : N < maxLen := by unfold maxLen; omega
              have hwf : (Lit.int .i64 (N : Int)).wf = true := WalkArith.wf_i64 (by omega)
              replace hwf := Lib.hid hwf
              have hme := ghost_ne_map hG ho5.out
              have hxe := ghost_ne_map hX ho5.out
              replace hme := Lib.hid hme
              replace hxe := Lib.hid hxe
              refine wpList_mapUpdate_own _ rfl _ _ _ 30 rfl 9 3 law map_under _ m1 N D rfl ho5.out hNm _ _ _ rfl rfl hkey.out _ [] (plainElem_int int_under hwf.out) ?_
              intro w6 hm6 hg6
              replace hm6 := Lib.hid hm6
              replace hg6 := Lib.hid hg6
              go_wp2
              replace hG := hG.grown hg6.out (fun h => hme.out (Option.some.inj h))
              replace hX := hX.grown hg6.out (fun h => hxe.out (Option.some.inj h))
              have K6 : Kept [m1] wr w6 := (Kept.below hb0 _).trans (Kept.grown hg6.out (fun g h => by injection h with h; simp [h]))
              have E6 : Ext S1 wr S1 w6 := K6.ext (fun g hg => .inl (by have := a6.out; simp at hg; rw [hg]; exact this)) (fun _ h => .inl h)
              have hco := Lib.hid fun w1 (hb : Below w6.heap.size w6 w1) => hco0.out w1 (E6.trans (.below hb))
              have hB6 := Nat.le_trans hBw K6.size
              obtain ⟨B0, hB0e⟩ : ∃ B0, B0 = w6.heap.size := ⟨_, rfl⟩
              have hB0 := Nat.le_of_eq hB0e
              replace hB0e := Lib.hid hB0e
              clear hco0 hme hxe K6 E6 ho5 hNm hwf hGk2 hhas0 hXBl
              refine wp_region_grow6 12 0 (fun k => (Nat.ble 37 k && Nat.ble k 48)) _ [] (fun j x' q => (p6RecL r p1 c1 p2 c2 p3 c3 gb N cc lq B0).getD j (fun _ _ => True) x' q) (fun _ => false) (fun f => #[.pointer (some ⟨gb, 0, none⟩), .slice (some ⟨ga, oa, none⟩) n ca, undef, undef, undef, .pointer (some ⟨XB, 0, none⟩), .string s, .slice (some ⟨ga, oa, none⟩) n ca, .int .i64 (n : Int), .int .i64 (kk : Int), .bool true, _, _, _, _, _, _, _, _, _, _, _, _, _, _, _, _, _, _, _, _, _, _, _, _, _, _, f 37, f 38, f 39, f 40, f 41, f 42, f 43, f 44, f 45, f 46, f 47, f 48, _, _, _, _]) (fun f => rfl) (by decide) (by kernel_rfl) (by kernel_rfl) (by kernel_rfl) (by kernel_rfl) (by kernel_rfl) (p6RecS _ _ _ _ _ _ _ _ _ _ _ _) ?_ ?_ ?_
              · refine steps2_cons ?_ ?_
                · intro f w1 hb hd Q hK
                  clear hd
                  have hK := Lib.hid hK
                  go_wp2
                  exact hK.out _ _ rfl (Below.refl _ _) (fun h => by cases h)
                refine steps2_cons ?_ ?_
                · intro f w1 hb hd Q hK
                  clear hd
                  have hK := Lib.hid hK
                  go_wp2
                  exact hK.out _ _ rfl (Below.refl _ _) (fun h => by cases h)
                refine steps2_cons ?_ ?_
                · intro f w1 hb hd Q hK
                  have e38 : f 38 = .pointer (some ⟨gb, 0, none⟩) := hd.1 rfl
                  clear hd
                  simp only [e38] at hK
                  have hK := Lib.hid hK
                  go_wp2
                  exact hK.out _ _ rfl (Below.refl _ _) (fun h => by cases h)
                refine steps2_cons ?_ ?_
                · intro f w1 hb hd Q hK
                  have e39 : f 39 = .pointer (some ⟨gb, 0, none⟩) := hd.1 rfl
                  clear hd
                  simp only [e39] at hK
                  have hK := Lib.hid hK
                  go_wp2
                  exact hK.out _ _ rfl (Below.refl _ _) (fun h => by cases h)
                refine steps2_cons ?_ ?_
                · intro f w1 hb hd Q hK
                  have e40 : f 40 = .pointer (some ⟨gb, 0, none⟩) := hd.1 rfl
                  clear hd
                  simp only [e40] at hK
                  have hK := Lib.hid hK
                  have c0 := (hG.below hb).cell 0
                  simp only [List.getElem?_toArray, List.getElem?_cons_zero] at c0
                  go_wp2
                  exact hK.out _ _ rfl (Below.refl _ _) (fun h => by cases h)
                refine steps2_cons ?_ ?_
                · intro f w1 hb hd Q hK
                  clear hd
                  have hK := Lib.hid hK
                  go_wp2
                  exact hK.out _ _ rfl (Below.refl _ _) (fun h => by cases h)
                refine steps2_cons ?_ ?_
                · intro f w1 hb hd Q hK
                  have e42 : f 42 = .pointer (some ⟨gb, 0, none⟩) := hd.1 rfl
                  clear hd
                  simp only [e42] at hK
                  have hK := Lib.hid hK
                  go_wp2
                  exact hK.out _ _ rfl (Below.refl _ _) (fun h => by cases h)
                refine steps2_cons ?_ ?_
                · intro f w1 hb hd Q hK
                  have e43 : f 43 = .pointer (some ⟨gb, 0, none⟩) := hd.1 rfl
                  clear hd
                  simp only [e43] at hK
                  have hK := Lib.hid hK
                  go_wp2
                  exact hK.out _ _ rfl (Below.refl _ _) (fun h => by cases h)
                refine steps2_cons ?_ ?_
                · intro f w1 hb hd Q hK
                  have e44 : f 44 = .pointer (some ⟨gb, 3, none⟩) := hd.1 rfl
                  clear hd
                  simp only [e44] at hK
                  have hK := Lib.hid hK
                  have c0 := (hG.below hb).cell 3
                  simp only [List.getElem?_toArray, List.getElem?_cons_zero, List.getElem?_cons_succ] at c0
                  go_wp2
                  exact hK.out _ _ rfl (Below.refl _ _) (fun h => by cases h)
                refine steps2_cons ?_ ?_
                · intro f w1 hb hd Q hK
                  clear hd
                  have hK := Lib.hid hK
                  obtain ⟨c0, c1, c2, c3, c4, c5, c6⟩ := blk7 (hX.below hb)
                  go_wp2
                  exact hK.out _ _ rfl (Below.refl _ _) (fun h => by cases h)
                refine steps2_cons ?_ ?_
                · intro f w1 hb hd Q hK
                  have e45 : f 45 = .func (.func 42) #[] #[] := hd.1 rfl
                  have e46 : f 46 = .agg #[.string r.k, .int .i64 r.cl, .int .i64 r.sq, .slice p1 r.n c1, .bool r.gone, .slice p2 r.vs.length c2, .slice p3 r.ss.length c3] := hd.2.1 rfl
                  clear hd
                  simp only [e45, e46] at hK
                  have hK := Lib.hid hK
                  go_wp2_with fail
                  refine (hco.out _ hb).mono ?_
                  rintro e w2 ⟨v2, bl2, rfl, ho2, -, hb2⟩
                  replace ho2 := Lib.hid ho2
                  go_wp2
                  exact hK.out _ _ ⟨_, ho2.out.mono (Nat.le_trans hB0 hb.size)⟩ hb2 (fun h => by cases h)
                refine steps2_cons ?_ ?_
                · intro f w1 hb hd Q hK
                  obtain ⟨bl47, pp1, cc1, pp2, cc2, pp3, cc3, e47, o1, o2, o3, hbl⟩ := (hd.1 rfl : OwnV RecO B0 r (f 47) w1)
                  unfold recV at e47
                  have hro := Lib.hid (show RecO B0 w1 (recV r pp1 cc1 pp2 cc2 pp3 cc3) r bl47 from ⟨_, _, _, _, _, _, rfl, o1, o2, o3, hbl⟩)
                  clear o1 o2 o3 hbl
                  clear hd
                  simp only [e47] at hK
                  have hK := Lib.hid hK
                  have hsz := Nat.le_trans hB0 hb.size
                  go_wp2
                  exact hK.out _ _ ⟨_, _, _, rfl, hsz, Blk.new _ _ _, hro.out.ext (S := []) (S' := []) (.below ((Below.refl _ _).alloc (Nat.le_refl _) _)) (fun _ _ h => by cases h)⟩ ((Below.refl _ _).alloc (Nat.le_refl _) _) (fun h => by cases h)
                trivial
              · intro f w1 hb hf
                have d41 : f 41 = .slice lq N cc := hf 4 _ _ (by decide) rfl rfl
                obtain ⟨g48, v48, bl48, e48, lo48, bk48, ro48⟩ : Sl1 RecO 25 B0 r (f 48) w1 := hf 11 _ _ (by decide) rfl rfl
                have d37 : f 37 = .pointer (some ⟨gb, 0, none⟩) := hf 0 _ _ (by decide) rfl rfl
                simp only [d41, e48, d37]
                clear hf d41 e48 d37 hco
                have hG1 := hG.below hb
                have ho1 := Lib.hid (put_ownRec a1.out a5.out hb0 hg6.out hb)
                have hB1 := Nat.le_trans hB6 hb.size
                have hrw := Lib.hid (blk_ne_row hG1 ho1.out (by decide))
                refine wpList_appRec rfl rfl rfl ho1.out rfl bk48 (rec_cells ro48) (by omega) hB1 ?_
                intro v7 w7 ho7 hg7 hl7
                obtain ⟨p7, c7, rfl⟩ := own_sl ho7
                have hG7 := hG1.grown hg7 (fun h => hrw.out h.symm)
                have c0 := (blk8 hG7).1
                have fz := fun j => hG7.frozen j
                replace ho7 := Lib.hid ho7
                replace hg7 := Lib.hid hg7
                replace hl7 := Lib.hid hl7
                go_wp2
                obtain ⟨S2, hS2, hE2⟩ := put_endRec (d := _) hN.out hBw g1 g2.out g3.out g4.out g6.out a1.out a2.out a3.out a4.out a5.out a6.out a7.out a8.out hb0 hm6.out hg6.out hb ro48 hB0e.out ho7.out hg7.out hl7.out hrok.out hX0.out hXe.out hXl.out
                exact ⟨⟨kk + 1, S2, by omega, rfl, by rw [hp.out]; exact hS2, hE.out.trans hE2⟩, by simp [intOf]; omega⟩
              · intro f w1 hb hf on oe hon hoe
                cases hon
                cases hoe
                have d41 : f 41 = .slice lq N cc := hf 4 _ _ (by decide) (by decide) rfl rfl
                obtain ⟨g48, v48, bl48, e48, lo48, bk48, ro48⟩ : Sl1 RecO 25 B0 r (f 48) w1 := hf 11 _ _ (by decide) (by decide) rfl rfl
                simp only [d41, e48]
                clear hf d41 e48 hco
                have hG1 := hG.below hb
                have ho1 := Lib.hid (put_ownRec a1.out a5.out hb0 hg6.out hb)
                have hB1 := Nat.le_trans hB6 hb.size
                have hrw := Lib.hid (blk_ne_row hG1 ho1.out (by decide))
                refine wpList_appRec rfl rfl rfl ho1.out rfl bk48 (rec_cells ro48) (by omega) hB1 ?_
                intro v7 w7 ho7 hg7 hl7
                obtain ⟨p7, c7, rfl⟩ := own_sl ho7
                have hG7 := hG1.grown hg7 (fun h => hrw.out h.symm)
                have c0 := (blk8 hG7).1
                have fz := fun j => hG7.frozen j
                replace ho7 := Lib.hid ho7
                replace hg7 := Lib.hid hg7
                replace hl7 := Lib.hid hl7
                go_wp2
                obtain ⟨S2, hS2, hE2⟩ := put_endRec (d := _) hN.out hBw g1 g2.out g3.out g4.out g6.out a1.out a2.out a3.out a4.out a5.out a6.out a7.out a8.out hb0 hm6.out hg6.out hb ro48 hB0e.out ho7.out hg7.out hl7.out hrok.out hX0.out hXe.out hXl.out
                exact ⟨⟨kk + 1, S2, by omega, rfl, by rw [hp.out]; exact hS2, hE.out.trans hE2⟩, by simp [intOf]; omega⟩
          · go_wp2_with fail
            clear x0 x1 x2 x3 x4 x5 x6
            refine hha.out.mono ?_
            rintro e w4 ⟨rfl, hb4⟩
            have hp := Lib.hid (show P (kk + 1) = P kk by rw [hnx.out]; unfold putT; rw [if_pos (.inr (by rw [← hX0.out]; exact hh))])
            have hb5 := hb0.trans (hb4.mono hb0.size)
            have hfin := Lib.hid (show GS B w4 S1 gb (P kk) M ∧ Ext S w S1 w4 from ⟨hGk2.out.below hb5, hE.out.trans (.below hb5)⟩)
            clear hX hG hb0 hBw hXBl hb4 hb5 hh hha
            go_wp2
            exact ⟨⟨kk + 1, S1, by omega, rfl, by rw [hp.out]; exact hfin.out.1, hfin.out.2⟩, by simp [intOf]; omega⟩
def p3RootL (r : RootD) (p1 : Option Addr) (c1 : Nat) (p2 : Option Addr) (c2 : Nat) (gb : Nat) (X : List Int) : List (Value → World → Prop) := [
  Eq1 (.pointer (some ⟨gb, 4, none⟩)),
  Eq1 (.pointer (some ⟨gb, 4, none⟩)),
  Eq1 (.pointer (some ⟨gb, 6, none⟩)),
  Eq1 (.func (.func 19) #[] #[]),
  Eq1 (.agg #[.int .i64 r.r, .int .i64 r.h, .int .i64 r.q, .slice p1 r.sum.length c1, .slice p2 r.sig.length c2]),
  SlL X,
  Eq1 (.string (strOfNums X)),
  Eq1 (.string (strOfNums X))]
theorem p3RootS (r : RootD) (p1 : Option Addr) (c1 : Nat) (p2 : Option Addr) (c2 : Nat) (gb : Nat) (X : List Int) : ∀ j x' q q', (p3RootL r p1 c1 p2 c2 gb X).getD j (fun _ _ => True) x' q → Below q.heap.size q q' → (p3RootL r p1 c1 p2 c2 gb X).getD j (fun _ _ => True) x' q' := by
  refine sta_all _ ?_
  simp only [p3RootL, List.mem_cons, forall_eq_or_imp, List.not_mem_nil, false_implies, implies_true, and_true]
  exact ⟨sta_eq _, sta_eq _, sta_eq _, sta_eq _, sta_eq _, sta_slL _, sta_eq _, sta_eq _⟩
def p5RootL (gb m2 N cc : Nat) (lq : Option Addr) (s : ByteArray) : List (Value → World → Prop) := [
  Eq1 (.pointer (some ⟨gb, 4, none⟩)),
  Eq1 (.pointer (some ⟨gb, 4, none⟩)),
  Eq1 (.pointer (some ⟨gb, 5, none⟩)),
  Eq1 (.map (some m2)),
  Eq1 (.string s),
  Eq1 (.pointer (some ⟨gb, 4, none⟩)),
  Eq1 (.pointer (some ⟨gb, 4, none⟩)),
  Eq1 (.pointer (some ⟨gb, 4, none⟩)),
  Eq1 (.slice lq N cc),
  Eq1 (.int .i64 (N : Int))]
theorem p5RootS (gb m2 N cc : Nat) (lq : Option Addr) (s : ByteArray) : ∀ j x' q q', (p5RootL gb m2 N cc lq s).getD j (fun _ _ => True) x' q → Below q.heap.size q q' → (p5RootL gb m2 N cc lq s).getD j (fun _ _ => True) x' q' := by
  refine sta_all _ ?_
  simp only [p5RootL, List.mem_cons, forall_eq_or_imp, List.not_mem_nil, false_implies, implies_true, and_true]
  exact ⟨sta_eq _, sta_eq _, sta_eq _, sta_eq _, sta_eq _, sta_eq _, sta_eq _, sta_eq _, sta_eq _, sta_eq _⟩
def p6RootL (r : RootD) (p1 : Option Addr) (c1 : Nat) (p2 : Option Addr) (c2 : Nat) (gb N cc : Nat) (lq : Option Addr) (B0 : Nat) : List (Value → World → Prop) := [
  Eq1 (.pointer (some ⟨gb, 4, none⟩)),
  Eq1 (.pointer (some ⟨gb, 4, none⟩)),
  Eq1 (.pointer (some ⟨gb, 4, none⟩)),
  Eq1 (.pointer (some ⟨gb, 4, none⟩)),
  Eq1 (.slice lq N cc),
  Eq1 (.pointer (some ⟨gb, 4, none⟩)),
  Eq1 (.pointer (some ⟨gb, 4, none⟩)),
  Eq1 (.pointer (some ⟨gb, 7, none⟩)),
  Eq1 (.func (.func 44) #[] #[]),
  Eq1 (.agg #[.int .i64 r.r, .int .i64 r.h, .int .i64 r.q, .slice p1 r.sum.length c1, .slice p2 r.sig.length c2]),
  OwnV RootO B0 r,
  Sl1 RootO 27 B0 r]
theorem p6RootS (r : RootD) (p1 : Option Addr) (c1 : Nat) (p2 : Option Addr) (c2 : Nat) (gb N cc : Nat) (lq : Option Addr) (B0 : Nat) : ∀ j x' q q', (p6RootL r p1 c1 p2 c2 gb N cc lq B0).getD j (fun _ _ => True) x' q → Below q.heap.size q q' → (p6RootL r p1 c1 p2 c2 gb N cc lq B0).getD j (fun _ _ => True) x' q' := by
  refine sta_all _ ?_
  simp only [p6RootL, List.mem_cons, forall_eq_or_imp, List.not_mem_nil, false_implies, implies_true, and_true]
  exact ⟨sta_eq _, sta_eq _, sta_eq _, sta_eq _, sta_eq _, sta_eq _, sta_eq _, sta_eq _, sta_eq _, sta_eq _, sta_ownT _ _, sta_slT _ _ _⟩
set_option maxRecDepth 20000 in
set_option maxHeartbeats 16000000 in
theorem putRoot_c (B gb : Nat) (S : List Nat) (L : List RecD) (M : List RootD) (p : Option Addr) (n ca : Nat) (rs : List RootD) (hn : n = rs.length) (hok : ∀ r, r ∈ rs → r.ok) (hlen : M.length + rs.length ≤ 100000) (w : World) (hB : B ≤ w.heap.size) (hGS : GS B w S gb L M) (hR : RootsF S w p rs) :
    Calls Try.prog 32 #[.pointer (some ⟨gb, 4, none⟩), .slice p n ca] w fun e w' => e = .returned (.tuple #[]) ∧ ∃ S', GS B w' S' gb L (putsT rootT M rs) ∧ Ext S w S' w' := by
  obtain ⟨P, hP⟩ : ∃ P : Nat → List RootD, P = fun i => putsT rootT M (rs.take i) := ⟨_, rfl⟩
  have hP0 : P 0 = M := by rw [hP]; rfl
  have hPn : putsT rootT M rs = P n := by rw [hP, hn]; show _ = putsT rootT M (rs.take rs.length); rw [List.take_length]
  have hPs : ∀ i r, rs[i]? = some r → P (i + 1) = putT rootT (P i) r := fun i r h => by rw [hP]; exact puts_snoc rootT M rs i r h
  have hPl : ∀ i, (P i).length ≤ 100000 := fun i => by rw [hP]; exact Nat.le_trans (puts_len rootT _ _) (by rw [List.length_take]; omega)
  rw [hPn]
  rw [← hP0] at hGS
  have hnb : n ≤ 100000 := by omega
  clear hP hPn hP0 hlen
  replace hPs := Lib.hid hPs
  replace hPl := Lib.hid hPl
  replace hGS := Lib.hid hGS
  replace hok := Lib.hid hok
  replace hR := Lib.hid hR
  replace hn := Lib.hid hn
  go_enter Try.func32, Try.ntmps32
  go_wp2
  go_loopw [9] (fun i wr => ∃ (kk : Nat) (S' : List Nat), kk ≤ n ∧ i = .int .i64 kk ∧ GS B wr S' gb L (P kk) ∧ Ext S w S' wr) (fun i _ => (n - intOf i).toNat)
  case atStart => exact ⟨0, S, by omega, rfl, hGS.out, .refl _ _⟩
  case round =>
    obtain ⟨kk, S1, hk, hi, hGk, hE⟩ := hrel
    subst hi
    by_cases he : kk = n
    · subst he
      have hpo := Lib.hid (show ∃ S', GS B wr S' gb L (P kk) ∧ Ext S w S' wr from ⟨S1, hGk, hE⟩)
      clear hGk hE hk
      go_wp2
      go_returns
      exact ⟨rfl, hpo.out⟩
    · have hk0 : (0 : Int) ≤ (kk : Int) := by omega
      have hk1 : (kk : Int) < (n : Int) := by omega
      have hk2 : kk < rs.length := by have := hn.out; omega
      obtain ⟨r, hr⟩ : ∃ r, rs[kk]? = some r := ⟨_, List.getElem?_eq_getElem hk2⟩
      obtain ⟨ga, oa, rfl, hga, hgS, hcc⟩ := hR.out (by omega)
      have hrok := hok.out r (List.mem_of_getElem? hr)
      obtain ⟨vv, hv, hj⟩ := hcc kk r hr
      obtain ⟨p1, c1, p2, c2, rfl, h1, h2⟩ := hv
      obtain ⟨z1, z2, z3⟩ := hE.at hga hgS
      have y0 : wr.cell? ⟨ga, oa + kk * 5, none⟩ = some (.int .i64 r.r) := (World.cell?_of_block (w := w) (a := ⟨ga, oa + kk * 5, none⟩) z1).trans (hj 0 _ rfl)
      have y1 : wr.cell? ⟨ga, oa + kk * 5 + 1, none⟩ = some (.int .i64 r.h) := (World.cell?_of_block (w := w) (a := ⟨ga, oa + kk * 5 + 1, none⟩) z1).trans (hj 1 _ rfl)
      have y2 : wr.cell? ⟨ga, oa + kk * 5 + 2, none⟩ = some (.int .i64 r.q) := (World.cell?_of_block (w := w) (a := ⟨ga, oa + kk * 5 + 2, none⟩) z1).trans (hj 2 _ rfl)
      have y3 : wr.cell? ⟨ga, oa + kk * 5 + 3, none⟩ = some (.slice p1 r.sum.length c1) := (World.cell?_of_block (w := w) (a := ⟨ga, oa + kk * 5 + 3, none⟩) z1).trans (hj 3 _ rfl)
      have y4 : wr.cell? ⟨ga, oa + kk * 5 + 4, none⟩ = some (.slice p2 r.sig.length c2) := (World.cell?_of_block (w := w) (a := ⟨ga, oa + kk * 5 + 4, none⟩) z1).trans (hj 4 _ rfl)
      replace h1 := h1.ext hE
      replace h2 := h2.ext hE

      have hnx := hPs.out kk r hr
      have hPk := hPl.out kk
      have hBw := Nat.le_trans hB hE.size
      obtain ⟨X, hX0⟩ : ∃ X, X = rootT r := ⟨_, rfl⟩
      have hkey := klit_key (rootT r) (root_len r hrok)
      have hbr := br_root hrok
      have hct0 := fun w1 (hb : Below wr.heap.size wr w1) => ((rootText_o r.r r.h r.q p1 r.sum.length c1 p2 r.sig.length c2 r.sum rfl w1 (h1.b.below hb)).mono fun _ _ h => h.l)
      change ∀ w1, Below wr.heap.size wr w1 → Calls _ _ _ w1 (PostL (rootT r) w1) at hct0
      have hco0 := fun w1 (hb : Ext S1 wr S1 w1) => ownRoot_c r p1 c1 p2 c2 hrok w1 (h1.ext hb).b (h2.ext hb).b
      have hGk2 := Lib.hid hGk
      obtain ⟨l1, m1, l2, m2, g1, g2, g3, g4, g5, g6⟩ := hGk
      have hhas0 := fun w1 (hb : Below wr.heap.size wr w1) (N : Nat) (D : DataW Unit) hD => hasRoot_d gb l1 m1 l2 m2 r p1 c1 p2 c2 hrok w1 (g1.below hb) (h1.b.below hb) N D hD
      rw [← hX0] at hkey hbr hct0 hhas0
      unfold rootV at hco0 hhas0
      have g5' := g6
      obtain ⟨vs, bls, D, a1, a2, a3, a4, a5, a6, a7, a8⟩ := g5'
      have hhl := a7 X hbr
      have hnil := hasT_nil (fun r h => (a8 r h).2)
      obtain ⟨lq, cc, hl1⟩ := own_sl a1
      obtain ⟨N, hN⟩ : ∃ N, N = (P kk).length := ⟨_, rfl⟩
      rw [← hN] at a1 a5 hl1 hPk
      subst hl1
      replace hkey := Lib.hid hkey
      replace hct0 := Lib.hid hct0
      replace hco0 := Lib.hid hco0
      replace hhas0 := Lib.hid hhas0
      replace a1 := Lib.hid a1
      replace a2 := Lib.hid a2
      replace a3 := Lib.hid a3
      replace a4 := Lib.hid a4
      replace a5 := Lib.hid a5
      replace a7 := Lib.hid a7
      replace a8 := Lib.hid a8
      replace hhl := Lib.hid hhl
      replace hnil := Lib.hid hnil
      replace hnx := Lib.hid hnx
      replace hX0 := Lib.hid hX0
      replace hN := Lib.hid hN
      replace hbr := Lib.hid hbr
      replace g3 := Lib.hid g3
      replace g4 := Lib.hid g4
      replace g5 := Lib.hid g5
      replace g6 := Lib.hid g6
      replace a6 := Lib.hid a6
      replace g2 := Lib.hid g2
      replace hE := Lib.hid hE
      unfold ghC at g1
      replace hrok := Lib.hid hrok
      clear he hcc hj z1 z2 z3 hr hk2 hgS hga h1 h2
      go_wp2
      refine at_world (fun W1 hW => ?_)
      have hbW : Below wr.heap.size wr W1 := by rw [hW]; go_grown
      have hX : Blk W1 wr.heap.size 27 #[.int .i64 r.r, .int .i64 r.h, .int .i64 r.q, .slice p1 r.sum.length c1, .slice p2 r.sig.length c2] := by rw [hW]; exact Blk.new _ _ _
      clear hW y0 y1 y2 y3 y4
      have hG := g1.below hbW
      obtain ⟨XB, hXB⟩ : ∃ XB, XB = wr.heap.size := ⟨_, rfl⟩
      rw [← hXB] at hX ⊢
      have hXBl : wr.heap.size ≤ XB := Nat.le_of_eq hXB.symm
      clear hXB
      have hct := Lib.hid fun w1 (hb : Below W1.heap.size W1 w1) => hct0.out w1 (hbW.trans (hb.mono hbW.size))
      clear hct0
      refine wp_region_grow5 8 (fun k => Nat.beq k 6 || (Nat.ble 13 k && Nat.ble k 19)) _ [] (fun a b => Below a.heap.size a b) (Below.refl _ _).drew below_tr (fun j x' q => (p3RootL r p1 c1 p2 c2 gb X).getD j (fun _ _ => True) x' q) (fun _ => false) (fun f => #[.pointer (some ⟨gb, 4, none⟩), .slice (some ⟨ga, oa, none⟩) n ca, undef, undef, undef, .pointer (some ⟨XB, 0, none⟩), f 6, .slice (some ⟨ga, oa, none⟩) n ca, .int .i64 (n : Int), .int .i64 (kk : Int), .bool true, _, _, f 13, f 14, f 15, f 16, f 17, f 18, f 19, _, _, _, _, _, _, _, _, _, _, _, _, _, _, _, _, _, _, _, _, _, _, _, _, _, _, _, _, _, _, _, _, _]) (fun f => rfl) (by kernel_rfl) (by kernel_rfl) (by kernel_rfl) (by kernel_rfl) (by kernel_rfl) (p3RootS _ _ _ _ _ _ _) (fun _ _ _ h => by cases h) ?_ ?_
      · refine steps5_cons ?_ ?_
        · intro f w1 hb hd Q hK
          clear hd
          have hK := Lib.hid hK
          go_wp2
          exact hK.out _ _ rfl (Below.refl _ _) (fun h => by cases h)
        refine steps5_cons ?_ ?_
        · intro f w1 hb hd Q hK
          have e13 : f 13 = .pointer (some ⟨gb, 4, none⟩) := hd.1 rfl
          clear hd
          simp only [e13] at hK
          have hK := Lib.hid hK
          go_wp2
          exact hK.out _ _ rfl (Below.refl _ _) (fun h => by cases h)
        refine steps5_cons ?_ ?_
        · intro f w1 hb hd Q hK
          have e14 : f 14 = .pointer (some ⟨gb, 4, none⟩) := hd.1 rfl
          clear hd
          simp only [e14] at hK
          have hK := Lib.hid hK
          go_wp2
          exact hK.out _ _ rfl (Below.refl _ _) (fun h => by cases h)
        refine steps5_cons ?_ ?_
        · intro f w1 hb hd Q hK
          have e15 : f 15 = .pointer (some ⟨gb, 6, none⟩) := hd.1 rfl
          clear hd
          simp only [e15] at hK
          have hK := Lib.hid hK
          have c0 := (hG.below hb).cell 6
          simp only [List.getElem?_toArray, List.getElem?_cons_zero, List.getElem?_cons_succ] at c0
          go_wp2
          exact hK.out _ _ rfl (Below.refl _ _) (fun h => by cases h)
        refine steps5_cons ?_ ?_
        · intro f w1 hb hd Q hK
          clear hd
          have hK := Lib.hid hK
          obtain ⟨c0, c1, c2, c3, c4⟩ := blk5v (hX.below hb)
          go_wp2
          exact hK.out _ _ rfl (Below.refl _ _) (fun h => by cases h)
        refine steps5_cons ?_ ?_
        · intro f w1 hb hd Q hK
          have e16 : f 16 = .func (.func 19) #[] #[] := hd.1 rfl
          have e17 : f 17 = .agg #[.int .i64 r.r, .int .i64 r.h, .int .i64 r.q, .slice p1 r.sum.length c1, .slice p2 r.sig.length c2] := hd.2.1 rfl
          clear hd
          simp only [e16, e17] at hK
          have hK := Lib.hid hK
          go_wp2_with fail
          refine (hct.out _ hb).mono ?_
          rintro e w2 ⟨r', m, c2', rfl, hm, hR, hb2, -⟩
          replace hm := Lib.hid hm
          go_wp2
          exact hK.out _ _ ⟨_, _, _, rfl, hm.out, hR⟩ hb2 (fun h => by cases h)
        refine steps5_cons ?_ ?_
        · intro f w1 hb hd Q hK
          obtain ⟨p18, n18, c18, e18, l18, b18⟩ := (hd.1 rfl : SlL X (f 18) w1)
          replace l18 := Lib.hid l18
          replace b18 := Lib.hid b18
          clear hd
          simp only [e18] at hK
          have hK := Lib.hid hK
          have kc := conv_str w1 p18 n18 c18 X l18.out b18.out
          go_wp2
          exact hK.out _ _ rfl (Below.refl _ _) (fun h => by cases h)
        refine steps5_cons ?_ ?_
        · intro f w1 hb hd Q hK
          have e19 : f 19 = .string (strOfNums X) := hd.1 rfl
          clear hd
          simp only [e19] at hK
          have hK := Lib.hid hK
          go_wp2
          exact hK.out _ _ rfl (Below.refl _ _) (fun h => by cases h)
        trivial
      · intro f3 w3 hb3 hf3 hne3
        refine wpList_nil ?_
        have d6 : f3 6 = .string (strOfNums X) := hf3 7 _ _ (by decide) rfl rfl
        simp only [d6]
        clear hf3 hne3 hct d6
        replace hG := hG.below hb3
        replace hX := hX.below hb3
        have hb0 := hbW.trans (hb3.mono hbW.size)
        clear hb3 hbW
        obtain ⟨s, hs⟩ : ∃ s, s = strOfNums X := ⟨_, rfl⟩
        rw [← hs] at hkey ⊢
        have hse : s.toList.isEmpty = decide (X = []) := by rw [hs]; exact str_empty X
        replace hs := Lib.hid hs
        by_cases hXe : X = []
        · rw [decide_eq_true hXe] at hse
          have hp := Lib.hid (show P (kk + 1) = P kk by rw [hnx.out]; unfold putT; rw [if_pos (.inl (by rw [← hX0.out]; exact hXe))])
          have hfin := Lib.hid (show GS B w3 S1 gb L (P kk) ∧ Ext S w S1 w3 from ⟨hGk2.out.below hb0, hE.out.trans (.below hb0)⟩)
          clear hXe hX hG hb0 hBw hXBl
          go_wp2
          exact ⟨⟨kk + 1, S1, by omega, rfl, by rw [hp.out]; exact hfin.out.1, hfin.out.2⟩, by simp [intOf]; omega⟩
        · rw [decide_eq_false hXe] at hse
          replace hXe := Lib.hid hXe
          have hha := hhas0.out w3 hb0 N D (a5.out.kept (w' := w3) (row := none) ⟨hb0.os, hb0.tape, hb0.output, hb0.size, fun k hk _ => hb0.block k hk⟩ (by simp))
          rw [hhl.out] at hha
          obtain ⟨x0, x1, x2, x3, x4⟩ := blk5v hX
          cases hh : hasT rootT (P kk) X
          case' true => rw [hh] at hha
          case' false => rw [hh] at hha
          all_goals replace hha := Lib.hid hha
          · go_wp2_with fail
            clear x0 x1 x2 x3 x4
            have hp := Lib.hid (show P (kk + 1) = P kk ++ [r] by rw [hnx.out]; unfold putT; rw [if_neg]; rw [← hX0.out]; exact fun h => h.elim hXe.out (fun h => by rw [hh] at h; cases h))
            have hXl := Lib.hid (show X.length ≤ 2000000 by rw [hX0.out]; exact root_len r hrok.out)
            clear hh
            refine hha.out.mono ?_
            rintro e w4 ⟨rfl, hb4⟩
            replace hG := hG.below hb4
            replace hX := hX.below hb4
            replace hb0 := hb0.trans (hb4.mono hb0.size)
            clear hb4 hha
            go_wp2_with fail
            refine wp_region_grow5 10 (fun k => (Nat.ble 27 k && Nat.ble k 36)) _ [] (fun a b => Below a.heap.size a b) (Below.refl _ _).drew below_tr (fun j x' q => (p5RootL gb m2 N cc lq s).getD j (fun _ _ => True) x' q) (fun _ => false) (fun f => #[.pointer (some ⟨gb, 4, none⟩), .slice (some ⟨ga, oa, none⟩) n ca, undef, undef, undef, .pointer (some ⟨XB, 0, none⟩), .string s, .slice (some ⟨ga, oa, none⟩) n ca, .int .i64 (n : Int), .int .i64 (kk : Int), .bool true, _, _, _, _, _, _, _, _, _, _, _, _, _, _, _, _, f 27, f 28, f 29, f 30, f 31, f 32, f 33, f 34, f 35, f 36, _, _, _, _, _, _, _, _, _, _, _, _, _, _, _, _]) (fun f => rfl) (by kernel_rfl) (by kernel_rfl) (by kernel_rfl) (by kernel_rfl) (by kernel_rfl) (p5RootS _ _ _ _ _ _) (fun _ _ _ h => by cases h) ?_ ?_
            · refine steps5_cons ?_ ?_
              · intro f w1 hb hd Q hK
                clear hd
                have hK := Lib.hid hK
                go_wp2
                exact hK.out _ _ rfl (Below.refl _ _) (fun h => by cases h)
              refine steps5_cons ?_ ?_
              · intro f w1 hb hd Q hK
                have e27 : f 27 = .pointer (some ⟨gb, 4, none⟩) := hd.1 rfl
                clear hd
                simp only [e27] at hK
                have hK := Lib.hid hK
                go_wp2
                exact hK.out _ _ rfl (Below.refl _ _) (fun h => by cases h)
              refine steps5_cons ?_ ?_
              · intro f w1 hb hd Q hK
                have e28 : f 28 = .pointer (some ⟨gb, 4, none⟩) := hd.1 rfl
                clear hd
                simp only [e28] at hK
                have hK := Lib.hid hK
                go_wp2
                exact hK.out _ _ rfl (Below.refl _ _) (fun h => by cases h)
              refine steps5_cons ?_ ?_
              · intro f w1 hb hd Q hK
                have e29 : f 29 = .pointer (some ⟨gb, 5, none⟩) := hd.1 rfl
                clear hd
                simp only [e29] at hK
                have hK := Lib.hid hK
                have c0 := (hG.below hb).cell 5
                simp only [List.getElem?_toArray, List.getElem?_cons_zero, List.getElem?_cons_succ] at c0
                go_wp2
                exact hK.out _ _ rfl (Below.refl _ _) (fun h => by cases h)
              refine steps5_cons ?_ ?_
              · intro f w1 hb hd Q hK
                clear hd
                have hK := Lib.hid hK
                go_wp2
                exact hK.out _ _ rfl (Below.refl _ _) (fun h => by cases h)
              refine steps5_cons ?_ ?_
              · intro f w1 hb hd Q hK
                clear hd
                have hK := Lib.hid hK
                go_wp2
                exact hK.out _ _ rfl (Below.refl _ _) (fun h => by cases h)
              refine steps5_cons ?_ ?_
              · intro f w1 hb hd Q hK
                have e32 : f 32 = .pointer (some ⟨gb, 4, none⟩) := hd.1 rfl
                clear hd
                simp only [e32] at hK
                have hK := Lib.hid hK
                go_wp2
                exact hK.out _ _ rfl (Below.refl _ _) (fun h => by cases h)
              refine steps5_cons ?_ ?_
              · intro f w1 hb hd Q hK
                have e33 : f 33 = .pointer (some ⟨gb, 4, none⟩) := hd.1 rfl
                clear hd
                simp only [e33] at hK
                have hK := Lib.hid hK
                go_wp2
                exact hK.out _ _ rfl (Below.refl _ _) (fun h => by cases h)
              refine steps5_cons ?_ ?_
              · intro f w1 hb hd Q hK
                have e34 : f 34 = .pointer (some ⟨gb, 4, none⟩) := hd.1 rfl
                clear hd
                simp only [e34] at hK
                have hK := Lib.hid hK
                have c0 := (hG.below hb).cell 4
                simp only [List.getElem?_toArray, List.getElem?_cons_zero, List.getElem?_cons_succ] at c0
                go_wp2
                exact hK.out _ _ rfl (Below.refl _ _) (fun h => by cases h)
              refine steps5_cons ?_ ?_
              · intro f w1 hb hd Q hK
                have e35 : f 35 = .slice lq N cc := hd.1 rfl
                clear hd
                simp only [e35] at hK
                have hK := Lib.hid hK
                go_wp2
                exact hK.out _ _ rfl (Below.refl _ _) (fun h => by cases h)
              trivial
            · intro f5 w5 hb5 hf5 hne5
              have d30 : f5 30 = .map (some m2) := hf5 3 _ _ (by decide) rfl rfl
              have d31 : f5 31 = .string s := hf5 4 _ _ (by decide) rfl rfl
              have d36 : f5 36 = .int .i64 (N : Int) := hf5 9 _ _ (by decide) rfl rfl
              simp only [d30, d31, d36]
              clear hf5 hne5 d30 d31 d36
              replace hG := hG.below hb5
              replace hX := hX.below hb5
              replace hb0 := hb0.trans (hb5.mono hb0.size)
              clear hb5
              have ho5 := Lib.hid (a5.out.kept (w' := w5) (row := none) ⟨hb0.os, hb0.tape, hb0.output, hb0.size, fun k hk _ => hb0.block k hk⟩ (by simp))
              have hNm : N < maxLen := by unfold maxLen; omega
              have hwf : (Lit.int .i64 (N : Int)).wf = true := WalkArith.wf_i64 (by omega)
              replace hwf := Lib.hid hwf
              have hme := ghost_ne_map hG ho5.out
              have hxe := ghost_ne_map hX ho5.out
              replace hme := Lib.hid hme
              replace hxe := Lib.hid hxe
              refine wpList_mapUpdate_own _ rfl _ _ _ 30 rfl 9 3 law map_under _ m2 N D rfl ho5.out hNm _ _ _ rfl rfl hkey.out _ [] (plainElem_int int_under hwf.out) ?_
              intro w6 hm6 hg6
              replace hm6 := Lib.hid hm6
              replace hg6 := Lib.hid hg6
              go_wp2
              replace hG := hG.grown hg6.out (fun h => hme.out (Option.some.inj h))
              replace hX := hX.grown hg6.out (fun h => hxe.out (Option.some.inj h))
              have K6 : Kept [m2] wr w6 := (Kept.below hb0 _).trans (Kept.grown hg6.out (fun g h => by injection h with h; simp [h]))
              have E6 : Ext S1 wr S1 w6 := K6.ext (fun g hg => .inl (by have := a6.out; simp at hg; rw [hg]; exact this)) (fun _ h => .inl h)
              have hco := Lib.hid fun w1 (hb : Below w6.heap.size w6 w1) => hco0.out w1 (E6.trans (.below hb))
              have hB6 := Nat.le_trans hBw K6.size
              obtain ⟨B0, hB0e⟩ : ∃ B0, B0 = w6.heap.size := ⟨_, rfl⟩
              have hB0 := Nat.le_of_eq hB0e
              replace hB0e := Lib.hid hB0e
              clear hco0 hme hxe K6 E6 ho5 hNm hwf hGk2 hhas0 hXBl
              refine wp_region_grow6 12 0 (fun k => (Nat.ble 37 k && Nat.ble k 48)) _ [] (fun j x' q => (p6RootL r p1 c1 p2 c2 gb N cc lq B0).getD j (fun _ _ => True) x' q) (fun _ => false) (fun f => #[.pointer (some ⟨gb, 4, none⟩), .slice (some ⟨ga, oa, none⟩) n ca, undef, undef, undef, .pointer (some ⟨XB, 0, none⟩), .string s, .slice (some ⟨ga, oa, none⟩) n ca, .int .i64 (n : Int), .int .i64 (kk : Int), .bool true, _, _, _, _, _, _, _, _, _, _, _, _, _, _, _, _, _, _, _, _, _, _, _, _, _, _, f 37, f 38, f 39, f 40, f 41, f 42, f 43, f 44, f 45, f 46, f 47, f 48, _, _, _, _]) (fun f => rfl) (by decide) (by kernel_rfl) (by kernel_rfl) (by kernel_rfl) (by kernel_rfl) (by kernel_rfl) (p6RootS _ _ _ _ _ _ _ _ _ _) ?_ ?_ ?_
              · refine steps2_cons ?_ ?_
                · intro f w1 hb hd Q hK
                  clear hd
                  have hK := Lib.hid hK
                  go_wp2
                  exact hK.out _ _ rfl (Below.refl _ _) (fun h => by cases h)
                refine steps2_cons ?_ ?_
                · intro f w1 hb hd Q hK
                  clear hd
                  have hK := Lib.hid hK
                  go_wp2
                  exact hK.out _ _ rfl (Below.refl _ _) (fun h => by cases h)
                refine steps2_cons ?_ ?_
                · intro f w1 hb hd Q hK
                  have e38 : f 38 = .pointer (some ⟨gb, 4, none⟩) := hd.1 rfl
                  clear hd
                  simp only [e38] at hK
                  have hK := Lib.hid hK
                  go_wp2
                  exact hK.out _ _ rfl (Below.refl _ _) (fun h => by cases h)
                refine steps2_cons ?_ ?_
                · intro f w1 hb hd Q hK
                  have e39 : f 39 = .pointer (some ⟨gb, 4, none⟩) := hd.1 rfl
                  clear hd
                  simp only [e39] at hK
                  have hK := Lib.hid hK
                  go_wp2
                  exact hK.out _ _ rfl (Below.refl _ _) (fun h => by cases h)
                refine steps2_cons ?_ ?_
                · intro f w1 hb hd Q hK
                  have e40 : f 40 = .pointer (some ⟨gb, 4, none⟩) := hd.1 rfl
                  clear hd
                  simp only [e40] at hK
                  have hK := Lib.hid hK
                  have c0 := (hG.below hb).cell 4
                  simp only [List.getElem?_toArray, List.getElem?_cons_zero, List.getElem?_cons_succ] at c0
                  go_wp2
                  exact hK.out _ _ rfl (Below.refl _ _) (fun h => by cases h)
                refine steps2_cons ?_ ?_
                · intro f w1 hb hd Q hK
                  clear hd
                  have hK := Lib.hid hK
                  go_wp2
                  exact hK.out _ _ rfl (Below.refl _ _) (fun h => by cases h)
                refine steps2_cons ?_ ?_
                · intro f w1 hb hd Q hK
                  have e42 : f 42 = .pointer (some ⟨gb, 4, none⟩) := hd.1 rfl
                  clear hd
                  simp only [e42] at hK
                  have hK := Lib.hid hK
                  go_wp2
                  exact hK.out _ _ rfl (Below.refl _ _) (fun h => by cases h)
                refine steps2_cons ?_ ?_
                · intro f w1 hb hd Q hK
                  have e43 : f 43 = .pointer (some ⟨gb, 4, none⟩) := hd.1 rfl
                  clear hd
                  simp only [e43] at hK
                  have hK := Lib.hid hK
                  go_wp2
                  exact hK.out _ _ rfl (Below.refl _ _) (fun h => by cases h)
                refine steps2_cons ?_ ?_
                · intro f w1 hb hd Q hK
                  have e44 : f 44 = .pointer (some ⟨gb, 7, none⟩) := hd.1 rfl
                  clear hd
                  simp only [e44] at hK
                  have hK := Lib.hid hK
                  have c0 := (hG.below hb).cell 7
                  simp only [List.getElem?_toArray, List.getElem?_cons_zero, List.getElem?_cons_succ] at c0
                  go_wp2
                  exact hK.out _ _ rfl (Below.refl _ _) (fun h => by cases h)
                refine steps2_cons ?_ ?_
                · intro f w1 hb hd Q hK
                  clear hd
                  have hK := Lib.hid hK
                  obtain ⟨c0, c1, c2, c3, c4⟩ := blk5v (hX.below hb)
                  go_wp2
                  exact hK.out _ _ rfl (Below.refl _ _) (fun h => by cases h)
                refine steps2_cons ?_ ?_
                · intro f w1 hb hd Q hK
                  have e45 : f 45 = .func (.func 44) #[] #[] := hd.1 rfl
                  have e46 : f 46 = .agg #[.int .i64 r.r, .int .i64 r.h, .int .i64 r.q, .slice p1 r.sum.length c1, .slice p2 r.sig.length c2] := hd.2.1 rfl
                  clear hd
                  simp only [e45, e46] at hK
                  have hK := Lib.hid hK
                  go_wp2_with fail
                  refine (hco.out _ hb).mono ?_
                  rintro e w2 ⟨v2, bl2, rfl, ho2, -, hb2⟩
                  replace ho2 := Lib.hid ho2
                  go_wp2
                  exact hK.out _ _ ⟨_, ho2.out.mono (Nat.le_trans hB0 hb.size)⟩ hb2 (fun h => by cases h)
                refine steps2_cons ?_ ?_
                · intro f w1 hb hd Q hK
                  obtain ⟨bl47, pp1, cc1, pp2, cc2, e47, o1, o2, hbl⟩ := (hd.1 rfl : OwnV RootO B0 r (f 47) w1)
                  unfold rootV at e47
                  have hro := Lib.hid (show RootO B0 w1 (rootV r pp1 cc1 pp2 cc2) r bl47 from ⟨_, _, _, _, rfl, o1, o2, hbl⟩)
                  clear o1 o2 hbl
                  clear hd
                  simp only [e47] at hK
                  have hK := Lib.hid hK
                  have hsz := Nat.le_trans hB0 hb.size
                  go_wp2
                  exact hK.out _ _ ⟨_, _, _, rfl, hsz, Blk.new _ _ _, hro.out.ext (S := []) (S' := []) (.below ((Below.refl _ _).alloc (Nat.le_refl _) _)) (fun _ _ h => by cases h)⟩ ((Below.refl _ _).alloc (Nat.le_refl _) _) (fun h => by cases h)
                trivial
              · intro f w1 hb hf
                have d41 : f 41 = .slice lq N cc := hf 4 _ _ (by decide) rfl rfl
                obtain ⟨g48, v48, bl48, e48, lo48, bk48, ro48⟩ : Sl1 RootO 27 B0 r (f 48) w1 := hf 11 _ _ (by decide) rfl rfl
                have d37 : f 37 = .pointer (some ⟨gb, 4, none⟩) := hf 0 _ _ (by decide) rfl rfl
                simp only [d41, e48, d37]
                clear hf d41 e48 d37 hco
                have hG1 := hG.below hb
                have ho1 := Lib.hid (put_ownRoot a1.out a5.out hb0 hg6.out hb)
                have hB1 := Nat.le_trans hB6 hb.size
                have hrw := Lib.hid (blk_ne_row hG1 ho1.out (by decide))
                refine wpList_appRoot rfl rfl rfl ho1.out rfl bk48 (root_cells ro48) (by omega) hB1 ?_
                intro v7 w7 ho7 hg7 hl7
                obtain ⟨p7, c7, rfl⟩ := own_sl ho7
                have hG7 := hG1.grown hg7 (fun h => hrw.out h.symm)
                have c0 := (blk8 hG7).2.2.2.2.1
                have fz := fun j => hG7.frozen j
                replace ho7 := Lib.hid ho7
                replace hg7 := Lib.hid hg7
                replace hl7 := Lib.hid hl7
                go_wp2
                obtain ⟨S2, hS2, hE2⟩ := put_endRoot (d := _) hN.out hBw g1 g2.out g3.out g4.out g5.out a1.out a2.out a3.out a4.out a5.out a6.out a7.out a8.out hb0 hm6.out hg6.out hb ro48 hB0e.out ho7.out hg7.out hl7.out hrok.out hX0.out hXe.out hXl.out
                exact ⟨⟨kk + 1, S2, by omega, rfl, by rw [hp.out]; exact hS2, hE.out.trans hE2⟩, by simp [intOf]; omega⟩
              · intro f w1 hb hf on oe hon hoe
                cases hon
                cases hoe
                have d41 : f 41 = .slice lq N cc := hf 4 _ _ (by decide) (by decide) rfl rfl
                obtain ⟨g48, v48, bl48, e48, lo48, bk48, ro48⟩ : Sl1 RootO 27 B0 r (f 48) w1 := hf 11 _ _ (by decide) (by decide) rfl rfl
                simp only [d41, e48]
                clear hf d41 e48 hco
                have hG1 := hG.below hb
                have ho1 := Lib.hid (put_ownRoot a1.out a5.out hb0 hg6.out hb)
                have hB1 := Nat.le_trans hB6 hb.size
                have hrw := Lib.hid (blk_ne_row hG1 ho1.out (by decide))
                refine wpList_appRoot rfl rfl rfl ho1.out rfl bk48 (root_cells ro48) (by omega) hB1 ?_
                intro v7 w7 ho7 hg7 hl7
                obtain ⟨p7, c7, rfl⟩ := own_sl ho7
                have hG7 := hG1.grown hg7 (fun h => hrw.out h.symm)
                have c0 := (blk8 hG7).2.2.2.2.1
                have fz := fun j => hG7.frozen j
                replace ho7 := Lib.hid ho7
                replace hg7 := Lib.hid hg7
                replace hl7 := Lib.hid hl7
                go_wp2
                obtain ⟨S2, hS2, hE2⟩ := put_endRoot (d := _) hN.out hBw g1 g2.out g3.out g4.out g5.out a1.out a2.out a3.out a4.out a5.out a6.out a7.out a8.out hb0 hm6.out hg6.out hb ro48 hB0e.out ho7.out hg7.out hl7.out hrok.out hX0.out hXe.out hXl.out
                exact ⟨⟨kk + 1, S2, by omega, rfl, by rw [hp.out]; exact hS2, hE.out.trans hE2⟩, by simp [intOf]; omega⟩
          · go_wp2_with fail
            clear x0 x1 x2 x3 x4
            refine hha.out.mono ?_
            rintro e w4 ⟨rfl, hb4⟩
            have hp := Lib.hid (show P (kk + 1) = P kk by rw [hnx.out]; unfold putT; rw [if_pos (.inr (by rw [← hX0.out]; exact hh))])
            have hb5 := hb0.trans (hb4.mono hb0.size)
            have hfin := Lib.hid (show GS B w4 S1 gb L (P kk) ∧ Ext S w S1 w4 from ⟨hGk2.out.below hb5, hE.out.trans (.below hb5)⟩)
            clear hX hG hb0 hBw hXBl hb4 hb5 hh hha
            go_wp2
            exact ⟨⟨kk + 1, S1, by omega, rfl, by rw [hp.out]; exact hfin.out.1, hfin.out.2⟩, by simp [intOf]; omega⟩
end Go.Proofs.Ytdgaoljobpneaaa
