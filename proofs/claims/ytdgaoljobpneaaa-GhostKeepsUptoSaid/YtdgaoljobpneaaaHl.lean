/- The walks of Ghost's methods: one that New made, none, one that nobody made. -/
import Derived.Test.YtdgaoljobpneaaaHi
import Derived.Test.YtdgaoljobpneaaaHk
namespace Go.Proofs.Ytdgaoljobpneaaa
open Go.RowKit
/-- no ghost, or one that nobody made -/
def GNone (w : World) (v : Value) : Prop := v = .pointer none ∨ ∃ gb cs, v = .pointer (some ⟨gb, 0, none⟩) ∧ Blk w gb 45 cs ∧ cs[1]? = some (.map none)
theorem GNone.below {w w' : World} {v : Value} (h : GNone w v) (hb : Below w.heap.size w w') : GNone w' v := h.imp id fun ⟨gb, cs, e, h1, h2⟩ => ⟨gb, cs, e, h1.below hb, h2⟩
theorem neqptr (ad : Addr) (w : World) : (binOp .neq 28 (.pointer (some ad)) (.pointer none)).run Try.prog w = .ok (.bool true) w := by kernel_rfl
theorem neqptr0 (w : World) : (binOp .neq 28 (.pointer none) (.pointer none)).run Try.prog w = .ok (.bool false) w := by kernel_rfl
theorem neqmap0 (w : World) : (binOp .neq 30 (.map none) (.map none)).run Try.prog w = .ok (.bool false) w := by kernel_rfl
set_option maxHeartbeats 1000000 in
theorem knownZero_c (gb : Nat) (cs : Array Value) (w : World) (hG : Blk w gb 45 cs) (hc : cs[1]? = some (.map none)) :
    Calls Try.prog 71 #[.pointer (some ⟨gb, 0, none⟩)] w fun e w' => e = .returned (.bool false) ∧ Below w.heap.size w w' := by
  have c1 := (hG.cell 1).trans hc
  have hnm := neqmap0
  clear hc
  go_enter Try.func71, Try.ntmps71
  go_wp2
  go_returns
  exact ⟨rfl, Below.refl _ _⟩
set_option maxHeartbeats 2000000 in
theorem gknown_c (gb : Nat) (l1 : Value) (m1 : Nat) (l2 : Value) (m2 : Nat) (w : World) (hG : Blk w gb 45 (ghC l1 m1 l2 m2)) :
    Calls Try.prog 30 #[.pointer (some ⟨gb, 0, none⟩)] w fun e w' => e = .returned (.bool true) ∧ Below w.heap.size w w' := by
  have hk := Lib.hid (knownRec_c gb l1 m1 l2 m2 w hG)
  have hnp := neqptr
  clear hG
  go_enter Try.func30, Try.ntmps30
  go_wp2_with fail
  refine hk.out.mono ?_
  rintro e w1 ⟨rfl, hb⟩
  go_wp2
  go_returns
  exact ⟨rfl, hb⟩
set_option maxHeartbeats 2000000 in
theorem gknown_no (v : Value) (w : World) (h : GNone w v) :
    Calls Try.prog 30 #[v] w fun e w' => e = .returned (.bool false) ∧ Below w.heap.size w w' := by
  rcases h with rfl | ⟨gb, cs, rfl, h1, h2⟩
  · have hnp := neqptr0
    go_enter Try.func30, Try.ntmps30
    go_wp2
    go_returns
    exact ⟨rfl, Below.refl _ _⟩
  · have hk := Lib.hid (knownZero_c gb cs w h1 h2)
    have hnp := neqptr
    clear h1 h2
    go_enter Try.func30, Try.ntmps30
    go_wp2_with fail
    refine hk.out.mono ?_
    rintro e w1 ⟨rfl, hb⟩
    go_wp2
    go_returns
    exact ⟨rfl, hb⟩
theorem GS.known {B gb : Nat} {w : World} {S : List Nat} {L : List RecD} {M : List RootD} (h : GS B w S gb L M) : Calls Try.prog 30 #[.pointer (some ⟨gb, 0, none⟩)] w fun e w' => e = .returned (.bool true) ∧ Below w.heap.size w w' := by
  obtain ⟨l1, m1, l2, m2, g1, _⟩ := h
  exact gknown_c gb l1 m1 l2 m2 w g1
theorem AllO.mono {α : Type} {O : Nat → World → Value → α → List Nat → Prop} {ty : TypeId} {k B B' : Nat} {w : World} {v : Value} {L : List α} (h : AllO O ty k B w v L) (hO : ∀ w v r bl, B' ≤ B → O B w v r bl → O B' w v r bl) (hB : B' ≤ B) : AllO O ty k B' w v L := by
  obtain ⟨vs, bls, h1, h2, h3⟩ := h
  exact ⟨vs, bls, own_mono h1 hB, ⟨h2.1, h2.2.1, fun i v r bl e1 e2 e3 => hO w v r bl hB (h2.2.2 i v r bl e1 e2 e3)⟩, h3⟩
theorem rec_mono (B B' : Nat) : ∀ w v r bl, B' ≤ B → RecO B w v r bl → RecO B' w v r bl := fun _ _ _ _ hB h => h.mono hB
theorem root_mono (B B' : Nat) : ∀ w v r bl, B' ≤ B → RootO B w v r bl → RootO B' w v r bl := fun _ _ _ _ hB h => h.mono hB
theorem hasRec_c (B gb : Nat) (S : List Nat) (L : List RecD) (M : List RootD) (r : RecD) (v : Value) (hok : r.ok) (w : World) (hGS : GS B w S gb L M) (hv : RecF [] w v r) :
    Calls Try.prog 33 #[.pointer (some ⟨gb, 0, none⟩), v] w fun e w' => e = .returned (.bool (hasT recT L (recT r))) ∧ Below w.heap.size w w' := by
  obtain ⟨l1, m1, l2, m2, g1, -, -, -, g5, g6⟩ := hGS
  obtain ⟨vs, bls, D, -, -, -, -, a5, -, a7, -⟩ := g5
  obtain ⟨p1, c1, p2, c2, p3, c3, rfl, h1, h2, h3⟩ := hv
  have := hasRec_d gb l1 m1 l2 m2 r p1 c1 p2 c2 p3 c3 hok w g1 h1.d h2.b _ D a5
  rw [a7 _ (br_rec hok)] at this
  exact this
def gyRecL (r : RecD) (p1 : Option Addr) (c1 : Nat) (p2 : Option Addr) (c2 : Nat) (p3 : Option Addr) (c3 : Nat) (gb : Nat) (HH : Bool) : List (Value → World → Prop) := [
  Eq1 (.pointer (some ⟨gb, 0, none⟩)),
  Eq1 (.bool true),
  Eq1 (.bool true),
  Eq1 (.pointer (some ⟨gb, 0, none⟩)),
  Eq1 (.pointer (some ⟨gb, 0, none⟩)),
  Eq1 (.pointer (some ⟨gb, 0, none⟩)),
  Eq1 (.pointer (some ⟨gb, 0, none⟩)),
  Eq1 (.agg #[.string r.k, .int .i64 r.cl, .int .i64 r.sq, .slice p1 r.n c1, .bool r.gone, .slice p2 r.vs.length c2, .slice p3 r.ss.length c3]),
  Eq1 (.bool HH),
  Eq1 (.bool HH),
  Eq1 (.bool HH)]
theorem gyRecS (r : RecD) (p1 : Option Addr) (c1 : Nat) (p2 : Option Addr) (c2 : Nat) (p3 : Option Addr) (c3 : Nat) (gb : Nat) (HH : Bool) : ∀ j x' q q', (gyRecL r p1 c1 p2 c2 p3 c3 gb HH).getD j (fun _ _ => True) x' q → Below q.heap.size q q' → (gyRecL r p1 c1 p2 c2 p3 c3 gb HH).getD j (fun _ _ => True) x' q' := by
  refine sta_all _ ?_
  simp only [gyRecL, List.mem_cons, forall_eq_or_imp, List.not_mem_nil, false_implies, implies_true, and_true]
  exact ⟨sta_eq _, sta_eq _, sta_eq _, sta_eq _, sta_eq _, sta_eq _, sta_eq _, sta_eq _, sta_eq _, sta_eq _, sta_eq _⟩
set_option maxRecDepth 20000 in
set_option maxHeartbeats 4000000 in
theorem gHas_c (B gb : Nat) (S : List Nat) (L : List RecD) (M : List RootD) (r : RecD) (v : Value) (hok : r.ok) (w : World) (hGS : GS B w S gb L M) (hv : RecF [] w v r) :
    Calls Try.prog 8 #[.pointer (some ⟨gb, 0, none⟩), v] w fun e w' => e = .returned (.bool (hasT recT L (recT r))) ∧ Below w.heap.size w w' := by
  have hkn := fun w1 (hb : Below w.heap.size w w1) => (hGS.below hb).known
  have hha := fun w1 (hb : Below w.heap.size w w1) => hasRec_c B gb S L M r v hok w1 (hGS.below hb) (hv.ext (.below hb))
  obtain ⟨HH, hHH⟩ : ∃ HH, HH = hasT recT L (recT r) := ⟨_, rfl⟩
  rw [← hHH] at hha ⊢
  clear hHH hGS hok
  obtain ⟨p1, c1, p2, c2, p3, c3, rfl, h1, h2, h3⟩ := hv
  clear h1 h2 h3
  unfold recV at hha ⊢
  replace hkn := Lib.hid hkn
  replace hha := Lib.hid hha
  go_enter Try.func8, Try.ntmps8
  go_wp2
  refine at_world (fun W1 hW => ?_)
  have hbW : Below w.heap.size w W1 := by rw [hW]; go_grown
  have hX : Blk W1 w.heap.size 25 #[.string r.k, .int .i64 r.cl, .int .i64 r.sq, .slice p1 r.n c1, .bool r.gone, .slice p2 r.vs.length c2, .slice p3 r.ss.length c3] := by rw [hW]; exact Blk.new _ _ _
  clear hW
  obtain ⟨XB, hXB⟩ : ∃ XB, XB = w.heap.size := ⟨_, rfl⟩
  rw [← hXB] at hX ⊢
  clear hXB
  replace hkn := Lib.hid fun w1 (hb : Below W1.heap.size W1 w1) => hkn.out w1 (hbW.trans (hb.mono hbW.size))
  replace hha := Lib.hid fun w1 (hb : Below W1.heap.size W1 w1) => hha.out w1 (hbW.trans (hb.mono hbW.size))
  refine wp_region_grow5 11 (fun k => (Nat.ble 4 k && Nat.ble k 14)) _ [] (fun a b => Below a.heap.size a b) (Below.refl _ _).drew below_tr (fun j x' q => (gyRecL r p1 c1 p2 c2 p3 c3 gb HH).getD j (fun _ _ => True) x' q) (fun _ => false) (fun f => #[.pointer (some ⟨gb, 0, none⟩), _, _, .pointer (some ⟨XB, 0, none⟩), f 4, f 5, f 6, f 7, f 8, f 9, f 10, f 11, f 12, f 13, f 14]) (fun f => rfl) (by kernel_rfl) (by kernel_rfl) (by kernel_rfl) (by kernel_rfl) (by kernel_rfl) (gyRecS _ _ _ _ _ _ _ _ _) (fun _ _ _ h => by cases h) ?_ ?_
  · refine steps5_cons ?_ ?_
    · intro f w1 hb hd Q hK
      clear hd
      have hK := Lib.hid hK
      go_wp2
      exact hK.out _ _ rfl (Below.refl _ _) (fun h => by cases h)
    refine steps5_cons ?_ ?_
    · intro f w1 hb hd Q hK
      have e5 : f 5 = .pointer (some ⟨gb, 0, none⟩) := hd.1 rfl
      clear hd
      simp only [e5] at hK
      have hK := Lib.hid hK
      go_wp2_with fail
      refine (hkn.out _ hb).mono ?_
      rintro e w2 ⟨rfl, hb2⟩
      go_wp2
      exact hK.out _ _ rfl hb2 (fun h => by cases h)
    refine steps5_cons ?_ ?_
    · intro f w1 hb hd Q hK
      have e6 : f 6 = .bool true := hd.1 rfl
      clear hd
      simp only [e6] at hK
      have hK := Lib.hid hK
      go_wp2
      exact hK.out _ _ rfl (Below.refl _ _) (fun h => by cases h)
    refine steps5_cons ?_ ?_
    · intro f w1 hb hd Q hK
      have e7 : f 7 = .bool true := hd.1 rfl
      clear hd
      simp only [e7] at hK
      have hK := Lib.hid hK
      go_wp2
      exact hK.out _ _ rfl (Below.refl _ _) (fun h => by cases h)
    refine steps5_cons ?_ ?_
    · intro f w1 hb hd Q hK
      have e8 : f 8 = .pointer (some ⟨gb, 0, none⟩) := hd.1 rfl
      have e7 : f 7 = .bool true := hd.2.1 rfl
      clear hd
      simp only [e8, e7] at hK
      have hK := Lib.hid hK
      go_wp2
      exact hK.out _ _ rfl (Below.refl _ _) (fun h => by cases h)
    refine steps5_cons ?_ ?_
    · intro f w1 hb hd Q hK
      have e9 : f 9 = .pointer (some ⟨gb, 0, none⟩) := hd.1 rfl
      have e7 : f 7 = .bool true := hd.2.1 rfl
      clear hd
      simp only [e9, e7] at hK
      have hK := Lib.hid hK
      go_wp2
      exact hK.out _ _ rfl (Below.refl _ _) (fun h => by cases h)
    refine steps5_cons ?_ ?_
    · intro f w1 hb hd Q hK
      have e10 : f 10 = .pointer (some ⟨gb, 0, none⟩) := hd.1 rfl
      have e7 : f 7 = .bool true := hd.2.1 rfl
      clear hd
      simp only [e10, e7] at hK
      have hK := Lib.hid hK
      go_wp2
      exact hK.out _ _ rfl (Below.refl _ _) (fun h => by cases h)
    refine steps5_cons ?_ ?_
    · intro f w1 hb hd Q hK
      have e7 : f 7 = .bool true := hd.1 rfl
      clear hd
      simp only [e7] at hK
      have hK := Lib.hid hK
      obtain ⟨c0, c1, c2, c3, c4, c5, c6⟩ := blk7 (hX.below hb)
      go_wp2
      exact hK.out _ _ rfl (Below.refl _ _) (fun h => by cases h)
    refine steps5_cons ?_ ?_
    · intro f w1 hb hd Q hK
      have e11 : f 11 = .pointer (some ⟨gb, 0, none⟩) := hd.1 rfl
      have e12 : f 12 = .agg #[.string r.k, .int .i64 r.cl, .int .i64 r.sq, .slice p1 r.n c1, .bool r.gone, .slice p2 r.vs.length c2, .slice p3 r.ss.length c3] := hd.2.1 rfl
      have e7 : f 7 = .bool true := hd.2.2.1 rfl
      clear hd
      simp only [e11, e12, e7] at hK
      have hK := Lib.hid hK
      go_wp2_with fail
      refine (hha.out _ hb).mono ?_
      rintro e w2 ⟨rfl, hb2⟩
      go_wp2
      exact hK.out _ _ rfl hb2 (fun h => by cases h)
    refine steps5_cons ?_ ?_
    · intro f w1 hb hd Q hK
      have e7 : f 7 = .bool true := hd.1 rfl
      have e13 : f 13 = .bool HH := hd.2.1 rfl
      clear hd
      simp only [e7, e13] at hK
      have hK := Lib.hid hK
      go_wp2
      exact hK.out _ _ rfl (Below.refl _ _) (fun h => by cases h)
    refine steps5_cons ?_ ?_
    · intro f w1 hb hd Q hK
      have e14 : f 14 = .bool HH := hd.1 rfl
      clear hd
      simp only [e14] at hK
      have hK := Lib.hid hK
      go_wp2
      exact hK.out _ _ rfl (Below.refl _ _) (fun h => by cases h)
    trivial
  · intro f w1 hb hf hne
    refine wpList_nil ?_
    have d4 : f 4 = .bool HH := hf 10 _ _ (by decide) rfl rfl
    simp only [d4]
    clear hf hne d4
    have hb2 := hbW.trans (hb.mono hbW.size)
    go_wp2
    go_returns
    exact ⟨rfl, hb2⟩
def gnRecL (gv : Value) : List (Value → World → Prop) := [
  Eq1 (gv),
  Eq1 (.bool false),
  Eq1 (.bool false),
  Eq1 (undef),
  Eq1 (undef),
  Eq1 (undef),
  Eq1 (undef),
  Eq1 (undef),
  Eq1 (undef),
  Eq1 (.bool false),
  Eq1 (.bool false)]
theorem gnRecS (gv : Value) : ∀ j x' q q', (gnRecL gv).getD j (fun _ _ => True) x' q → Below q.heap.size q q' → (gnRecL gv).getD j (fun _ _ => True) x' q' := by
  refine sta_all _ ?_
  simp only [gnRecL, List.mem_cons, forall_eq_or_imp, List.not_mem_nil, false_implies, implies_true, and_true]
  exact ⟨sta_eq _, sta_eq _, sta_eq _, sta_eq _, sta_eq _, sta_eq _, sta_eq _, sta_eq _, sta_eq _, sta_eq _, sta_eq _⟩
set_option maxRecDepth 20000 in
set_option maxHeartbeats 4000000 in
theorem gHas_no (gv : Value) (x0 x1 x2 x3 x4 x5 x6 : Value) (w : World) (hg : GNone w gv) :
    Calls Try.prog 8 #[gv, .agg #[x0, x1, x2, x3, x4, x5, x6]] w fun e w' => e = .returned (.bool false) ∧ Below w.heap.size w w' := by
  have hkn := Lib.hid fun w1 (hb : Below w.heap.size w w1) => gknown_no gv w1 (hg.below hb)
  clear hg
  go_enter Try.func8, Try.ntmps8
  go_wp2
  refine at_world (fun W1 hW => ?_)
  have hbW : Below w.heap.size w W1 := by rw [hW]; go_grown
  have hX : Blk W1 w.heap.size 25 #[x0, x1, x2, x3, x4, x5, x6] := by rw [hW]; exact Blk.new _ _ _
  clear hW
  obtain ⟨XB, hXB⟩ : ∃ XB, XB = w.heap.size := ⟨_, rfl⟩
  rw [← hXB] at hX ⊢
  clear hXB
  replace hkn := Lib.hid fun w1 (hb : Below W1.heap.size W1 w1) => hkn.out w1 (hbW.trans (hb.mono hbW.size))

  refine wp_region_grow5 11 (fun k => (Nat.ble 4 k && Nat.ble k 14)) _ [] (fun a b => Below a.heap.size a b) (Below.refl _ _).drew below_tr (fun j x' q => (gnRecL gv).getD j (fun _ _ => True) x' q) (fun _ => false) (fun f => #[gv, _, _, .pointer (some ⟨XB, 0, none⟩), f 4, f 5, f 6, f 7, f 8, f 9, f 10, f 11, f 12, f 13, f 14]) (fun f => rfl) (by kernel_rfl) (by kernel_rfl) (by kernel_rfl) (by kernel_rfl) (by kernel_rfl) (gnRecS _) (fun _ _ _ h => by cases h) ?_ ?_
  · refine steps5_cons ?_ ?_
    · intro f w1 hb hd Q hK
      clear hd
      have hK := Lib.hid hK
      go_wp2
      exact hK.out _ _ rfl (Below.refl _ _) (fun h => by cases h)
    refine steps5_cons ?_ ?_
    · intro f w1 hb hd Q hK
      have e5 : f 5 = gv := hd.1 rfl
      clear hd
      simp only [e5] at hK
      have hK := Lib.hid hK
      go_wp2_with fail
      refine (hkn.out _ hb).mono ?_
      rintro e w2 ⟨rfl, hb2⟩
      go_wp2
      exact hK.out _ _ rfl hb2 (fun h => by cases h)
    refine steps5_cons ?_ ?_
    · intro f w1 hb hd Q hK
      have e6 : f 6 = .bool false := hd.1 rfl
      clear hd
      simp only [e6] at hK
      have hK := Lib.hid hK
      go_wp2
      exact hK.out _ _ rfl (Below.refl _ _) (fun h => by cases h)
    refine steps5_cons ?_ ?_
    · intro f w1 hb hd Q hK
      have e7 : f 7 = .bool false := hd.1 rfl
      clear hd
      simp only [e7] at hK
      have hK := Lib.hid hK
      go_wp2
      exact hK.out _ _ rfl (Below.refl _ _) (fun h => by cases h)
    refine steps5_cons ?_ ?_
    · intro f w1 hb hd Q hK
      have e8 : f 8 = undef := hd.1 rfl
      have e7 : f 7 = .bool false := hd.2.1 rfl
      clear hd
      simp only [e8, e7] at hK
      have hK := Lib.hid hK
      go_wp2
      exact hK.out _ _ rfl (Below.refl _ _) (fun h => by cases h)
    refine steps5_cons ?_ ?_
    · intro f w1 hb hd Q hK
      have e9 : f 9 = undef := hd.1 rfl
      have e7 : f 7 = .bool false := hd.2.1 rfl
      clear hd
      simp only [e9, e7] at hK
      have hK := Lib.hid hK
      go_wp2
      exact hK.out _ _ rfl (Below.refl _ _) (fun h => by cases h)
    refine steps5_cons ?_ ?_
    · intro f w1 hb hd Q hK
      have e10 : f 10 = undef := hd.1 rfl
      have e7 : f 7 = .bool false := hd.2.1 rfl
      clear hd
      simp only [e10, e7] at hK
      have hK := Lib.hid hK
      go_wp2
      exact hK.out _ _ rfl (Below.refl _ _) (fun h => by cases h)
    refine steps5_cons ?_ ?_
    · intro f w1 hb hd Q hK
      have e7 : f 7 = .bool false := hd.1 rfl
      clear hd
      simp only [e7] at hK
      have hK := Lib.hid hK
      go_wp2
      exact hK.out _ _ rfl (Below.refl _ _) (fun h => by cases h)
    refine steps5_cons ?_ ?_
    · intro f w1 hb hd Q hK
      have e11 : f 11 = undef := hd.1 rfl
      have e12 : f 12 = undef := hd.2.1 rfl
      have e7 : f 7 = .bool false := hd.2.2.1 rfl
      clear hd
      simp only [e11, e12, e7] at hK
      have hK := Lib.hid hK
      go_wp2
      exact hK.out _ _ rfl (Below.refl _ _) (fun h => by cases h)
    refine steps5_cons ?_ ?_
    · intro f w1 hb hd Q hK
      have e7 : f 7 = .bool false := hd.1 rfl
      have e13 : f 13 = undef := hd.2.1 rfl
      clear hd
      simp only [e7, e13] at hK
      have hK := Lib.hid hK
      go_wp2
      exact hK.out _ _ rfl (Below.refl _ _) (fun h => by cases h)
    refine steps5_cons ?_ ?_
    · intro f w1 hb hd Q hK
      have e14 : f 14 = .bool false := hd.1 rfl
      clear hd
      simp only [e14] at hK
      have hK := Lib.hid hK
      go_wp2
      exact hK.out _ _ rfl (Below.refl _ _) (fun h => by cases h)
    trivial
  · intro f w1 hb hf hne
    refine wpList_nil ?_
    have d4 : f 4 = .bool false := hf 10 _ _ (by decide) rfl rfl
    simp only [d4]
    clear hf hne d4
    have hb2 := hbW.trans (hb.mono hbW.size)
    go_wp2
    go_returns
    exact ⟨rfl, hb2⟩
set_option maxHeartbeats 4000000 in
theorem gWrote_c (B gb : Nat) (S : List Nat) (L : List RecD) (M : List RootD) (p : Option Addr) (n ca : Nat) (rs : List RecD) (hn : n = rs.length) (hok : ∀ r, r ∈ rs → r.ok) (hlen : L.length + rs.length ≤ 100000) (w : World) (hB : B ≤ w.heap.size) (hGS : GS B w S gb L M) (hR : RecsF S w p rs) :
    Calls Try.prog 6 #[.pointer (some ⟨gb, 0, none⟩), .slice p n ca] w fun e w' => e = .returned (.tuple #[]) ∧ ∃ S', GS B w' S' gb (putsT recT L rs) M ∧ Ext S w S' w' := by
  have hkn := Lib.hid hGS.known
  have hpu := Lib.hid fun w1 (hb : Below w.heap.size w w1) => putRec_c B gb S L M p n ca rs hn hok hlen w1 (Nat.le_trans hB hb.size) (hGS.below hb) (hR.ext (fun v r h => h.ext (.below hb)) (.below hb))
  clear hGS hR hn hok hlen
  go_enter Try.func6, Try.ntmps6
  go_wp2_with fail
  refine hkn.out.mono ?_
  rintro e w1 ⟨rfl, hb⟩
  replace hpu := Lib.hid (hpu.out w1 hb)
  clear hkn
  go_wp2_with fail
  refine hpu.out.mono ?_
  rintro e w2 ⟨rfl, S2, h2, h3⟩
  have hfin := Lib.hid (show ∃ S', GS B w2 S' gb (putsT recT L rs) M ∧ Ext S w S' w2 from ⟨S2, h2, (Ext.below hb).trans h3⟩)
  clear h2 h3 hpu
  go_wp2
  go_returns
  exact ⟨rfl, hfin.out⟩
set_option maxHeartbeats 4000000 in
theorem gWrote_no (gv : Value) (p : Option Addr) (n ca : Nat) (w : World) (hg : GNone w gv) :
    Calls Try.prog 6 #[gv, .slice p n ca] w fun e w' => e = .returned (.tuple #[]) ∧ Below w.heap.size w w' := by
  have hkn := Lib.hid (gknown_no gv w hg)
  clear hg
  go_enter Try.func6, Try.ntmps6
  go_wp2_with fail
  refine hkn.out.mono ?_
  rintro e w1 ⟨rfl, hb⟩
  go_wp2
  go_returns
  exact ⟨rfl, hb⟩
set_option maxHeartbeats 4000000 in
theorem gRecords_c (B gb : Nat) (S : List Nat) (L : List RecD) (M : List RootD) (hlen : L.length ≤ 100000) (w : World) (hGS : GS B w S gb L M) :
    Calls Try.prog 10 #[.pointer (some ⟨gb, 0, none⟩)] w fun e w' => ∃ v, e = .returned v ∧ AllO RecO 25 7 w.heap.size w' v L ∧ Below w.heap.size w w' := by
  have hkn := Lib.hid hGS.known
  have hal := Lib.hid fun w1 (hb : Below w.heap.size w w1) => allRec_c B gb S L M hlen w1 (hGS.below hb)
  clear hGS hlen
  go_enter Try.func10, Try.ntmps10
  go_wp2_with fail
  refine hkn.out.mono ?_
  rintro e w1 ⟨rfl, hb⟩
  replace hal := Lib.hid (hal.out w1 hb)
  clear hkn
  go_wp2_with fail
  refine hal.out.mono ?_
  rintro e w2 ⟨v, rfl, h2, hb2⟩
  have hfin := Lib.hid (show AllO RecO 25 7 w.heap.size w2 v L ∧ Below w.heap.size w w2 from ⟨h2.mono (rec_mono _ _) hb.size, hb.trans (hb2.mono hb.size)⟩)
  clear h2 hal
  go_wp2
  go_returns
  exact ⟨_, rfl, hfin.out⟩
set_option maxHeartbeats 4000000 in
theorem gRecords_no (gv : Value) (w : World) (hg : GNone w gv) :
    Calls Try.prog 10 #[gv] w fun e w' => e = .returned (.slice none 0 0) ∧ Below w.heap.size w w' := by
  have hkn := Lib.hid (gknown_no gv w hg)
  clear hg
  go_enter Try.func10, Try.ntmps10
  go_wp2_with fail
  refine hkn.out.mono ?_
  rintro e w1 ⟨rfl, hb⟩
  go_wp2
  go_returns
  exact ⟨rfl, hb⟩
theorem hasRoot_c (B gb : Nat) (S : List Nat) (L : List RecD) (M : List RootD) (r : RootD) (v : Value) (hok : r.ok) (w : World) (hGS : GS B w S gb L M) (hv : RootF [] w v r) :
    Calls Try.prog 34 #[.pointer (some ⟨gb, 4, none⟩), v] w fun e w' => e = .returned (.bool (hasT rootT M (rootT r))) ∧ Below w.heap.size w w' := by
  obtain ⟨l1, m1, l2, m2, g1, -, -, -, g5, g6⟩ := hGS
  obtain ⟨vs, bls, D, -, -, -, -, a5, -, a7, -⟩ := g6
  obtain ⟨p1, c1, p2, c2, rfl, h1, h2⟩ := hv
  have := hasRoot_d gb l1 m1 l2 m2 r p1 c1 p2 c2 hok w g1 h1.b _ D a5
  rw [a7 _ (br_root hok)] at this
  exact this
def gyRootL (r : RootD) (p1 : Option Addr) (c1 : Nat) (p2 : Option Addr) (c2 : Nat) (gb : Nat) (HH : Bool) : List (Value → World → Prop) := [
  Eq1 (.pointer (some ⟨gb, 0, none⟩)),
  Eq1 (.bool true),
  Eq1 (.bool true),
  Eq1 (.pointer (some ⟨gb, 0, none⟩)),
  Eq1 (.pointer (some ⟨gb, 0, none⟩)),
  Eq1 (.pointer (some ⟨gb, 4, none⟩)),
  Eq1 (.pointer (some ⟨gb, 4, none⟩)),
  Eq1 (.agg #[.int .i64 r.r, .int .i64 r.h, .int .i64 r.q, .slice p1 r.sum.length c1, .slice p2 r.sig.length c2]),
  Eq1 (.bool HH),
  Eq1 (.bool HH),
  Eq1 (.bool HH)]
theorem gyRootS (r : RootD) (p1 : Option Addr) (c1 : Nat) (p2 : Option Addr) (c2 : Nat) (gb : Nat) (HH : Bool) : ∀ j x' q q', (gyRootL r p1 c1 p2 c2 gb HH).getD j (fun _ _ => True) x' q → Below q.heap.size q q' → (gyRootL r p1 c1 p2 c2 gb HH).getD j (fun _ _ => True) x' q' := by
  refine sta_all _ ?_
  simp only [gyRootL, List.mem_cons, forall_eq_or_imp, List.not_mem_nil, false_implies, implies_true, and_true]
  exact ⟨sta_eq _, sta_eq _, sta_eq _, sta_eq _, sta_eq _, sta_eq _, sta_eq _, sta_eq _, sta_eq _, sta_eq _, sta_eq _⟩
set_option maxRecDepth 20000 in
set_option maxHeartbeats 4000000 in
theorem gHasRoot_c (B gb : Nat) (S : List Nat) (L : List RecD) (M : List RootD) (r : RootD) (v : Value) (hok : r.ok) (w : World) (hGS : GS B w S gb L M) (hv : RootF [] w v r) :
    Calls Try.prog 9 #[.pointer (some ⟨gb, 0, none⟩), v] w fun e w' => e = .returned (.bool (hasT rootT M (rootT r))) ∧ Below w.heap.size w w' := by
  have hkn := fun w1 (hb : Below w.heap.size w w1) => (hGS.below hb).known
  have hha := fun w1 (hb : Below w.heap.size w w1) => hasRoot_c B gb S L M r v hok w1 (hGS.below hb) (hv.ext (.below hb))
  obtain ⟨HH, hHH⟩ : ∃ HH, HH = hasT rootT M (rootT r) := ⟨_, rfl⟩
  rw [← hHH] at hha ⊢
  clear hHH hGS hok
  obtain ⟨p1, c1, p2, c2, rfl, h1, h2⟩ := hv
  clear h1 h2
  unfold rootV at hha ⊢
  replace hkn := Lib.hid hkn
  replace hha := Lib.hid hha
  go_enter Try.func9, Try.ntmps9
  go_wp2
  refine at_world (fun W1 hW => ?_)
  have hbW : Below w.heap.size w W1 := by rw [hW]; go_grown
  have hX : Blk W1 w.heap.size 27 #[.int .i64 r.r, .int .i64 r.h, .int .i64 r.q, .slice p1 r.sum.length c1, .slice p2 r.sig.length c2] := by rw [hW]; exact Blk.new _ _ _
  clear hW
  obtain ⟨XB, hXB⟩ : ∃ XB, XB = w.heap.size := ⟨_, rfl⟩
  rw [← hXB] at hX ⊢
  clear hXB
  replace hkn := Lib.hid fun w1 (hb : Below W1.heap.size W1 w1) => hkn.out w1 (hbW.trans (hb.mono hbW.size))
  replace hha := Lib.hid fun w1 (hb : Below W1.heap.size W1 w1) => hha.out w1 (hbW.trans (hb.mono hbW.size))
  refine wp_region_grow5 11 (fun k => (Nat.ble 4 k && Nat.ble k 14)) _ [] (fun a b => Below a.heap.size a b) (Below.refl _ _).drew below_tr (fun j x' q => (gyRootL r p1 c1 p2 c2 gb HH).getD j (fun _ _ => True) x' q) (fun _ => false) (fun f => #[.pointer (some ⟨gb, 0, none⟩), _, _, .pointer (some ⟨XB, 0, none⟩), f 4, f 5, f 6, f 7, f 8, f 9, f 10, f 11, f 12, f 13, f 14]) (fun f => rfl) (by kernel_rfl) (by kernel_rfl) (by kernel_rfl) (by kernel_rfl) (by kernel_rfl) (gyRootS _ _ _ _ _ _ _) (fun _ _ _ h => by cases h) ?_ ?_
  · refine steps5_cons ?_ ?_
    · intro f w1 hb hd Q hK
      clear hd
      have hK := Lib.hid hK
      go_wp2
      exact hK.out _ _ rfl (Below.refl _ _) (fun h => by cases h)
    refine steps5_cons ?_ ?_
    · intro f w1 hb hd Q hK
      have e5 : f 5 = .pointer (some ⟨gb, 0, none⟩) := hd.1 rfl
      clear hd
      simp only [e5] at hK
      have hK := Lib.hid hK
      go_wp2_with fail
      refine (hkn.out _ hb).mono ?_
      rintro e w2 ⟨rfl, hb2⟩
      go_wp2
      exact hK.out _ _ rfl hb2 (fun h => by cases h)
    refine steps5_cons ?_ ?_
    · intro f w1 hb hd Q hK
      have e6 : f 6 = .bool true := hd.1 rfl
      clear hd
      simp only [e6] at hK
      have hK := Lib.hid hK
      go_wp2
      exact hK.out _ _ rfl (Below.refl _ _) (fun h => by cases h)
    refine steps5_cons ?_ ?_
    · intro f w1 hb hd Q hK
      have e7 : f 7 = .bool true := hd.1 rfl
      clear hd
      simp only [e7] at hK
      have hK := Lib.hid hK
      go_wp2
      exact hK.out _ _ rfl (Below.refl _ _) (fun h => by cases h)
    refine steps5_cons ?_ ?_
    · intro f w1 hb hd Q hK
      have e8 : f 8 = .pointer (some ⟨gb, 0, none⟩) := hd.1 rfl
      have e7 : f 7 = .bool true := hd.2.1 rfl
      clear hd
      simp only [e8, e7] at hK
      have hK := Lib.hid hK
      go_wp2
      exact hK.out _ _ rfl (Below.refl _ _) (fun h => by cases h)
    refine steps5_cons ?_ ?_
    · intro f w1 hb hd Q hK
      have e9 : f 9 = .pointer (some ⟨gb, 0, none⟩) := hd.1 rfl
      have e7 : f 7 = .bool true := hd.2.1 rfl
      clear hd
      simp only [e9, e7] at hK
      have hK := Lib.hid hK
      go_wp2
      exact hK.out _ _ rfl (Below.refl _ _) (fun h => by cases h)
    refine steps5_cons ?_ ?_
    · intro f w1 hb hd Q hK
      have e10 : f 10 = .pointer (some ⟨gb, 4, none⟩) := hd.1 rfl
      have e7 : f 7 = .bool true := hd.2.1 rfl
      clear hd
      simp only [e10, e7] at hK
      have hK := Lib.hid hK
      go_wp2
      exact hK.out _ _ rfl (Below.refl _ _) (fun h => by cases h)
    refine steps5_cons ?_ ?_
    · intro f w1 hb hd Q hK
      have e7 : f 7 = .bool true := hd.1 rfl
      clear hd
      simp only [e7] at hK
      have hK := Lib.hid hK
      obtain ⟨c0, c1, c2, c3, c4⟩ := blk5v (hX.below hb)
      go_wp2
      exact hK.out _ _ rfl (Below.refl _ _) (fun h => by cases h)
    refine steps5_cons ?_ ?_
    · intro f w1 hb hd Q hK
      have e11 : f 11 = .pointer (some ⟨gb, 4, none⟩) := hd.1 rfl
      have e12 : f 12 = .agg #[.int .i64 r.r, .int .i64 r.h, .int .i64 r.q, .slice p1 r.sum.length c1, .slice p2 r.sig.length c2] := hd.2.1 rfl
      have e7 : f 7 = .bool true := hd.2.2.1 rfl
      clear hd
      simp only [e11, e12, e7] at hK
      have hK := Lib.hid hK
      go_wp2_with fail
      refine (hha.out _ hb).mono ?_
      rintro e w2 ⟨rfl, hb2⟩
      go_wp2
      exact hK.out _ _ rfl hb2 (fun h => by cases h)
    refine steps5_cons ?_ ?_
    · intro f w1 hb hd Q hK
      have e7 : f 7 = .bool true := hd.1 rfl
      have e13 : f 13 = .bool HH := hd.2.1 rfl
      clear hd
      simp only [e7, e13] at hK
      have hK := Lib.hid hK
      go_wp2
      exact hK.out _ _ rfl (Below.refl _ _) (fun h => by cases h)
    refine steps5_cons ?_ ?_
    · intro f w1 hb hd Q hK
      have e14 : f 14 = .bool HH := hd.1 rfl
      clear hd
      simp only [e14] at hK
      have hK := Lib.hid hK
      go_wp2
      exact hK.out _ _ rfl (Below.refl _ _) (fun h => by cases h)
    trivial
  · intro f w1 hb hf hne
    refine wpList_nil ?_
    have d4 : f 4 = .bool HH := hf 10 _ _ (by decide) rfl rfl
    simp only [d4]
    clear hf hne d4
    have hb2 := hbW.trans (hb.mono hbW.size)
    go_wp2
    go_returns
    exact ⟨rfl, hb2⟩
def gnRootL (gv : Value) : List (Value → World → Prop) := [
  Eq1 (gv),
  Eq1 (.bool false),
  Eq1 (.bool false),
  Eq1 (undef),
  Eq1 (undef),
  Eq1 (undef),
  Eq1 (undef),
  Eq1 (undef),
  Eq1 (undef),
  Eq1 (.bool false),
  Eq1 (.bool false)]
theorem gnRootS (gv : Value) : ∀ j x' q q', (gnRootL gv).getD j (fun _ _ => True) x' q → Below q.heap.size q q' → (gnRootL gv).getD j (fun _ _ => True) x' q' := by
  refine sta_all _ ?_
  simp only [gnRootL, List.mem_cons, forall_eq_or_imp, List.not_mem_nil, false_implies, implies_true, and_true]
  exact ⟨sta_eq _, sta_eq _, sta_eq _, sta_eq _, sta_eq _, sta_eq _, sta_eq _, sta_eq _, sta_eq _, sta_eq _, sta_eq _⟩
set_option maxRecDepth 20000 in
set_option maxHeartbeats 4000000 in
theorem gHasRoot_no (gv : Value) (x0 x1 x2 x3 x4 : Value) (w : World) (hg : GNone w gv) :
    Calls Try.prog 9 #[gv, .agg #[x0, x1, x2, x3, x4]] w fun e w' => e = .returned (.bool false) ∧ Below w.heap.size w w' := by
  have hkn := Lib.hid fun w1 (hb : Below w.heap.size w w1) => gknown_no gv w1 (hg.below hb)
  clear hg
  go_enter Try.func9, Try.ntmps9
  go_wp2
  refine at_world (fun W1 hW => ?_)
  have hbW : Below w.heap.size w W1 := by rw [hW]; go_grown
  have hX : Blk W1 w.heap.size 27 #[x0, x1, x2, x3, x4] := by rw [hW]; exact Blk.new _ _ _
  clear hW
  obtain ⟨XB, hXB⟩ : ∃ XB, XB = w.heap.size := ⟨_, rfl⟩
  rw [← hXB] at hX ⊢
  clear hXB
  replace hkn := Lib.hid fun w1 (hb : Below W1.heap.size W1 w1) => hkn.out w1 (hbW.trans (hb.mono hbW.size))

  refine wp_region_grow5 11 (fun k => (Nat.ble 4 k && Nat.ble k 14)) _ [] (fun a b => Below a.heap.size a b) (Below.refl _ _).drew below_tr (fun j x' q => (gnRootL gv).getD j (fun _ _ => True) x' q) (fun _ => false) (fun f => #[gv, _, _, .pointer (some ⟨XB, 0, none⟩), f 4, f 5, f 6, f 7, f 8, f 9, f 10, f 11, f 12, f 13, f 14]) (fun f => rfl) (by kernel_rfl) (by kernel_rfl) (by kernel_rfl) (by kernel_rfl) (by kernel_rfl) (gnRootS _) (fun _ _ _ h => by cases h) ?_ ?_
  · refine steps5_cons ?_ ?_
    · intro f w1 hb hd Q hK
      clear hd
      have hK := Lib.hid hK
      go_wp2
      exact hK.out _ _ rfl (Below.refl _ _) (fun h => by cases h)
    refine steps5_cons ?_ ?_
    · intro f w1 hb hd Q hK
      have e5 : f 5 = gv := hd.1 rfl
      clear hd
      simp only [e5] at hK
      have hK := Lib.hid hK
      go_wp2_with fail
      refine (hkn.out _ hb).mono ?_
      rintro e w2 ⟨rfl, hb2⟩
      go_wp2
      exact hK.out _ _ rfl hb2 (fun h => by cases h)
    refine steps5_cons ?_ ?_
    · intro f w1 hb hd Q hK
      have e6 : f 6 = .bool false := hd.1 rfl
      clear hd
      simp only [e6] at hK
      have hK := Lib.hid hK
      go_wp2
      exact hK.out _ _ rfl (Below.refl _ _) (fun h => by cases h)
    refine steps5_cons ?_ ?_
    · intro f w1 hb hd Q hK
      have e7 : f 7 = .bool false := hd.1 rfl
      clear hd
      simp only [e7] at hK
      have hK := Lib.hid hK
      go_wp2
      exact hK.out _ _ rfl (Below.refl _ _) (fun h => by cases h)
    refine steps5_cons ?_ ?_
    · intro f w1 hb hd Q hK
      have e8 : f 8 = undef := hd.1 rfl
      have e7 : f 7 = .bool false := hd.2.1 rfl
      clear hd
      simp only [e8, e7] at hK
      have hK := Lib.hid hK
      go_wp2
      exact hK.out _ _ rfl (Below.refl _ _) (fun h => by cases h)
    refine steps5_cons ?_ ?_
    · intro f w1 hb hd Q hK
      have e9 : f 9 = undef := hd.1 rfl
      have e7 : f 7 = .bool false := hd.2.1 rfl
      clear hd
      simp only [e9, e7] at hK
      have hK := Lib.hid hK
      go_wp2
      exact hK.out _ _ rfl (Below.refl _ _) (fun h => by cases h)
    refine steps5_cons ?_ ?_
    · intro f w1 hb hd Q hK
      have e10 : f 10 = undef := hd.1 rfl
      have e7 : f 7 = .bool false := hd.2.1 rfl
      clear hd
      simp only [e10, e7] at hK
      have hK := Lib.hid hK
      go_wp2
      exact hK.out _ _ rfl (Below.refl _ _) (fun h => by cases h)
    refine steps5_cons ?_ ?_
    · intro f w1 hb hd Q hK
      have e7 : f 7 = .bool false := hd.1 rfl
      clear hd
      simp only [e7] at hK
      have hK := Lib.hid hK
      go_wp2
      exact hK.out _ _ rfl (Below.refl _ _) (fun h => by cases h)
    refine steps5_cons ?_ ?_
    · intro f w1 hb hd Q hK
      have e11 : f 11 = undef := hd.1 rfl
      have e12 : f 12 = undef := hd.2.1 rfl
      have e7 : f 7 = .bool false := hd.2.2.1 rfl
      clear hd
      simp only [e11, e12, e7] at hK
      have hK := Lib.hid hK
      go_wp2
      exact hK.out _ _ rfl (Below.refl _ _) (fun h => by cases h)
    refine steps5_cons ?_ ?_
    · intro f w1 hb hd Q hK
      have e7 : f 7 = .bool false := hd.1 rfl
      have e13 : f 13 = undef := hd.2.1 rfl
      clear hd
      simp only [e7, e13] at hK
      have hK := Lib.hid hK
      go_wp2
      exact hK.out _ _ rfl (Below.refl _ _) (fun h => by cases h)
    refine steps5_cons ?_ ?_
    · intro f w1 hb hd Q hK
      have e14 : f 14 = .bool false := hd.1 rfl
      clear hd
      simp only [e14] at hK
      have hK := Lib.hid hK
      go_wp2
      exact hK.out _ _ rfl (Below.refl _ _) (fun h => by cases h)
    trivial
  · intro f w1 hb hf hne
    refine wpList_nil ?_
    have d4 : f 4 = .bool false := hf 10 _ _ (by decide) rfl rfl
    simp only [d4]
    clear hf hne d4
    have hb2 := hbW.trans (hb.mono hbW.size)
    go_wp2
    go_returns
    exact ⟨rfl, hb2⟩
set_option maxHeartbeats 4000000 in
theorem gIssued_c (B gb : Nat) (S : List Nat) (L : List RecD) (M : List RootD) (p : Option Addr) (n ca : Nat) (rs : List RootD) (hn : n = rs.length) (hok : ∀ r, r ∈ rs → r.ok) (hlen : M.length + rs.length ≤ 100000) (w : World) (hB : B ≤ w.heap.size) (hGS : GS B w S gb L M) (hR : RootsF S w p rs) :
    Calls Try.prog 7 #[.pointer (some ⟨gb, 0, none⟩), .slice p n ca] w fun e w' => e = .returned (.tuple #[]) ∧ ∃ S', GS B w' S' gb L (putsT rootT M rs) ∧ Ext S w S' w' := by
  have hkn := Lib.hid hGS.known
  have hpu := Lib.hid fun w1 (hb : Below w.heap.size w w1) => putRoot_c B gb S L M p n ca rs hn hok hlen w1 (Nat.le_trans hB hb.size) (hGS.below hb) (hR.ext (fun v r h => h.ext (.below hb)) (.below hb))
  clear hGS hR hn hok hlen
  go_enter Try.func7, Try.ntmps7
  go_wp2_with fail
  refine hkn.out.mono ?_
  rintro e w1 ⟨rfl, hb⟩
  replace hpu := Lib.hid (hpu.out w1 hb)
  clear hkn
  go_wp2_with fail
  refine hpu.out.mono ?_
  rintro e w2 ⟨rfl, S2, h2, h3⟩
  have hfin := Lib.hid (show ∃ S', GS B w2 S' gb L (putsT rootT M rs) ∧ Ext S w S' w2 from ⟨S2, h2, (Ext.below hb).trans h3⟩)
  clear h2 h3 hpu
  go_wp2
  go_returns
  exact ⟨rfl, hfin.out⟩
set_option maxHeartbeats 4000000 in
theorem gIssued_no (gv : Value) (p : Option Addr) (n ca : Nat) (w : World) (hg : GNone w gv) :
    Calls Try.prog 7 #[gv, .slice p n ca] w fun e w' => e = .returned (.tuple #[]) ∧ Below w.heap.size w w' := by
  have hkn := Lib.hid (gknown_no gv w hg)
  clear hg
  go_enter Try.func7, Try.ntmps7
  go_wp2_with fail
  refine hkn.out.mono ?_
  rintro e w1 ⟨rfl, hb⟩
  go_wp2
  go_returns
  exact ⟨rfl, hb⟩
set_option maxHeartbeats 4000000 in
theorem gRoots_c (B gb : Nat) (S : List Nat) (L : List RecD) (M : List RootD) (hlen : M.length ≤ 100000) (w : World) (hGS : GS B w S gb L M) :
    Calls Try.prog 11 #[.pointer (some ⟨gb, 0, none⟩)] w fun e w' => ∃ v, e = .returned v ∧ AllO RootO 27 5 w.heap.size w' v M ∧ Below w.heap.size w w' := by
  have hkn := Lib.hid hGS.known
  have hal := Lib.hid fun w1 (hb : Below w.heap.size w w1) => allRoot_c B gb S L M hlen w1 (hGS.below hb)
  clear hGS hlen
  go_enter Try.func11, Try.ntmps11
  go_wp2_with fail
  refine hkn.out.mono ?_
  rintro e w1 ⟨rfl, hb⟩
  replace hal := Lib.hid (hal.out w1 hb)
  clear hkn
  go_wp2_with fail
  refine hal.out.mono ?_
  rintro e w2 ⟨v, rfl, h2, hb2⟩
  have hfin := Lib.hid (show AllO RootO 27 5 w.heap.size w2 v M ∧ Below w.heap.size w w2 from ⟨h2.mono (root_mono _ _) hb.size, hb.trans (hb2.mono hb.size)⟩)
  clear h2 hal
  go_wp2
  go_returns
  exact ⟨_, rfl, hfin.out⟩
set_option maxHeartbeats 4000000 in
theorem gRoots_no (gv : Value) (w : World) (hg : GNone w gv) :
    Calls Try.prog 11 #[gv] w fun e w' => e = .returned (.slice none 0 0) ∧ Below w.heap.size w w' := by
  have hkn := Lib.hid (gknown_no gv w hg)
  clear hg
  go_enter Try.func11, Try.ntmps11
  go_wp2_with fail
  refine hkn.out.mono ?_
  rintro e w1 ⟨rfl, hb⟩
  go_wp2
  go_returns
  exact ⟨rfl, hb⟩
end Go.Proofs.Ytdgaoljobpneaaa
