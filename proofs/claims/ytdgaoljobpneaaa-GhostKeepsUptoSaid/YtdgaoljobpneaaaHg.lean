/- The walks of a ghost's book: known, has. -/
import Derived.Test.YtdgaoljobpneaaaHf
namespace Go.Proofs.Ytdgaoljobpneaaa
open Go.RowKit
/-- a ghost's cells -/
def ghC (l1 : Value) (m1 : Nat) (l2 : Value) (m2 : Nat) : Array Value := #[l1, .map (some m1), .func (.func 16) #[] #[], .func (.func 42) #[] #[], l2, .map (some m2), .func (.func 19) #[] #[], .func (.func 44) #[] #[]]
theorem blk8 {w : World} {g : Nat} {t : TypeId} {x0 x1 x2 x3 x4 x5 x6 x7 : Value} (h : Blk w g t #[x0, x1, x2, x3, x4, x5, x6, x7]) : w.cell? ⟨g, 0, none⟩ = some x0 ∧ w.cell? ⟨g, 1, none⟩ = some x1 ∧ w.cell? ⟨g, 2, none⟩ = some x2 ∧ w.cell? ⟨g, 3, none⟩ = some x3 ∧ w.cell? ⟨g, 4, none⟩ = some x4 ∧ w.cell? ⟨g, 5, none⟩ = some x5 ∧ w.cell? ⟨g, 6, none⟩ = some x6 ∧ w.cell? ⟨g, 7, none⟩ = some x7 := ⟨h.cell 0, h.cell 1, h.cell 2, h.cell 3, h.cell 4, h.cell 5, h.cell 6, h.cell 7⟩
theorem zeroI (w : World) : (zeroValue 3).run Try.prog w = .ok (.int .i64 0) w := by kernel_rfl
theorem map_under : Try.prog.underlying 30 = some (.map 9 3) := by kernel_rfl
theorem neqmap (m : Nat) (w : World) : (binOp .neq 30 (.map (some m)) (.map none)).run Try.prog w = .ok (.bool true) w := by kernel_rfl
def Tup (h : Bool) : Value → World → Prop := fun v _ => ∃ c : Int, v = .tuple #[.int .i64 c, .bool h]
theorem sta_tup (h : Bool) : Sta (Tup h) := fun _ _ _ x _ => x
def AnyI : Value → World → Prop := fun v _ => ∃ c : Int, v = .int .i64 c
theorem sta_anyI : Sta AnyI := fun _ _ _ x _ => x
set_option maxHeartbeats 1000000 in
theorem knownRec_c (gb : Nat) (l1 : Value) (m1 : Nat) (l2 : Value) (m2 : Nat) (w : World) (hG : Blk w gb 45 (ghC l1 m1 l2 m2)) :
    Calls Try.prog 71 #[.pointer (some ⟨gb, 0, none⟩)] w fun e w' => e = .returned (.bool true) ∧ Below w.heap.size w w' := by
  have c1 := (blk8 hG).2.1
  have hnm := neqmap
  go_enter Try.func71, Try.ntmps71
  go_wp2
  go_returns
  exact ⟨rfl, Below.refl _ _⟩
def hsReL (k : ByteArray) (cl sq : Int) (n : Nat) (gone : Bool) (vs ss : List Int) (p1 : Option Addr) (c1 : Nat) (p2 : Option Addr) (c2 : Nat) (p3 : Option Addr) (c3 : Nat) (gb m1 : Nat) (X : List Int) (H : Bool) : List (Value → World → Prop) := [
  Eq1 (.pointer (some ⟨gb, 0, none⟩)),
  Eq1 (.pointer (some ⟨gb, 0, none⟩)),
  Eq1 (.pointer (some ⟨gb, 1, none⟩)),
  Eq1 (.map (some m1)),
  Eq1 (.pointer (some ⟨gb, 0, none⟩)),
  Eq1 (.pointer (some ⟨gb, 0, none⟩)),
  Eq1 (.pointer (some ⟨gb, 2, none⟩)),
  Eq1 (.func (.func 16) #[] #[]),
  Eq1 (.agg #[.string k, .int .i64 cl, .int .i64 sq, .slice p1 n c1, .bool gone, .slice p2 vs.length c2, .slice p3 ss.length c3]),
  SlL X,
  Eq1 (.string (strOfNums X)),
  Tup H,
  Tup H,
  AnyI,
  Eq1 (.bool H),
  AnyI,
  Eq1 (.bool H)]
theorem hsReS (k : ByteArray) (cl sq : Int) (n : Nat) (gone : Bool) (vs ss : List Int) (p1 : Option Addr) (c1 : Nat) (p2 : Option Addr) (c2 : Nat) (p3 : Option Addr) (c3 : Nat) (gb m1 : Nat) (X : List Int) (H : Bool) : ∀ j x' q q', (hsReL k cl sq n gone vs ss p1 c1 p2 c2 p3 c3 gb m1 X H).getD j (fun _ _ => True) x' q → Below q.heap.size q q' → (hsReL k cl sq n gone vs ss p1 c1 p2 c2 p3 c3 gb m1 X H).getD j (fun _ _ => True) x' q' := by
  refine sta_all _ ?_
  simp only [hsReL, List.mem_cons, forall_eq_or_imp, List.not_mem_nil, false_implies, implies_true, and_true]
  exact ⟨sta_eq _, sta_eq _, sta_eq _, sta_eq _, sta_eq _, sta_eq _, sta_eq _, sta_eq _, sta_eq _, sta_slL _, sta_eq _, sta_tup _, sta_tup _, sta_anyI, sta_eq _, sta_anyI, sta_eq _⟩
set_option maxRecDepth 20000 in
set_option maxHeartbeats 8000000 in
theorem hasRec_d (gb : Nat) (l1 : Value) (m1 : Nat) (l2 : Value) (m2 : Nat) (r : RecD) (p1 : Option Addr) (c1 : Nat) (p2 : Option Addr) (c2 : Nat) (p3 : Option Addr) (c3 : Nat) (hok : r.ok) (w : World) (hG : Blk w gb 45 (ghC l1 m1 l2 m2)) (h1 : DotsL w p1 r.n r.ds) (h2 : BytesL w p2 r.vs) (N : Nat) (D : DataW Unit) (hmap : w.ownsMap (H := Unit) Try.prog 9 (plainElem Try.prog 3) m1 N D) :
    Calls Try.prog 33 #[.pointer (some ⟨gb, 0, none⟩), recV r p1 c1 p2 c2 p3 c3] w fun e w' => e = .returned (.bool (Maps.has D (klit (recT r)))) ∧ Below w.heap.size w w' := by
  have hct := fun w1 (hb : Below w.heap.size w w1) => recText_c r.k r.cl r.sq p1 r.n c1 r.gone p2 r.vs.length c2 p3 r.ss.length c3 r.ds r.vs (by have := hok.1; omega) rfl w1 (h1.below hb) (h2.below hb)
  have hkey := klit_key (recT r) (rec_len r hok)
  change ∀ w1, Below w.heap.size w w1 → Calls _ _ _ w1 (PostL (recT r) w1) at hct
  obtain ⟨X, hX⟩ : ∃ X, X = recT r := ⟨_, rfl⟩
  rw [← hX] at hkey hct ⊢
  clear hX hok
  obtain ⟨k, cl, sq, n, ds, gone, vs, ss⟩ := r
  dsimp only at hct h1 h2
  unfold recV
  dsimp only
  obtain ⟨H, hH⟩ : ∃ H, H = Maps.has D (klit X) := ⟨_, rfl⟩
  rw [← hH]
  have hkn := fun w1 (hb : Below w.heap.size w w1) => knownRec_c gb l1 m1 l2 m2 w1 (hG.below hb)
  have hmm := fun w1 (hb : Below w.heap.size w w1) => hmap.kept (w' := w1) (row := none) ⟨hb.os, hb.tape, hb.output, hb.size, fun k hk _ => hb.block k hk⟩ (by simp)
  replace hct := Lib.hid hct
  replace hkey := Lib.hid hkey
  replace hH := Lib.hid hH
  replace hkn := Lib.hid hkn
  replace hmm := Lib.hid hmm
  clear h1 h2 hmap
  unfold ghC at hG
  go_enter Try.func33, Try.ntmps33
  go_wp2_with fail
  refine calls_at (fun W1 hW => ?_)
  have hb1 : Below w.heap.size w W1 := by rw [hW]; go_grown
  have hX : Blk W1 w.heap.size 25 #[.string k, .int .i64 cl, .int .i64 sq, .slice p1 n c1, .bool gone, .slice p2 vs.length c2, .slice p3 ss.length c3] := by rw [hW]; exact Blk.new _ _ _
  clear hW
  replace hG := hG.below hb1
  refine (hkn.out _ hb1).mono ?_
  rintro e W0 ⟨rfl, hb2⟩
  replace hG := hG.below hb2
  replace hX := hX.below hb2
  have hb0 := hb1.trans (hb2.mono hb1.size)
  clear hb1 hb2 hkn
  replace hct : Hid (∀ w1, Below W0.heap.size W0 w1 → _) := Lib.hid fun w1 hb => hct.out w1 (hb0.trans (hb.mono hb0.size))
  replace hmm : Hid (∀ w1, Below W0.heap.size W0 w1 → _) := Lib.hid fun w1 hb => hmm.out w1 (hb0.trans (hb.mono hb0.size))
  go_wp2_with fail
  refine wp_region_grow5 17 (fun k => (Nat.ble 5 k && Nat.ble k 6) || (Nat.ble 10 k && Nat.ble k 24)) _ [] (fun a b => Below a.heap.size a b) (Below.refl _ _).drew below_tr (fun j x' q => (hsReL k cl sq n gone vs ss p1 c1 p2 c2 p3 c3 gb m1 X H).getD j (fun _ _ => True) x' q) (fun _ => false) (fun f => #[.pointer (some ⟨gb, 0, none⟩), .agg #[.string k, .int .i64 cl, .int .i64 sq, .slice p1 n c1, .bool gone, .slice p2 vs.length c2, .slice p3 ss.length c3], undef, .pointer (some ⟨w.heap.size, 0, none⟩), .bool false, f 5, f 6, .pointer (some ⟨gb, 0, none⟩), .bool true, .bool false, f 10, f 11, f 12, f 13, f 14, f 15, f 16, f 17, f 18, f 19, f 20, f 21, f 22, f 23, f 24, undef]) (fun f => rfl) (by kernel_rfl) (by kernel_rfl) (by kernel_rfl) (by kernel_rfl) (by kernel_rfl) (hsReS _ _ _ _ _ _ _ _ _ _ _ _ _ _ _ _ _) (fun _ _ _ h => by cases h) ?_ ?_
  · refine steps5_cons ?_ ?_
    · intro f w1 hb hd Q hK
      clear hd
      have hK := Lib.hid hK
      go_wp2
      exact hK.out _ _ rfl (Below.refl _ _) (fun h => by cases h)
    refine steps5_cons ?_ ?_
    · intro f w1 hb hd Q hK
      have e11 : f 11 = .pointer (some ⟨gb, 0, none⟩) := hd.1 rfl
      clear hd
      simp only [e11] at hK
      have hK := Lib.hid hK
      go_wp2
      exact hK.out _ _ rfl (Below.refl _ _) (fun h => by cases h)
    refine steps5_cons ?_ ?_
    · intro f w1 hb hd Q hK
      have e12 : f 12 = .pointer (some ⟨gb, 0, none⟩) := hd.1 rfl
      clear hd
      simp only [e12] at hK
      have hK := Lib.hid hK
      go_wp2
      exact hK.out _ _ rfl (Below.refl _ _) (fun h => by cases h)
    refine steps5_cons ?_ ?_
    · intro f w1 hb hd Q hK
      have e13 : f 13 = .pointer (some ⟨gb, 1, none⟩) := hd.1 rfl
      clear hd
      simp only [e13] at hK
      have hK := Lib.hid hK
      have c0 := (hG.below hb).cell 1
      simp only [List.getElem?_toArray, List.getElem?_cons_zero, List.getElem?_cons_succ] at c0
      go_wp2
      exact hK.out _ _ rfl (Below.refl _ _) (fun h => by cases h)
    refine steps5_cons ?_ ?_
    · intro f w1 hb hd Q hK
      clear hd
      have hK := Lib.hid hK
      go_wp2
      exact hK.out _ _ rfl (Below.refl _ _) (fun h => by cases h)
    refine steps5_cons ?_ ?_
    · intro f w1 hb hd Q hK
      have e15 : f 15 = .pointer (some ⟨gb, 0, none⟩) := hd.1 rfl
      clear hd
      simp only [e15] at hK
      have hK := Lib.hid hK
      go_wp2
      exact hK.out _ _ rfl (Below.refl _ _) (fun h => by cases h)
    refine steps5_cons ?_ ?_
    · intro f w1 hb hd Q hK
      have e16 : f 16 = .pointer (some ⟨gb, 0, none⟩) := hd.1 rfl
      clear hd
      simp only [e16] at hK
      have hK := Lib.hid hK
      go_wp2
      exact hK.out _ _ rfl (Below.refl _ _) (fun h => by cases h)
    refine steps5_cons ?_ ?_
    · intro f w1 hb hd Q hK
      have e17 : f 17 = .pointer (some ⟨gb, 2, none⟩) := hd.1 rfl
      clear hd
      simp only [e17] at hK
      have hK := Lib.hid hK
      have c0 := (hG.below hb).cell 2
      simp only [List.getElem?_toArray, List.getElem?_cons_zero, List.getElem?_cons_succ] at c0
      go_wp2
      exact hK.out _ _ rfl (Below.refl _ _) (fun h => by cases h)
    refine steps5_cons ?_ ?_
    · intro f w1 hb hd Q hK
      clear hd
      have hK := Lib.hid hK
      obtain ⟨c0, c1, c2, c3, c4, c5, c6⟩ := blk7 (hX.below hb)
      go_wp2
      exact hK.out _ _ rfl (Below.refl _ _) (fun h => by cases h)
    refine steps5_cons ?_ ?_
    · intro f w1 hb hd Q hK
      have e18 : f 18 = .func (.func 16) #[] #[] := hd.1 rfl
      have e19 : f 19 = .agg #[.string k, .int .i64 cl, .int .i64 sq, .slice p1 n c1, .bool gone, .slice p2 vs.length c2, .slice p3 ss.length c3] := hd.2.1 rfl
      clear hd
      simp only [e18, e19] at hK
      have hK := Lib.hid hK
      go_wp2_with fail
      refine (hct.out _ hb).mono ?_
      rintro e w2 ⟨r, m, c2, rfl, hm, hR, hb2, -⟩
      replace hm := Lib.hid hm
      go_wp2
      exact hK.out _ _ ⟨_, _, _, rfl, hm.out, hR⟩ hb2 (fun h => by cases h)
    refine steps5_cons ?_ ?_
    · intro f w1 hb hd Q hK
      obtain ⟨p20, n20, c20, e20, l20, b20⟩ := (hd.1 rfl : SlL X (f 20) w1)
      replace l20 := Lib.hid l20
      replace b20 := Lib.hid b20
      clear hd
      simp only [e20] at hK
      have hK := Lib.hid hK
      have kc := conv_str w1 p20 n20 c20 X l20.out b20.out
      go_wp2
      exact hK.out _ _ rfl (Below.refl _ _) (fun h => by cases h)
    refine steps5_cons ?_ ?_
    · intro f w1 hb hd Q hK
      have e14 : f 14 = .map (some m1) := hd.1 rfl
      have e21 : f 21 = .string (strOfNums X) := hd.2.1 rfl
      clear hd
      simp only [e14, e21] at hK
      have hK := Lib.hid hK
      go_wp2_with (at_lookup; refine wpList_lookup_own_ok_int _ rfl _ _ 30 rfl 9 3 .i64 law map_under int_under (zeroI _) m1 N D e14 (hmm.out _ hb) _ _ e21 hkey.out ?_; intro c _ _; rw [← hH.out])
      exact hK.out _ _ ⟨_, rfl⟩ (Below.refl _ _) (fun h => by cases h)
    refine steps5_cons ?_ ?_
    · intro f w1 hb hd Q hK
      obtain ⟨x22, e22⟩ := (hd.1 rfl : Tup H (f 22) w1)
      clear hd
      simp only [e22] at hK
      have hK := Lib.hid hK
      go_wp2
      exact hK.out _ _ ⟨_, rfl⟩ (Below.refl _ _) (fun h => by cases h)
    refine steps5_cons ?_ ?_
    · intro f w1 hb hd Q hK
      obtain ⟨x10, e10⟩ := (hd.1 rfl : Tup H (f 10) w1)
      clear hd
      simp only [e10] at hK
      have hK := Lib.hid hK
      go_wp2
      exact hK.out _ _ ⟨_, rfl⟩ (Below.refl _ _) (fun h => by cases h)
    refine steps5_cons ?_ ?_
    · intro f w1 hb hd Q hK
      obtain ⟨x10, e10⟩ := (hd.1 rfl : Tup H (f 10) w1)
      clear hd
      simp only [e10] at hK
      have hK := Lib.hid hK
      go_wp2
      exact hK.out _ _ rfl (Below.refl _ _) (fun h => by cases h)
    refine steps5_cons ?_ ?_
    · intro f w1 hb hd Q hK
      obtain ⟨x23, e23⟩ := (hd.1 rfl : AnyI (f 23) w1)
      clear hd
      simp only [e23] at hK
      have hK := Lib.hid hK
      go_wp2
      exact hK.out _ _ ⟨_, rfl⟩ (Below.refl _ _) (fun h => by cases h)
    refine steps5_cons ?_ ?_
    · intro f w1 hb hd Q hK
      have e24 : f 24 = .bool H := hd.1 rfl
      clear hd
      simp only [e24] at hK
      have hK := Lib.hid hK
      go_wp2
      exact hK.out _ _ rfl (Below.refl _ _) (fun h => by cases h)
    trivial
  · intro f w1 hb hf hne
    refine wpList_nil ?_
    have d6 : f 6 = .bool H := hf 16 _ _ (by decide) rfl rfl
    simp only [d6]
    clear hf hne hct hmm
    go_wp2
    go_returns
    exact ⟨rfl, hb0.trans (hb.mono hb0.size)⟩
set_option maxHeartbeats 1000000 in
theorem knownRoot_c (gb : Nat) (l1 : Value) (m1 : Nat) (l2 : Value) (m2 : Nat) (w : World) (hG : Blk w gb 45 (ghC l1 m1 l2 m2)) :
    Calls Try.prog 72 #[.pointer (some ⟨gb, 4, none⟩)] w fun e w' => e = .returned (.bool true) ∧ Below w.heap.size w w' := by
  have c1 := (blk8 hG).2.2.2.2.2.1
  have hnm := neqmap
  go_enter Try.func72, Try.ntmps72
  go_wp2
  go_returns
  exact ⟨rfl, Below.refl _ _⟩
def hsRoL (rr rh rq : Int) (vs ss : List Int) (p1 : Option Addr) (c1 : Nat) (p2 : Option Addr) (c2 : Nat) (gb m2 : Nat) (X : List Int) (H : Bool) : List (Value → World → Prop) := [
  Eq1 (.pointer (some ⟨gb, 4, none⟩)),
  Eq1 (.pointer (some ⟨gb, 4, none⟩)),
  Eq1 (.pointer (some ⟨gb, 5, none⟩)),
  Eq1 (.map (some m2)),
  Eq1 (.pointer (some ⟨gb, 4, none⟩)),
  Eq1 (.pointer (some ⟨gb, 4, none⟩)),
  Eq1 (.pointer (some ⟨gb, 6, none⟩)),
  Eq1 (.func (.func 19) #[] #[]),
  Eq1 (.agg #[.int .i64 rr, .int .i64 rh, .int .i64 rq, .slice p1 vs.length c1, .slice p2 ss.length c2]),
  SlL X,
  Eq1 (.string (strOfNums X)),
  Tup H,
  Tup H,
  AnyI,
  Eq1 (.bool H),
  AnyI,
  Eq1 (.bool H)]
theorem hsRoS (rr rh rq : Int) (vs ss : List Int) (p1 : Option Addr) (c1 : Nat) (p2 : Option Addr) (c2 : Nat) (gb m2 : Nat) (X : List Int) (H : Bool) : ∀ j x' q q', (hsRoL rr rh rq vs ss p1 c1 p2 c2 gb m2 X H).getD j (fun _ _ => True) x' q → Below q.heap.size q q' → (hsRoL rr rh rq vs ss p1 c1 p2 c2 gb m2 X H).getD j (fun _ _ => True) x' q' := by
  refine sta_all _ ?_
  simp only [hsRoL, List.mem_cons, forall_eq_or_imp, List.not_mem_nil, false_implies, implies_true, and_true]
  exact ⟨sta_eq _, sta_eq _, sta_eq _, sta_eq _, sta_eq _, sta_eq _, sta_eq _, sta_eq _, sta_eq _, sta_slL _, sta_eq _, sta_tup _, sta_tup _, sta_anyI, sta_eq _, sta_anyI, sta_eq _⟩
set_option maxRecDepth 20000 in
set_option maxHeartbeats 8000000 in
theorem hasRoot_d (gb : Nat) (l1 : Value) (m1 : Nat) (l2 : Value) (m2 : Nat) (r : RootD) (p1 : Option Addr) (c1 : Nat) (p2 : Option Addr) (c2 : Nat) (hok : r.ok) (w : World) (hG : Blk w gb 45 (ghC l1 m1 l2 m2)) (h1 : BytesL w p1 r.sum) (N : Nat) (D : DataW Unit) (hmap : w.ownsMap (H := Unit) Try.prog 9 (plainElem Try.prog 3) m2 N D) :
    Calls Try.prog 34 #[.pointer (some ⟨gb, 4, none⟩), rootV r p1 c1 p2 c2] w fun e w' => e = .returned (.bool (Maps.has D (klit (rootT r)))) ∧ Below w.heap.size w w' := by
  have hct := fun w1 (hb : Below w.heap.size w w1) => (rootText_o r.r r.h r.q p1 r.sum.length c1 p2 r.sig.length c2 r.sum rfl w1 (h1.below hb)).mono fun _ _ h => h.l
  have hkey := klit_key (rootT r) (root_len r hok)
  change ∀ w1, Below w.heap.size w w1 → Calls _ _ _ w1 (PostL (rootT r) w1) at hct
  obtain ⟨X, hX⟩ : ∃ X, X = rootT r := ⟨_, rfl⟩
  rw [← hX] at hkey hct ⊢
  clear hX hok
  obtain ⟨rr, rh, rq, vs, ss⟩ := r
  dsimp only at hct h1
  unfold rootV
  dsimp only
  obtain ⟨H, hH⟩ : ∃ H, H = Maps.has D (klit X) := ⟨_, rfl⟩
  rw [← hH]
  have hkn := fun w1 (hb : Below w.heap.size w w1) => knownRoot_c gb l1 m1 l2 m2 w1 (hG.below hb)
  have hmm := fun w1 (hb : Below w.heap.size w w1) => hmap.kept (w' := w1) (row := none) ⟨hb.os, hb.tape, hb.output, hb.size, fun k hk _ => hb.block k hk⟩ (by simp)
  replace hct := Lib.hid hct
  replace hkey := Lib.hid hkey
  replace hH := Lib.hid hH
  replace hkn := Lib.hid hkn
  replace hmm := Lib.hid hmm
  clear h1 hmap
  unfold ghC at hG
  go_enter Try.func34, Try.ntmps34
  go_wp2_with fail
  refine calls_at (fun W1 hW => ?_)
  have hb1 : Below w.heap.size w W1 := by rw [hW]; go_grown
  have hX : Blk W1 w.heap.size 27 #[.int .i64 rr, .int .i64 rh, .int .i64 rq, .slice p1 vs.length c1, .slice p2 ss.length c2] := by rw [hW]; exact Blk.new _ _ _
  clear hW
  replace hG := hG.below hb1
  refine (hkn.out _ hb1).mono ?_
  rintro e W0 ⟨rfl, hb2⟩
  replace hG := hG.below hb2
  replace hX := hX.below hb2
  have hb0 := hb1.trans (hb2.mono hb1.size)
  clear hb1 hb2 hkn
  replace hct : Hid (∀ w1, Below W0.heap.size W0 w1 → _) := Lib.hid fun w1 hb => hct.out w1 (hb0.trans (hb.mono hb0.size))
  replace hmm : Hid (∀ w1, Below W0.heap.size W0 w1 → _) := Lib.hid fun w1 hb => hmm.out w1 (hb0.trans (hb.mono hb0.size))
  go_wp2_with fail
  refine wp_region_grow5 17 (fun k => (Nat.ble 5 k && Nat.ble k 6) || (Nat.ble 10 k && Nat.ble k 24)) _ [] (fun a b => Below a.heap.size a b) (Below.refl _ _).drew below_tr (fun j x' q => (hsRoL rr rh rq vs ss p1 c1 p2 c2 gb m2 X H).getD j (fun _ _ => True) x' q) (fun _ => false) (fun f => #[.pointer (some ⟨gb, 4, none⟩), .agg #[.int .i64 rr, .int .i64 rh, .int .i64 rq, .slice p1 vs.length c1, .slice p2 ss.length c2], undef, .pointer (some ⟨w.heap.size, 0, none⟩), .bool false, f 5, f 6, .pointer (some ⟨gb, 4, none⟩), .bool true, .bool false, f 10, f 11, f 12, f 13, f 14, f 15, f 16, f 17, f 18, f 19, f 20, f 21, f 22, f 23, f 24, undef]) (fun f => rfl) (by kernel_rfl) (by kernel_rfl) (by kernel_rfl) (by kernel_rfl) (by kernel_rfl) (hsRoS _ _ _ _ _ _ _ _ _ _ _ _ _) (fun _ _ _ h => by cases h) ?_ ?_
  · refine steps5_cons ?_ ?_
    · intro f w1 hb hd Q hK
      clear hd
      have hK := Lib.hid hK
      go_wp2
      exact hK.out _ _ rfl (Below.refl _ _) (fun h => by cases h)
    refine steps5_cons ?_ ?_
    · intro f w1 hb hd Q hK
      have e11 : f 11 = .pointer (some ⟨gb, 4, none⟩) := hd.1 rfl
      clear hd
      simp only [e11] at hK
      have hK := Lib.hid hK
      go_wp2
      exact hK.out _ _ rfl (Below.refl _ _) (fun h => by cases h)
    refine steps5_cons ?_ ?_
    · intro f w1 hb hd Q hK
      have e12 : f 12 = .pointer (some ⟨gb, 4, none⟩) := hd.1 rfl
      clear hd
      simp only [e12] at hK
      have hK := Lib.hid hK
      go_wp2
      exact hK.out _ _ rfl (Below.refl _ _) (fun h => by cases h)
    refine steps5_cons ?_ ?_
    · intro f w1 hb hd Q hK
      have e13 : f 13 = .pointer (some ⟨gb, 5, none⟩) := hd.1 rfl
      clear hd
      simp only [e13] at hK
      have hK := Lib.hid hK
      have c0 := (hG.below hb).cell 5
      simp only [List.getElem?_toArray, List.getElem?_cons_zero, List.getElem?_cons_succ] at c0
      go_wp2
      exact hK.out _ _ rfl (Below.refl _ _) (fun h => by cases h)
    refine steps5_cons ?_ ?_
    · intro f w1 hb hd Q hK
      clear hd
      have hK := Lib.hid hK
      go_wp2
      exact hK.out _ _ rfl (Below.refl _ _) (fun h => by cases h)
    refine steps5_cons ?_ ?_
    · intro f w1 hb hd Q hK
      have e15 : f 15 = .pointer (some ⟨gb, 4, none⟩) := hd.1 rfl
      clear hd
      simp only [e15] at hK
      have hK := Lib.hid hK
      go_wp2
      exact hK.out _ _ rfl (Below.refl _ _) (fun h => by cases h)
    refine steps5_cons ?_ ?_
    · intro f w1 hb hd Q hK
      have e16 : f 16 = .pointer (some ⟨gb, 4, none⟩) := hd.1 rfl
      clear hd
      simp only [e16] at hK
      have hK := Lib.hid hK
      go_wp2
      exact hK.out _ _ rfl (Below.refl _ _) (fun h => by cases h)
    refine steps5_cons ?_ ?_
    · intro f w1 hb hd Q hK
      have e17 : f 17 = .pointer (some ⟨gb, 6, none⟩) := hd.1 rfl
      clear hd
      simp only [e17] at hK
      have hK := Lib.hid hK
      have c0 := (hG.below hb).cell 6
      simp only [List.getElem?_toArray, List.getElem?_cons_zero, List.getElem?_cons_succ] at c0
      go_wp2
      exact hK.out _ _ rfl (Below.refl _ _) (fun h => by cases h)
    refine steps5_cons ?_ ?_
    · intro f w1 hb hd Q hK
      clear hd
      have hK := Lib.hid hK
      obtain ⟨c0, c1, c2, c3, c4⟩ := blk5v (hX.below hb)
      go_wp2
      exact hK.out _ _ rfl (Below.refl _ _) (fun h => by cases h)
    refine steps5_cons ?_ ?_
    · intro f w1 hb hd Q hK
      have e18 : f 18 = .func (.func 19) #[] #[] := hd.1 rfl
      have e19 : f 19 = .agg #[.int .i64 rr, .int .i64 rh, .int .i64 rq, .slice p1 vs.length c1, .slice p2 ss.length c2] := hd.2.1 rfl
      clear hd
      simp only [e18, e19] at hK
      have hK := Lib.hid hK
      go_wp2_with fail
      refine (hct.out _ hb).mono ?_
      rintro e w2 ⟨r, m, c2, rfl, hm, hR, hb2, -⟩
      replace hm := Lib.hid hm
      go_wp2
      exact hK.out _ _ ⟨_, _, _, rfl, hm.out, hR⟩ hb2 (fun h => by cases h)
    refine steps5_cons ?_ ?_
    · intro f w1 hb hd Q hK
      obtain ⟨p20, n20, c20, e20, l20, b20⟩ := (hd.1 rfl : SlL X (f 20) w1)
      replace l20 := Lib.hid l20
      replace b20 := Lib.hid b20
      clear hd
      simp only [e20] at hK
      have hK := Lib.hid hK
      have kc := conv_str w1 p20 n20 c20 X l20.out b20.out
      go_wp2
      exact hK.out _ _ rfl (Below.refl _ _) (fun h => by cases h)
    refine steps5_cons ?_ ?_
    · intro f w1 hb hd Q hK
      have e14 : f 14 = .map (some m2) := hd.1 rfl
      have e21 : f 21 = .string (strOfNums X) := hd.2.1 rfl
      clear hd
      simp only [e14, e21] at hK
      have hK := Lib.hid hK
      go_wp2_with (at_lookup; refine wpList_lookup_own_ok_int _ rfl _ _ 30 rfl 9 3 .i64 law map_under int_under (zeroI _) m2 N D e14 (hmm.out _ hb) _ _ e21 hkey.out ?_; intro c _ _; rw [← hH.out])
      exact hK.out _ _ ⟨_, rfl⟩ (Below.refl _ _) (fun h => by cases h)
    refine steps5_cons ?_ ?_
    · intro f w1 hb hd Q hK
      obtain ⟨x22, e22⟩ := (hd.1 rfl : Tup H (f 22) w1)
      clear hd
      simp only [e22] at hK
      have hK := Lib.hid hK
      go_wp2
      exact hK.out _ _ ⟨_, rfl⟩ (Below.refl _ _) (fun h => by cases h)
    refine steps5_cons ?_ ?_
    · intro f w1 hb hd Q hK
      obtain ⟨x10, e10⟩ := (hd.1 rfl : Tup H (f 10) w1)
      clear hd
      simp only [e10] at hK
      have hK := Lib.hid hK
      go_wp2
      exact hK.out _ _ ⟨_, rfl⟩ (Below.refl _ _) (fun h => by cases h)
    refine steps5_cons ?_ ?_
    · intro f w1 hb hd Q hK
      obtain ⟨x10, e10⟩ := (hd.1 rfl : Tup H (f 10) w1)
      clear hd
      simp only [e10] at hK
      have hK := Lib.hid hK
      go_wp2
      exact hK.out _ _ rfl (Below.refl _ _) (fun h => by cases h)
    refine steps5_cons ?_ ?_
    · intro f w1 hb hd Q hK
      obtain ⟨x23, e23⟩ := (hd.1 rfl : AnyI (f 23) w1)
      clear hd
      simp only [e23] at hK
      have hK := Lib.hid hK
      go_wp2
      exact hK.out _ _ ⟨_, rfl⟩ (Below.refl _ _) (fun h => by cases h)
    refine steps5_cons ?_ ?_
    · intro f w1 hb hd Q hK
      have e24 : f 24 = .bool H := hd.1 rfl
      clear hd
      simp only [e24] at hK
      have hK := Lib.hid hK
      go_wp2
      exact hK.out _ _ rfl (Below.refl _ _) (fun h => by cases h)
    trivial
  · intro f w1 hb hf hne
    refine wpList_nil ?_
    have d6 : f 6 = .bool H := hf 16 _ _ (by decide) rfl rfl
    simp only [d6]
    clear hf hne hct hmm
    go_wp2
    go_returns
    exact ⟨rfl, hb0.trans (hb.mono hb0.size)⟩
end Go.Proofs.Ytdgaoljobpneaaa
