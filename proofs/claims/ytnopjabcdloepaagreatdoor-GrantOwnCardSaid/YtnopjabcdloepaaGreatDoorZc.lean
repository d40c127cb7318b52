import Derived.Test.YtnopjabcdloepaaGreatDoorYd
import Derived.Test.YtnopjabcdloepaaGreatDoorYb
namespace Go.Proofs.YtnopjabcdloepaaGreatDoor
open Go.RowKit
def gecTL (g o cp : Nat) (b : Nat → Int) : List (Value → World → Prop) := [
  Eq1 (.slice (some ⟨g, o, none⟩) 32 cp),
  Eq1 (.pointer (some ⟨g, o + 31, none⟩)),
  Eq1 (.int .u8 (b 31)),
  Eq1 (.int .u8 (b 31 / 128)),
  Eq1 (.bool true),
  Eq1 (.bool true),
  Eq1 (undef),
  Eq1 (undef),
  Eq1 (undef),
  Eq1 (undef),
  Eq1 (.bool true)]
theorem gecTS (g o cp : Nat) (b : Nat → Int) : ∀ j x' q q', (gecTL g o cp b).getD j (fun _ _ => True) x' q → Below q.heap.size q q' → (gecTL g o cp b).getD j (fun _ _ => True) x' q' := by
  refine sta_all _ ?_
  simp only [gecTL, List.mem_cons, forall_eq_or_imp, List.not_mem_nil, false_implies, implies_true, and_true]
  exact ⟨sta_eq _, sta_eq _, sta_eq _, sta_eq _, sta_eq _, sta_eq _, sta_eq _, sta_eq _, sta_eq _, sta_eq _, sta_eq _⟩
def gecNL (g o cp : Nat) (b : Nat → Int) (y : Fe.E) : List (Value → World → Prop) := [
  Eq1 (.slice (some ⟨g, o, none⟩) 32 cp),
  Eq1 (.pointer (some ⟨g, o + 31, none⟩)),
  Eq1 (.int .u8 (b 31)),
  Eq1 (.int .u8 (b 31 / 128)),
  Eq1 (.bool false),
  Eq1 (.bool false),
  Eq1 (.agg #[.int .u64 y.a0, .int .u64 y.a1, .int .u64 y.a2, .int .u64 y.a3, .int .u64 y.a4]),
  Eq1 (.agg #[.int .u64 (Fe.canon y).a0, .int .u64 (Fe.canon y).a1, .int .u64 (Fe.canon y).a2, .int .u64 (Fe.canon y).a3, .int .u64 (Fe.canon y).a4]),
  Eq1 (.agg #[.int .u64 y.a0, .int .u64 y.a1, .int .u64 y.a2, .int .u64 y.a3, .int .u64 y.a4]),
  Eq1 (.bool (!eqE (Fe.canon y) y)),
  Eq1 (.bool (!eqE (Fe.canon y) y))]
theorem gecNS (g o cp : Nat) (b : Nat → Int) (y : Fe.E) : ∀ j x' q q', (gecNL g o cp b y).getD j (fun _ _ => True) x' q → Below q.heap.size q q' → (gecNL g o cp b y).getD j (fun _ _ => True) x' q' := by
  refine sta_all _ ?_
  simp only [gecNL, List.mem_cons, forall_eq_or_imp, List.not_mem_nil, false_implies, implies_true, and_true]
  exact ⟨sta_eq _, sta_eq _, sta_eq _, sta_eq _, sta_eq _, sta_eq _, sta_eq _, sta_eq _, sta_eq _, sta_eq _, sta_eq _⟩
set_option maxRecDepth 20000 in
set_option maxRecDepth 20000 in
set_option maxHeartbeats 1000000 in
theorem get_Ec (b : Nat → Int) (g o cp : Nat) (w : World) (hB : ∀ j, j < 32 → w.cell? ⟨g, o + j, none⟩ = some (.int .u8 (b j))) (hr : ∀ j, 0 ≤ b j ∧ b j < 256) (hg : g < w.heap.size) (x : Fe.E) (ok : Bool) (hok : ok = getOk b) (hx : x = if ok = true then Fe.getE b 255 else ⟨0, 0, 0, 0, 0⟩) :
    Calls Tryz.prog 250 #[.slice (some ⟨g, o, none⟩) 32 cp] w fun e w' => e = .returned (.tuple #[.agg #[.int .u64 x.a0, .int .u64 x.a1, .int .u64 x.a2, .int .u64 x.a3, .int .u64 x.a4], .bool ok]) ∧ Below w.heap.size w w' := by
  replace hx := Lib.hid hx
  replace hok := Lib.hid hok
  have hne := run_neq_E (Fe.canon (Fe.getE b 255)) (Fe.getE b 255)
  have hwy := (Fe.getE_d b 255).w
  go_enter Tryz.func250, Tryz.ntmps250
  go_wp2
  go_loopw [10] (fun i wr => ∃ m : Nat, m ≤ 255 ∧ i = .int .i64 m ∧ GetI b m w.heap.size w wr) (fun i _ => (255 - intOf i).toNat)
  case atStart => exact ⟨0, by decide, rfl, blk_at (by simp) (Blk.new _ _ _), (Blk.new _ _ _).alloc _, by go_grown⟩
  case round =>
    obtain ⟨m, hm, hi, hI⟩ := hrel
    subst hi
    have hBB : ∀ j, j < 32 → wr.cell? ⟨g, o + j, none⟩ = some (.int .u8 (b j)) := fun j hj => (hI.2.2.cell (p := ⟨g, o + j, none⟩) hg).trans (hB j hj)
    by_cases h255 : m = 255
    · subst h255
      obtain ⟨hA, hG, hb0⟩ := hI
      have c31 := hBB 31 (by decide)
      have h31 := hr 31
      have hglt : g < wr.heap.size := Nat.lt_of_lt_of_le hg hb0.size
      have hA : Blk wr (w.heap.size + 1) 202 #[.int .u64 (Fe.getE b 255).a0, .int .u64 (Fe.getE b 255).a1, .int .u64 (Fe.getE b 255).a2, .int .u64 (Fe.getE b 255).a3, .int .u64 (Fe.getE b 255).a4] := hA
      have hok : ok = (!(b 31 / 128 == 1) && eqE (Fe.canon (Fe.getE b 255)) (Fe.getE b 255)) := hok.out
      replace hx := hx.out
      generalize Fe.getE b 255 = y at *
      replace hok := Lib.hid hok
      replace hx := Lib.hid hx
      clear hm hB hBB hr
      go_wp2
      have htop : b 31 / 128 = 1 ∨ b 31 / 128 = 0 := by omega
      clear h31
      rcases htop with htop | htop
      · replace htop := Lib.hid htop
        have hok' : ok = false := by rw [hok.out, htop.out]; rfl
        subst hok'
        have hx' : x = ⟨0, 0, 0, 0, 0⟩ := hx.out
        subst hx'
        clear hx hok
        refine wp_region_grow2 11 (fun k => (Nat.ble 33 k && Nat.ble k 43)) _ [] (fun j x' q => (gecTL g o cp b).getD j (fun _ _ => True) x' q) (fun _ => false) (fun f => #[.slice (some ⟨g, o, none⟩) 32 cp, undef, .pointer (some ⟨w.heap.size, 0, none⟩), .bool false, .pointer (some ⟨w.heap.size + 1, 0, none⟩), u5, .slice (some ⟨g, o, none⟩) 32 cp, .int .i64 32, .bool false, undef, .int .i64 (255 : Nat), .bool false, u12, u13, u14, u15, u16, u17, u18, u19, u20, u21, u22, u23, u24, u25, u26, u27, u28, u29, u30, u31, u32, f 33, f 34, f 35, f 36, f 37, f 38, f 39, f 40, f 41, f 42, f 43, undef, undef]) (fun f => rfl) (by kernel_rfl) (by kernel_rfl) (by kernel_rfl) (by kernel_rfl) (by kernel_rfl) (gecTS _ _ _ _) (fun _ _ _ h => by cases h) ?_ ?_
        · refine steps2_cons ?_ ?_
          · intro f w1 hb hd Q hK
            clear hd
            have hK := Lib.hid hK
            go_wp2
            exact hK.out _ _ rfl (.refl _ _) nof
          refine steps2_cons ?_ ?_
          · intro f w1 hb hd Q hK
            have e33 : f 33 = .slice (some ⟨g, o, none⟩) 32 cp := hd.1 rfl
            clear hd
            simp only [e33] at hK
            have hK := Lib.hid hK
            go_wp2
            exact hK.out _ _ rfl (.refl _ _) nof
          refine steps2_cons ?_ ?_
          · intro f w1 hb hd Q hK
            have e34 : f 34 = .pointer (some ⟨g, o + 31, none⟩) := hd.1 rfl
            clear hd
            simp only [e34] at hK
            have hK := Lib.hid hK
            have c0 := (hb.cell (p := ⟨g, o + 31, none⟩) hglt).trans c31
            go_wp2
            exact hK.out _ _ rfl (.refl _ _) nof
          refine steps2_cons ?_ ?_
          · intro f w1 hb hd Q hK
            have e35 : f 35 = .int .u8 (b 31) := hd.1 rfl
            clear hd
            simp only [e35] at hK
            have hK := Lib.hid hK
            go_wp2
            exact hK.out _ _ rfl (.refl _ _) nof
          refine steps2_cons ?_ ?_
          · intro f w1 hb hd Q hK
            have e36 : f 36 = .int .u8 (b 31 / 128) := hd.1 rfl
            clear hd
            simp only [e36] at hK
            have hK := Lib.hid hK
            go_wp2
            exact hK.out _ _ (by show Value.bool _ = _; rw [htop.out]; rfl) (.refl _ _) nof
          refine steps2_cons ?_ ?_
          · intro f w1 hb hd Q hK
            have e37 : f 37 = .bool true := hd.1 rfl
            clear hd
            simp only [e37] at hK
            have hK := Lib.hid hK
            go_wp2
            exact hK.out _ _ rfl (.refl _ _) nof
          refine steps2_cons ?_ ?_
          · intro f w1 hb hd Q hK
            have e38 : f 38 = .bool true := hd.1 rfl
            clear hd
            simp only [e38] at hK
            have hK := Lib.hid hK
            go_wp2
            exact hK.out _ _ rfl (.refl _ _) nof
          refine steps2_cons ?_ ?_
          · intro f w1 hb hd Q hK
            have e39 : f 39 = undef := hd.1 rfl
            have e38 : f 38 = .bool true := hd.2.1 rfl
            clear hd
            simp only [e39, e38] at hK
            have hK := Lib.hid hK
            go_wp2
            exact hK.out _ _ rfl (.refl _ _) nof
          refine steps2_cons ?_ ?_
          · intro f w1 hb hd Q hK
            have e38 : f 38 = .bool true := hd.1 rfl
            clear hd
            simp only [e38] at hK
            have hK := Lib.hid hK
            go_wp2
            exact hK.out _ _ rfl (.refl _ _) nof
          refine steps2_cons ?_ ?_
          · intro f w1 hb hd Q hK
            have e40 : f 40 = undef := hd.1 rfl
            have e41 : f 41 = undef := hd.2.1 rfl
            have e38 : f 38 = .bool true := hd.2.2.1 rfl
            clear hd
            simp only [e40, e41, e38] at hK
            have hK := Lib.hid hK
            go_wp2
            exact hK.out _ _ rfl (.refl _ _) nof
          refine steps2_cons ?_ ?_
          · intro f w1 hb hd Q hK
            have e38 : f 38 = .bool true := hd.1 rfl
            have e42 : f 42 = undef := hd.2.1 rfl
            clear hd
            simp only [e38, e42] at hK
            have hK := Lib.hid hK
            go_wp2
            exact hK.out _ _ rfl (.refl _ _) nof
          trivial
        intro f w1 hb hf hne
        refine wpList_nil ?_
        have d43 : f 43 = .bool true := hf 10 _ _ (by decide) rfl rfl
        clear hf hne
        simp only [d43]
        obtain ⟨c0, c1, c2, c3, c4⟩ := blk5 (hA.below hb)
        have hG1 := hG.below hb
        have fz := fun j => hG1.frozen j
        obtain ⟨z0, z1, z2, z3, z4⟩ := blk5 hG1
        go_wp2
        refine bodyPost_ret (v := .tuple #[.agg #[.int .u64 0, .int .u64 0, .int .u64 0, .int .u64 0, .int .u64 0], .bool false]) (by simp [results, Tryz.results250, go_sem, z0, z1, z2, z3, z4]) rfl ?_
        refine ⟨rfl, ?_⟩
        clear c0 c1 c2 c3 c4 z0 z1 z2 z3 z4 fz
        go_grown
        exact hb0.trans (hb.mono hb0.size)
      replace htop := Lib.hid htop
      refine wp_region_grow2 11 (fun k => (Nat.ble 33 k && Nat.ble k 43)) _ [] (fun j x' q => (gecNL g o cp b y).getD j (fun _ _ => True) x' q) (fun _ => false) (fun f => #[.slice (some ⟨g, o, none⟩) 32 cp, undef, .pointer (some ⟨w.heap.size, 0, none⟩), .bool false, .pointer (some ⟨w.heap.size + 1, 0, none⟩), u5, .slice (some ⟨g, o, none⟩) 32 cp, .int .i64 32, .bool false, undef, .int .i64 (255 : Nat), .bool false, u12, u13, u14, u15, u16, u17, u18, u19, u20, u21, u22, u23, u24, u25, u26, u27, u28, u29, u30, u31, u32, f 33, f 34, f 35, f 36, f 37, f 38, f 39, f 40, f 41, f 42, f 43, undef, undef]) (fun f => rfl) (by kernel_rfl) (by kernel_rfl) (by kernel_rfl) (by kernel_rfl) (by kernel_rfl) (gecNS _ _ _ _ _) (fun _ _ _ h => by cases h) ?_ ?_
      · refine steps2_cons ?_ ?_
        · intro f w1 hb hd Q hK
          clear hd
          have hK := Lib.hid hK
          go_wp2
          exact hK.out _ _ rfl (.refl _ _) nof
        refine steps2_cons ?_ ?_
        · intro f w1 hb hd Q hK
          have e33 : f 33 = .slice (some ⟨g, o, none⟩) 32 cp := hd.1 rfl
          clear hd
          simp only [e33] at hK
          have hK := Lib.hid hK
          go_wp2
          exact hK.out _ _ rfl (.refl _ _) nof
        refine steps2_cons ?_ ?_
        · intro f w1 hb hd Q hK
          have e34 : f 34 = .pointer (some ⟨g, o + 31, none⟩) := hd.1 rfl
          clear hd
          simp only [e34] at hK
          have hK := Lib.hid hK
          have c0 := (hb.cell (p := ⟨g, o + 31, none⟩) hglt).trans c31
          go_wp2
          exact hK.out _ _ rfl (.refl _ _) nof
        refine steps2_cons ?_ ?_
        · intro f w1 hb hd Q hK
          have e35 : f 35 = .int .u8 (b 31) := hd.1 rfl
          clear hd
          simp only [e35] at hK
          have hK := Lib.hid hK
          go_wp2
          exact hK.out _ _ rfl (.refl _ _) nof
        refine steps2_cons ?_ ?_
        · intro f w1 hb hd Q hK
          have e36 : f 36 = .int .u8 (b 31 / 128) := hd.1 rfl
          clear hd
          simp only [e36] at hK
          have hK := Lib.hid hK
          go_wp2
          exact hK.out _ _ (by show Value.bool _ = _; rw [htop.out]; rfl) (.refl _ _) nof
        refine steps2_cons ?_ ?_
        · intro f w1 hb hd Q hK
          have e37 : f 37 = .bool false := hd.1 rfl
          clear hd
          simp only [e37] at hK
          have hK := Lib.hid hK
          go_wp2
          exact hK.out _ _ rfl (.refl _ _) nof
        refine steps2_cons ?_ ?_
        · intro f w1 hb hd Q hK
          have e38 : f 38 = .bool false := hd.1 rfl
          clear hd
          simp only [e38] at hK
          have hK := Lib.hid hK
          obtain ⟨c0, c1, c2, c3, c4⟩ := blk5 (hA.below hb)
          go_wp2
          exact hK.out _ _ rfl (.refl _ _) nof
        refine steps2_cons ?_ ?_
        · intro f w1 hb hd Q hK
          have e39 : f 39 = .agg #[.int .u64 y.a0, .int .u64 y.a1, .int .u64 y.a2, .int .u64 y.a3, .int .u64 y.a4] := hd.1 rfl
          have e38 : f 38 = .bool false := hd.2.1 rfl
          clear hd
          simp only [e39, e38] at hK
          have hK := Lib.hid hK
          go_wp2_with fail
          refine ((canonical_E y hwy) _).mono ?_
          rintro e w2 ⟨rfl, hb2⟩
          go_wp2
          exact hK.out _ _ rfl hb2 nof
        refine steps2_cons ?_ ?_
        · intro f w1 hb hd Q hK
          have e38 : f 38 = .bool false := hd.1 rfl
          clear hd
          simp only [e38] at hK
          have hK := Lib.hid hK
          obtain ⟨c0, c1, c2, c3, c4⟩ := blk5 (hA.below hb)
          go_wp2
          exact hK.out _ _ rfl (.refl _ _) nof
        refine steps2_cons ?_ ?_
        · intro f w1 hb hd Q hK
          have e40 : f 40 = .agg #[.int .u64 (Fe.canon y).a0, .int .u64 (Fe.canon y).a1, .int .u64 (Fe.canon y).a2, .int .u64 (Fe.canon y).a3, .int .u64 (Fe.canon y).a4] := hd.1 rfl
          have e41 : f 41 = .agg #[.int .u64 y.a0, .int .u64 y.a1, .int .u64 y.a2, .int .u64 y.a3, .int .u64 y.a4] := hd.2.1 rfl
          have e38 : f 38 = .bool false := hd.2.2.1 rfl
          clear hd
          simp only [e40, e41, e38] at hK
          have hK := Lib.hid hK
          go_wp2
          exact hK.out _ _ rfl (.refl _ _) nof
        refine steps2_cons ?_ ?_
        · intro f w1 hb hd Q hK
          have e38 : f 38 = .bool false := hd.1 rfl
          have e42 : f 42 = .bool (!eqE (Fe.canon y) y) := hd.2.1 rfl
          clear hd
          simp only [e38, e42] at hK
          have hK := Lib.hid hK
          go_wp2
          exact hK.out _ _ rfl (.refl _ _) nof
        trivial
      intro f w1 hb hf hne
      refine wpList_nil ?_
      have d43 : f 43 = .bool (!eqE (Fe.canon y) y) := hf 10 _ _ (by decide) rfl rfl
      clear hf hne
      simp only [d43]
      obtain ⟨c0, c1, c2, c3, c4⟩ := blk5 (hA.below hb)
      have hG1 := hG.below hb
      have fz := fun j => hG1.frozen j
      obtain ⟨z0, z1, z2, z3, z4⟩ := blk5 hG1
      have hok' : ok = eqE (Fe.canon y) y := by rw [hok.out, htop.out]; rfl
      rcases Bool.eq_false_or_eq_true (eqE (Fe.canon y) y) with he | he
      · rw [he] at hok' ⊢
        subst hok'
        have hx' : x = y := hx.out
        subst hx'
        clear hx hok
        go_wp2
        refine bodyPost_ret (v := .tuple #[.agg #[.int .u64 x.a0, .int .u64 x.a1, .int .u64 x.a2, .int .u64 x.a3, .int .u64 x.a4], .bool true]) (by simp [results, Tryz.results250, go_sem, z0, z1, z2, z3, z4]) rfl ?_
        refine ⟨rfl, ?_⟩
        clear c0 c1 c2 c3 c4 z0 z1 z2 z3 z4 fz
        go_grown
        exact hb0.trans (hb.mono hb0.size)
      rw [he] at hok' ⊢
      subst hok'
      have hx' : x = ⟨0, 0, 0, 0, 0⟩ := hx.out
      subst hx'
      clear hx hok
      go_wp2
      refine bodyPost_ret (v := .tuple #[.agg #[.int .u64 0, .int .u64 0, .int .u64 0, .int .u64 0, .int .u64 0], .bool false]) (by simp [results, Tryz.results250, go_sem, z0, z1, z2, z3, z4]) rfl ?_
      refine ⟨rfl, ?_⟩
      clear c0 c1 c2 c3 c4 z0 z1 z2 z3 z4 fz
      go_grown
      exact hb0.trans (hb.mono hb0.size)
    have hm0 : (0 : Int) ≤ (m : Int) := by omega
    have hm1 : (m : Int) < 255 := by omega
    clear hm
    obtain ⟨hA, hG, hb0⟩ := hI
    have ca := hA.cell (m / 51)
    rw [show (ev (Fe.getE b m))[m / 51]? = _ from limb_get _ (m / 51) (by omega), getE_limb _ _ _ (by omega)] at ca
    have cg := hBB (m / 8) (by omega)
    have hrm := hr (m / 8)
    have fg := fun j => hA.frozen j
    clear hB hBB h255
    go_wp2
    go_region
    have hand : bits .and .u8 (b (m / 8) / 2 ^ (m % 8)) 1 = Fe.bbit b m := by
      have h2 : (0 : Int) < 2 ^ (m % 8) := Int.pow_pos (by decide)
      have h3 : 0 ≤ b (m / 8) / 2 ^ (m % 8) := Int.ediv_nonneg hrm.1 (by omega)
      have h4 : b (m / 8) / 2 ^ (m % 8) ≤ b (m / 8) := Int.ediv_le_self _ hrm.1
      exact bits_mask .u8 8 (by decide) wraps_u8 1 (by decide) _ h3 (by omega)
    have hb01 := Fe.bbit_01 b m
    have hw1 : IntKind.u64.wrap (Fe.bbit b m) = Fe.bbit b m := by rw [IntKind.wrap_u64]; omega
    have hb2 : Fe.bbit b m = 0 ∨ Fe.bbit b m = 1 := by omega
    have hw2 : IntKind.u64.wrap (Fe.bbit b m * 2 ^ (m % 51)) = Fe.bbit b m * 2 ^ (m % 51) := by
      have h2 : (0 : Int) < 2 ^ (m % 51) := Int.pow_pos (by decide)
      have h3 : (2 : Int) ^ (m % 51) < 2 ^ 64 := by
        have := Nat.pow_lt_pow_right (a := 2) (by decide) (show m % 51 < 64 by omega)
        exact_mod_cast this
      rw [IntKind.wrap_u64]
      rcases hb2 with h | h <;> rw [h] <;> omega
    have hgl := Fe.gl_lt b m (m / 51)
    rw [show min 51 (m - 51 * (m / 51)) = m % 51 by omega] at hgl
    rw [hand, hw1, hw2, or_u64 (m % 51) (by omega) _ _ hb2 hgl.1 hgl.2]
    have hA' := hA.set_ (m / 51) (.int .u64 (Fe.gl b m (m / 51) + Fe.bbit b m * 2 ^ (m % 51)))
    have hG' := hG.far (p := ⟨w.heap.size + 1, m / 51, none⟩) (by simp) (.int .u64 (Fe.gl b m (m / 51) + Fe.bbit b m * 2 ^ (m % 51)))
    rw [getV_set b m (by omega)] at hA'
    have hb' := hb0.setCell (p := ⟨w.heap.size + 1, m / 51, none⟩) (by simp) (.int .u64 (Fe.gl b m (m / 51) + Fe.bbit b m * 2 ^ (m % 51)))
    clear ca cg fg hA hG hb0 hand hb01 hw1 hb2 hw2 hgl hrm
    go_wp2
    exact ⟨⟨m + 1, by omega, rfl, hA'.drew, hG'.drew, hb'.drew⟩, by simp [intOf]; omega⟩
end Go.Proofs.YtnopjabcdloepaaGreatDoor
namespace Go.Proofs.YtnopjabcdloepaaGreatDoor
open Go.RowKit
section
variable {P : Program} {ops : Array Oper} {md : Region.Mode}
def onB (md : Region.Mode) (ops : Array Oper) (m i : Nat) : Bool := match ops[m]? with | some o => o.after.any (fun x => x.on == i && Region.binds md x) | none => false
def late3B (md : Region.Mode) (ops : Array Oper) (n e : Nat) : Bool :=
  decide (n < ops.size) && (List.range n).all (fun i => i == e || onB md ops n i) && (List.range (ops.size - (n + 1))).all (fun k => onB md ops (n + 1 + k) n && onB md ops (n + 1 + k) e) &&
  Region.seqB md ops (ops.size - n) n ((Array.replicate n true) ++ Array.replicate (ops.size - n) false) && Region.seqB md ops (ops.size - (n + 1)) (n + 1) ((Array.replicate (n + 1) true) ++ Array.replicate (ops.size - (n + 1)) false)
theorem onB_ready {m i : Nat} {listed : Array Bool} (h : onB md ops m i = true) (hr : m ∈ Region.ready md ops listed) : listed.getD i false = true := by
  obtain ⟨_, o, ho, hall⟩ := mem_ready.1 hr
  unfold onB at h
  rw [ho] at h
  obtain ⟨k, hk, hb⟩ := Array.any_eq_true.1 h
  simp only [Bool.and_eq_true, beq_iff_eq] at hb
  rw [← hb.1]
  exact hall _ (Array.getElem_mem hk) hb.2
theorem getD_tf {listed : Array Bool} {i : Nat} (hi : i < listed.size) (h : listed.getD i false = true) : listed.getD i true = true := by
  simp [hi] at h ⊢; exact h
theorem wpAny_inv3 {Q : Exit → Act → World → Prop} {n e : Nat} (he : e < n) (hB : late3B md ops n e = true) (J : Array Bool → Act → World → Prop)
    (step : ∀ i, i < n → ∀ listed a w, HeadInv md ops n listed → i ∈ Region.ready md ops listed → J listed a w → wpOp P ops Q i (fun a' w' => J (listed.setIfInBounds i true) a' w') a w)
    (hdag : ∀ i, i < n → ∀ o, ops[i]? = some o → ∀ e ∈ o.after, Region.binds md e = true → e.on < i)
    (done : ∀ a w, J ((Array.replicate n true) ++ Array.replicate (ops.size - n) false) a w → wpList P ops Q (ops.toList.drop n) a w)
    (late : ∀ listed a w, (∀ i, i < n → i ≠ e → listed.getD i false = true) → J listed a w → ∀ on oe, ops[n]? = some on → ops[e]? = some oe → wpList P ops Q (on :: oe :: ops.toList.drop (n + 1)) a w) :
    ∀ (m : Nat) (listed : Array Bool) (a : Act) (w : World), left n listed = m → HeadInv md ops n listed → J listed a w → wpAny P md ops Q (m + (ops.size - n)) listed a w := by
  simp only [late3B, Bool.and_eq_true, decide_eq_true_eq, List.all_eq_true, List.mem_range, Bool.or_eq_true, beq_iff_eq] at hB
  obtain ⟨⟨⟨⟨hn, hd1⟩, hd2⟩, hq⟩, hq2⟩ := hB
  intro m
  induction m using Nat.strongRecOn with
  | _ m ih =>
    intro listed a w hm inv hJ
    have hsz := inv.size
    by_cases h0 : left n listed = 0
    · have hall := head_all inv (by omega) (left_zero h0)
      subst hall
      have hm0 : m = 0 := by omega
      subst hm0
      have h1 := done a w hJ
      have hl : (ops.toList.drop n).length = ops.size - n := by simp
      have h2 := wpAny_of_seq (md := md) (Q' := Q) (ops.toList.drop n) n ((Array.replicate n true) ++ Array.replicate (ops.size - n) false) a w
        (fun j => by rw [List.getElem?_drop]; simp) (by rw [hl]; exact hq) h1
      rw [hl] at h2
      rw [Nat.zero_add]
      exact h2
    have hex : ∃ i, i < n ∧ listed.getD i true = false := by
      rcases Classical.em (∃ i, i < n ∧ listed.getD i true = false) with h | h
      · exact h
      exfalso
      apply h0
      unfold left
      have : ((List.range n).filter fun i => !listed.getD i true) = [] := by
        rw [List.filter_eq_nil_iff]
        intro i hi hh
        exact h ⟨i, List.mem_range.1 hi, by simpa using hh⟩
      rw [this]; rfl
    obtain ⟨i0, hi0, hu0⟩ := hex
    obtain ⟨m', rfl⟩ : ∃ m', m = m' + 1 := ⟨m - 1, by omega⟩
    have hfuel : m' + 1 + (ops.size - n) = (m' + (ops.size - n)) + 1 := by omega
    rw [hfuel]
    have hready : ∀ k i, i < k → i < n → listed.getD i true = false → ∃ i', i' ∈ Region.ready md ops listed := by
      intro k
      induction k with
      | zero => intro i h; omega
      | succ k ihk =>
        intro i hik hin hu
        have hio : i < ops.size := by omega
        by_cases hd : ∀ e ∈ (ops[i]'hio).after, Region.binds md e = true → listed.getD e.on false = true
        · exact ⟨i, mem_ready.2 ⟨hu, ops[i]'hio, Array.getElem?_eq_getElem hio, hd⟩⟩
        have hd' : ∃ e ∈ (ops[i]'hio).after, Region.binds md e = true ∧ listed.getD e.on false ≠ true := by
          refine Classical.byContradiction fun hh => hd fun e he hb => ?_
          refine Classical.byContradiction fun hne => hh ⟨e, he, hb, hne⟩
        obtain ⟨e, he, hb, hne⟩ := hd'
        have hlt := hdag i hin _ (Array.getElem?_eq_getElem hio) e he hb
        refine ihk e.on (by omega) (by omega) ?_
        exact getD_in (by omega) (by simpa using hne)
    obtain ⟨ir, hir⟩ := hready (i0 + 1) i0 (by omega) hi0 hu0
    refine ⟨fun h => (by rw [h] at hir; cases hir), fun i hi => ?_⟩
    by_cases hin : i < n
    · have hu := (mem_ready.1 hi).1
      have hlt : i < listed.size := by omega
      have hdec := left_set hin hu hlt
      refine wpOp_mono (fun a' w' hJ' => ?_) (step i hin listed a w inv hi hJ)
      have hle := ih (left n (listed.setIfInBounds i true)) (by omega) (listed.setIfInBounds i true) a' w' rfl (inv.set hi hin) hJ'
      exact more_fuel hle (by omega)
    have hio : i < ops.size := by
      obtain ⟨_, o, ho, _⟩ := mem_ready.1 hi
      exact (Array.getElem?_eq_some_iff.1 ho).1
    by_cases hin' : i = n
    · subst hin'
      have hothers : ∀ j, j < i → j ≠ e → listed.getD j false = true := fun j hj hje => by
        rcases hd1 j hj with h | h
        · exact absurd h hje
        exact onB_ready h hi
      have hoe : e < ops.size := by omega
      have hl := late listed a w hothers hJ _ _ (Array.getElem?_eq_getElem hio) (Array.getElem?_eq_getElem hoe)
      have hei : i0 = e := Classical.byContradiction fun hne => by
        have := getD_tf (by omega) (hothers i0 hi0 hne)
        rw [this] at hu0
        cases hu0
      subst hei
      have hw : wpOp P ops Q i (wpList P ops Q (ops[i0]'hoe :: ops.toList.drop (i + 1))) a w := by unfold wpOp; simp only [Array.getElem?_eq_getElem hio]; exact hl
      refine wpOp_mono (fun a' w' h' => ?_) hw
      have hs2 : (listed.setIfInBounds i true).size = ops.size := by simp [hsz]
      have hrd : ∀ j, j ∈ Region.ready md ops (listed.setIfInBounds i true) → j = i0 := fun j hj => by
        obtain ⟨hju, oj, hoj, _⟩ := mem_ready.1 hj
        have hjs := (Array.getElem?_eq_some_iff.1 hoj).1
        refine Classical.byContradiction fun hne => ?_
        rcases Nat.lt_trichotomy j i with h | h | h
        · have h1 := hothers j h hne
          rw [getD_set_ne true (by omega)] at hju
          rw [getD_tf (by omega) h1] at hju
          cases hju
        · subst h
          simp [hio, hsz] at hju
        have h1 := hd2 (j - (i + 1)) (by omega)
        rw [show i + 1 + (j - (i + 1)) = j by omega] at h1
        have h2 := onB_ready h1.2 hj
        rw [getD_set_ne false (by omega)] at h2
        rw [getD_tf (by omega) h2] at hu0
        cases hu0
      have hin0 : i0 ∈ Region.ready md ops (listed.setIfInBounds i true) := by
        refine mem_ready.2 ⟨by rw [getD_set_ne true (by omega)]; exact hu0, ops[i0]'hoe, Array.getElem?_eq_getElem hoe, fun x hx hb => ?_⟩
        have := hdag i0 he _ (Array.getElem?_eq_getElem hoe) x hx hb
        rw [getD_set_ne false (by omega)]
        exact hothers x.on (by omega) (by omega)
      have hfin : wpAny P md ops Q ((ops.size - (i + 1)) + 1) (listed.setIfInBounds i true) a' w' := by
        refine ⟨fun h => (by rw [h] at hin0; cases hin0), fun j hj => ?_⟩
        have hj0 := hrd j hj
        subst hj0
        have hw2 : wpOp P ops Q j (wpList P ops Q (ops.toList.drop (i + 1))) a' w' := by unfold wpOp; simp only [Array.getElem?_eq_getElem hoe]; exact h'
        refine wpOp_mono (fun a2 w2 h2 => ?_) hw2
        have hall : (listed.setIfInBounds i true).setIfInBounds j true = (Array.replicate (i + 1) true) ++ Array.replicate (ops.size - (i + 1)) false := by
          apply Array.ext_getElem?
          intro k
          have hk0 : k < i → k ≠ j → listed[k]? = some true := fun h1 h2 => by
            have := hothers k h1 h2
            have hks : k < listed.size := by omega
            simp [hks] at this
            rw [Array.getElem?_eq_getElem hks, this]
          have hk1 : i < k → k < ops.size → listed[k]? = some false := fun h1 h2 => by
            have := inv.tail k (by omega) h2
            have hks : k < listed.size := by omega
            simp [hks] at this
            rw [Array.getElem?_eq_getElem hks, this]
          have hk2 : ops.size ≤ k → listed[k]? = none := fun h => Array.getElem?_eq_none (by omega)
          simp only [Array.getElem?_setIfInBounds, Array.getElem?_append, Array.getElem?_replicate, Array.size_replicate, Array.size_setIfInBounds, hsz]
          by_cases c1 : j = k
          · rw [if_pos c1, if_pos (by omega), if_pos (by omega), if_pos (by omega)]
          rw [if_neg c1]
          by_cases c2 : i = k
          · rw [if_pos c2, if_pos (by omega), if_pos (by omega), if_pos (by omega)]
          rw [if_neg c2]
          by_cases c3 : k < i
          · rw [hk0 c3 (fun h => c1 h.symm), if_pos (by omega), if_pos (by omega)]
          rw [if_neg (by omega)]
          by_cases c4 : k < ops.size
          · rw [hk1 (by omega) c4, if_pos (by omega)]
          rw [hk2 (by omega), if_neg (by omega)]
        rw [hall]
        have hl : (ops.toList.drop (i + 1)).length = ops.size - (i + 1) := by simp
        have h3 := wpAny_of_seq (md := md) (Q' := Q) (ops.toList.drop (i + 1)) (i + 1) ((Array.replicate (i + 1) true) ++ Array.replicate (ops.size - (i + 1)) false) a2 w2
          (fun j => by rw [List.getElem?_drop]; simp) (by rw [hl]; exact hq2) h2
        rw [hl] at h3
        exact h3
      exact more_fuel hfin (by omega)
    exfalso
    have h1 := hd2 (i - (n + 1)) (by omega)
    rw [show n + 1 + (i - (n + 1)) = i by omega] at h1
    have h2 := onB_ready h1.1 hi
    have := inv.tail n (Nat.le_refl _) hn
    rw [getD_tf (by omega) h2] at this
    cases this
theorem wp_region_grow3 {id : Nat} {Q : Exit → Act → World → Prop} {w : World} {l : List Oper} (n e : Nat) (ds : Nat → Bool) (base : List Value) (D : List Deferred) (Ψ : Nat → Value → World → Prop) (isA : Nat → Bool) (F : (Nat → Value) → Array Value) (hF : ∀ f, fill2 ds base f = F f) (he : e < n)
    (hm : P.follows .mixedOrders = true) (hB : late3B .any l.toArray n e = true) (hdag : dagB .any l.toArray n = true) (hdst : dst2B l n ds = true) (hap : apartB l n = true)
    (stab : ∀ j v w w', Ψ j v w → Below w.heap.size w w' → Ψ j v w')
    (steps : Steps2 P l F D w Ψ isA 0 (l.take n))
    (done : ∀ f w', Below w.heap.size w w' → (∀ j o d, j < n → l[j]? = some o → o.dst = some d → Ψ j (f d) w') → wpList P l.toArray Q (l.drop n) ⟨F f, D⟩ w')
    (late : ∀ f w', Below w.heap.size w w' → (∀ j o d, j < n → j ≠ e → l[j]? = some o → o.dst = some d → Ψ j (f d) w') → ∀ on oe, l[n]? = some on → l[e]? = some oe → wpList P l.toArray Q (on :: oe :: l.drop (n + 1)) ⟨F f, D⟩ w') :
    (Code.region id l.toArray true).wp P Q ⟨base.toArray, D⟩ w := by
  refine wp_region_any hm ?_
  have hn : n < l.toArray.size := by
    simp only [late3B, Bool.and_eq_true, decide_eq_true_eq] at hB
    exact hB.1.1.1.1
  have hnl : n < l.length := by simpa using hn
  have hds : ∀ j o, j < n → l[j]? = some o → ∃ d, o.dst = some d ∧ ds d = true := by
    intro j o hj ho
    have h1 := List.all_eq_true.1 hdst o (List.mem_iff_getElem?.2 ⟨j, by rw [List.getElem?_take_of_lt hj]; exact ho⟩)
    cases hd : o.dst with
    | none => rw [hd] at h1; cases h1
    | some d =>
      rw [hd] at h1
      exact ⟨d, rfl, h1⟩
  have hne : ∀ i j oi oj d, i < n → j < n → i ≠ j → l[i]? = some oi → l[j]? = some oj → oi.dst = some d → oj.dst ≠ some d := by
    intro i j oi oj d hi' hj hij hoi hoj hd hd'
    have h1 := List.all_eq_true.1 (List.all_eq_true.1 hap i (List.mem_range.2 hi')) j (List.mem_range.2 hj)
    simp only [Bool.or_eq_true, decide_eq_true_eq, hoi, hoj, Option.bind_some, hd, hd'] at h1
    rcases h1 with h1 | h1
    · exact hij h1
    exact h1 rfl
  let J : Array Bool → Act → World → Prop := fun listed a w' => ∃ f, a = ⟨F f, D⟩ ∧ Below w.heap.size w w' ∧ (∀ j o d, j < n → l[j]? = some o → o.dst = some d → listed.getD j false = true → Ψ j (f d) w')
  have key := wpAny_inv3 (P := P) (md := .any) (Q := Q) he hB J (fun i hin listed a w1 inv hi' hJ => by
      obtain ⟨f, rfl, hb, hΨ⟩ := hJ
      obtain ⟨_, o, ho, hall⟩ := mem_ready.1 hi'
      have ho' : l[i]? = some o := by simpa using ho
      obtain ⟨d, hd, hds'⟩ := hds i o hin ho'
      have hst := steps2_at (l.take n) 0 i o steps (by rw [List.getElem?_take_of_lt hin]; exact ho')
      rw [Nat.zero_add] at hst
      have h1 := hst f w1 hb (deps_of _ fun e he hbd oe de hoe hde => by
          have hlt := dagB_spec hdag i hin o ho e (by simpa using he) hbd
          exact hΨ e.on oe de (by omega) hoe hde (hall e (by simpa using he) hbd))
        (fun x a' w' => match x with | .normal => J (listed.setIfInBounds i true) a' w' | y => Q y a' w')
        (fun v w' hv hw' hnew => by
          refine ⟨upd f d v, ?_, hb.trans (hw'.mono hb.size), fun j oj dj hj hoj hdj hl => ?_⟩
          · simp only [Act.put, hd]
            rw [← hF, ← hF, fill2_set v hds']
          by_cases e : i = j
          · subst e
            have : oj = o := Option.some.inj (hoj.symm.trans ho')
            subst this
            have : dj = d := Option.some.inj (hdj.symm.trans hd)
            subst this
            simpa [upd] using hv
          have hdne : dj ≠ d := fun h => hne i j o oj d hin hj e ho' hoj hd (by rw [hdj, h])
          have : upd f d v dj = f dj := by simp [upd, hdne]
          rw [this]
          rw [getD_set_ne false e] at hl
          exact stab j _ _ _ (hΨ j oj dj hj hoj hdj hl) hw')
      unfold wpOp
      simp only [ho]
      unfold wpList at h1
      split
      · rename_i hw
        rw [if_pos hw] at h1
        rcases h1 with h1 | ⟨h1, h2⟩
        · exact .inl (Oper.wp_to (fun a w h => h) (fun c a w h => h) (fun h => h) h1)
        exact .inr ⟨h1, h2⟩
      rename_i hw
      rw [if_neg hw] at h1
      exact h1)
    (fun i hin o ho e he hb => dagB_spec hdag i hin o ho e he hb)
    (fun a w' hJ => by
      obtain ⟨f, rfl, hb, hΨ⟩ := hJ
      have hl : ∀ j, j < n → (Array.replicate n true ++ Array.replicate (l.toArray.size - n) false).getD j false = true := by
       intro j hj
       have e : (Array.replicate n true ++ Array.replicate (l.toArray.size - n) false)[j]? = some true := by
         rw [Array.getElem?_append_left (by simpa using hj)]
         simp [hj]
       simp only [Array.getD_eq_getD_getElem?, e, Option.getD_some]
      exact done f w' hb (fun j o d hj ho hd => hΨ j o d hj ho hd (hl j hj)))
    (fun listed a w' hl hJ on oe hon hoe => by
      obtain ⟨f, rfl, hb, hΨ⟩ := hJ
      exact late f w' hb (fun j o d hj hje ho hd => hΨ j o d hj ho hd (hl j hj hje)) on oe (by simpa using hon) (by simpa using hoe))
    (left n (Array.replicate l.toArray.size false)) (Array.replicate l.toArray.size false) ⟨base.toArray, D⟩ { w with drawn := w.drawn + 1 } rfl
    ⟨by simp, fun j oj _ hl => (by rw [getD_replicate_false] at hl; cases hl), fun t _ ht => getD_in (by simpa using ht) (getD_replicate_false _ _)⟩
    ⟨fun k => base.getD k undef, by
        have := fill2L_id ds (fun k => base.getD k undef) base 0 (fun j b hb => by simp [hb])
        rw [← hF]; simp only [fill2, this], (Below.refl _ _).drew, (fun j o d _ _ _ hl => by rw [getD_replicate_false] at hl; cases hl)⟩
  refine more_fuel key ?_
  have : left n (Array.replicate l.toArray.size false) ≤ n := by
    unfold left
    exact Nat.le_trans (List.length_filter_le _ _) (by simp)
  omega
end
end Go.Proofs.YtnopjabcdloepaaGreatDoor
