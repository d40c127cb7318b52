/- The walk of field.Get. -/
import Derived.Test.YtpaldgajkhmhbaaDoorFu
namespace Fe
/-- bit m of bytes -/
def bbit (b : Nat → Int) (m : Nat) : Int := b (m / 8) / 2 ^ (m % 8) % 2
/-- limb i after k rounds -/
def gl (b : Nat → Int) : Nat → Nat → Int
  | 0, _ => 0
  | k + 1, i => if i = k / 51 then gl b k i + bbit b k * 2 ^ (k % 51) else gl b k i
theorem bbit_01 (b : Nat → Int) (m : Nat) : 0 ≤ bbit b m ∧ bbit b m ≤ 1 := by unfold bbit; omega
theorem gl_lt (b : Nat → Int) : ∀ k i, 0 ≤ gl b k i ∧ gl b k i < 2 ^ (min 51 (k - 51 * i))
  | 0, i => by simp [gl]
  | k + 1, i => by
    have ih := gl_lt b k i
    have hb := bbit_01 b k
    simp only [gl]
    split
    · rename_i h
      have e1 : min 51 (k - 51 * i) = k % 51 := by omega
      have e2 : min 51 (k + 1 - 51 * i) = k % 51 + 1 := by omega
      rw [e1] at ih
      rw [e2, Int.pow_succ]
      have h2 : (0 : Int) < 2 ^ (k % 51) := Int.pow_pos (by decide)
      generalize (2 : Int) ^ (k % 51) = q at *
      have : bbit b k = 0 ∨ bbit b k = 1 := by omega
      rcases this with h | h <;> rw [h] <;> omega
    · have hle : (2 : Int) ^ (min 51 (k - 51 * i)) ≤ 2 ^ (min 51 (k + 1 - 51 * i)) := by
        have := Nat.pow_le_pow_right (n := 2) (by decide) (show min 51 (k - 51 * i) ≤ min 51 (k + 1 - 51 * i) by omega)
        exact_mod_cast this
      omega
def getE (b : Nat → Int) (k : Nat) : E := ⟨gl b k 0, gl b k 1, gl b k 2, gl b k 3, gl b k 4⟩
theorem getE_d (b : Nat → Int) (k : Nat) : D (getE b k) := by
  have h : ∀ i, 0 ≤ gl b k i ∧ gl b k i < 2251799813685248 := fun i => by
    have h1 := gl_lt b k i
    have h2 : (2 : Int) ^ (min 51 (k - 51 * i)) ≤ 2 ^ 51 := by
      have := Nat.pow_le_pow_right (n := 2) (by decide) (show min 51 (k - 51 * i) ≤ 51 by omega)
      exact_mod_cast this
    omega
  exact ⟨h 0, h 1, h 2, h 3, h 4⟩
theorem D.w {e : E} (h : D e) : W e := by simp only [D, W] at *; omega
end Fe
namespace Go.Proofs.YtpaldgajkhmhbaaDoor
open Go.RowKit

def ev (x : Fe.E) : Array Value := #[.int .u64 x.a0, .int .u64 x.a1, .int .u64 x.a2, .int .u64 x.a3, .int .u64 x.a4]
theorem getE_limb (b : Nat → Int) (k i : Nat) (h : i < 5) : Fe.limb (Fe.getE b k) i = Fe.gl b k i := by
  have : i = 0 ∨ i = 1 ∨ i = 2 ∨ i = 3 ∨ i = 4 := by omega
  rcases this with rfl | rfl | rfl | rfl | rfl <;> rfl
theorem getV_set (b : Nat → Int) (k : Nat) (h : k < 255) : (ev (Fe.getE b k)).setIfInBounds (k / 51) (.int .u64 (Fe.gl b k (k / 51) + Fe.bbit b k * 2 ^ (k % 51))) = ev (Fe.getE b (k + 1)) := by
  have : k / 51 = 0 ∨ k / 51 = 1 ∨ k / 51 = 2 ∨ k / 51 = 3 ∨ k / 51 = 4 := by omega
  rcases this with e | e | e | e | e <;> simp [ev, Fe.getE, Fe.gl, e]

theorem or_u64 (r : Nat) (h : r < 51) (b y : Int) (hb : b = 0 ∨ b = 1) (h0 : 0 ≤ y) (h1 : y < 2 ^ r) : bits .or .u64 y (b * 2 ^ r) = y + b * 2 ^ r := by
  have hc : ∀ x y, bits .or .u64 x y = bits .or .u64 y x := fun x y => by simp only [bits, BitVec.or_comm]
  have hr : (2 : Int) ^ r < 2 ^ 64 := by
    have := Nat.pow_lt_pow_right (a := 2) (by decide) (show r < 64 by omega)
    exact_mod_cast this
  have hr0 : (0 : Int) < 2 ^ r := Int.pow_pos (by decide)
  have hj := fun x (hx0 : 0 ≤ x) (hx : x % 2 ^ r = 0) (hx1 : x < 2 ^ 64) => bits_join .u64 64 (by decide) (fun n h h' => by rw [IntKind.wrap_u64]; omega) r x y hx0 hx hx1 h0 h1 (by omega)
  rcases hb with rfl | rfl
  · rw [hc, Int.zero_mul, hj 0 (by decide) (by simp) (by decide)]; omega
  · rw [hc, Int.one_mul, hj _ (by omega) (by simp) hr]; omega

def GetI (b : Nat → Int) (k B : Nat) (w0 wr : World) : Prop := Blk wr (B + 1) 27 (ev (Fe.getE b k)) ∧ Blk wr B 27 #[.int .u64 0, .int .u64 0, .int .u64 0, .int .u64 0, .int .u64 0] ∧ Below B w0 wr

def getOk (b : Nat → Int) : Bool := !(b 31 / 128 == 1) && eqE (Fe.canon (Fe.getE b 255)) (Fe.getE b 255)

def getTL (g o : Nat) (b : Nat → Int) : List (Value → World → Prop) := [
  Eq1 (.slice (some ⟨g, o, none⟩) 32 32),
  Eq1 (.pointer (some ⟨g, o + 31, none⟩)),
  Eq1 (.int .u8 (b 31)),
  Eq1 (.int .u8 (b 31 / 128)),
  Eq1 (.bool true),
  Eq1 (.bool true),
  Eq1 (undef),
  Eq1 (undef),
  Eq1 (undef),
  Eq1 (undef),
  Eq1 (.bool true)]
theorem getTS (g o : Nat) (b : Nat → Int) : ∀ j x' q q', (getTL g o b).getD j (fun _ _ => True) x' q → Below q.heap.size q q' → (getTL g o b).getD j (fun _ _ => True) x' q' := by
  refine sta_all _ ?_
  simp only [getTL, List.mem_cons, forall_eq_or_imp, List.not_mem_nil, false_implies, implies_true, and_true]
  exact ⟨sta_eq _, sta_eq _, sta_eq _, sta_eq _, sta_eq _, sta_eq _, sta_eq _, sta_eq _, sta_eq _, sta_eq _, sta_eq _⟩
def getNL (g o : Nat) (b : Nat → Int) (y : Fe.E) : List (Value → World → Prop) := [
  Eq1 (.slice (some ⟨g, o, none⟩) 32 32),
  Eq1 (.pointer (some ⟨g, o + 31, none⟩)),
  Eq1 (.int .u8 (b 31)),
  Eq1 (.int .u8 (b 31 / 128)),
  Eq1 (.bool false),
  Eq1 (.bool false),
  Eq1 (.agg #[.int .u64 y.a0, .int .u64 y.a1, .int .u64 y.a2, .int .u64 y.a3, .int .u64 y.a4]),
  Eq1 (.agg #[.int .u64 (Fe.canon y).a0, .int .u64 (Fe.canon y).a1, .int .u64 (Fe.canon y).a2, .int .u64 (Fe.canon y).a3, .int .u64 (Fe.canon y).a4]),
  Eq1 (.agg #[.int .u64 y.a0, .int .u64 y.a1, .int .u64 y.a2, .int .u64 y.a3, .int .u64 y.a4]),
  Eq1 (.bool (!eqE (Fe.canon y) y)),
  Eq1 (.bool (!eqE (Fe.canon y) y))]
theorem getNS (g o : Nat) (b : Nat → Int) (y : Fe.E) : ∀ j x' q q', (getNL g o b y).getD j (fun _ _ => True) x' q → Below q.heap.size q q' → (getNL g o b y).getD j (fun _ _ => True) x' q' := by
  refine sta_all _ ?_
  simp only [getNL, List.mem_cons, forall_eq_or_imp, List.not_mem_nil, false_implies, implies_true, and_true]
  exact ⟨sta_eq _, sta_eq _, sta_eq _, sta_eq _, sta_eq _, sta_eq _, sta_eq _, sta_eq _, sta_eq _, sta_eq _, sta_eq _⟩
set_option maxRecDepth 20000 in
set_option maxHeartbeats 1000000 in
theorem get_E (b : Nat → Int) (g o : Nat) (w : World) (hB : ∀ j, j < 32 → w.cell? ⟨g, o + j, none⟩ = some (.int .u8 (b j))) (hr : ∀ j, 0 ≤ b j ∧ b j < 256) (hg : g < w.heap.size) (x : Fe.E) (ok : Bool) (hok : ok = getOk b) (hx : x = if ok = true then Fe.getE b 255 else ⟨0, 0, 0, 0, 0⟩) :
    Calls Tryd.prog 57 #[.slice (some ⟨g, o, none⟩) 32 32] w fun e w' => e = .returned (.tuple #[.agg #[.int .u64 x.a0, .int .u64 x.a1, .int .u64 x.a2, .int .u64 x.a3, .int .u64 x.a4], .bool ok]) ∧ Below w.heap.size w w' := by
  replace hx := Lib.hid hx
  replace hok := Lib.hid hok
  have hne := run_neq_E (Fe.canon (Fe.getE b 255)) (Fe.getE b 255)
  have hwy := (Fe.getE_d b 255).w
  go_enter Tryd.func57, Tryd.ntmps57
  go_wp2
  go_loopw [10] (fun i wr => ∃ m : Nat, m ≤ 255 ∧ i = .int .i64 m ∧ GetI b m w.heap.size w wr) (fun i _ => (255 - intOf i).toNat)
  case atStart => exact ⟨0, by decide, rfl, blk_at (by simp) (Blk.new _ _ _), (Blk.new _ _ _).alloc _, by go_grown⟩
  case round =>
    obtain ⟨m, hm, hi, hI⟩ := hrel
    subst hi
    have hBB : ∀ j, j < 32 → wr.cell? ⟨g, o + j, none⟩ = some (.int .u8 (b j)) := fun j hj => (hI.2.2.cell (p := ⟨g, o + j, none⟩) hg).trans (hB j hj)
    by_cases h255 : m = 255
    · subst h255
      obtain ⟨hA, hG, hb0⟩ := hI
      have c31 := hBB 31 (by decide)
      have h31 := hr 31
      have hglt : g < wr.heap.size := Nat.lt_of_lt_of_le hg hb0.size
      have hA : Blk wr (w.heap.size + 1) 27 #[.int .u64 (Fe.getE b 255).a0, .int .u64 (Fe.getE b 255).a1, .int .u64 (Fe.getE b 255).a2, .int .u64 (Fe.getE b 255).a3, .int .u64 (Fe.getE b 255).a4] := hA
      have hok : ok = (!(b 31 / 128 == 1) && eqE (Fe.canon (Fe.getE b 255)) (Fe.getE b 255)) := hok.out
      replace hx := hx.out
      generalize Fe.getE b 255 = y at *
      replace hok := Lib.hid hok
      replace hx := Lib.hid hx
      clear hm hB hBB hr
      go_wp2
      have htop : b 31 / 128 = 1 ∨ b 31 / 128 = 0 := by omega
      clear h31
      rcases htop with htop | htop
      · replace htop := Lib.hid htop
        have hok' : ok = false := by rw [hok.out, htop.out]; rfl
        subst hok'
        have hx' : x = ⟨0, 0, 0, 0, 0⟩ := hx.out
        subst hx'
        clear hx hok
        refine wp_region_grow2 11 (fun k => (Nat.ble 33 k && Nat.ble k 43)) _ [] (fun j x' q => (getTL g o b).getD j (fun _ _ => True) x' q) (fun _ => false) (fun f => #[.slice (some ⟨g, o, none⟩) 32 32, undef, .pointer (some ⟨w.heap.size, 0, none⟩), .bool false, .pointer (some ⟨w.heap.size + 1, 0, none⟩), u5, .slice (some ⟨g, o, none⟩) 32 32, .int .i64 32, .bool false, undef, .int .i64 (255 : Nat), .bool false, u12, u13, u14, u15, u16, u17, u18, u19, u20, u21, u22, u23, u24, u25, u26, u27, u28, u29, u30, u31, u32, f 33, f 34, f 35, f 36, f 37, f 38, f 39, f 40, f 41, f 42, f 43, undef, undef]) (fun f => rfl) (by kernel_rfl) (by kernel_rfl) (by kernel_rfl) (by kernel_rfl) (by kernel_rfl) (getTS _ _ _) (fun _ _ _ h => by cases h) ?_ ?_
        · refine steps2_cons ?_ ?_
          · intro f w1 hb hd Q hK
            clear hd
            have hK := Lib.hid hK
            go_wp2
            exact hK.out _ _ rfl (Below.refl _ _) (fun h => by cases h)
          refine steps2_cons ?_ ?_
          · intro f w1 hb hd Q hK
            have e33 : f 33 = .slice (some ⟨g, o, none⟩) 32 32 := hd.1 rfl
            clear hd
            simp only [e33] at hK
            have hK := Lib.hid hK
            go_wp2
            exact hK.out _ _ rfl (Below.refl _ _) (fun h => by cases h)
          refine steps2_cons ?_ ?_
          · intro f w1 hb hd Q hK
            have e34 : f 34 = .pointer (some ⟨g, o + 31, none⟩) := hd.1 rfl
            clear hd
            simp only [e34] at hK
            have hK := Lib.hid hK
            have c0 := (hb.cell (p := ⟨g, o + 31, none⟩) hglt).trans c31
            go_wp2
            exact hK.out _ _ rfl (Below.refl _ _) (fun h => by cases h)
          refine steps2_cons ?_ ?_
          · intro f w1 hb hd Q hK
            have e35 : f 35 = .int .u8 (b 31) := hd.1 rfl
            clear hd
            simp only [e35] at hK
            have hK := Lib.hid hK
            go_wp2
            exact hK.out _ _ rfl (Below.refl _ _) (fun h => by cases h)
          refine steps2_cons ?_ ?_
          · intro f w1 hb hd Q hK
            have e36 : f 36 = .int .u8 (b 31 / 128) := hd.1 rfl
            clear hd
            simp only [e36] at hK
            have hK := Lib.hid hK
            go_wp2
            exact hK.out _ _ (by show Value.bool _ = _; rw [htop.out]; rfl) (Below.refl _ _) (fun h => by cases h)
          refine steps2_cons ?_ ?_
          · intro f w1 hb hd Q hK
            have e37 : f 37 = .bool true := hd.1 rfl
            clear hd
            simp only [e37] at hK
            have hK := Lib.hid hK
            go_wp2
            exact hK.out _ _ rfl (Below.refl _ _) (fun h => by cases h)
          refine steps2_cons ?_ ?_
          · intro f w1 hb hd Q hK
            have e38 : f 38 = .bool true := hd.1 rfl
            clear hd
            simp only [e38] at hK
            have hK := Lib.hid hK
            go_wp2
            exact hK.out _ _ rfl (Below.refl _ _) (fun h => by cases h)
          refine steps2_cons ?_ ?_
          · intro f w1 hb hd Q hK
            have e39 : f 39 = undef := hd.1 rfl
            have e38 : f 38 = .bool true := hd.2.1 rfl
            clear hd
            simp only [e39, e38] at hK
            have hK := Lib.hid hK
            go_wp2
            exact hK.out _ _ rfl (Below.refl _ _) (fun h => by cases h)
          refine steps2_cons ?_ ?_
          · intro f w1 hb hd Q hK
            have e38 : f 38 = .bool true := hd.1 rfl
            clear hd
            simp only [e38] at hK
            have hK := Lib.hid hK
            go_wp2
            exact hK.out _ _ rfl (Below.refl _ _) (fun h => by cases h)
          refine steps2_cons ?_ ?_
          · intro f w1 hb hd Q hK
            have e40 : f 40 = undef := hd.1 rfl
            have e41 : f 41 = undef := hd.2.1 rfl
            have e38 : f 38 = .bool true := hd.2.2.1 rfl
            clear hd
            simp only [e40, e41, e38] at hK
            have hK := Lib.hid hK
            go_wp2
            exact hK.out _ _ rfl (Below.refl _ _) (fun h => by cases h)
          refine steps2_cons ?_ ?_
          · intro f w1 hb hd Q hK
            have e38 : f 38 = .bool true := hd.1 rfl
            have e42 : f 42 = undef := hd.2.1 rfl
            clear hd
            simp only [e38, e42] at hK
            have hK := Lib.hid hK
            go_wp2
            exact hK.out _ _ rfl (Below.refl _ _) (fun h => by cases h)
          trivial
        · intro f w1 hb hf hne
          refine wpList_nil ?_
          have d43 : f 43 = .bool true := hf 10 _ _ (by decide) rfl rfl
          clear hf hne
          simp only [d43]
          obtain ⟨c0, c1, c2, c3, c4⟩ := blk5 (hA.below hb)
          have hG1 := hG.below hb
          have fz := fun j => hG1.frozen j
          obtain ⟨z0, z1, z2, z3, z4⟩ := blk5 hG1
          go_wp2
          refine bodyPost_ret (v := .tuple #[.agg #[.int .u64 0, .int .u64 0, .int .u64 0, .int .u64 0, .int .u64 0], .bool false]) (by simp [results, Tryd.results57, go_sem, z0, z1, z2, z3, z4]) rfl ?_
          refine ⟨rfl, ?_⟩
          clear c0 c1 c2 c3 c4 z0 z1 z2 z3 z4 fz
          go_grown
          exact hb0.trans (hb.mono hb0.size)
      · replace htop := Lib.hid htop
        refine wp_region_grow2 11 (fun k => (Nat.ble 33 k && Nat.ble k 43)) _ [] (fun j x' q => (getNL g o b y).getD j (fun _ _ => True) x' q) (fun _ => false) (fun f => #[.slice (some ⟨g, o, none⟩) 32 32, undef, .pointer (some ⟨w.heap.size, 0, none⟩), .bool false, .pointer (some ⟨w.heap.size + 1, 0, none⟩), u5, .slice (some ⟨g, o, none⟩) 32 32, .int .i64 32, .bool false, undef, .int .i64 (255 : Nat), .bool false, u12, u13, u14, u15, u16, u17, u18, u19, u20, u21, u22, u23, u24, u25, u26, u27, u28, u29, u30, u31, u32, f 33, f 34, f 35, f 36, f 37, f 38, f 39, f 40, f 41, f 42, f 43, undef, undef]) (fun f => rfl) (by kernel_rfl) (by kernel_rfl) (by kernel_rfl) (by kernel_rfl) (by kernel_rfl) (getNS _ _ _ _) (fun _ _ _ h => by cases h) ?_ ?_
        · refine steps2_cons ?_ ?_
          · intro f w1 hb hd Q hK
            clear hd
            have hK := Lib.hid hK
            go_wp2
            exact hK.out _ _ rfl (Below.refl _ _) (fun h => by cases h)
          refine steps2_cons ?_ ?_
          · intro f w1 hb hd Q hK
            have e33 : f 33 = .slice (some ⟨g, o, none⟩) 32 32 := hd.1 rfl
            clear hd
            simp only [e33] at hK
            have hK := Lib.hid hK
            go_wp2
            exact hK.out _ _ rfl (Below.refl _ _) (fun h => by cases h)
          refine steps2_cons ?_ ?_
          · intro f w1 hb hd Q hK
            have e34 : f 34 = .pointer (some ⟨g, o + 31, none⟩) := hd.1 rfl
            clear hd
            simp only [e34] at hK
            have hK := Lib.hid hK
            have c0 := (hb.cell (p := ⟨g, o + 31, none⟩) hglt).trans c31
            go_wp2
            exact hK.out _ _ rfl (Below.refl _ _) (fun h => by cases h)
          refine steps2_cons ?_ ?_
          · intro f w1 hb hd Q hK
            have e35 : f 35 = .int .u8 (b 31) := hd.1 rfl
            clear hd
            simp only [e35] at hK
            have hK := Lib.hid hK
            go_wp2
            exact hK.out _ _ rfl (Below.refl _ _) (fun h => by cases h)
          refine steps2_cons ?_ ?_
          · intro f w1 hb hd Q hK
            have e36 : f 36 = .int .u8 (b 31 / 128) := hd.1 rfl
            clear hd
            simp only [e36] at hK
            have hK := Lib.hid hK
            go_wp2
            exact hK.out _ _ (by show Value.bool _ = _; rw [htop.out]; rfl) (Below.refl _ _) (fun h => by cases h)
          refine steps2_cons ?_ ?_
          · intro f w1 hb hd Q hK
            have e37 : f 37 = .bool false := hd.1 rfl
            clear hd
            simp only [e37] at hK
            have hK := Lib.hid hK
            go_wp2
            exact hK.out _ _ rfl (Below.refl _ _) (fun h => by cases h)
          refine steps2_cons ?_ ?_
          · intro f w1 hb hd Q hK
            have e38 : f 38 = .bool false := hd.1 rfl
            clear hd
            simp only [e38] at hK
            have hK := Lib.hid hK
            obtain ⟨c0, c1, c2, c3, c4⟩ := blk5 (hA.below hb)
            go_wp2
            exact hK.out _ _ rfl (Below.refl _ _) (fun h => by cases h)
          refine steps2_cons ?_ ?_
          · intro f w1 hb hd Q hK
            have e39 : f 39 = .agg #[.int .u64 y.a0, .int .u64 y.a1, .int .u64 y.a2, .int .u64 y.a3, .int .u64 y.a4] := hd.1 rfl
            have e38 : f 38 = .bool false := hd.2.1 rfl
            clear hd
            simp only [e39, e38] at hK
            have hK := Lib.hid hK
            go_wp2_with fail
            refine ((canonical_E y hwy) _).mono ?_
            rintro e w2 ⟨rfl, hb2⟩
            go_wp2
            exact hK.out _ _ rfl hb2 (fun h => by cases h)
          refine steps2_cons ?_ ?_
          · intro f w1 hb hd Q hK
            have e38 : f 38 = .bool false := hd.1 rfl
            clear hd
            simp only [e38] at hK
            have hK := Lib.hid hK
            obtain ⟨c0, c1, c2, c3, c4⟩ := blk5 (hA.below hb)
            go_wp2
            exact hK.out _ _ rfl (Below.refl _ _) (fun h => by cases h)
          refine steps2_cons ?_ ?_
          · intro f w1 hb hd Q hK
            have e40 : f 40 = .agg #[.int .u64 (Fe.canon y).a0, .int .u64 (Fe.canon y).a1, .int .u64 (Fe.canon y).a2, .int .u64 (Fe.canon y).a3, .int .u64 (Fe.canon y).a4] := hd.1 rfl
            have e41 : f 41 = .agg #[.int .u64 y.a0, .int .u64 y.a1, .int .u64 y.a2, .int .u64 y.a3, .int .u64 y.a4] := hd.2.1 rfl
            have e38 : f 38 = .bool false := hd.2.2.1 rfl
            clear hd
            simp only [e40, e41, e38] at hK
            have hK := Lib.hid hK
            go_wp2
            exact hK.out _ _ rfl (Below.refl _ _) (fun h => by cases h)
          refine steps2_cons ?_ ?_
          · intro f w1 hb hd Q hK
            have e38 : f 38 = .bool false := hd.1 rfl
            have e42 : f 42 = .bool (!eqE (Fe.canon y) y) := hd.2.1 rfl
            clear hd
            simp only [e38, e42] at hK
            have hK := Lib.hid hK
            go_wp2
            exact hK.out _ _ rfl (Below.refl _ _) (fun h => by cases h)
          trivial
        · intro f w1 hb hf hne
          refine wpList_nil ?_
          have d43 : f 43 = .bool (!eqE (Fe.canon y) y) := hf 10 _ _ (by decide) rfl rfl
          clear hf hne
          simp only [d43]
          obtain ⟨c0, c1, c2, c3, c4⟩ := blk5 (hA.below hb)
          have hG1 := hG.below hb
          have fz := fun j => hG1.frozen j
          obtain ⟨z0, z1, z2, z3, z4⟩ := blk5 hG1
          have hok' : ok = eqE (Fe.canon y) y := by rw [hok.out, htop.out]; rfl
          rcases Bool.eq_false_or_eq_true (eqE (Fe.canon y) y) with he | he
          · rw [he] at hok' ⊢
            subst hok'
            have hx' : x = y := hx.out
            subst hx'
            clear hx hok
            go_wp2
            refine bodyPost_ret (v := .tuple #[.agg #[.int .u64 x.a0, .int .u64 x.a1, .int .u64 x.a2, .int .u64 x.a3, .int .u64 x.a4], .bool true]) (by simp [results, Tryd.results57, go_sem, z0, z1, z2, z3, z4]) rfl ?_
            refine ⟨rfl, ?_⟩
            clear c0 c1 c2 c3 c4 z0 z1 z2 z3 z4 fz
            go_grown
            exact hb0.trans (hb.mono hb0.size)
          · rw [he] at hok' ⊢
            subst hok'
            have hx' : x = ⟨0, 0, 0, 0, 0⟩ := hx.out
            subst hx'
            clear hx hok
            go_wp2
            refine bodyPost_ret (v := .tuple #[.agg #[.int .u64 0, .int .u64 0, .int .u64 0, .int .u64 0, .int .u64 0], .bool false]) (by simp [results, Tryd.results57, go_sem, z0, z1, z2, z3, z4]) rfl ?_
            refine ⟨rfl, ?_⟩
            clear c0 c1 c2 c3 c4 z0 z1 z2 z3 z4 fz
            go_grown
            exact hb0.trans (hb.mono hb0.size)
    · have hm0 : (0 : Int) ≤ (m : Int) := by omega
      have hm1 : (m : Int) < 255 := by omega
      clear hm
      obtain ⟨hA, hG, hb0⟩ := hI
      have ca := hA.cell (m / 51)
      rw [show (ev (Fe.getE b m))[m / 51]? = _ from limb_get _ (m / 51) (by omega), getE_limb _ _ _ (by omega)] at ca
      have cg := hBB (m / 8) (by omega)
      have hrm := hr (m / 8)
      have fg := fun j => hA.frozen j
      clear hB hBB h255
      go_wp2
      go_region
      have hand : bits .and .u8 (b (m / 8) / 2 ^ (m % 8)) 1 = Fe.bbit b m := by
        have h2 : (0 : Int) < 2 ^ (m % 8) := Int.pow_pos (by decide)
        have h3 : 0 ≤ b (m / 8) / 2 ^ (m % 8) := Int.ediv_nonneg hrm.1 (by omega)
        have h4 : b (m / 8) / 2 ^ (m % 8) ≤ b (m / 8) := Int.ediv_le_self _ hrm.1
        exact bits_mask .u8 8 (by decide) wraps_u8 1 (by decide) _ h3 (by omega)
      have hb01 := Fe.bbit_01 b m
      have hw1 : IntKind.u64.wrap (Fe.bbit b m) = Fe.bbit b m := by rw [IntKind.wrap_u64]; omega
      have hb2 : Fe.bbit b m = 0 ∨ Fe.bbit b m = 1 := by omega
      have hw2 : IntKind.u64.wrap (Fe.bbit b m * 2 ^ (m % 51)) = Fe.bbit b m * 2 ^ (m % 51) := by
        have h2 : (0 : Int) < 2 ^ (m % 51) := Int.pow_pos (by decide)
        have h3 : (2 : Int) ^ (m % 51) < 2 ^ 64 := by
          have := Nat.pow_lt_pow_right (a := 2) (by decide) (show m % 51 < 64 by omega)
          exact_mod_cast this
        rw [IntKind.wrap_u64]
        rcases hb2 with h | h <;> rw [h] <;> omega
      have hgl := Fe.gl_lt b m (m / 51)
      rw [show min 51 (m - 51 * (m / 51)) = m % 51 by omega] at hgl
      rw [hand, hw1, hw2, or_u64 (m % 51) (by omega) _ _ hb2 hgl.1 hgl.2]
      have hA' := hA.set_ (m / 51) (.int .u64 (Fe.gl b m (m / 51) + Fe.bbit b m * 2 ^ (m % 51)))
      have hG' := hG.far (p := ⟨w.heap.size + 1, m / 51, none⟩) (by simp) (.int .u64 (Fe.gl b m (m / 51) + Fe.bbit b m * 2 ^ (m % 51)))
      rw [getV_set b m (by omega)] at hA'
      have hb' := hb0.setCell (p := ⟨w.heap.size + 1, m / 51, none⟩) (by simp) (.int .u64 (Fe.gl b m (m / 51) + Fe.bbit b m * 2 ^ (m % 51)))
      clear ca cg fg hA hG hb0 hand hb01 hw1 hb2 hw2 hgl hrm
      go_wp2
      exact ⟨⟨m + 1, by omega, rfl, hA'.drew, hG'.drew, hb'.drew⟩, by simp [intOf]; omega⟩
end Go.Proofs.YtpaldgajkhmhbaaDoor
