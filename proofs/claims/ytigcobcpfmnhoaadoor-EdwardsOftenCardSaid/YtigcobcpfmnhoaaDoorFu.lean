/- The walk of field.Put. -/
import Derived.Test.YtigcobcpfmnhoaaDoorFq
namespace Fe
def limb (x : E) : Nat → Int
  | 0 => x.a0
  | 1 => x.a1
  | 2 => x.a2
  | 3 => x.a3
  | _ => x.a4
/-- bit m of an element of digits -/
def bit (x : E) (m : Nat) : Int := limb x (m / 51) / 2 ^ (m % 51) % 2
/-- byte j after k rounds -/
def pb (x : E) : Nat → Nat → Int
  | 0, _ => 0
  | k + 1, j => if j = k / 8 then pb x k j + bit x k * 2 ^ (k % 8) else pb x k j
theorem bit_01 (x : E) (m : Nat) : 0 ≤ bit x m ∧ bit x m ≤ 1 := by unfold bit; omega
theorem pb_lt (x : E) : ∀ k j, 0 ≤ pb x k j ∧ pb x k j < 2 ^ (min 8 (k - 8 * j))
  | 0, j => by simp [pb]
  | k + 1, j => by
    have ih := pb_lt x k j
    have hb := bit_01 x k
    simp only [pb]
    split
    · rename_i h
      have e1 : min 8 (k - 8 * j) = k % 8 := by omega
      have e2 : min 8 (k + 1 - 8 * j) = k % 8 + 1 := by omega
      rw [e1] at ih
      rw [e2, Int.pow_succ]
      have h2 : (0 : Int) < 2 ^ (k % 8) := Int.pow_pos (by decide)
      generalize (2 : Int) ^ (k % 8) = q at *
      have : bit x k = 0 ∨ bit x k = 1 := by omega
      rcases this with h | h <;> rw [h] <;> omega
    have hle : (2 : Int) ^ (min 8 (k - 8 * j)) ≤ 2 ^ (min 8 (k + 1 - 8 * j)) := by
      have := Nat.pow_le_pow_right (n := 2) (by decide) (show min 8 (k - 8 * j) ≤ min 8 (k + 1 - 8 * j) by omega)
      exact_mod_cast this
    omega
end Fe
namespace Go.Proofs.YtigcobcpfmnhoaaDoor
open Go.RowKit

def putV (x : Fe.E) (k : Nat) : Array Value := ((List.range 32).map fun j => Value.int .u8 (Fe.pb x k j)).toArray
theorem putV_get (x : Fe.E) (k j : Nat) (h : j < 32) : (putV x k)[j]? = some (.int .u8 (Fe.pb x k j)) := by
  simp [putV, h]
theorem putV_set (x : Fe.E) (k : Nat) : (putV x k).setIfInBounds (k / 8) (.int .u8 (Fe.pb x k (k / 8) + Fe.bit x k * 2 ^ (k % 8))) = putV x (k + 1) := by
  apply Array.ext_getElem?
  intro j
  by_cases hj : j < 32
  · rw [putV_get x (k + 1) j hj]
    by_cases e : k / 8 = j
    · subst e
      simp [putV, Fe.pb, hj]
    have e' : ¬ j = k / 8 := fun h => e h.symm
    simp [putV, Fe.pb, hj, e, e']
  have h1 : (putV x (k + 1))[j]? = none := by simp [putV]; omega
  rw [h1]
  simp [putV]; omega
theorem limb_get (x : Fe.E) (i : Nat) (h : i < 5) : (#[Value.int .u64 x.a0, .int .u64 x.a1, .int .u64 x.a2, .int .u64 x.a3, .int .u64 x.a4] : Array Value)[i]? = some (.int .u64 (Fe.limb x i)) := by
  have : i = 0 ∨ i = 1 ∨ i = 2 ∨ i = 3 ∨ i = 4 := by omega
  rcases this with rfl | rfl | rfl | rfl | rfl <;> rfl

theorem and1_u64 (y : Int) (h0 : 0 ≤ y) (h1 : y < 18446744073709551616) : bits .and .u64 y 1 = y % 2 :=
  bits_mask .u64 64 (by decide) (fun n h h' => by rw [IntKind.wrap_u64]; omega) 1 (by decide) y h0 (by omega)
theorem pow8 (r : Nat) (h : r < 8) : r = 0 ∨ r = 1 ∨ r = 2 ∨ r = 3 ∨ r = 4 ∨ r = 5 ∨ r = 6 ∨ r = 7 := by omega
theorem or_u8 (r : Nat) (h : r < 8) (b y : Int) (hb : b = 0 ∨ b = 1) (h0 : 0 ≤ y) (h1 : y < 2 ^ r) : bits .or .u8 y (b % 256 * 2 ^ r % 256) = y + b * 2 ^ r := by
  have hc : ∀ x y, bits .or .u8 x y = bits .or .u8 y x := fun x y => by simp only [bits, BitVec.or_comm]
  have hj := fun x (hx0 : 0 ≤ x) (hx : x % 2 ^ r = 0) (hx1 : x < 2 ^ 8) (hy : y < 2 ^ 8) => bits_join .u8 8 (by decide) wraps_u8 r x y hx0 hx hx1 h0 h1 hy
  rcases hb with rfl | rfl <;> rcases pow8 r h with rfl | rfl | rfl | rfl | rfl | rfl | rfl | rfl <;> simp only [Int.reducePow] at * <;> rw [hc, hj _ (by decide) (by decide) (by decide) (by omega)] <;> omega
theorem limb_w {x : Fe.E} (h : Fe.W x) (i : Nat) : 0 ≤ Fe.limb x i ∧ Fe.limb x i < 18446744073709551616 := by
  simp only [Fe.W] at h
  unfold Fe.limb
  split <;> omega
theorem putbit {x : Fe.E} (h : Fe.W x) (m : Nat) : bits .or .u8 (Fe.pb x m (m / 8)) (bits .and .u64 (Fe.limb x (m / 51) / 2 ^ (m % 51)) 1 % 256 * 2 ^ (m % 8) % 256) = Fe.pb x m (m / 8) + Fe.bit x m * 2 ^ (m % 8) := by
  have hl := limb_w h (m / 51)
  have h2 : (0 : Int) < 2 ^ (m % 51) := Int.pow_pos (by decide)
  have hq0 : 0 ≤ Fe.limb x (m / 51) / 2 ^ (m % 51) := Int.ediv_nonneg hl.1 (by omega)
  have hq1 : Fe.limb x (m / 51) / 2 ^ (m % 51) ≤ Fe.limb x (m / 51) := Int.ediv_le_self _ hl.1
  rw [and1_u64 _ hq0 (by omega)]
  have hp := Fe.pb_lt x m (m / 8)
  rw [show min 8 (m - 8 * (m / 8)) = m % 8 by omega] at hp
  have hb := Fe.bit_01 x m
  exact or_u8 (m % 8) (by omega) _ _ (by unfold Fe.bit at hb; omega) hp.1 hp.2

def PutI (x : Fe.E) (k g B : Nat) (w0 wr : World) : Prop := Blk wr B 28 #[.int .u64 x.a0, .int .u64 x.a1, .int .u64 x.a2, .int .u64 x.a3, .int .u64 x.a4] ∧ Blk wr g 5 (putV x k) ∧ Below B w0 wr ∧ B < g

set_option maxRecDepth 20000 in
set_option maxHeartbeats 1000000 in
theorem put_E (a : Fe.E) (hw : Fe.W a) (hd : Fe.W (Fe.canon a)) (w : World) :
    Calls Tryd.prog 50 #[.agg #[.int .u64 a.a0, .int .u64 a.a1, .int .u64 a.a2, .int .u64 a.a3, .int .u64 a.a4]] w fun e w' => ∃ g, w.heap.size ≤ g ∧ e = .returned (.slice (some ⟨g, 0, none⟩) 32 32) ∧ Blk w' g 5 (putV (Fe.canon a) 255) ∧ Below w.heap.size w w' := by
  have hp := canonical_E a hw
  have hmk : ∀ w, (Instr.makeSlice 22 (.int .i64 32) (.int .i64 32)).run Tryd.prog w = .ok (.slice (some ⟨w.heap.size, 0, none⟩) 32 32) (w.alloc (.cells (List.replicate 32 (.int .u8 0)).toArray 5)) := fun _ => by kernel_rfl
  generalize Fe.canon a = x at hp hd ⊢
  go_enter Tryd.func50, Tryd.ntmps50
  go_wp2_with fail
  refine (hp _).mono ?_
  rintro e w1 ⟨rfl, hb⟩
  have hA0 := (Blk.new w 28 #[.int .u64 a.a0, .int .u64 a.a1, .int .u64 a.a2, .int .u64 a.a3, .int .u64 a.a4]).below hb
  have hA1 := set5_same hA0 x
  have hB1 := set5_below ((Below.refl w.heap.size w).alloc (Nat.le_refl _) _ |>.trans (hb.mono (by simp))) (Nat.le_refl _) x
  have hc := blk5 hA0
  have hf := fun j => hA0.frozen j
  go_wp2
  refine at_world (fun W0 hW => ?_)
  have hI0 : ∃ g, g = (set5 w1 w.heap.size x).heap.size ∧ PutI x 0 g w.heap.size w W0 := by
    refine ⟨_, rfl, ?_⟩
    rw [hW]
    exact ⟨hA1.alloc _, Blk.new _ _ _, hB1.alloc (Nat.le_of_lt hA1.lt) _, hA1.lt⟩
  obtain ⟨g, hgg, hI0⟩ := hI0
  have hg : w1.heap.size = g := by rw [hgg]; simp [set5, World.setCell]
  rw [hg]
  clear hA0 hA1 hB1 hc hf hW hg hgg hb
  go_loopw [8] (fun i wr => ∃ m : Nat, m ≤ 255 ∧ i = .int .i64 m ∧ PutI x m g w.heap.size w wr) (fun i _ => (255 - intOf i).toNat)
  case atStart => exact ⟨0, by decide, rfl, hI0⟩
  case round =>
    obtain ⟨m, hm, hi, hI⟩ := hrel
    subst hi
    by_cases h255 : m = 255
    · subst h255
      go_wp2
      go_returns
      exact ⟨g, (Nat.le_of_lt hI.2.2.2), rfl, hI.2.1, hI.2.2.1⟩
    have hm0 : (0 : Int) ≤ (m : Int) := by omega
    have hm1 : (m : Int) < 255 := by omega
    clear hm h255
    obtain ⟨hA, hG, hb0, hlt⟩ := hI
    have ca := hA.cell (m / 51)
    rw [limb_get x (m / 51) (by omega)] at ca
    have cg := hG.cell (m / 8)
    rw [putV_get x m (m / 8) (by omega)] at cg
    have fg := fun j => hG.frozen j
    go_wp2
    go_region
    rw [putbit hd m]
    have hA' := hA.far (p := ⟨g, m / 8, none⟩) (by simp; omega) (.int .u8 (Fe.pb x m (m / 8) + Fe.bit x m * 2 ^ (m % 8)))
    have hG' := hG.set_ (m / 8) (.int .u8 (Fe.pb x m (m / 8) + Fe.bit x m * 2 ^ (m % 8)))
    rw [putV_set] at hG'
    have hb' := hb0.setCell (p := ⟨g, m / 8, none⟩) (by simp; omega) (.int .u8 (Fe.pb x m (m / 8) + Fe.bit x m * 2 ^ (m % 8)))
    clear ca cg fg hA hG hb0
    go_wp2
    exact ⟨⟨m + 1, by omega, rfl, hA'.drew, hG'.drew, hb'.drew, hlt⟩, by simp [intOf]; omega⟩
end Go.Proofs.YtigcobcpfmnhoaaDoor
