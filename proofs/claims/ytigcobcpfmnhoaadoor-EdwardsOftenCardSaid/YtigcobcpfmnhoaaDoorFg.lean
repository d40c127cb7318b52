/- The walk of field.Get. -/
import Derived.Test.YtigcobcpfmnhoaaDoorFu
namespace Fe
/-- bit m of bytes -/
def bbit (b : Nat → Int) (m : Nat) : Int := b (m / 8) / 2 ^ (m % 8) % 2
/-- limb i after k rounds -/
def gl (b : Nat → Int) : Nat → Nat → Int
  | 0, _ => 0
  | k + 1, i => if i = k / 51 then gl b k i + bbit b k * 2 ^ (k % 51) else gl b k i
theorem bbit_01 (b : Nat → Int) (m : Nat) : 0 ≤ bbit b m ∧ bbit b m ≤ 1 := by unfold bbit; omega
theorem gl_lt (b : Nat → Int) : ∀ k i, 0 ≤ gl b k i ∧ gl b k i < 2 ^ (min 51 (k - 51 * i))
  | 0, i => by simp [gl]
  | k + 1, i => by
    have ih := gl_lt b k i
    have hb := bbit_01 b k
    simp only [gl]
    split
    · rename_i h
      have e1 : min 51 (k - 51 * i) = k % 51 := by omega
      have e2 : min 51 (k + 1 - 51 * i) = k % 51 + 1 := by omega
      rw [e1] at ih
      rw [e2, Int.pow_succ]
      have h2 : (0 : Int) < 2 ^ (k % 51) := Int.pow_pos (by decide)
      generalize (2 : Int) ^ (k % 51) = q at *
      have : bbit b k = 0 ∨ bbit b k = 1 := by omega
      rcases this with h | h <;> rw [h] <;> omega
    have hle : (2 : Int) ^ (min 51 (k - 51 * i)) ≤ 2 ^ (min 51 (k + 1 - 51 * i)) := by
      have := Nat.pow_le_pow_right (n := 2) (by decide) (show min 51 (k - 51 * i) ≤ min 51 (k + 1 - 51 * i) by omega)
      exact_mod_cast this
    omega
def getE (b : Nat → Int) (k : Nat) : E := ⟨gl b k 0, gl b k 1, gl b k 2, gl b k 3, gl b k 4⟩
theorem getE_d (b : Nat → Int) (k : Nat) : D (getE b k) := by
  have h : ∀ i, 0 ≤ gl b k i ∧ gl b k i < 2251799813685248 := fun i => by
    have h1 := gl_lt b k i
    have h2 : (2 : Int) ^ (min 51 (k - 51 * i)) ≤ 2 ^ 51 := by
      have := Nat.pow_le_pow_right (n := 2) (by decide) (show min 51 (k - 51 * i) ≤ 51 by omega)
      exact_mod_cast this
    omega
  exact ⟨h 0, h 1, h 2, h 3, h 4⟩
theorem D.w {e : E} (h : D e) : W e := by simp only [D, W] at *; omega
end Fe
namespace Go.Proofs.YtigcobcpfmnhoaaDoor
open Go.RowKit

def ev (x : Fe.E) : Array Value := #[.int .u64 x.a0, .int .u64 x.a1, .int .u64 x.a2, .int .u64 x.a3, .int .u64 x.a4]
theorem getE_limb (b : Nat → Int) (k i : Nat) (h : i < 5) : Fe.limb (Fe.getE b k) i = Fe.gl b k i := by
  have : i = 0 ∨ i = 1 ∨ i = 2 ∨ i = 3 ∨ i = 4 := by omega
  rcases this with rfl | rfl | rfl | rfl | rfl <;> rfl
theorem getV_set (b : Nat → Int) (k : Nat) (h : k < 255) : (ev (Fe.getE b k)).setIfInBounds (k / 51) (.int .u64 (Fe.gl b k (k / 51) + Fe.bbit b k * 2 ^ (k % 51))) = ev (Fe.getE b (k + 1)) := by
  have : k / 51 = 0 ∨ k / 51 = 1 ∨ k / 51 = 2 ∨ k / 51 = 3 ∨ k / 51 = 4 := by omega
  rcases this with e | e | e | e | e <;> simp [ev, Fe.getE, Fe.gl, e]

theorem or_u64 (r : Nat) (h : r < 51) (b y : Int) (hb : b = 0 ∨ b = 1) (h0 : 0 ≤ y) (h1 : y < 2 ^ r) : bits .or .u64 y (b * 2 ^ r) = y + b * 2 ^ r := by
  have hc : ∀ x y, bits .or .u64 x y = bits .or .u64 y x := fun x y => by simp only [bits, BitVec.or_comm]
  have hr : (2 : Int) ^ r < 2 ^ 64 := by
    have := Nat.pow_lt_pow_right (a := 2) (by decide) (show r < 64 by omega)
    exact_mod_cast this
  have hr0 : (0 : Int) < 2 ^ r := Int.pow_pos (by decide)
  have hj := fun x (hx0 : 0 ≤ x) (hx : x % 2 ^ r = 0) (hx1 : x < 2 ^ 64) => bits_join .u64 64 (by decide) (fun n h h' => by rw [IntKind.wrap_u64]; omega) r x y hx0 hx hx1 h0 h1 (by omega)
  rcases hb with rfl | rfl
  · rw [hc, Int.zero_mul, hj 0 (by decide) (by simp) (by decide)]; omega
  rw [hc, Int.one_mul, hj _ (by omega) (by simp) hr]; omega

def GetI (b : Nat → Int) (k B : Nat) (w0 wr : World) : Prop := Blk wr (B + 1) 28 (ev (Fe.getE b k)) ∧ Blk wr B 28 #[.int .u64 0, .int .u64 0, .int .u64 0, .int .u64 0, .int .u64 0] ∧ Below B w0 wr

def getOk (b : Nat → Int) : Bool := !(b 31 / 128 == 1) && eqE (Fe.canon (Fe.getE b 255)) (Fe.getE b 255)

end Go.Proofs.YtigcobcpfmnhoaaDoor
