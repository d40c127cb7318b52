/- The walks of scalar.scalars and MulAdd (three of 32 bytes): a product and a sum modulo the order. -/
import Derived.Test.YtigcobcpfmnhoaaDoorSe
import Derived.Test.YtigcobcpfmnhoaaDoorMb
namespace Sc
open Go.Proofs.YtigcobcpfmnhoaaDoor
def upd1 (F : Nat → Int) (j : Nat) (x : Int) : Nat → Int := fun i => if i = j then F i + x else F i
theorem leV_congr {f g : Nat → Int} : ∀ n, (∀ j, j < n → f j = g j) → leV f n = leV g n
  | 0, _ => rfl
  | n + 1, h => by rw [leV, leV, leV_congr n (fun j hj => h j (by omega)), h n (by omega)]
theorem leV_upd1 (F : Nat → Int) (j : Nat) (x : Int) : ∀ n, j < n → leV (upd1 F j x) n = leV F n + 256 ^ j * x
  | 0, h => by omega
  | n + 1, h => by
    rw [leV, leV]
    by_cases e : j = n
    · subst e
      rw [leV_congr j (g := F) (fun i hi => by unfold upd1; rw [if_neg (by omega)])]
      unfold upd1
      rw [if_pos rfl, Int.mul_add]
      omega
    · rw [leV_upd1 F j x n (by omega)]
      have : upd1 F j x n = F n := by unfold upd1; rw [if_neg (by omega)]
      rw [this]
      omega
theorem leV_zero : ∀ n, leV (fun _ => 0) n = 0
  | 0 => rfl
  | n + 1 => by rw [leV, leV_zero n]; simp
theorem leV_succ (b : Nat → Int) (n : Nat) : leV b (n + 1) = leV b n + 256 ^ n * b n := rfl
/-- a product's row, q of its products made -/
def rowI (x : Int) (b : Nat → Int) (i : Nat) (F : Nat → Int) : Nat → Nat → Int
  | 0 => F
  | q + 1 => upd1 (rowI x b i F q) (i + q) (x * b q)
def tabI (a b c : Nat → Int) : Nat → Nat → Int
  | 0 => fun _ => 0
  | i + 1 => rowI (a i) b i (upd1 (tabI a b c i) i (c i)) 32
def Byt (b : Nat → Int) : Prop := ∀ j, 0 ≤ b j ∧ b j < 256
theorem mul_bd {x y : Int} (hx : 0 ≤ x ∧ x < 256) (hy : 0 ≤ y ∧ y < 256) : 0 ≤ x * y ∧ x * y ≤ 65025 := by
  refine ⟨Int.mul_nonneg hx.1 hy.1, ?_⟩
  have h1 : x * y ≤ 255 * y := Int.mul_le_mul_of_nonneg_right (by omega) hy.1
  omega
theorem rowI_bd {x : Int} {b : Nat → Int} (hx : 0 ≤ x ∧ x < 256) (hb : Byt b) {i : Nat} {F : Nat → Int} {M : Int} (hF : ∀ j, 0 ≤ F j ∧ F j ≤ M) : ∀ q j, 0 ≤ rowI x b i F q j ∧ rowI x b i F q j ≤ M + (if j < i + q then 65025 else 0)
  | 0, j => by
    have := hF j
    show 0 ≤ F j ∧ F j ≤ _
    split <;> omega
  | q + 1, j => by
    have ih := rowI_bd (i := i) hx hb hF q j
    have hm := mul_bd hx (hb q)
    unfold rowI upd1
    by_cases e : j = i + q
    · subst e
      rw [if_pos rfl, if_pos (by omega)]
      rw [if_neg (by omega)] at ih
      omega
    · rw [if_neg e]
      by_cases h : j < i + q
      · rw [if_pos h] at ih
        rw [if_pos (by omega)]
        exact ih
      · rw [if_neg h] at ih
        rw [if_neg (by omega)]
        exact ih
theorem tabI_bd {a b c : Nat → Int} (ha : Byt a) (hb : Byt b) (hc : Byt c) : ∀ i j, 0 ≤ tabI a b c i j ∧ tabI a b c i j ≤ 65280 * i
  | 0, j => by simp [tabI]
  | i + 1, j => by
    have h1 : ∀ j, 0 ≤ upd1 (tabI a b c i) i (c i) j ∧ upd1 (tabI a b c i) i (c i) j ≤ 65280 * i + 255 := fun j => by
      have ih := tabI_bd ha hb hc i j
      have := hc i
      unfold upd1
      split <;> omega
    have h2 := rowI_bd (i := i) (ha i) hb h1 32 j
    show 0 ≤ rowI (a i) b i (upd1 (tabI a b c i) i (c i)) 32 j ∧ rowI (a i) b i (upd1 (tabI a b c i) i (c i)) 32 j ≤ _
    split at h2 <;> omega
theorem rowI_val (x : Int) (b : Nat → Int) (i : Nat) (F : Nat → Int) : ∀ q, i + q ≤ 66 → leV (rowI x b i F q) 66 = leV F 66 + 256 ^ i * (x * leV b q)
  | 0, _ => by simp [rowI, leV]
  | q + 1, h => by
    rw [rowI, leV_upd1 _ _ _ 66 (by omega), rowI_val x b i F q (by omega), leV_succ b q, Int.mul_add, Int.mul_add, Int.pow_add]
    have : (256 : Int) ^ i * 256 ^ q * (x * b q) = 256 ^ i * (x * (256 ^ q * b q)) := by
      rw [Int.mul_assoc, ← Int.mul_assoc (256 ^ q) x (b q), Int.mul_comm (256 ^ q) x, Int.mul_assoc x]
    omega
theorem tabI_val (a b c : Nat → Int) : ∀ i, i ≤ 32 → leV (tabI a b c i) 66 = leV a i * leV b 32 + leV c i
  | 0, _ => by
    show leV (fun _ => 0) 66 = _
    rw [leV_zero]
    simp [leV]
  | i + 1, h => by
    rw [tabI, rowI_val _ _ _ _ 32 (by omega), leV_upd1 _ _ _ 66 (by omega), tabI_val a b c i (by omega), leV_succ a i, leV_succ c i, Int.add_mul, Int.mul_assoc (256 ^ i)]
    omega
/-- the carries, and the bytes -/
def cryI (t : Nat → Int) : Nat → Int
  | 0 => 0
  | i + 1 => (cryI t i + t i) / 256
def outI (t : Nat → Int) (i : Nat) : Int := (cryI t i + t i) % 256
theorem cryI_bd {t : Nat → Int} (h : ∀ j, 0 ≤ t j ∧ t j ≤ 2088960) : ∀ i, 0 ≤ cryI t i ∧ cryI t i ≤ 10000
  | 0 => by simp [cryI]
  | i + 1 => by
    have ih := cryI_bd h i
    have := h i
    unfold cryI
    omega
theorem outI_val (t : Nat → Int) : ∀ n, leV (outI t) n + 256 ^ n * cryI t n = leV t n
  | 0 => by simp [leV, cryI]
  | n + 1 => by
    have ih := outI_val t n
    rw [leV_succ, leV_succ, cryI, Int.pow_succ, Int.mul_assoc]
    have h1 : outI t n + 256 * ((cryI t n + t n) / 256) = cryI t n + t n := by unfold outI; omega
    have h2 : (256 : Int) ^ n * outI t n + 256 ^ n * (256 * ((cryI t n + t n) / 256)) = 256 ^ n * cryI t n + 256 ^ n * t n := by
      rw [← Int.mul_add, h1, Int.mul_add]
    omega
theorem outI_r (t : Nat → Int) : Byt (outI t) := fun j => by unfold outI; omega
theorem muladd_val {a b c : Nat → Int} (ha : Byt a) (hb : Byt b) (hc : Byt c) : leV (outI (tabI a b c 32)) 66 = leV a 32 * leV b 32 + leV c 32 := by
  have h1 := outI_val (tabI a b c 32) 66
  rw [tabI_val a b c 32 (by decide)] at h1
  have h2 := leV_bd ha 32
  have h3 := leV_bd hb 32
  have h4 := leV_bd hc 32
  have h5 := leV_bd (outI_r (tabI a b c 32)) 66
  have h6 := cryI_bd (t := tabI a b c 32) (fun j => by have := tabI_bd ha hb hc 32 j; omega) 66
  have h7 : leV a 32 * leV b 32 ≤ 256 ^ 32 * leV b 32 := Int.mul_le_mul_of_nonneg_right (by omega) h3.1
  have h8 : cryI (tabI a b c 32) 66 = 0 := by
    refine Classical.byContradiction fun hn => ?_
    have : 256 ^ 66 * 1 ≤ 256 ^ 66 * cryI (tabI a b c 32) 66 := Int.mul_le_mul_of_nonneg_left (by omega) (by decide)
    omega
  rw [h8] at h1
  omega
end Sc
namespace Go.Proofs.YtigcobcpfmnhoaaDoor
open Go.RowKit
/-- words in a block of n -/
def uL (n : Nat) (F : Nat → Int) : List Value := (List.range n).map fun j => .int .u64 (F j)
def RowU (w : World) (g n : Nat) (F : Nat → Int) : Prop := Blk w g 26 (uL n F).toArray
theorem RowU.lt {w : World} {g n : Nat} {F : Nat → Int} (h : RowU w g n F) : g < w.heap.size := Blk.lt h
theorem RowU.below {w w' : World} {g n : Nat} {F : Nat → Int} (h : RowU w g n F) (hb : Below w.heap.size w w') : RowU w' g n F := Blk.below h hb
theorem RowU.cell {w : World} {g n : Nat} {F : Nat → Int} (h : RowU w g n F) (j : Nat) (hj : j < n) : w.cell? ⟨g, j, none⟩ = some (.int .u64 (F j)) := by
  have := Blk.cell h j
  rw [this]
  simp [uL, hj]
theorem RowU.frozen {w : World} {g n : Nat} {F : Nat → Int} (h : RowU w g n F) (j : Nat) : w.frozen? ⟨g, j, none⟩ = false := Blk.frozen h j
theorem RowU.set_ {w : World} {g n : Nat} {F : Nat → Int} (h : RowU w g n F) (j : Nat) (x : Int) : RowU (w.setCell ⟨g, j, none⟩ (.int .u64 x)) g n (fun i => if i = j then x else F i) := by
  have h2 := Blk.set_ h j (.int .u64 x)
  unfold RowU
  have e : ((uL n F).toArray.setIfInBounds j (.int .u64 x)) = (uL n (fun i => if i = j then x else F i)).toArray := by
    apply Array.ext_getElem?
    intro i
    simp only [List.setIfInBounds_toArray, List.getElem?_toArray, List.getElem?_set, uL, List.length_map, List.length_range, List.getElem?_map]
    by_cases e : j = i
    · subst e
      by_cases h : j < n
      · simp [h]
      · simp [h]
    · rw [if_neg e]
      by_cases h : i < n
      · simp [h, Ne.symm e]
      · simp [h]
  rw [e] at h2
  exact h2
theorem RowU.congr {w : World} {g n : Nat} {F F' : Nat → Int} (h : RowU w g n F) (he : ∀ i, i < n → F i = F' i) : RowU w g n F' := by
  have e : uL n F = uL n F' := List.map_congr_left fun i hi => by rw [he i (List.mem_range.1 hi)]
  unfold RowU at *
  rw [← e]
  exact h
set_option maxRecDepth 20000 in
set_option maxHeartbeats 2000000 in
theorem len32_c (p : Option Addr) (c : Nat) (w : World) : Calls Tryd.prog 63 #[.slice p 32 c] w fun e w' => e = .returned (.bool false) ∧ w = w' := by
  go_enter Tryd.func63, Tryd.ntmps63
  go_wp2
  go_returns
  exact ⟨rfl, rfl⟩
set_option maxRecDepth 20000 in
set_option maxHeartbeats 2000000 in
theorem scalars_c (p1 p2 p3 : Option Addr) (c1 c2 c3 g : Nat) (w : World) (hR : Blk w g 22 #[.slice p1 32 c1, .slice p2 32 c2, .slice p3 32 c3]) : Calls Tryd.prog 33 #[.slice (some ⟨g, 0, none⟩) 3 3] w fun e w' => e = .returned (.bool true) ∧ w = w' := by
  have c0 := hR.cell 0
  have c1 := hR.cell 1
  have c2 := hR.cell 2
  simp only [List.getElem?_toArray, List.getElem?_cons_zero, List.getElem?_cons_succ] at c0 c1 c2
  have hI : Calls Tryd.prog 81 #[.slice (some ⟨g, 0, none⟩) 3 3, .func (.func 63) #[] #[]] w fun e w' => e = .returned (.int .i64 (-1)) ∧ w = w' := by
    go_enter Tryd.func81, Tryd.ntmps81
    go_wp2
    refine wp_loop_rounds 4 ?_
    rw [rounds_succ]
    go_wp2_with (refine (len32_c _ _ _).mono ?_; rintro e w1 ⟨rfl, rfl⟩)
    rw [rounds_succ]
    go_wp2_with (refine (len32_c _ _ _).mono ?_; rintro e w1 ⟨rfl, rfl⟩)
    rw [rounds_succ]
    go_wp2_with (refine (len32_c _ _ _).mono ?_; rintro e w1 ⟨rfl, rfl⟩)
    rw [rounds_succ]
    go_wp2
    go_returns
    exact ⟨rfl, rfl⟩
  replace hI := Lib.hid hI
  have hC : Calls Tryd.prog 62 #[.slice (some ⟨g, 0, none⟩) 3 3, .func (.func 63) #[] #[]] w fun e w' => e = .returned (.bool false) ∧ w = w' := by
    go_enter Tryd.func62, Tryd.ntmps62
    go_wp2_with (refine hI.out.mono ?_; rintro e w1 ⟨rfl, rfl⟩)
    go_returns
    exact ⟨rfl, rfl⟩
  replace hC := Lib.hid hC
  go_enter Tryd.func33, Tryd.ntmps33
  go_wp2_with (refine hC.out.mono ?_; rintro e w1 ⟨rfl, rfl⟩)
  go_returns
  exact ⟨rfl, rfl⟩
end Go.Proofs.YtigcobcpfmnhoaaDoor
