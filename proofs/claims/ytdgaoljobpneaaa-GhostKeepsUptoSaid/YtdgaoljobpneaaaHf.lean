/- A ghost's books: what they hold; texts as keys. -/
import Derived.Test.YtdgaoljobpneaaaHe
import Derived.Maps.Own
import Derived.Maps.OwnSet
import Derived.Maps.OwnOps
namespace Go.Proofs.Ytdgaoljobpneaaa
open Go.RowKit
def recT (r : RecD) : List Int := txtL r.k r.cl r.sq r.n r.ds r.gone r.vs
def rootT (r : RootD) : List Int := rootTL r.r r.h r.q r.sum
theorem br_app {xs ys : List Int} (h1 : BR xs) (h2 : BR ys) : BR (xs ++ ys) := fun x hx => (List.mem_append.1 hx).elim (h1 x) (h2 x)
theorem br_nil : BR [] := fun x hx => by cases hx
theorem br_num (n : Int) : BR (numL n) := fun x hx => by
  obtain ⟨j, _, rfl⟩ := List.mem_map.1 hx
  unfold nb
  omega
theorem br_flat {l : List (List Int)} (h : ∀ x ∈ l, BR x) : BR l.flatten := fun x hx => by
  obtain ⟨y, hy, hxy⟩ := List.mem_flatten.1 hx
  exact h y hy x hxy
theorem br_key (k : ByteArray) : BR (keyL k) := fun x hx => by
  obtain ⟨b, _, rfl⟩ := List.mem_map.1 hx
  have := b.toNat_lt
  omega
theorem br_len {xs : List Int} (h : BR xs) : BR (lenL xs) := br_app (br_num _) h
theorem br_one (x : Int) (h : 0 ≤ x ∧ x < 256) : BR [x] := fun y hy => by
  obtain rfl : y = x := by simpa using hy
  exact h
theorem br_q (k : ByteArray) (cl sq : Int) (n1 : Nat) (ds : List Int) : ∀ m, ∀ x ∈ qL k cl sq n1 ds m, BR x
  | 0 => fun x hx => by
    simp only [qL, List.mem_cons, List.not_mem_nil, or_false] at hx
    rcases hx with rfl | rfl | rfl | rfl | rfl
    · exact br_one 1 (by decide)
    · exact br_len (br_key k)
    · exact br_num _
    · exact br_num _
    · exact br_num _
  | m + 1 => fun x hx => by
    simp only [qL, List.mem_append, List.mem_cons, List.not_mem_nil, or_false] at hx
    rcases hx with hx | rfl | rfl
    · exact br_q k cl sq n1 ds m x hx
    · exact br_num _
    · exact br_num _
theorem br_txt (k : ByteArray) (cl sq : Int) (n : Nat) (ds : List Int) (gone : Bool) (vs : List Int) (h : BR vs) : BR (txtL k cl sq n ds gone vs) := by
  unfold txtL
  split
  · refine br_flat fun x hx => ?_
    rcases List.mem_append.1 hx with hx | hx
    · exact br_q k cl sq n ds n x hx
    · simp only [List.mem_cons, List.not_mem_nil, or_false] at hx
      rcases hx with rfl | rfl
      · exact br_one _ (by unfold goneI; split <;> decide)
      · exact br_len h
  · exact br_nil
theorem br_rec {r : RecD} (h : r.ok) : BR (recT r) := br_txt _ _ _ _ _ _ _ h.2.2.2.1
theorem br_root {r : RootD} (h : r.ok) : BR (rootT r) := by
  unfold rootT rootTL
  split
  · refine br_flat fun x hx => ?_
    simp only [List.mem_cons, List.not_mem_nil, or_false] at hx
    rcases hx with rfl | rfl | rfl
    · exact br_one 2 (by decide)
    · refine br_flat fun y hy => ?_
      obtain ⟨a, _, rfl⟩ := List.mem_map.1 hy
      exact br_num _
    · exact h.2.2.1
  · exact br_nil
theorem rec_len (r : RecD) (h : r.ok) : (recT r).length ≤ 2000000 := by
  unfold recT txtL
  split
  · rename_i hs
    have := shB_true hs
    unfold textL
    rw [List.flatten_append, List.length_append, qL_flat]
    have h1 := h.1
    simp only [List.flatten_cons, List.flatten_nil, List.append_nil, List.length_append, List.length_cons, List.length_nil, lenL, numL_len]
    omega
  · simp
theorem root_len (r : RootD) (h : r.ok) : (rootT r).length ≤ 2000000 := by
  unfold rootT rootTL
  split
  · unfold rtxL
    have := numsL_len [r.r, r.h, r.q] 3
    have h1 := h.1
    simp only [List.flatten_cons, List.flatten_nil, List.append_nil, List.length_append, List.length_cons, List.length_nil]
    omega
  · simp
/-- a text as a key -/
def klit (xs : List Int) : Lit := .string (strOfNums xs).data.toList
theorem klit_inj {xs ys : List Int} (hx : BR xs) (hy : BR ys) (h : klit xs = klit ys) : xs = ys := by
  injection h with h
  rw [strOfNums_data, strOfNums_data] at h
  have hl : xs.length = ys.length := by simpa using congrArg List.length h
  refine List.ext_getElem hl fun i h1 h2 => ?_
  have h3 : (xs.map fun n => UInt8.ofNat n.toNat)[i]? = (ys.map fun n => UInt8.ofNat n.toNat)[i]? := by rw [h]
  rw [List.getElem?_map, List.getElem?_map, List.getElem?_eq_getElem h1, List.getElem?_eq_getElem h2] at h3
  have h4 : UInt8.ofNat xs[i].toNat = UInt8.ofNat ys[i].toNat := by simpa using h3
  have h5 := congrArg UInt8.toNat h4
  have a1 := hx xs[i] (List.getElem_mem h1)
  have a2 := hy ys[i] (List.getElem_mem h2)
  simp only [UInt8.toNat_ofNat'] at h5
  omega
theorem law : Maps.Keyed Try.prog 9 := Maps.string_keyed str_under
theorem klit_key (xs : List Int) (h : xs.length ≤ 2000000) : keyOf Try.prog 9 (.string (strOfNums xs)) = some (klit xs) := WideMaps.keyOf_string_mk str_under (by rw [strOfNums_size]; unfold maxLen; omega)
theorem conv_str (w : World) (p : Option Addr) (n c : Nat) (xs : List Int) (hn : n = xs.length) (h : BytesL w p xs) : (convert 23 9 (.slice p n c)).run Try.prog w = .ok (.string (strOfNums xs)) w := by
  rcases Nat.eq_zero_or_pos xs.length with h0 | h0
  · have : xs = [] := List.eq_nil_of_length_eq_zero h0
    subst this
    subst hn
    cases p with
    | none => exact run_convert_bytes_nil w 23 5 bs_under u8_under 0 c 9 str_under
    | some a => exact run_convert_bytes_back w 23 9 5 a c [] bs_under u8_under str_under (fun j hj => absurd hj (by simp))
  · obtain ⟨g, o, rfl, _, hc⟩ := h h0
    exact run_convert_bytes_arg w 23 5 bs_under u8_under g o n c xs hn.symm (fun i hi => hc i (by omega)) 9 str_under
/-- is there one of that text? -/
def hasT {α : Type} (T : α → List Int) (L : List α) (t : List Int) : Bool := L.any fun r => decide (T r = t)
/-- what put adds -/
def putT {α : Type} (T : α → List Int) (L : List α) (x : α) : List α := if T x = [] ∨ hasT T L (T x) = true then L else L ++ [x]
def putsT {α : Type} (T : α → List Int) (L : List α) (l : List α) : List α := l.foldl (putT T) L
/-- a row of things, each of cells of its own -/
def RowsO {α : Type} (O : Nat → World → Value → α → List Nat → Prop) (B : Nat) (w : World) (vs : List Value) (L : List α) (bls : List (List Nat)) : Prop :=
  vs.length = L.length ∧ bls.length = L.length ∧ ∀ (i : Nat) (v : Value) (r : α) (bl : List Nat), vs[i]? = some v → L[i]? = some r → bls[i]? = some bl → O B w v r bl
def cellsV (v : Value) : List Value := match v with | .agg cs => cs.toList | _ => []
/-- a book: the row lv, the map mb, the things L; S: what may turn -/
def Book {α : Type} (O : Nat → World → Value → α → List Nat → Prop) (T : α → List Int) (ok : α → Prop) (ty : TypeId) (k : Nat) (B : Nat) (w : World) (S : List Nat) (lv : Value) (mb : Nat) (L : List α) : Prop :=
  ∃ vs bls D, w.ownsRow B ty k lv L.length (vs.flatMap cellsV) ∧ RowsO O B w vs L bls ∧ (∀ g, g ∈ bls.flatten → g ∉ S) ∧ (∀ g, lv.ownBlock = some g → g ∈ S) ∧
    w.ownsMap (H := Unit) Try.prog 9 (plainElem Try.prog 3) mb L.length D ∧ mb ∈ S ∧ (∀ xs, BR xs → Maps.has D (klit xs) = hasT T L xs) ∧ ∀ r, r ∈ L → ok r ∧ T r ≠ []
theorem hasT_nil {α : Type} {T : α → List Int} {L : List α} (h : ∀ r, r ∈ L → T r ≠ []) : hasT T L [] = false := by
  unfold hasT
  rw [List.any_eq_false]
  intro r hr
  simpa using h r hr
end Go.Proofs.Ytdgaoljobpneaaa
