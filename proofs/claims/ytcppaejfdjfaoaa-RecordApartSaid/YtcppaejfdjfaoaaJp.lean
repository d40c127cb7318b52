/- A record's text says its parts: plain. -/
import Derived.Test.YtcppaejfdjfaoaaJg
import Derived.Laws.Strings
namespace Go.Proofs.Ytcppaejfdjfaoaa
theorem toList_data (k : ByteArray) : k.toList = k.data.toList := ByteArray.toList_eq k
theorem key_eq {k kb : ByteArray} (h : k.toList = kb.toList) : k = kb := by
  rw [toList_data, toList_data] at h
  cases k
  cases kb
  simp only [ByteArray.mk.injEq]
  exact Array.toList_inj.1 h
theorem keyL_inj {k kb : ByteArray} (h : keyL k = keyL kb) : k.toList = kb.toList := by
  rw [toList_data, toList_data]
  unfold keyL at h
  exact (List.map_inj_right (fun a b hab => by have : a.toNat = b.toNat := by exact_mod_cast hab
                                               exact UInt8.toNat_inj.1 this)).1 h
theorem numL_inj {n m : Int} (hn : 0 ≤ n ∧ n < 4611686018427387904) (hm : 0 ≤ m ∧ m < 4611686018427387904) (h : numL n = numL m) : n = m := by
  have hj : ∀ j, j < 8 → nb n j = nb m j := fun j hj => by rw [← numL_get n j hj, ← numL_get m j hj, h]
  have h0 := hj 0 (by decide)
  have h1 := hj 1 (by decide)
  have h2 := hj 2 (by decide)
  have h3 := hj 3 (by decide)
  have h4 := hj 4 (by decide)
  have h5 := hj 5 (by decide)
  have h6 := hj 6 (by decide)
  have h7 := hj 7 (by decide)
  simp only [nb, Nat.reduceSub, Nat.reduceMul, Int.reducePow, Int.ediv_one] at h0 h1 h2 h3 h4 h5 h6 h7
  clear hj h
  omega
def dtL (ds : List Int) : Nat → List Int
  | 0 => []
  | m + 1 => dtL ds m ++ (numL (dD ds (m * 2)) ++ numL (dD ds (m * 2 + 1)))
theorem dtL_len (ds : List Int) : ∀ m, (dtL ds m).length = 16 * m
  | 0 => rfl
  | m + 1 => by simp only [dtL, List.length_append, dtL_len ds m, numL_len]; omega
theorem qL_dt (k : ByteArray) (cl sq : Int) (n1 : Nat) (ds : List Int) : ∀ m, (qL k cl sq n1 ds m).flatten = [1] ++ (lenL (keyL k) ++ (numL cl ++ (numL sq ++ (numL (n1 : Nat) ++ dtL ds m))))
  | 0 => by simp [qL, dtL]
  | m + 1 => by simp [qL, dtL, qL_dt k cl sq n1 ds m]
theorem textL_eq (k : ByteArray) (cl sq : Int) (n1 : Nat) (ds : List Int) (gone : Bool) (vs : List Int) : textL k cl sq n1 ds gone vs = [1] ++ (numL (k.size : Nat) ++ (keyL k ++ (numL cl ++ (numL sq ++ (numL (n1 : Nat) ++ (dtL ds n1 ++ ([goneI gone] ++ lenL vs))))))) := by
  unfold textL
  rw [List.flatten_append, qL_dt]
  simp [lenL, keyL_len]
theorem dtL_inj {ds dsb : List Int} : ∀ m, (∀ i, i < 2 * m → 0 ≤ dD ds i ∧ dD ds i < 4611686018427387904) → (∀ i, i < 2 * m → 0 ≤ dD dsb i ∧ dD dsb i < 4611686018427387904) → dtL ds m = dtL dsb m → ∀ i, i < 2 * m → dD ds i = dD dsb i
  | 0, _, _, _, i, hi => by omega
  | m + 1, h1, h2, h, i, hi => by
    simp only [dtL] at h
    obtain ⟨h3, h4⟩ := List.append_inj h (by rw [dtL_len, dtL_len])
    obtain ⟨h5, h6⟩ := List.append_inj h4 (by rw [numL_len, numL_len])
    rcases Nat.lt_or_ge i (2 * m) with hlt | hge
    · exact dtL_inj m (fun j hj => h1 j (by omega)) (fun j hj => h2 j (by omega)) h3 i hlt
    · have : i = m * 2 ∨ i = m * 2 + 1 := by omega
      rcases this with rfl | rfl
      · exact numL_inj (h1 _ hi) (h2 _ hi) h5
      · exact numL_inj (h1 _ hi) (h2 _ hi) h6
theorem text_pos (k : ByteArray) (cl sq : Int) (n1 : Nat) (ds : List Int) (gone : Bool) (vs : List Int) : (textL k cl sq n1 ds gone vs).length ≠ 0 := by rw [textL_eq]; simp
/-- two records of right shape have the same text just if their parts are the same -/
theorem text_inj {k kb : ByteArray} {cl sq clb sqb : Int} {n1 nb1 : Nat} {ds dsb : List Int} {gone goneb : Bool} {vs vsb : List Int} (hl : ds.length = 2 * n1) (hlb : dsb.length = 2 * nb1) (hn : n1 ≤ 400000) (hnb : nb1 ≤ 400000)
    (h : shB k.size cl sq n1 ds gone vs.length = true) (hb : shB kb.size clb sqb nb1 dsb goneb vsb.length = true) :
    textL k cl sq n1 ds gone vs = textL kb clb sqb nb1 dsb goneb vsb ↔ k.toList = kb.toList ∧ cl = clb ∧ sq = sqb ∧ ds = dsb ∧ gone = goneb ∧ vs = vsb := by
  obtain ⟨a1, a2, a3, -, a5, -⟩ := shB_true h
  obtain ⟨b1, b2, b3, -, b5, -⟩ := shB_true hb
  constructor
  · intro ht
    rw [textL_eq, textL_eq] at ht
    have h1 := (List.append_inj ht rfl).2
    obtain ⟨h2, h3⟩ := List.append_inj h1 (by rw [numL_len, numL_len])
    have hks := numL_inj (by omega) (by omega) h2
    obtain ⟨h4, h5⟩ := List.append_inj h3 (by rw [keyL_len, keyL_len]; omega)
    obtain ⟨h6, h7⟩ := List.append_inj h5 (by rw [numL_len, numL_len])
    obtain ⟨h8, h9⟩ := List.append_inj h7 (by rw [numL_len, numL_len])
    obtain ⟨h10, h11⟩ := List.append_inj h9 (by rw [numL_len, numL_len])
    have hnn := numL_inj (by omega) (by omega) h10
    have hn1 : n1 = nb1 := by omega
    subst hn1
    obtain ⟨h12, h13⟩ := List.append_inj h11 (by rw [dtL_len, dtL_len])
    obtain ⟨h14, h15⟩ := List.append_inj h13 rfl
    unfold lenL at h15
    obtain ⟨h16, h17⟩ := List.append_inj h15 (by rw [numL_len, numL_len])
    have hdd := dtL_inj n1 (dots_range a3) (dots_range b3) h12
    refine ⟨keyL_inj h4, numL_inj (by omega) (by omega) h6, numL_inj (by omega) (by omega) h8, ?_, ?_, h17⟩
    · exact ext_getD (by omega) (fun j hj => hdd j (by omega))
    · have : goneI gone = goneI goneb := by injection h14
      cases gone <;> cases goneb <;> simp_all [goneI]
  · rintro ⟨e1, rfl, rfl, rfl, rfl, rfl⟩
    have hk := key_eq e1
    subst hk
    have hn1 : n1 = nb1 := by omega
    subst hn1
    rfl
end Go.Proofs.Ytcppaejfdjfaoaa
