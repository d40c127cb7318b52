/- The walks of SameRecords, SameRoots. -/
import Derived.Test.YtdgaoljobpneaaaHm
namespace Go.Proofs.Ytdgaoljobpneaaa
open Go.RowKit
def sameRD (a b : RecD) : Bool := sameR a.k a.cl a.sq a.ds a.gone a.vs a.ss b.k b.cl b.sq b.ds b.gone b.vs b.ss
def sameTD (a b : RootD) : Bool := decide (a.r = b.r) && (decide (a.h = b.h) && (decide (a.q = b.q) && (eqL a.sum b.sum && eqL a.sig b.sig)))
def sameL {α : Type} (E : α → α → Bool) (ls ms : List α) : Bool := decide (ls.length = ms.length) && (ls.zip ms).all fun p => E p.1 p.2
section
variable {α : Type} {E : α → α → Bool} {ls ms : List α}
theorem sameL_len (h : ls.length ≠ ms.length) : sameL E ls ms = false := by unfold sameL; rw [decide_eq_false h, Bool.false_and]
theorem sameL_no {i : Nat} {a b : α} (ha : ls[i]? = some a) (hb : ms[i]? = some b) (h : E a b = false) : sameL E ls ms = false := by
  unfold sameL
  rw [Bool.and_eq_false_iff]
  refine .inr (List.all_eq_false.2 ⟨(a, b), ?_, by simp [h]⟩)
  exact List.mem_of_getElem? (i := i) (by rw [List.getElem?_zip_eq_some]; exact ⟨ha, hb⟩)
theorem sameL_yes (hl : ls.length = ms.length) (h : ∀ (i : Nat) (a b : α), i < ls.length → ls[i]? = some a → ms[i]? = some b → E a b = true) : sameL E ls ms = true := by
  unfold sameL
  rw [decide_eq_true hl, Bool.true_and, List.all_eq_true]
  rintro ⟨a, b⟩ hp
  obtain ⟨i, hi⟩ := List.mem_iff_getElem?.1 hp
  rw [List.getElem?_zip_eq_some] at hi
  exact h i a b (List.getElem?_eq_some_iff.1 hi.1).1 hi.1 hi.2
theorem sameL_self (h : ∀ a, a ∈ ls → E a a = true) : sameL E ls ls = true := sameL_yes rfl fun i a b _ h1 h2 => by
  rw [h1] at h2
  injection h2 with h2
  subst h2
  exact h a (List.mem_of_getElem? h1)
end
theorem sameRD_self (a : RecD) : sameRD a a = true := by simp [sameRD, sameR, eqL]
theorem sameTD_self (a : RootD) : sameTD a a = true := by simp [sameTD, eqL]
/-- a row of one's own, to be read -/
theorem all_recs {B : Nat} {w : World} {v : Value} {L : List RecD} {S : List Nat} (h : AllO RecO 25 7 B w v L) (hS : ∀ g, B ≤ g → g ∉ S) : ∃ p c, v = .slice p L.length c ∧ RecsF S w p L := by
  obtain ⟨vs, bls, h1, h2, _⟩ := h
  obtain ⟨p, c, rfl⟩ := own_sl h1
  refine ⟨p, c, rfl, fun hm => ?_⟩
  rcases h1.2 with ⟨e, e2⟩ | ⟨g, cap, cur, e, b1, b2, _⟩
  · omega
  · injection e with e
    subst e
    refine ⟨g, 0, rfl, (Array.getElem?_eq_some_iff.1 b2).1, hS g b1, fun i r hr => ?_⟩
    have hi := (List.getElem?_eq_some_iff.1 hr).1
    have hv : i < vs.length := by rw [h2.1]; exact hi
    have hbl : i < bls.length := by rw [h2.2.1]; exact hi
    have hO := h2.2.2 i _ r _ (List.getElem?_eq_getElem hv) hr (List.getElem?_eq_getElem hbl)
    have hc := rec_cells hO
    refine ⟨_, hO.f (fun g hg => hS g (hO.range g hg).1), fun j u hu => ?_⟩
    have hj : j < 7 := by rw [← hc.1]; exact (List.getElem?_eq_some_iff.1 hu).1
    have h3 : (i + 1) * 7 ≤ L.length * 7 := Nat.mul_le_mul_right _ hi
    rw [Nat.zero_add, h1.cellAt (i * 7 + j) (by omega), ← hu]
    refine flat_get 7 vs i _ (fun u hu => ?_) (List.getElem?_eq_getElem hv) j hj
    obtain ⟨i2, hi2⟩ := List.mem_iff_getElem?.1 hu
    have hl2 : i2 < L.length := by rw [← h2.1]; exact (List.getElem?_eq_some_iff.1 hi2).1
    exact (rec_cells (h2.2.2 i2 u _ _ hi2 (List.getElem?_eq_getElem hl2) (List.getElem?_eq_getElem (by rw [h2.2.1]; exact hl2)))).1
theorem sameRecD_c (a b : RecD) (va vb : Value) (hoa : a.ok) (hob : b.ok) (w : World) (ha : RecF [] w va a) (hb : RecF [] w vb b) : Calls Try.prog 17 #[va, vb] w fun e w' => e = .returned (.bool (sameRD a b)) ∧ Below w.heap.size w w' := by
  obtain ⟨p1, c1, p2, c2, p3, c3, rfl, h1, h2, h3⟩ := ha
  obtain ⟨q1, d1, q2, d2, q3, d3, rfl, k1, k2, k3⟩ := hb
  exact sameRec_c a.k a.cl a.sq p1 a.n c1 a.gone p2 a.vs.length c2 p3 a.ss.length c3 b.k b.cl b.sq q1 b.n d1 b.gone q2 b.vs.length d2 q3 b.ss.length d3 a.ds a.vs a.ss b.ds b.vs b.ss (by have := hoa.1; omega) (by have := hob.1; omega) rfl (by have := hoa.2.1; omega) rfl (by have := hoa.2.2.1; omega) rfl (by have := hob.2.1; omega) rfl (by have := hob.2.2.1; omega) w h1.d h2.b h3.b k1.d k2.b k3.b
set_option maxRecDepth 20000 in
set_option maxHeartbeats 8000000 in
theorem sameRecs_c (p q : Option Addr) (c d : Nat) (ls ms : List RecD) (hoa : ∀ r, r ∈ ls → r.ok) (hob : ∀ r, r ∈ ms → r.ok) (hla : ls.length ≤ 100000) (hlb : ms.length ≤ 100000) (w : World) (hA : RecsF [] w p ls) (hB : RecsF [] w q ms) :
    Calls Try.prog 15 #[.slice p ls.length c, .slice q ms.length d] w fun e w' => e = .returned (.bool (sameL sameRD ls ms)) ∧ Below w.heap.size w w' := by
  obtain ⟨n, hn⟩ : ∃ n, n = ls.length := ⟨_, rfl⟩
  obtain ⟨m, hm⟩ : ∃ m, m = ms.length := ⟨_, rfl⟩
  obtain ⟨R, hR⟩ : ∃ R, R = sameL sameRD ls ms := ⟨_, rfl⟩
  rw [← hn, ← hm, ← hR]
  rw [← hn] at hla
  rw [← hm] at hlb
  replace hoa := Lib.hid hoa
  replace hob := Lib.hid hob
  replace hA := Lib.hid hA
  replace hB := Lib.hid hB
  replace hR := Lib.hid hR
  by_cases hnm : n = m
  · have hlen : ls.length = ms.length := by omega
    replace hlen := Lib.hid hlen
    subst hnm
    replace hn := Lib.hid hn
    replace hm := Lib.hid hm
    go_enter Try.func15, Try.ntmps15
    go_wp2
    go_loopw [5] (fun i wr => ∃ k : Nat, k ≤ n ∧ i = .int .i64 k ∧ Below w.heap.size w wr ∧ ∀ (i : Nat) (a b : RecD), i < k → ls[i]? = some a → ms[i]? = some b → sameRD a b = true) (fun i _ => (n - intOf i).toNat)
    case atStart => exact ⟨0, by omega, rfl, Below.refl _ _, fun i a b h => by omega⟩
    case round =>
      obtain ⟨k, hk, hi, hb0, hK⟩ := hrel
      subst hi
      by_cases he : k = n
      · subst he
        have hf := Lib.hid (show R = true by rw [hR.out]; exact sameL_yes hlen.out (fun i a b h => hK i a b (by have := hn.out; omega)))
        clear hK hk
        go_wp2
        go_returns
        exact ⟨by rw [hf.out]; rfl, hb0⟩
      · have hk0 : (0 : Int) ≤ (k : Int) := by omega
        have hk1 : (k : Int) < (n : Int) := by omega
        have hka : k < ls.length := by have := hn.out; omega
        have hkb : k < ms.length := by have := hm.out; omega
        obtain ⟨ga, oa, rfl, hga, -, hca⟩ := hA.out (by omega)
        obtain ⟨gb, ob, rfl, hgb, -, hcb⟩ := hB.out (by omega)
        have ea := List.getElem?_eq_getElem hka
        have eb := List.getElem?_eq_getElem hkb
        generalize ls[k] = a at ea
        generalize ms[k] = b at eb
        obtain ⟨va, hva, hja⟩ := hca k a ea
        obtain ⟨vb, hvb, hjb⟩ := hcb k b eb
        have hsr := fun w1 (hb : Below w.heap.size w w1) => sameRecD_c a b va vb (hoa.out a (List.mem_of_getElem? ea)) (hob.out b (List.mem_of_getElem? eb)) w1 (hva.ext (.below hb)) (hvb.ext (.below hb))
        have hno : sameRD a b = false → R = false := fun h => by rw [hR.out]; exact sameL_no ea eb h
        have hnx : sameRD a b = true → ∀ (i : Nat) (a b : RecD), i < k + 1 → ls[i]? = some a → ms[i]? = some b → sameRD a b = true := fun h i a' b' hi h1 h2 => by
          by_cases e : i = k
          · subst e
            rw [ea] at h1
            rw [eb] at h2
            injection h1 with h1
            injection h2 with h2
            subst h1 h2
            exact h
          · exact hK i a' b' (by omega) h1 h2
        obtain ⟨p1, c1, p2, c2, p3, c3, rfl, -, -, -⟩ := hva
        obtain ⟨q1, d1, q2, d2, q3, d3, rfl, -, -, -⟩ := hvb
        have hS : ∀ w1, Below w.heap.size w w1 → (w1.cell? ⟨ga, oa + k * 7, none⟩ = some (.string a.k) ∧ w1.cell? ⟨ga, oa + k * 7 + 1, none⟩ = some (.int .i64 a.cl) ∧ w1.cell? ⟨ga, oa + k * 7 + 2, none⟩ = some (.int .i64 a.sq) ∧ w1.cell? ⟨ga, oa + k * 7 + 3, none⟩ = some (.slice p1 a.n c1) ∧ w1.cell? ⟨ga, oa + k * 7 + 4, none⟩ = some (.bool a.gone) ∧ w1.cell? ⟨ga, oa + k * 7 + 5, none⟩ = some (.slice p2 a.vs.length c2) ∧ w1.cell? ⟨ga, oa + k * 7 + 6, none⟩ = some (.slice p3 a.ss.length c3)) ∧ (w1.cell? ⟨gb, ob + k * 7, none⟩ = some (.string b.k) ∧ w1.cell? ⟨gb, ob + k * 7 + 1, none⟩ = some (.int .i64 b.cl) ∧ w1.cell? ⟨gb, ob + k * 7 + 2, none⟩ = some (.int .i64 b.sq) ∧ w1.cell? ⟨gb, ob + k * 7 + 3, none⟩ = some (.slice q1 b.n d1) ∧ w1.cell? ⟨gb, ob + k * 7 + 4, none⟩ = some (.bool b.gone) ∧ w1.cell? ⟨gb, ob + k * 7 + 5, none⟩ = some (.slice q2 b.vs.length d2) ∧ w1.cell? ⟨gb, ob + k * 7 + 6, none⟩ = some (.slice q3 b.ss.length d3)) := fun w1 hb => ⟨⟨(hb.cell (p := ⟨ga, oa + k * 7, none⟩) hga).trans (hja 0 _ rfl), (hb.cell (p := ⟨ga, oa + k * 7 + 1, none⟩) hga).trans (hja 1 _ rfl), (hb.cell (p := ⟨ga, oa + k * 7 + 2, none⟩) hga).trans (hja 2 _ rfl), (hb.cell (p := ⟨ga, oa + k * 7 + 3, none⟩) hga).trans (hja 3 _ rfl), (hb.cell (p := ⟨ga, oa + k * 7 + 4, none⟩) hga).trans (hja 4 _ rfl), (hb.cell (p := ⟨ga, oa + k * 7 + 5, none⟩) hga).trans (hja 5 _ rfl), (hb.cell (p := ⟨ga, oa + k * 7 + 6, none⟩) hga).trans (hja 6 _ rfl)⟩, ⟨(hb.cell (p := ⟨gb, ob + k * 7, none⟩) hgb).trans (hjb 0 _ rfl), (hb.cell (p := ⟨gb, ob + k * 7 + 1, none⟩) hgb).trans (hjb 1 _ rfl), (hb.cell (p := ⟨gb, ob + k * 7 + 2, none⟩) hgb).trans (hjb 2 _ rfl), (hb.cell (p := ⟨gb, ob + k * 7 + 3, none⟩) hgb).trans (hjb 3 _ rfl), (hb.cell (p := ⟨gb, ob + k * 7 + 4, none⟩) hgb).trans (hjb 4 _ rfl), (hb.cell (p := ⟨gb, ob + k * 7 + 5, none⟩) hgb).trans (hjb 5 _ rfl), (hb.cell (p := ⟨gb, ob + k * 7 + 6, none⟩) hgb).trans (hjb 6 _ rfl)⟩⟩
        unfold recV at hsr
        have hb00 := Lib.hid hb0
        replace hsr := Lib.hid hsr
        replace hno := Lib.hid hno
        replace hnx := Lib.hid hnx
        replace hS := Lib.hid hS
        clear he hK hca hcb hja hjb hka hkb ea eb
        go_wp2
        go_region_held3 (fun w1 => (w1.cell? ⟨ga, oa + k * 7, none⟩ = some (.string a.k) ∧ w1.cell? ⟨ga, oa + k * 7 + 1, none⟩ = some (.int .i64 a.cl) ∧ w1.cell? ⟨ga, oa + k * 7 + 2, none⟩ = some (.int .i64 a.sq) ∧ w1.cell? ⟨ga, oa + k * 7 + 3, none⟩ = some (.slice p1 a.n c1) ∧ w1.cell? ⟨ga, oa + k * 7 + 4, none⟩ = some (.bool a.gone) ∧ w1.cell? ⟨ga, oa + k * 7 + 5, none⟩ = some (.slice p2 a.vs.length c2) ∧ w1.cell? ⟨ga, oa + k * 7 + 6, none⟩ = some (.slice p3 a.ss.length c3)) ∧ (w1.cell? ⟨gb, ob + k * 7, none⟩ = some (.string b.k) ∧ w1.cell? ⟨gb, ob + k * 7 + 1, none⟩ = some (.int .i64 b.cl) ∧ w1.cell? ⟨gb, ob + k * 7 + 2, none⟩ = some (.int .i64 b.sq) ∧ w1.cell? ⟨gb, ob + k * 7 + 3, none⟩ = some (.slice q1 b.n d1) ∧ w1.cell? ⟨gb, ob + k * 7 + 4, none⟩ = some (.bool b.gone) ∧ w1.cell? ⟨gb, ob + k * 7 + 5, none⟩ = some (.slice q2 b.vs.length d2) ∧ w1.cell? ⟨gb, ob + k * 7 + 6, none⟩ = some (.slice q3 b.ss.length d3))) (first | exact hS.out _ hb4 | exact hS.out _ hb0 | exact hS.out _ hb0.drew) (first | (go_at_call 17; refine (hsr.out _ hb0.drew).mono ?_; rintro e w4 ⟨rfl, hb3⟩; have hb4 := hb0.drew.trans (hb3.mono hb0.size); clear hb3 hsr))
        all_goals
          cases hs : sameRD a b
          · have hf := Lib.hid (hno.out hs)
            clear hno hnx hs
            go_wp2
            go_returns
            exact ⟨by rw [hf.out]; rfl, hb4⟩
          · have hf := Lib.hid (hnx.out hs)
            clear hno hnx hs
            go_wp2
            exact ⟨⟨k + 1, by omega, rfl, hb4, hf.out⟩, by simp [intOf]; omega⟩
  · have hf := Lib.hid (show R = false by rw [hR.out]; exact sameL_len (by omega))
    have hnm2 : ((n : Int) == (m : Int)) = false := by simp; omega
    clear hn hm
    go_enter Try.func15, Try.ntmps15
    go_wp2
    go_returns
    exact ⟨by rw [hf.out]; rfl, Below.refl _ _⟩
end Go.Proofs.Ytdgaoljobpneaaa
