/- The walks of SameRoot, SameRoots; a row of roots, read. -/
import Derived.Test.YtdgaoljobpneaaaHu
namespace Go.Proofs.Ytdgaoljobpneaaa
open Go.RowKit
set_option maxRecDepth 20000 in
set_option maxHeartbeats 8000000 in
theorem sameRoot_c (r h q : Int) (p2 : Option Addr) (n2 c2 : Nat) (p3 : Option Addr) (n3 c3 : Nat) (rb hb' qb : Int) (pb2 : Option Addr) (nb2 cb2 : Nat) (pb3 : Option Addr) (nb3 cb3 : Nat) (vs ss vsb ssb : List Int) (hn2 : n2 = vs.length) (hn2' : n2 ≤ 1000000) (hn3 : n3 = ss.length) (hn3' : n3 ≤ 1000000) (hnb2 : nb2 = vsb.length) (hnb2' : nb2 ≤ 1000000) (hnb3 : nb3 = ssb.length) (hnb3' : nb3 ≤ 1000000) (w : World) (hV : BytesL w p2 vs) (hS : BytesL w p3 ss) (hVb : BytesL w pb2 vsb) (hSb : BytesL w pb3 ssb) :
    Calls Try.prog 50 #[.agg #[.int .i64 r, .int .i64 h, .int .i64 q, .slice p2 n2 c2, .slice p3 n3 c3], .agg #[.int .i64 rb, .int .i64 hb', .int .i64 qb, .slice pb2 nb2 cb2, .slice pb3 nb3 cb3]] w fun e w' => e = .returned (.bool (decide (r = rb) && (decide (h = hb') && (decide (q = qb) && (eqL vs vsb && eqL ss ssb))))) ∧ Below w.heap.size w w' := by
  have cv := fun w' hb => sameBytes_c p2 pb2 n2 c2 nb2 cb2 vs vsb hn2 hnb2 hn2' hnb2' w' (hV.below (w := w) (w' := w') hb) (hVb.below hb)
  have csg := fun w' hb => sameBytes_c p3 pb3 n3 c3 nb3 cb3 ss ssb hn3 hnb3 hn3' hnb3' w' (hS.below (w := w) (w' := w') hb) (hSb.below hb)
  obtain ⟨E, hE⟩ : ∃ E, E = (decide (r = rb) && (decide (h = hb') && (decide (q = qb) && (eqL vs vsb && eqL ss ssb)))) := ⟨_, rfl⟩
  rw [← hE]
  generalize eqL vs vsb = e2 at *
  generalize eqL ss ssb = e3 at *
  replace cv := Lib.hid cv
  replace csg := Lib.hid csg
  clear hV hS hVb hSb hn2 hn2' hn3 hn3' hnb2 hnb2' hnb3 hnb3'
  go_enter Try.func50, Try.ntmps50
  by_cases h1 : r = rb
  · rw [decide_eq_true h1, Bool.true_and] at hE
    subst h1
    by_cases h2 : h = hb'
    · rw [decide_eq_true h2, Bool.true_and] at hE
      subst h2
      by_cases h3 : q = qb
      · rw [decide_eq_true h3, Bool.true_and] at hE
        subst h3
        replace hE := Lib.hid hE
        go_wp2_with fail
        refine calls_at (fun W0 hW => ?_)
        have hA : Blk W0 w.heap.size 27 #[.int .i64 r, .int .i64 h, .int .i64 q, .slice p2 n2 c2, .slice p3 n3 c3] := by rw [hW]; exact (Blk.new _ _ _).alloc _
        have hB : Blk W0 (w.heap.size + 1) 27 #[.int .i64 r, .int .i64 h, .int .i64 q, .slice pb2 nb2 cb2, .slice pb3 nb3 cb3] := by rw [hW]; exact blk_at (by simp) (Blk.new _ _ _)
        have hb0 : Below w.heap.size w W0 := by rw [hW]; go_grown
        clear hW
        refine (cv.out _ hb0).mono ?_
        rintro e w1 ⟨rfl, hb⟩
        replace hA := hA.below hb
        replace hB := hB.below hb
        replace hb0 := hb0.trans (hb.mono hb0.size)
        clear hb cv
        obtain ⟨y0, y1, y2, y3, y4⟩ := blk5v hA
        obtain ⟨z0, z1, z2, z3, z4⟩ := blk5v hB
        cases e2
        · rw [Bool.false_and] at hE
          go_wp2
          go_returns
          exact ⟨by rw [hE.out]; rfl, hb0⟩
        · rw [Bool.true_and] at hE
          go_wp2_with fail
          clear y0 y1 y2 y3 y4 z0 z1 z2 z3 z4
          refine (csg.out _ hb0).mono ?_
          rintro e w2 ⟨rfl, hb⟩
          replace hb0 := hb0.trans (hb.mono hb0.size)
          clear hb csg
          cases e3
          · go_wp2
            go_returns
            exact ⟨by rw [hE.out]; rfl, hb0⟩
          · go_wp2
            go_returns
            exact ⟨by rw [hE.out]; rfl, hb0⟩
      · rw [decide_eq_false h3, Bool.false_and] at hE
        replace hE := Lib.hid hE
        have hb0 := Lib.hid (show Below w.heap.size w ((w.alloc (.cells #[.int .i64 r, .int .i64 h, .int .i64 q, .slice p2 n2 c2, .slice p3 n3 c3] 27)).alloc (.cells #[.int .i64 r, .int .i64 h, .int .i64 qb, .slice pb2 nb2 cb2, .slice pb3 nb3 cb3] 27)) by go_grown)
        go_wp2
        go_returns
        exact ⟨by rw [hE.out]; rfl, hb0.out⟩
    · rw [decide_eq_false h2, Bool.false_and] at hE
      replace hE := Lib.hid hE
      have hb0 := Lib.hid (show Below w.heap.size w ((w.alloc (.cells #[.int .i64 r, .int .i64 h, .int .i64 q, .slice p2 n2 c2, .slice p3 n3 c3] 27)).alloc (.cells #[.int .i64 r, .int .i64 hb', .int .i64 qb, .slice pb2 nb2 cb2, .slice pb3 nb3 cb3] 27)) by go_grown)
      go_wp2
      go_returns
      exact ⟨by rw [hE.out]; rfl, hb0.out⟩
  · rw [decide_eq_false h1, Bool.false_and] at hE
    replace hE := Lib.hid hE
    have hb0 := Lib.hid (show Below w.heap.size w ((w.alloc (.cells #[.int .i64 r, .int .i64 h, .int .i64 q, .slice p2 n2 c2, .slice p3 n3 c3] 27)).alloc (.cells #[.int .i64 rb, .int .i64 hb', .int .i64 qb, .slice pb2 nb2 cb2, .slice pb3 nb3 cb3] 27)) by go_grown)
    go_wp2
    go_returns
    exact ⟨by rw [hE.out]; rfl, hb0.out⟩
theorem sameRootD_c (a b : RootD) (va vb : Value) (hoa : a.ok) (hob : b.ok) (w : World) (ha : RootF [] w va a) (hb : RootF [] w vb b) : Calls Try.prog 50 #[va, vb] w fun e w' => e = .returned (.bool (sameTD a b)) ∧ Below w.heap.size w w' := by
  obtain ⟨p1, c1, p2, c2, rfl, h1, h2⟩ := ha
  obtain ⟨q1, d1, q2, d2, rfl, k1, k2⟩ := hb
  exact sameRoot_c a.r a.h a.q p1 a.sum.length c1 p2 a.sig.length c2 b.r b.h b.q q1 b.sum.length d1 q2 b.sig.length d2 a.sum a.sig b.sum b.sig rfl (by have := hoa.1; omega) rfl (by have := hoa.2.1; omega) rfl (by have := hob.1; omega) rfl (by have := hob.2.1; omega) w h1.b h2.b k1.b k2.b
set_option maxRecDepth 20000 in
set_option maxHeartbeats 8000000 in
theorem sameRoots_c (p q : Option Addr) (c d : Nat) (ls ms : List RootD) (hoa : ∀ r, r ∈ ls → r.ok) (hob : ∀ r, r ∈ ms → r.ok) (hla : ls.length ≤ 100000) (hlb : ms.length ≤ 100000) (w : World) (hA : RootsF [] w p ls) (hB : RootsF [] w q ms) :
    Calls Try.prog 20 #[.slice p ls.length c, .slice q ms.length d] w fun e w' => e = .returned (.bool (sameL sameTD ls ms)) ∧ Below w.heap.size w w' := by
  obtain ⟨n, hn⟩ : ∃ n, n = ls.length := ⟨_, rfl⟩
  obtain ⟨m, hm⟩ : ∃ m, m = ms.length := ⟨_, rfl⟩
  obtain ⟨R, hR⟩ : ∃ R, R = sameL sameTD ls ms := ⟨_, rfl⟩
  rw [← hn, ← hm, ← hR]
  rw [← hn] at hla
  rw [← hm] at hlb
  replace hoa := Lib.hid hoa
  replace hob := Lib.hid hob
  replace hA := Lib.hid hA
  replace hB := Lib.hid hB
  replace hR := Lib.hid hR
  by_cases hnm : n = m
  · have hlen : ls.length = ms.length := by omega
    replace hlen := Lib.hid hlen
    subst hnm
    replace hn := Lib.hid hn
    replace hm := Lib.hid hm
    go_enter Try.func20, Try.ntmps20
    go_wp2
    go_loopw [5] (fun i wr => ∃ k : Nat, k ≤ n ∧ i = .int .i64 k ∧ Below w.heap.size w wr ∧ ∀ (i : Nat) (a b : RootD), i < k → ls[i]? = some a → ms[i]? = some b → sameTD a b = true) (fun i _ => (n - intOf i).toNat)
    case atStart => exact ⟨0, by omega, rfl, Below.refl _ _, fun i a b h => by omega⟩
    case round =>
      obtain ⟨k, hk, hi, hb0, hK⟩ := hrel
      subst hi
      by_cases he : k = n
      · subst he
        have hf := Lib.hid (show R = true by rw [hR.out]; exact sameL_yes hlen.out (fun i a b h => hK i a b (by have := hn.out; omega)))
        clear hK hk
        go_wp2
        go_returns
        exact ⟨by rw [hf.out]; rfl, hb0⟩
      · have hk0 : (0 : Int) ≤ (k : Int) := by omega
        have hk1 : (k : Int) < (n : Int) := by omega
        have hka : k < ls.length := by have := hn.out; omega
        have hkb : k < ms.length := by have := hm.out; omega
        obtain ⟨ga, oa, rfl, hga, -, hca⟩ := hA.out (by omega)
        obtain ⟨gb, ob, rfl, hgb, -, hcb⟩ := hB.out (by omega)
        have ea := List.getElem?_eq_getElem hka
        have eb := List.getElem?_eq_getElem hkb
        generalize ls[k] = a at ea
        generalize ms[k] = b at eb
        obtain ⟨va, hva, hja⟩ := hca k a ea
        obtain ⟨vb, hvb, hjb⟩ := hcb k b eb
        have hsr := fun w1 (hb : Below w.heap.size w w1) => sameRootD_c a b va vb (hoa.out a (List.mem_of_getElem? ea)) (hob.out b (List.mem_of_getElem? eb)) w1 (hva.ext (.below hb)) (hvb.ext (.below hb))
        have hno : sameTD a b = false → R = false := fun h => by rw [hR.out]; exact sameL_no ea eb h
        have hnx : sameTD a b = true → ∀ (i : Nat) (a b : RootD), i < k + 1 → ls[i]? = some a → ms[i]? = some b → sameTD a b = true := fun h i a' b' hi h1 h2 => by
          by_cases e : i = k
          · subst e
            rw [ea] at h1
            rw [eb] at h2
            injection h1 with h1
            injection h2 with h2
            subst h1 h2
            exact h
          · exact hK i a' b' (by omega) h1 h2
        obtain ⟨p1, c1, p2, c2, rfl, -, -⟩ := hva
        obtain ⟨q1, d1, q2, d2, rfl, -, -⟩ := hvb
        have hS : ∀ w1, Below w.heap.size w w1 → (w1.cell? ⟨ga, oa + k * 5, none⟩ = some (.int .i64 a.r) ∧ w1.cell? ⟨ga, oa + k * 5 + 1, none⟩ = some (.int .i64 a.h) ∧ w1.cell? ⟨ga, oa + k * 5 + 2, none⟩ = some (.int .i64 a.q) ∧ w1.cell? ⟨ga, oa + k * 5 + 3, none⟩ = some (.slice p1 a.sum.length c1) ∧ w1.cell? ⟨ga, oa + k * 5 + 4, none⟩ = some (.slice p2 a.sig.length c2)) ∧ (w1.cell? ⟨gb, ob + k * 5, none⟩ = some (.int .i64 b.r) ∧ w1.cell? ⟨gb, ob + k * 5 + 1, none⟩ = some (.int .i64 b.h) ∧ w1.cell? ⟨gb, ob + k * 5 + 2, none⟩ = some (.int .i64 b.q) ∧ w1.cell? ⟨gb, ob + k * 5 + 3, none⟩ = some (.slice q1 b.sum.length d1) ∧ w1.cell? ⟨gb, ob + k * 5 + 4, none⟩ = some (.slice q2 b.sig.length d2)) := fun w1 hb => ⟨⟨(hb.cell (p := ⟨ga, oa + k * 5, none⟩) hga).trans (hja 0 _ rfl), (hb.cell (p := ⟨ga, oa + k * 5 + 1, none⟩) hga).trans (hja 1 _ rfl), (hb.cell (p := ⟨ga, oa + k * 5 + 2, none⟩) hga).trans (hja 2 _ rfl), (hb.cell (p := ⟨ga, oa + k * 5 + 3, none⟩) hga).trans (hja 3 _ rfl), (hb.cell (p := ⟨ga, oa + k * 5 + 4, none⟩) hga).trans (hja 4 _ rfl)⟩, ⟨(hb.cell (p := ⟨gb, ob + k * 5, none⟩) hgb).trans (hjb 0 _ rfl), (hb.cell (p := ⟨gb, ob + k * 5 + 1, none⟩) hgb).trans (hjb 1 _ rfl), (hb.cell (p := ⟨gb, ob + k * 5 + 2, none⟩) hgb).trans (hjb 2 _ rfl), (hb.cell (p := ⟨gb, ob + k * 5 + 3, none⟩) hgb).trans (hjb 3 _ rfl), (hb.cell (p := ⟨gb, ob + k * 5 + 4, none⟩) hgb).trans (hjb 4 _ rfl)⟩⟩
        unfold rootV at hsr
        have hb00 := Lib.hid hb0
        replace hsr := Lib.hid hsr
        replace hno := Lib.hid hno
        replace hnx := Lib.hid hnx
        replace hS := Lib.hid hS
        clear he hK hca hcb hja hjb hka hkb ea eb
        go_wp2
        go_region_held3 (fun w1 => (w1.cell? ⟨ga, oa + k * 5, none⟩ = some (.int .i64 a.r) ∧ w1.cell? ⟨ga, oa + k * 5 + 1, none⟩ = some (.int .i64 a.h) ∧ w1.cell? ⟨ga, oa + k * 5 + 2, none⟩ = some (.int .i64 a.q) ∧ w1.cell? ⟨ga, oa + k * 5 + 3, none⟩ = some (.slice p1 a.sum.length c1) ∧ w1.cell? ⟨ga, oa + k * 5 + 4, none⟩ = some (.slice p2 a.sig.length c2)) ∧ (w1.cell? ⟨gb, ob + k * 5, none⟩ = some (.int .i64 b.r) ∧ w1.cell? ⟨gb, ob + k * 5 + 1, none⟩ = some (.int .i64 b.h) ∧ w1.cell? ⟨gb, ob + k * 5 + 2, none⟩ = some (.int .i64 b.q) ∧ w1.cell? ⟨gb, ob + k * 5 + 3, none⟩ = some (.slice q1 b.sum.length d1) ∧ w1.cell? ⟨gb, ob + k * 5 + 4, none⟩ = some (.slice q2 b.sig.length d2))) (first | exact hS.out _ hb4 | exact hS.out _ hb0 | exact hS.out _ hb0.drew) (first | (go_at_call 50; refine (hsr.out _ hb0.drew).mono ?_; rintro e w4 ⟨rfl, hb3⟩; have hb4 := hb0.drew.trans (hb3.mono hb0.size); clear hb3 hsr))
        all_goals
          cases hs : sameTD a b
          · have hf := Lib.hid (hno.out hs)
            clear hno hnx hs
            go_wp2
            go_returns
            exact ⟨by rw [hf.out]; rfl, hb4⟩
          · have hf := Lib.hid (hnx.out hs)
            clear hno hnx hs
            go_wp2
            exact ⟨⟨k + 1, by omega, rfl, hb4, hf.out⟩, by simp [intOf]; omega⟩
  · have hf := Lib.hid (show R = false by rw [hR.out]; exact sameL_len (by omega))
    have hnm2 : ((n : Int) == (m : Int)) = false := by simp; omega
    clear hn hm
    go_enter Try.func20, Try.ntmps20
    go_wp2
    go_returns
    exact ⟨by rw [hf.out]; rfl, Below.refl _ _⟩
/-- a row of one's own, to be read -/
theorem all_roots {B : Nat} {w : World} {v : Value} {L : List RootD} {S : List Nat} (h : AllO RootO 27 5 B w v L) (hS : ∀ g, B ≤ g → g ∉ S) : ∃ p c, v = .slice p L.length c ∧ RootsF S w p L := by
  obtain ⟨vs, bls, h1, h2, _⟩ := h
  obtain ⟨p, c, rfl⟩ := own_sl h1
  refine ⟨p, c, rfl, fun hm => ?_⟩
  rcases h1.2 with ⟨e, e2⟩ | ⟨g, cap, cur, e, b1, b2, _⟩
  · omega
  · injection e with e
    subst e
    refine ⟨g, 0, rfl, (Array.getElem?_eq_some_iff.1 b2).1, hS g b1, fun i r hr => ?_⟩
    have hi := (List.getElem?_eq_some_iff.1 hr).1
    have hv : i < vs.length := by rw [h2.1]; exact hi
    have hbl : i < bls.length := by rw [h2.2.1]; exact hi
    have hO := h2.2.2 i _ r _ (List.getElem?_eq_getElem hv) hr (List.getElem?_eq_getElem hbl)
    have hc := root_cells hO
    refine ⟨_, hO.f (fun g hg => hS g (hO.range g hg).1), fun j u hu => ?_⟩
    have hj : j < 5 := by rw [← hc.1]; exact (List.getElem?_eq_some_iff.1 hu).1
    have h3 : (i + 1) * 5 ≤ L.length * 5 := Nat.mul_le_mul_right _ hi
    rw [Nat.zero_add, h1.cellAt (i * 5 + j) (by omega), ← hu]
    refine flat_get 5 vs i _ (fun u hu => ?_) (List.getElem?_eq_getElem hv) j hj
    obtain ⟨i2, hi2⟩ := List.mem_iff_getElem?.1 hu
    have hl2 : i2 < L.length := by rw [← h2.1]; exact (List.getElem?_eq_some_iff.1 hi2).1
    exact (root_cells (h2.2.2 i2 u _ _ hi2 (List.getElem?_eq_getElem hl2) (List.getElem?_eq_getElem (by rw [h2.2.1]; exact hl2)))).1
end Go.Proofs.Ytdgaoljobpneaaa
