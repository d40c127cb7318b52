/- Contracts of Mul, Both as multiples of a point; CopyBytes. -/
import Derived.Test.YtigcobcpfmnhoaaDoorSh
import Derived.Test.YtigcobcpfmnhoaaDoorSi
import Derived.Maps.AppendAt
namespace Go.Proofs.YtigcobcpfmnhoaaDoor
open Go.RowKit
theorem PtE.cv {X Y Z T : Fe.E} {x y : Fin Fe.P} (h : PtE X Y Z T x y) : Fe.Cv x y := by
  obtain ⟨a, b, c, d, _, _, _, _, hA⟩ := h
  exact hA.cv
theorem mulS_one (x y : Fin Fe.P) (A : Nat → Bool) (m : Nat) : ∀ k, mulS x y (upto (fun i => (m - 1 - i, A (m - 1 - i))) k) = Fe.oneS x y A m k
  | 0 => rfl
  | k + 1 => by rw [upto_succ, mulS_snoc, mulS_one x y A m k]; rfl
theorem mulS_nP {x y : Fin Fe.P} (h : Fe.Cv x y) {b : Nat → Int} (hb : Sc.Byt b) : mulS x y (upto (fun i => (256 - 1 - i, bitB b (256 - 1 - i))) 256) = Fe.nP (Sc.leV b 32).toNat (x, y) := by
  rw [mulS_one, Fe.oneS_val h]
  have := Sc.bv_leV hb 32
  rw [show 8 * 32 = 256 from rfl] at this
  rw [show Fe.bv (bitB b) 256 = (Sc.leV b 32).toNat by omega]
theorem fmul_c (g o c : Nat) {b : Nat → Int} (hb : Sc.Byt b) {X Y Z T : Fe.E} {p : Fe.Pt} (w : World) (hg : g < w.heap.size) (hc : ∀ j, j < 32 → w.cell? ⟨g, o + j, none⟩ = some (.int .u8 (b j))) (hp : PtE X Y Z T p.1 p.2) (hCv : CvP w) :
    Calls Tryd.prog 14 #[.slice (some ⟨g, o, none⟩) 32 c, .agg (pcs X Y Z T)] w (PostQ (Fe.nP (Sc.leV b 32).toNat p).1 (Fe.nP (Sc.leV b 32).toNat p).2 w) := by
  have h := pmul_c g o c b hb w hg hc hp hCv
  rw [mulS_nP hp.cv hb] at h
  exact h
theorem fboth_c (g1 o1 c1 : Nat) {b1 : Nat → Int} (hb1 : Sc.Byt b1) (g2 o2 c2 : Nat) {b2 : Nat → Int} (hb2 : Sc.Byt b2) {X Y Z T : Fe.E} {p : Fe.Pt} (w : World) (hg1 : g1 < w.heap.size) (hc1 : ∀ j, j < 32 → w.cell? ⟨g1, o1 + j, none⟩ = some (.int .u8 (b1 j))) (hg2 : g2 < w.heap.size) (hc2 : ∀ j, j < 32 → w.cell? ⟨g2, o2 + j, none⟩ = some (.int .u8 (b2 j))) (hp : PtE X Y Z T p.1 p.2) (hCv : CvP w) :
    Calls Tryd.prog 17 #[.slice (some ⟨g1, o1, none⟩) 32 c1, .agg (pcs X Y Z T), .slice (some ⟨g2, o2, none⟩) 32 c2] w (PostQ (Fe.gad (Fe.nP (Sc.leV b1 32).toNat p) (Fe.nP (Sc.leV b2 32).toNat Fe.Bp)).1 (Fe.gad (Fe.nP (Sc.leV b1 32).toNat p) (Fe.nP (Sc.leV b2 32).toNat Fe.Bp)).2 w) := by
  have h := both_ss g1 o1 c1 b1 hb1 g2 o2 c2 b2 hb2 w hg1 hc1 hg2 hc2 hp hCv
  rw [Fe.both_sum hp.cv Fe.cv_base, Fe.oneS_val hp.cv, Fe.oneS_val Fe.cv_base] at h
  have e1 := Sc.bv_leV hb1 32
  have e2 := Sc.bv_leV hb2 32
  rw [show 8 * 32 = 256 from rfl] at e1 e2
  rw [show Fe.bv (bitB b1) 256 = (Sc.leV b1 32).toNat by omega, show Fe.bv (bitB b2) 256 = (Sc.leV b2 32).toNat by omega] at h
  exact h
theorem u8_info' : (Tryd.prog.info? 5).map (fun i => (i.zero, i.size, i.bytes)) = some (some (.int .u8 0), 1, 1) := by kernel_rfl
theorem by_under' : Tryd.prog.underlying 22 = some (.slice 5) := by kernel_rfl
theorem own_rowB {w : World} {B n : Nat} {v : Value} {f : Nat → Int} (h : w.ownsRow B 5 1 v n (cB n f)) (hn : 0 < n) : ∃ g c, v = .slice (some ⟨g, 0, none⟩) n c ∧ B ≤ g ∧ RowB w g n c f := by
  rcases h.2 with ⟨_, h0⟩ | ⟨g, cap, cur, rfl, h1, h2, h3, h4, h5, h6⟩
  · omega
  · exact ⟨g, cap, rfl, h1, cur, h2, h3, h4, by omega, by rw [← h6, Nat.mul_one]⟩
theorem info3 {P : Program} {t : TypeId} {z : Value} {s b : Nat} (h : (P.info? t).map (fun i => (i.zero, i.size, i.bytes)) = some (some z, s, b)) : ∃ i, P.info? t = some i ∧ i.zero = some z ∧ i.size = s ∧ i.bytes = b := by
  cases hq : P.info? t with
  | none => rw [hq] at h; cases h
  | some i =>
    rw [hq] at h
    simp only [Option.map_some, Option.some.injEq, Prod.mk.injEq] at h
    exact ⟨i, rfl, h.1, h.2.1, h.2.2⟩
set_option maxRecDepth 20000 in
set_option maxHeartbeats 2000000 in
theorem copyB_c (g o n c : Nat) (b : Nat → Int) (hn0 : 0 < n) (hn : n ≤ 1000000) (w : World) (hc : ∀ j, j < n → w.cell? ⟨g, o + j, none⟩ = some (.int .u8 (b j))) : Calls Tryd.prog 16 #[.slice (some ⟨g, o, none⟩) n c] w (PostBs n b w) := by
  obtain ⟨i0, hi, hz0, hz1, hz2⟩ := info3 u8_info'
  have hnews : ∀ j u, (cB n b)[j]? = some u → w.cell? ((⟨g, o, none⟩ : Addr).add j) = some u := fun j u hu => by
    have hj : j < n := by have := (List.getElem?_eq_some_iff.1 hu).1; rwa [cB_len] at this
    rw [cB_get n b j hj] at hu
    rw [add_o, hc j hj, hu]
  replace hi := Lib.hid hi
  replace hz0 := Lib.hid hz0
  replace hz1 := Lib.hid hz1
  replace hz2 := Lib.hid hz2
  replace hnews := Lib.hid hnews
  have hn1 := Lib.hid hn
  have hn2 := Lib.hid hn0
  clear hc hn hn0
  go_enter Tryd.func16, Tryd.ntmps16
  go_wp2_with (at_builtin; refine wpList_append_own_at w rfl _ _ 22 rfl w.heap.size 5 i0 _ 1 1 by_under' hi.out hz0.out hz1.out hz2.out rfl (by decide) (.slice none 0 0) 0 [] rfl ⟨rfl, .inl ⟨rfl, rfl⟩⟩ ⟨g, o, none⟩ n c (cB n b) rfl (by rw [cB_len]; omega) hnews.out cB_one (by have := hn1.out; unfold maxLen; omega) (by have := hn1.out; omega) (Nat.le_refl _) ?_; intro v1 w1 hO hgr _ _; rw [Nat.zero_add, List.nil_append] at hO; obtain ⟨g1, cc, rfl, hg1, hR⟩ := own_rowB hO hn2.out; have hb1 : Below w.heap.size w w1 := (Below.refl _ _).grown hgr (Nat.le_refl _) (fun k hk => by cases hk); have hP := Lib.hid (show PostBs n b w (.returned (.slice (some ⟨g1, 0, none⟩) n cc)) w1 from ⟨g1, cc, rfl, hg1, hR, hb1⟩); clear hO hgr hg1 hR hb1)
  go_returns
  exact hP.out
end Go.Proofs.YtigcobcpfmnhoaaDoor
