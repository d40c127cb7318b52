/- law05: awake: the example is as it must be. -/
import Derived.Test.YtgjffaoggjlamaaGreatDoorCo
import Derived.Test.YtgjffaoggjlamaaGreatDoorCt
namespace Go.Proofs.YtgjffaoggjlamaaGreatDoor
open Go Go.RowKit
theorem RowB.bx {w : World} {g n c : Nat} {f : Nat → Int} (h : RowB w g n c f) : BX [] w (some ⟨g, 0, none⟩) n f := fun _ => ⟨g, 0, rfl, h.lt, by simp, fun j hj => by rw [Nat.zero_add]; exact h.cell j hj⟩
theorem RowB.cap {w : World} {g n c : Nat} {f : Nat → Int} (h : RowB w g n c f) : n ≤ c := by
  obtain ⟨_, _, h, _⟩ := h
  exact h
theorem parts_new (w : World) (cs : List Value) (h : 0 < cs.length) (ty : TypeId) : Parts (w.alloc (.cells cs.toArray ty)) (.slice (some ⟨w.heap.size, 0, none⟩) cs.length cs.length) cs :=
  .inr ⟨_, 0, _, rfl, h, Nat.le_refl _, (Blk.new _ _ _).lt, fun j u hu => by rw [Nat.zero_add, (Blk.new w _ _).cell j]; simpa using hu⟩
theorem key_byt (f : Nat → Int) : Sc.Byt (Sh.ptI (Sh.keyP f)) := fun j => by
  by_cases hj : j < 32
  · exact ptI_r _ j hj
  · rw [Sh.ptI_far _ j hj]
    exact (show (0 : Int) ≤ 0 ∧ (0 : Int) < 256 by decide)
theorem sig_byt (f : Nat → Int) (l : Sh.Ps) : Sc.Byt (Sh.sigI f l) := Sh.catI_r _ ⟨fun j hj => ptI_r _ j hj, fun j _ => Sc.byt_r _ j, trivial⟩
/-- Sign of a row of parts that was just made -/
theorem signL (F : Nat → Int) (hF : Sc.Byt F) (cs : List Value) (l : Sh.Ps) (h0 : 0 < cs.length) (h9 : cs.length ≤ 10000) (hlen : Sh.lenI l ≤ 1000000) (hby : Sh.BytI l) (g c : Nat) (w : World) (hS : ShP w) (hCv : CvP w) (h : RowB w g 32 c F) (hl : PVs w cs l) :
    Calls Tryz.prog 87 #[.slice (some ⟨g, 0, none⟩) 32 c, .slice (some ⟨w.heap.size, 0, none⟩) cs.length cs.length] (w.alloc (.cells cs.toArray 26)) (PostBs 64 (Sh.sigI F l) w) := by
  have ha : Below w.heap.size w (w.alloc (.cells cs.toArray 26)) := (Below.refl _ _).alloc (Nat.le_refl _) _
  have hB := hS.lt
  exact (Sign_c (some ⟨g, 0, none⟩) c F h.cap (fun j _ => hF j) (.slice (some ⟨w.heap.size, 0, none⟩) cs.length cs.length) cs l (w.alloc (.cells cs.toArray 26)) (h.below ha).bx (parts_new w cs h0 _) (hl.below ha) hby hlen h9 (hS.below ha hB) (by have := ha.size; omega) (hCv.below ha hCv.lt)).mono (fun e w' ⟨g', c', he, hg, hR, hbb⟩ => ⟨g', c', he, by have := ha.size; omega, hR, ha.trans (hbb.mono ha.size)⟩)
theorem verifyL (K G : Nat → Int) (hK : Sc.Byt K) (hG : Sc.Byt G) (V : Bool) {l : Sh.Ps} (hv : Sh.verI K G l = V) (cs : List Value) (h0 : 0 < cs.length) (h9 : cs.length ≤ 10000) (hlen : Sh.lenI l ≤ 1000000) (hby : Sh.BytI l) (g c g2 d : Nat) (w : World) (hS : ShP w) (hCv : CvP w) (h : RowB w g 32 c K) (h2 : RowB w g2 64 d G) (hl : PVs w cs l) :
    Calls Tryz.prog 57 #[.slice (some ⟨g, 0, none⟩) 32 c, .slice (some ⟨g2, 0, none⟩) 64 d, .slice (some ⟨w.heap.size, 0, none⟩) cs.length cs.length] (w.alloc (.cells cs.toArray 26)) (PostV (.bool V) w) := by
  have ha : Below w.heap.size w (w.alloc (.cells cs.toArray 26)) := (Below.refl _ _).alloc (Nat.le_refl _) _
  have hB := hS.lt
  exact (Verify_c g 0 c g2 0 d K G (.slice (some ⟨w.heap.size, 0, none⟩) cs.length cs.length) cs l (w.alloc (.cells cs.toArray 26)) h.cap h2.cap hK hG (h.below ha).lt (fun j hj => by rw [Nat.zero_add]; exact (h.below ha).cell j hj) (h2.below ha).lt (fun j hj => by rw [Nat.zero_add]; exact (h2.below ha).cell j hj) (hCv.below ha hCv.lt) (parts_new w cs h0 _) (hl.below ha) hby hlen h9 (hS.below ha hB) (by have := ha.size; omega)).mono (fun e w' ⟨he, hbb⟩ => ⟨by rw [he, hv], ha.trans (hbb.mono ha.size)⟩)
end Go.Proofs.YtgjffaoggjlamaaGreatDoor
