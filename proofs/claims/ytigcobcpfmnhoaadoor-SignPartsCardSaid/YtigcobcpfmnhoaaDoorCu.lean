/- law05: awake: the example is as it must be. -/
import Derived.Test.YtigcobcpfmnhoaaDoorCo
import Derived.Test.YtigcobcpfmnhoaaDoorCt
namespace Go.Proofs.YtigcobcpfmnhoaaDoor
open Go Go.RowKit
theorem RowB.bx {w : World} {g n c : Nat} {f : Nat → Int} (h : RowB w g n c f) : BX [] w (some ⟨g, 0, none⟩) n f := fun _ => ⟨g, 0, rfl, h.lt, by simp, fun j hj => by rw [Nat.zero_add]; exact h.cell j hj⟩
theorem RowB.cap {w : World} {g n c : Nat} {f : Nat → Int} (h : RowB w g n c f) : n ≤ c := by
  obtain ⟨_, _, h, _⟩ := h
  exact h
theorem seed0_r : Sc.Byt seed0F := fun j => by
  unfold seed0F
  by_cases hj : j < 32
  · exact (show ∀ j : Fin 32, 0 ≤ seed0L.getD j.val 0 ∧ seed0L.getD j.val 0 < 256 by decide +kernel) ⟨j, hj⟩
  · rw [List.getD_eq_getElem?_getD, List.getElem?_eq_none (by show 32 ≤ j; omega)]
    exact (show (0 : Int) ≤ 0 ∧ (0 : Int) < 256 by decide)
theorem four_at {w : World} (x : List Int) (hx : x.length = 4) {cs : Array Value} (hcs : cs = (x.map (.int .u8)).toArray) : ∀ j, j < 4 → (w.alloc (.cells cs 5)).cell? ⟨w.heap.size, 0 + j, none⟩ = some (.int .u8 (x.getD j 0)) := fun j hj => by
  rw [Nat.zero_add, (Blk.new w _ _).cell j, hcs, List.getElem?_toArray, List.getElem?_map, List.getD_eq_getElem?_getD, List.getElem?_eq_getElem (by omega)]
  rfl
set_option maxRecDepth 20000 in
set_option maxHeartbeats 4000000 in
theorem awake5_c (w : World) (hS : ShP w) (hCv : CvP w) : Calls Tryd.prog 18 #[] w (PostV (.bool true) w) := by
  have hB := hS.lt
  have hsig := Lib.hid Sh.sig_4
  have hkey := Lib.hid Sh.key_4
  obtain ⟨F, hF⟩ : ∃ F, F = seed0F := ⟨_, rfl⟩
  have hr : Sc.Byt F := by rw [hF]; exact seed0_r
  have hse := fun w => seed0_c w
  rw [← hF] at hse hsig hkey
  clear hF
  replace hse := Lib.hid hse
  replace hr := Lib.hid hr
  obtain ⟨K, hK⟩ : ∃ K, K = Sh.ptI (Sh.keyP F) := ⟨_, rfl⟩
  obtain ⟨G, hG⟩ : ∃ G, G = Sh.sigI F [] := ⟨_, rfl⟩
  have hPub := Lib.hid (fun g c w1 (h : RowB w1 g 32 c F) (hb : Below w.heap.size w w1) => Public_c (some ⟨g, 0, none⟩) c F h.cap (fun j _ => hr.out j) w1 h.bx (hS.below hb hB) (by have := hb.size; omega) (hCv.below hb hCv.lt))
  have hSig := Lib.hid (fun g c w1 (h : RowB w1 g 32 c F) (hb : Below w.heap.size w w1) => Sign_c (some ⟨g, 0, none⟩) c F h.cap (fun j _ => hr.out j) (.slice none 0 0) [] [] w1 h.bx (.inl ⟨rfl, rfl⟩) trivial trivial (by decide) (by decide) (hS.below hb hB) (by have := hb.size; omega) (hCv.below hb hCv.lt))
  have hKr : Sc.Byt K := fun j => by
    rw [hK]
    by_cases hj : j < 32
    · exact ptI_r _ j hj
    · rw [Sh.ptI_far _ j hj]
      exact (show (0 : Int) ≤ 0 ∧ (0 : Int) < 256 by decide)
  have hGr : Sc.Byt G := by rw [hG]; exact Sh.catI_r _ ⟨fun j hj => ptI_r _ j hj, fun j _ => Sc.byt_r _ j, trivial⟩
  have hVt : Sh.verI K G [] = true := Sh.ver_sig F (l := []) (l' := []) (fun j _ => by rw [hK]) (fun j _ => by rw [hG]) rfl (fun _ _ => rfl)
  have hVer := fun g c g2 c2 w1 (h : RowB w1 g 32 c K) (h2 : RowB w1 g2 64 c2 G) (hb : Below w.heap.size w w1) => Verify_c g 0 c g2 0 c2 K G (.slice none 0 0) [] [] w1 h.cap h2.cap hKr hGr h.lt (fun j hj => by rw [Nat.zero_add]; exact h.cell j hj) h2.lt (fun j hj => by rw [Nat.zero_add]; exact h2.cell j hj) (hCv.below hb hCv.lt) (.inl ⟨rfl, rfl⟩) trivial trivial (by decide) (by decide) (hS.below hb hB) (by have := hb.size; omega)
  rw [hVt] at hVer
  replace hVer := Lib.hid hVer
  rw [← hK] at hPub hkey
  rw [← hG] at hSig hsig
  replace hGr := Lib.hid hGr
  replace hKr := Lib.hid hKr
  clear hK hG hS hCv hr hVt
  go_enter Tryd.func18, Tryd.ntmps18
  go_wp2_with fail
  refine (hse.out w).mono ?_
  rintro e w1 ⟨g1, c1, rfl, _, hR1, hb1⟩
  replace hR1 := Lib.hid hR1
  replace hb1 := Lib.hid hb1
  go_wp2_with fail
  refine (hPub.out g1 c1 w1 hR1.out hb1.out).mono ?_
  rintro e w2 ⟨gp, cp, rfl, _, hRp, hb2⟩
  replace hb2 := Lib.hid (hb1.out.trans (hb2.mono hb1.out.size))
  replace hRp := Lib.hid hRp
  clear hR1 hb1 hPub
  go_wp2_with fail
  refine (hse.out w2).mono ?_
  rintro e w3 ⟨g3, c3, rfl, _, hR3, hb3⟩
  have hs2 := hb2.out.size
  replace hRp := Lib.hid (hRp.out.below hb3)
  replace hb3 := Lib.hid (hb2.out.trans (hb3.mono hs2))
  replace hR3 := Lib.hid hR3
  clear hb2 hse hs2
  go_wp2_with fail
  refine (hSig.out g3 c3 w3 hR3.out hb3.out).mono ?_
  rintro e w4 ⟨gs, cs, rfl, _, hRs, hb4⟩
  have hs3 := hb3.out.size
  replace hRp := Lib.hid (hRp.out.below hb4)
  replace hb4 := Lib.hid (hb3.out.trans (hb4.mono hs3))
  replace hRs := Lib.hid hRs
  clear hR3 hb3 hSig hs3
  go_wp2_with fail
  refine calls_at (fun w5 hW => ?_)
  have ha : Below w4.heap.size w4 w5 := by rw [hW]; exact (Below.refl _ _).alloc (Nat.le_refl _) _
  have h5 := begins_c gp cp 32 K w4.heap.size (fun j => ([215, 90, 152, 1] : List Int).getD j 0) w5 (by decide) (by decide) (hRp.out.below ha) (by rw [hW]; exact (Blk.new _ _ _).lt) (by rw [hW]; exact four_at [215, 90, 152, 1] rfl rfl) hkey.out
  have hs4 := hb4.out.size
  replace hRp := Lib.hid (hRp.out.below ha)
  replace hRs := Lib.hid (hRs.out.below ha)
  replace hb5 := Lib.hid (hb4.out.trans (ha.mono hs4))
  clear hW ha hb4 hs4 hkey
  refine h5.mono ?_
  clear h5
  rintro e w6 ⟨rfl, hb6⟩
  have hs4 := hb5.out.size
  replace hRp := Lib.hid (hRp.out.below hb6)
  replace hRs := Lib.hid (hRs.out.below hb6)
  replace hb6 := Lib.hid (hb5.out.trans (hb6.mono hs4))
  clear hb5 hs4
  go_wp2_with fail
  refine calls_at (fun w7 hW => ?_)
  have ha : Below w6.heap.size w6 w7 := by rw [hW]; exact (Below.refl _ _).alloc (Nat.le_refl _) _
  have h7 := begins_c gs cs 64 G w6.heap.size (fun j => ([229, 86, 67, 0] : List Int).getD j 0) w7 (by decide) (by decide) (hRs.out.below ha) (by rw [hW]; exact (Blk.new _ _ _).lt) (by rw [hW]; exact four_at [229, 86, 67, 0] rfl rfl) hsig.out
  have hs4 := hb6.out.size
  replace hRp := Lib.hid (hRp.out.below ha)
  replace hRs := Lib.hid (hRs.out.below ha)
  replace hb7 := Lib.hid (hb6.out.trans (ha.mono hs4))
  clear hW ha hb6 hs4 hsig
  refine h7.mono ?_
  clear h7
  rintro e w8 ⟨rfl, hb8⟩
  have hs4 := hb7.out.size
  replace hRp := Lib.hid (hRp.out.below hb8)
  replace hRs := Lib.hid (hRs.out.below hb8)
  replace hb8 := Lib.hid (hb7.out.trans (hb8.mono hs4))
  clear hb7 hs4
  go_wp2_with fail
  refine (hVer.out gp cp gs cs w8 hRp.out hRs.out hb8.out).mono ?_
  rintro e w9 ⟨rfl, hb9⟩
  have hs4 := hb8.out.size
  have hc63 : (63 : Int) ≤ (cs : Int) := by have := hRs.out.cap; omega
  replace hb9 := Lib.hid (hb8.out.trans (hb9.mono hs4))
  have hx := Lib.hid (verify_x2 (some ⟨gp, 0, none⟩) (some ⟨gs, 0, none⟩) cp 63 cs (.slice none 0 0) (by decide) w9)
  clear hb8 hs4 hRp hRs hVer
  go_wp2_with fail
  refine hx.out.mono ?_
  rintro e w10 ⟨rfl, hb10⟩
  have hs4 := hb9.out.size
  replace hb10 := Lib.hid (hb9.out.trans (hb10.mono hs4))
  clear hb9 hs4 hx
  go_wp2_with fail
  go_returns
  exact ⟨rfl, hb10.out⟩
theorem parts_new (w : World) (cs : List Value) (h : 0 < cs.length) (ty : TypeId) : Parts (w.alloc (.cells cs.toArray ty)) (.slice (some ⟨w.heap.size, 0, none⟩) cs.length cs.length) cs :=
  .inr ⟨_, 0, _, rfl, h, Nat.le_refl _, (Blk.new _ _ _).lt, fun j u hu => by rw [Nat.zero_add, (Blk.new w _ _).cell j]; simpa using hu⟩
theorem key_byt (f : Nat → Int) : Sc.Byt (Sh.ptI (Sh.keyP f)) := fun j => by
  by_cases hj : j < 32
  · exact ptI_r _ j hj
  · rw [Sh.ptI_far _ j hj]
    exact (show (0 : Int) ≤ 0 ∧ (0 : Int) < 256 by decide)
theorem sig_byt (f : Nat → Int) (l : Sh.Ps) : Sc.Byt (Sh.sigI f l) := Sh.catI_r _ ⟨fun j hj => ptI_r _ j hj, fun j _ => Sc.byt_r _ j, trivial⟩
/-- Sign of a row of parts that was just made -/
theorem signL (F : Nat → Int) (hF : Sc.Byt F) (cs : List Value) (l : Sh.Ps) (h0 : 0 < cs.length) (h9 : cs.length ≤ 10000) (hlen : Sh.lenI l ≤ 1000000) (hby : Sh.BytI l) (g c : Nat) (w : World) (hS : ShP w) (hCv : CvP w) (h : RowB w g 32 c F) (hl : PVs w cs l) :
    Calls Tryd.prog 21 #[.slice (some ⟨g, 0, none⟩) 32 c, .slice (some ⟨w.heap.size, 0, none⟩) cs.length cs.length] (w.alloc (.cells cs.toArray 22)) (PostBs 64 (Sh.sigI F l) w) := by
  have ha : Below w.heap.size w (w.alloc (.cells cs.toArray 22)) := (Below.refl _ _).alloc (Nat.le_refl _) _
  have hB := hS.lt
  exact (Sign_c (some ⟨g, 0, none⟩) c F h.cap (fun j _ => hF j) (.slice (some ⟨w.heap.size, 0, none⟩) cs.length cs.length) cs l (w.alloc (.cells cs.toArray 22)) (h.below ha).bx (parts_new w cs h0 _) (hl.below ha) hby hlen h9 (hS.below ha hB) (by have := ha.size; omega) (hCv.below ha hCv.lt)).mono (fun e w' ⟨g', c', he, hg, hR, hbb⟩ => ⟨g', c', he, by have := ha.size; omega, hR, ha.trans (hbb.mono ha.size)⟩)
theorem verifyL (K G : Nat → Int) (hK : Sc.Byt K) (hG : Sc.Byt G) (V : Bool) {l : Sh.Ps} (hv : Sh.verI K G l = V) (cs : List Value) (h0 : 0 < cs.length) (h9 : cs.length ≤ 10000) (hlen : Sh.lenI l ≤ 1000000) (hby : Sh.BytI l) (g c g2 d : Nat) (w : World) (hS : ShP w) (hCv : CvP w) (h : RowB w g 32 c K) (h2 : RowB w g2 64 d G) (hl : PVs w cs l) :
    Calls Tryd.prog 22 #[.slice (some ⟨g, 0, none⟩) 32 c, .slice (some ⟨g2, 0, none⟩) 64 d, .slice (some ⟨w.heap.size, 0, none⟩) cs.length cs.length] (w.alloc (.cells cs.toArray 22)) (PostV (.bool V) w) := by
  have ha : Below w.heap.size w (w.alloc (.cells cs.toArray 22)) := (Below.refl _ _).alloc (Nat.le_refl _) _
  have hB := hS.lt
  exact (Verify_c g 0 c g2 0 d K G (.slice (some ⟨w.heap.size, 0, none⟩) cs.length cs.length) cs l (w.alloc (.cells cs.toArray 22)) h.cap h2.cap hK hG (h.below ha).lt (fun j hj => by rw [Nat.zero_add]; exact (h.below ha).cell j hj) (h2.below ha).lt (fun j hj => by rw [Nat.zero_add]; exact (h2.below ha).cell j hj) (hCv.below ha hCv.lt) (parts_new w cs h0 _) (hl.below ha) hby hlen h9 (hS.below ha hB) (by have := ha.size; omega)).mono (fun e w' ⟨he, hbb⟩ => ⟨by rw [he, hv], ha.trans (hbb.mono ha.size)⟩)
end Go.Proofs.YtigcobcpfmnhoaaDoor
