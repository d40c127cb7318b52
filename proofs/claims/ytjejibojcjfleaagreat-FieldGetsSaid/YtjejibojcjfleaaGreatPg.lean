/- FieldGets answers true at every input, and its argument reads as it did; no condition. -/
import Derived.Test.YtjejibojcjfleaaGreatRows
import Derived.Test.YtjejibojcjfleaaGreatGd
import Derived.Test.YtjejibojcjfleaaGreatBl
import Derived.ChangeSlices
import Derived.OpenShut
namespace Go.Proofs.YtjejibojcjfleaaGreat
open Go.ChangeShapes Go.WideShapes Go.ChangeAt Go.RowKit

theorem own_ : ownKnob Tryz.prog.godebug = none := by kernel_rfl
theorem u8_cells : Tryz.prog.cellsOf 5 = 1 := by kernel_rfl
theorem u8_under : Tryz.prog.underlying 5 = some (.int .u8) := by kernel_rfl
theorem bool_under : Tryz.prog.underlying 4 = some .bool := by kernel_rfl
theorem row_mem (a : Addr) (n : Nat) (h : 0 < n) : ∃ p ∈ MemPlace.row a n, p.block = a.block := by
  refine ⟨.cell a.block (a.off + 0), ?_, rfl⟩
  simp only [MemPlace.row, List.mem_map, List.mem_range]
  exact ⟨0, h, rfl⟩
theorem add_at (a : Addr) (i : Nat) : (a.add i).block = a.block := by unfold Addr.add; split <;> rfl

set_option maxRecDepth 100000 in
theorem fieldGets_lifted (os : Os) (started : os.Started) (H : Type) (enc : TypeId × Value → H) :
    ReturnsInHanded {} Tryz.checked os 3 .any (Rows.fieldGetsSpec.pre6 enc Tryz.prog Tryz.f3 Rows.fieldGetsRow.domain false) (Rows.fieldGetsSpec.post enc Tryz.prog Tryz.f3 false true false false) := by
  refine returnsInHanded_of_change (C := Tryz.checked) own_ started (by kernel_rfl) Tryz.func3
    (ChangeSpec.witness6 (enc := enc) (C := Tryz.checked) false ⟨#[], #[.slice none 0 0], []⟩ 8 (by kernel_rfl) (by kernel_rfl) (by kernel_rfl) (by kernel_rfl)) ?_
  intro W base args ds gs before hval0 hW hcnd _
  have hval : ∀ (j : Nat) t v, Tryz.f3.params[j]? = some t → args[j]? = some v → Value.okWide Tryz.prog W .any base t v := hval0
  have hW' := hW
  obtain ⟨p, q, hA0, hV, rfl, hfz, hnd⟩ := hW
  have hA : DataW.TrodAll enc Tryz.prog W 0 (fun _ => true) true Tryz.f3.params.toList args.toList ds p := hA0
  rw [Tryz.params3] at hA hval
  obtain ⟨v0, d0, rfl, rfl, h0⟩ := trodAll_one hA
  obtain ⟨rfl, rfl⟩ := trodVars_none hV
  clear hA0 hval0
  simp only [List.append_nil] at hW'
  obtain ⟨a1, len, cap, rfl⟩ := okWide_slice bs_underK (hval 0 22 v0 rfl rfl)
  obtain ⟨fuel, hf⟩ := h0
  rcases open_ints bs_underK u8_under u8_cells hf with ⟨hcs, hx⟩ | ⟨a, len', cap', zs, hcs, _, hl, hm, hz, hx, hcell, hwz⟩
  · simp [Value.cells] at hcs
    obtain ⟨rfl, rfl, rfl⟩ := hcs
    simp only [Prod.mk.injEq] at hx
    obtain ⟨rfl, rfl⟩ := hx
    refine (gets_0 W).mono fun e W' ⟨he, hb⟩ => ?_
    subst he
    exact ⟨_, rfl, post_of_below (pa := []) (pv := []) hW' (fun _ _ _ => trodAll_mk1 (shut_bool bool_under true)) (fun sp _ => trodAll_mk1 ⟨2, by rw [DataW.trod_step]; unfold DataW.trodStep; rw [show Tryz.checked.prog.underlying 22 = some (.slice 5) from bs_underK]; rfl⟩) (fun _ _ => rfl) rfl hb
      (ok_one (by kernel_rfl) rfl (okWide_bool_mk bool_under true))⟩
  · simp [Value.cells] at hcs
    obtain ⟨rfl, rfl, rfl⟩ := hcs
    simp only [Prod.mk.injEq] at hx
    obtain ⟨rfl, rfl⟩ := hx
    simp only [if_true] at hz
    have hC : Calls Tryz.prog 3 #[.slice (some a) len cap] W (PostV (.bool true) W) := by
      by_cases hc0 : cap = 0
      · obtain rfl : len = 0 := by omega
        subst hc0
        exact gets_e a W
      · obtain ⟨ab, ao, spot⟩ := a
        have hc1 := hcell 0 (by omega)
        have hspot : spot = none := by simpa [Addr.add] using World.cell?_spot hc1
        subst hspot
        refine gets_s ab ao len cap (fun j => zs.getD j 0) (fun j => ?_) W ?_ (fun j hj => ?_)
        · have := range_u8 hwz j
          rw [List.getD_eq_getElem?_getD]
          omega
        · obtain ⟨p, hp, e⟩ := row_mem ⟨ab, ao, none⟩ zs.length (by omega)
          have := hW'.lt p hp
          rw [e] at this
          exact this
        · have := hcell j (by omega)
          rwa [add_o] at this
    refine hC.mono fun e W' ⟨he, hb⟩ => ?_
    subst he
    have hlt : ∀ i, i < zs.length → a.block < W.heap.size := fun i hi => by
      obtain ⟨p, hp, e⟩ := row_mem a zs.length (by omega)
      have := hW'.lt p hp
      rwa [e] at this
    refine ⟨_, rfl, post_of_below (pa := MemPlace.row a zs.length) (pv := []) hW' (fun _ _ _ => trodAll_mk1 (shut_bool bool_under true)) (fun sp hsp => trodAll_mk1 ⟨2, shut_ints 0 bs_underK u8_under u8_cells (Nat.zero_le _) hl hm ?_ (fun i hi => ?_) hwz⟩) (fun _ _ => rfl) (by simp) hb
      (ok_one (by kernel_rfl) rfl (okWide_bool_mk bool_under true))⟩
    · rw [hz]
      split
      · rfl
      · rename_i hns
        rcases Nat.eq_zero_or_pos cap with h | h
        · omega
        · obtain ⟨p, hp, e⟩ := row_mem a zs.length (by omega)
          have := hsp p hp
          rw [e] at this
          exact absurd this hns
    · rw [hb.cell (by rw [add_at]; exact hlt i hi)]
      exact hcell i hi

theorem fieldGets_holds : Rows.FieldGetsSaid :=
  OpenClaim.holds_of_wide 3 Tryz.f3 rfl rfl rfl rfl rfl rfl rfl ⟨rfl, rfl, rfl, rfl, rfl⟩ rfl rfl rfl rfl rfl (by kernel_rfl) Tryz.func3 (by kernel_rfl)
    (of_decide_eq_true (by kernel_rfl)) (by unfold Func.isWrapper; rw [if_neg (by decide +kernel)]; exact ⟨rfl, rfl⟩)
    (fun os started H enc _ => fieldGets_lifted os started H enc)

end Go.Proofs.YtjejibojcjfleaaGreat
