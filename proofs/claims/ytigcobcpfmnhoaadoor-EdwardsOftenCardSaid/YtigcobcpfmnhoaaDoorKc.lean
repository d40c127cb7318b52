/- append onto a row of bytes whose block is known: where the row lies behind it. -/
import Derived.Test.YtigcobcpfmnhoaaDoorKb
import Derived.OwnWalk
import Derived.Deep.AppendSrc
namespace Go.Proofs.YtigcobcpfmnhoaaDoor
open Go.RowKit
theorem u8_infoK : (Tryd.prog.info? 5).map (fun i => (i.zero, i.size, i.bytes)) = some (some (.int .u8 0), 1, 1) := by kernel_rfl
theorem bs_underK : Tryd.prog.underlying 22 = some (.slice 5) := by kernel_rfl
theorem run_app (w : World) (ty : TypeId) {g n c : Nat} {f f2 : Nat → Int} (hR : RowB w g n c f) (ad : Addr) (m c2 : Nat) (hf : ∀ i, i < n → f i = f2 i) (hnews : ∀ j, j < m → w.cell? (ad.add j) = some (.int .u8 (f2 (n + j)))) (hb : n + m ≤ 140737488355328) :
    ∃ g' c' w', (Builtin.append_ #[22, 22] ty #[.slice (some ⟨g, 0, none⟩) n c, .slice (some ad) m c2]).run Tryd.prog w = .ok (.slice (some ⟨g', 0, none⟩) (n + m) c') w' ∧ RowB w' g' (n + m) c' f2 ∧ w.grownBy w' (some g) ∧ ((g' = g ∧ c' = c ∧ n + m ≤ c) ∨ (g' = w.heap.size ∧ c < n + m)) := by
  obtain ⟨i, hi, hz, hs, hby⟩ := info_parts u8_infoK
  obtain ⟨cur, h1, h2, h3, h4, h5⟩ := hR
  have hcat : cB n f ++ (List.range m).map (fun j => Value.int .u8 (f2 (n + j))) = cB (n + m) f2 := by
    rw [cB_congr hf]
    unfold cB
    rw [List.range_add, List.map_append, List.map_map]
    rfl
  have hnl : ((List.range m).map fun j => Value.int .u8 (f2 (n + j))).length = m * i.size := by rw [hs]; simp
  have hnv : ∀ j u, ((List.range m).map fun j => Value.int .u8 (f2 (n + j)))[j]? = some u → w.cell? (ad.add j) = some u := fun j u hu => by
    rcases Nat.lt_or_ge j m with hj | hj
    · rw [hnews j hj]
      simpa [hj] using hu
    rw [List.getElem?_eq_none (by simpa using hj)] at hu
    cases hu
  have hone : ∀ u ∈ (List.range m).map (fun j => Value.int .u8 (f2 (n + j))), u.oneCell' = true := fun u hu => by
    obtain ⟨j, _, rfl⟩ := List.mem_map.1 hu
    rfl
  by_cases hroom : n + m ≤ c
  · have hr := run_append_room (P := Tryd.prog) w 22 ty 5 i bs_underK hi g n c cur h1 ad m c2 _ hnl hnv hone hroom (by rw [hs, h4]; simp; omega)
    refine ⟨g, c, _, hr, ⟨_, setRow_heap w g cur _ _ _ h1, hroom, h3, ?_, ?_⟩, ⟨rfl, rfl, rfl, by simp [World.setRow], fun k _ hk => setRow_other w g k _ (fun e => hk (by rw [e]))⟩, .inl ⟨rfl, rfl, hroom⟩⟩
    · simp [hs, h4]; omega
    simp only [hs, Nat.mul_one]
    rw [h5, hcat, List.take_left' (by rw [cB_len])]
  have hr := run_append_grow (P := Tryd.prog) w 22 ty 5 i (.int .u8 0) bs_underK hi hz ⟨g, 0, none⟩ n c (cB n f) (by rw [hs, cB_len, Nat.mul_one]) (fun j u hu => by
    have hadd : (⟨g, 0, none⟩ : Addr).add j = ⟨g, j, none⟩ := by unfold Addr.add; split <;> simp_all
    have hj : j < n := by
      rcases Nat.lt_or_ge j n with hj | hj
      · exact hj
      rw [List.getElem?_eq_none (by rw [cB_len]; exact hj)] at hu
      cases hu
    rw [hadd, RowB.cell ⟨cur, h1, h2, h3, h4, h5⟩ j hj, ← hu, cB_get n f j hj]) ad m c2 _ hnl hnv (by omega) (by omega) (growslice_fits (by omega) (by rw [hby]; omega))
  have hge := grownCap_ge w (n + m) c 5
  refine ⟨w.heap.size, _, _, hr, ⟨_, heap_alloc_new w.drew _, hge, grownCap_le_maxLen w _ _ _ (by unfold maxLen; omega), ?_, ?_⟩, ⟨rfl, rfl, rfl, by simp, fun k hk h => (World.grownBy_alloc w.drew _ (some g)).block k hk h⟩, .inr ⟨rfl, by omega⟩⟩
  · simp only [Array.size_append, List.size_toArray, size_zeroCells, cB_len]
    simp [Value.cells]
    omega
  simp only [Array.toList_append]
  rw [hcat, List.take_left' (by rw [cB_len])]
section
variable {ops : Array Oper} {rest : List Oper} {o : Oper} {a : Act} {w : World} {Q : Exit → Act → World → Prop}
theorem wpList_app (hgd : o.guard = none) {s x : Operand} (ho : o.op = .call { callee := .builtin .append, args := #[s, x], argTypes := #[22, 22] }) {g n c : Nat} {f : Nat → Int} (hs : a.eval s = .slice (some ⟨g, 0, none⟩) n c) (hR : RowB w g n c f)
    {ad : Addr} {m c2 : Nat} (hx : a.eval x = .slice (some ad) m c2) (f2 : Nat → Int) (hf : ∀ i, i < n → f i = f2 i) (hnews : ∀ j, j < m → w.cell? (ad.add j) = some (.int .u8 (f2 (n + j)))) (hb : n + m ≤ 140737488355328)
    (h : ∀ g' c' w', RowB w' g' (n + m) c' f2 → w.grownBy w' (some g) → ((g' = g ∧ c' = c ∧ n + m ≤ c) ∨ (g' = w.heap.size ∧ c < n + m)) → wpList Tryd.prog ops Q rest (a.put o.dst (.slice (some ⟨g', 0, none⟩) (n + m) c')) w') : wpList Tryd.prog ops Q (o :: rest) a w :=
  wpList_plain hgd fun _ hK => by
    obtain ⟨g', c', w', hr, h2, h3, h4⟩ := run_app w o.type hR ad m c2 hf hnews hb
    unfold Oper.wp execOp
    simp only [ho, resolve, invoke, builtin, Sem.run_bind, Sem.run_pure, Result.andThen_ok, List.map_toArray, List.map_cons, List.map_nil, hs, hx, hr]
    exact hK _ _ (h g' c' w' h2 h3 h4)
/-- nothing is appended -/
theorem wpList_app0 (hgd : o.guard = none) {s x : Operand} (ho : o.op = .call { callee := .builtin .append, args := #[s, x], argTypes := #[22, 22] }) {g n c : Nat} {f : Nat → Int} (hs : a.eval s = .slice (some ⟨g, 0, none⟩) n c) (hR : RowB w g n c f) {c2 : Nat}
    (hx : a.eval x = .slice none 0 c2) (h : wpList Tryd.prog ops Q rest (a.put o.dst (.slice (some ⟨g, 0, none⟩) n c)) w) : wpList Tryd.prog ops Q (o :: rest) a w :=
  wpList_plain hgd fun _ hK => by
    obtain ⟨i, hi, hz, hsz, hby⟩ := info_parts u8_infoK
    obtain ⟨cur, h1, h2, h3, h4, h5⟩ := hR
    have hr := run_append_room_src (P := Tryd.prog) w 22 22 o.type 5 i bs_underK hi g 0 n c (.slice none 0 c2) 0 [] (Src.ofNil w bs_underK c2) (by omega) (fun j hj => absurd hj (by simp)) (fun j hj => absurd hj (by simp))
    simp only [Nat.add_zero, World.setCells] at hr
    unfold Oper.wp execOp
    simp only [ho, resolve, invoke, builtin, Sem.run_bind, Sem.run_pure, Result.andThen_ok, List.map_toArray, List.map_cons, List.map_nil, hs, hx, hr]
    exact hK _ _ h
end
end Go.Proofs.YtigcobcpfmnhoaaDoor
