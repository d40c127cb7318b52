/- The walks of slices.Clone and vector.Add; dots appended onto a row of one's own. -/
import Derived.Test.YtofgkfdfondajaaGreatWy
import Derived.Maps.AppendAt
import Derived.OwnWalk
namespace Go.Proofs.YtofgkfdfondajaaGreat
open Go.RowKit
theorem dotL_app (xs ys : List Int) : dotL xs ++ dotL ys = dotL (xs ++ ys) := by simp [dotL]
theorem run_appD (w : World) (ty : TypeId) (base : Nat) (v : Value) (n : Nat) (ys xs : List Int) (hown : w.ownsRow base 35 2 v n (dotL ys)) (p : Option Addr) (m c : Nat) (hX : DotsL w p m xs)
    (hb : n + m ≤ 100000000) (hbase : base ≤ w.heap.size) :
    ∃ v' w', (Builtin.append_ #[23, 23] ty #[v, .slice p m c]).run Tryz.prog w = .ok v' w' ∧ w'.ownsRow base 35 2 v' (n + m) (dotL (ys ++ xs)) ∧ w.grownBy w' v.ownBlock ∧ (v'.ownBlock = v.ownBlock ∨ v'.ownBlock = some w.heap.size) := by
  obtain ⟨i, hi, hz, hs, hby⟩ := info_parts dot_info
  have hxl := hX.1
  have hone : ∀ ad : Addr, (∀ j u, (dotL xs)[j]? = some u → w.cell? (ad.add j) = some u) → p = some ad → ∃ v' w', (Builtin.append_ #[23, 23] ty #[v, .slice p m c]).run Tryz.prog w = .ok v' w' ∧ w'.ownsRow base 35 2 v' (n + m) (dotL (ys ++ xs)) ∧ w.grownBy w' v.ownBlock ∧ (v'.ownBlock = v.ownBlock ∨ v'.ownBlock = some w.heap.size) := fun ad h hp => by
    subst hp
    obtain ⟨v', w', h1, h2, h3, h4, h5⟩ := run_append_own_at (P := Tryz.prog) w base 23 ty 35 i (.agg #[.int .i64 0, .int .i64 0]) 2 16 ds_under hi hz hs hby rfl (by decide) v n (dotL ys) hown ad m c (dotL xs) (by rw [dotL_len, hxl]; omega) h (dotL_one xs) (by unfold maxLen; omega) (by omega) hbase
    exact ⟨v', w', h1, by rw [← dotL_app]; exact h2, h3, h5⟩
  by_cases h0 : m = 0
  · subst h0
    obtain rfl : xs = [] := List.eq_nil_of_length_eq_zero (by omega)
    cases p with
    | some ad => exact hone ad (fun j u hu => by simp [dotL] at hu) rfl
    | none =>
      rcases hown with ⟨hl, ⟨rfl, rfl⟩ | ⟨g, cap, cur, rfl, h1, h2, h3, h4, h5, h6⟩⟩
      · refine ⟨.slice none 0 0, w, ?_, ⟨by simpa using hl, .inl ⟨rfl, rfl⟩⟩, ⟨rfl, rfl, rfl, Nat.le_refl _, fun _ _ _ => rfl⟩, .inl rfl⟩
        simp [Builtin.append_, run_underlying ds_under, sizeOf, typeInfo, hi, Builtin.lenOf, Builtin.firstCells]
      · have hr := run_append_room_src (P := Tryz.prog) w 23 23 ty 35 i ds_under hi g 0 n cap (.slice none 0 c) 0 [] (Src.ofNil w ds_under c) (by omega) (fun j hj => absurd hj (by simp)) (fun j hj => absurd hj (by simp))
        simp only [Nat.add_zero, World.setCells] at hr
        exact ⟨_, w, hr, ⟨by simpa using hl, .inr ⟨g, cap, cur, rfl, h1, h2, h3, h4, h5, by simpa using h6⟩⟩, ⟨rfl, rfl, rfl, Nat.le_refl _, fun _ _ _ => rfl⟩, .inl rfl⟩
  · obtain ⟨g, o, rfl, _, hc⟩ := hX.2 (by omega)
    refine hone _ (fun j u hu => ?_) rfl
    rw [add_lit2]
    have hj : j < xs.length := by
      rcases Nat.lt_or_ge j xs.length with h | h
      · exact h
      · rw [List.getElem?_eq_none (by rw [dotL_len]; exact h)] at hu
        cases hu
    rw [hc j (by omega), ← hu]
    simp [dotL, hj]
section
variable {ops : Array Oper} {rest : List Oper} {o : Oper} {a : Act} {w : World} {Q : Exit → Act → World → Prop}
theorem wpList_appD (hgd : o.guard = none) {s x : Operand} (ho : o.op = .call { callee := .builtin .append, args := #[s, x], argTypes := #[23, 23] }) {v : Value} (hs : a.eval s = v) {base n : Nat} {ys xs : List Int} (hown : w.ownsRow base 35 2 v n (dotL ys))
    {p : Option Addr} {m c : Nat} (hx : a.eval x = .slice p m c) (hX : DotsL w p m xs) (hb : n + m ≤ 100000000) (hbase : base ≤ w.heap.size)
    (h : ∀ v' w', w'.ownsRow base 35 2 v' (n + m) (dotL (ys ++ xs)) → w.grownBy w' v.ownBlock → (v'.ownBlock = v.ownBlock ∨ v'.ownBlock = some w.heap.size) → wpList Tryz.prog ops Q rest (a.put o.dst v') w') : wpList Tryz.prog ops Q (o :: rest) a w :=
  wpList_plain hgd fun _ hK => by
    obtain ⟨v', w', hr, h2, h3, h4⟩ := run_appD w o.type base v n ys xs hown p m c hX hb hbase
    unfold Oper.wp execOp
    simp only [ho, resolve, invoke, builtin, Sem.run_bind, Sem.run_pure, Result.andThen_ok, List.map_toArray, List.map_cons, List.map_nil, hs, hx, hr]
    exact hK _ _ (h v' w' h2 h3 h4)
end
theorem eqnil_none (n c : Nat) (w : World) : (binOp .eql 23 (.slice none n c) (.slice none 0 0)).run Tryz.prog w = .ok (.bool true) w := by kernel_rfl
theorem eqnil_some (ad : Addr) (n c : Nat) (w : World) : (binOp .eql 23 (.slice (some ad) n c) (.slice none 0 0)).run Tryz.prog w = .ok (.bool false) w := by kernel_rfl
/-- a copy of dots, in new memory -/
def PostCl (n : Nat) (ds : List Int) (w : World) (e : Ending) (w' : World) : Prop := ∃ v, e = .returned v ∧ w'.ownsRow w.heap.size 35 2 v n (dotL ds) ∧ Below w.heap.size w w'
set_option maxRecDepth 20000 in
set_option maxHeartbeats 2000000 in
theorem clone_c (p : Option Addr) (n c : Nat) (ds : List Int) (hn : n ≤ 1000000) (w : World) (hD : DotsL w p n ds) :
    Calls Tryz.prog 23 #[.slice p n c] w (PostCl n ds w) := by
  cases p with
  | none =>
    have h0 : n = 0 := by
      rcases Nat.eq_zero_or_pos n with h | h
      · exact h
      · obtain ⟨_, _, e, _⟩ := hD.2 (by omega)
        cases e
    have hl := hD.1
    have hP : PostCl n ds w (.returned (.slice none 0 0)) w := ⟨_, rfl, ⟨by rw [dotL_len]; omega, .inl ⟨rfl, h0⟩⟩, Below.refl _ _⟩
    replace hP := Lib.hid hP
    clear h0 hl hD
    have he := eqnil_none n c
    go_enter Tryz.func23, Tryz.ntmps23
    go_wp2
    go_returns
    exact hP.out
  | some ad =>
    have hD2 := hD.below (w' := w.alloc (.cells #[] 35)) ((Below.refl _ _).alloc (Nat.le_refl _) _)
    have ho : (w.alloc (.cells #[] 35)).ownsRow w.heap.size 35 2 (.slice (some ⟨w.heap.size, 0, none⟩) 0 0) 0 (dotL []) := ⟨rfl, .inr ⟨w.heap.size, 0, #[], rfl, Nat.le_refl _, heap_alloc_new w _, Nat.le_refl _, Nat.zero_le _, rfl, rfl⟩⟩
    replace hD2 := Lib.hid hD2
    replace ho := Lib.hid ho
    clear hD
    have he := eqnil_some ad n c
    go_enter Tryz.func23, Tryz.ntmps23
    go_wp2_with (at_builtin; refine wpList_appD rfl rfl rfl ho.out rfl hD2.out (by omega) (by simp) ?_; intro v' w4 ho4 hg4 hc4; have hP := Lib.hid (show PostCl n ds w (.returned v') w4 from ⟨v', rfl, by rw [Nat.zero_add] at ho4; exact ho4, ((Below.refl w.heap.size w).alloc (Nat.le_refl _) _).grown hg4 (by simp) (fun k hk => by have h9 : w.heap.size = k := Option.some.inj hk; omega)⟩); clear ho4 hg4 hc4)
    go_returns
    exact hP.out
theorem own_mono {w : World} {base base' : Nat} {e : TypeId} {size : Nat} {v : Value} {n : Nat} {xs : List Value} (h : w.ownsRow base e size v n xs) (hb : base' ≤ base) : w.ownsRow base' e size v n xs := by
  refine ⟨h.1, ?_⟩
  rcases h.2 with hn | ⟨g, cap, cur, rfl, hg, rest⟩
  · exact .inl hn
  · exact .inr ⟨g, cap, cur, rfl, Nat.le_trans hb hg, rest⟩
/-- what a vector says with dots -/
def addA (n : Nat) (ds : List Int) (m : Nat) (ls : List Int) (q : Int) : Int := if rightD n (lD ds) = true ∧ anyF (fun x y => !okD x y) m (lD ls) = false then upsV ls m (fun r => valD n (lD ds) r) q else 0
set_option maxRecDepth 20000 in
set_option maxHeartbeats 4000000 in
theorem add_c (p : Option Addr) (n c : Nat) (ds : List Int) (q : Option Addr) (m c2 : Nat) (ls : List Int) (hn : n ≤ 1000) (hm : m ≤ 1000) (w : World) (hD : DotsL w p n ds) (hE : DotsL w q m ls) :
    Calls Tryz.prog 9 #[.slice p n c, .slice q m c2] w (PostV (addA n ds m ls) w) := by
  have hn2 : n ≤ 1000000 := by omega
  have hm2 : m ≤ 1000000 := by omega
  have hr := fun w' hb => vright_c p n c (lD ds) hn2 w' ((hD.2).below (w := w) (w' := w') hb)
  have hct := fun w' hb => containsA_c (fun x y => !okD x y) q m c2 (lD ls) hm2 w' ((hE.2).below (w := w) (w' := w') hb) (fun x y w2 hb2 => add1_c x y w2)
  have hcl := fun w' hb => clone_c p n c ds hn2 w' (hD.below (w := w) (w' := w') hb)
  have hqB : 0 < m → ∀ ad, q = some ad → ad.block < w.heap.size := fun h0 ad e => by
    obtain ⟨g, o, e2, hg, _⟩ := hE.2 (by omega)
    rw [e2] at e
    injection e with e
    subst e
    exact hg
  replace hr := Lib.hid hr
  replace hct := Lib.hid hct
  replace hcl := Lib.hid hcl
  replace hqB := Lib.hid hqB
  replace hE := Lib.hid hE
  clear hD
  go_enter Tryz.func9, Tryz.ntmps9
  go_wp2_with fail
  refine (hr.out _ (Below.refl _ _)).mono ?_
  rintro e w1 ⟨rfl, hb⟩
  clear hr
  cases hf : rightD n (lD ds)
  · have hP := Lib.hid (post_none (addA n ds m ls) w w1 (fun r => if_neg (fun h => by rw [hf] at h; cases h.1)) hb)
    clear hf
    go_wp2
    go_returns
    exact hP.out
  · have hR : RightD n (lD ds) := of_decide_eq_true hf
    go_wp2_with fail
    refine (hct.out _ hb).mono ?_
    rintro e w2 ⟨rfl, hb2⟩
    replace hb := hb.trans (hb2.mono hb.size)
    clear hb2 hct
    cases hk : anyF (fun x y => !okD x y) m (lD ls)
    · have hA : ∀ r, addA n ds m ls r = upsV ls m (fun r => valD n (lD ds) r) r := fun r => if_pos ⟨hf, hk⟩
      have hok : ∀ i, i < m → okD (lD ls (i * 2)) (lD ls (i * 2 + 1)) = true := fun i hi => by
        have h := of_decide_eq_false hk
        cases h2 : okD (lD ls (i * 2)) (lD ls (i * 2 + 1))
        · exact absurd ⟨i, hi, by show (!okD _ _) = true; rw [h2]; rfl⟩ h
        · rfl
      replace hA := Lib.hid hA
      replace hok := Lib.hid hok
      replace hR := Lib.hid hR
      clear hf hk
      go_wp2_with fail
      refine (hcl.out _ hb).mono ?_
      rintro e w3 ⟨v, rfl, ho, hb3⟩
      obtain ⟨qv, cv, rfl, _⟩ := own_form ho
      have hJ : JoinS w2.heap.size w3.heap.size (fun r => valD n (lD ds) r) (w3.alloc (.cells #[.slice qv n cv] 41)) := ⟨.slice qv n cv, n, ds, Blk.new _ _ _, ho.alloc _, hR.out, fun _ => rfl, ⟨hb3.size, fun h => by have := (ho.lt _ h).2; omega⟩, Nat.le_trans hb3.size (by simp)⟩
      have hbb : Below w.heap.size w (w3.alloc (.cells #[.slice qv n cv] 41)) := (hb.trans (hb3.mono hb.size)).alloc (Nat.le_trans hb.size hb3.size) _
      have hput := put_c w2.heap.size w3.heap.size _ q m c2 ls hm _ hJ (hE.out.below hbb) (fun h0 ad e => Nat.lt_of_lt_of_le (hqB.out h0 ad e) hb.size) hok.out
      have hsz := hb.size
      replace hput := Lib.hid hput
      clear hJ ho hok hqB hE hcl
      go_wp2_with fail
      refine hput.out.mono ?_
      rintro e w4 ⟨rfl, hJ4, hb4, _⟩
      obtain ⟨v4, m4, es, hBJ, ho4, hR4, hv4, ⟨hle, hne⟩, hBw⟩ := hJ4
      obtain ⟨q4, k4, rfl, _⟩ := own_form ho4
      have hP : PostV (addA n ds m ls) w (.returned (.slice q4 m4 k4)) w4 := ⟨q4, m4, k4, es, rfl, own_mono ho4 hsz, hR4, fun r => by rw [hv4, hA.out], hbb.trans (hb4.mono hsz)⟩
      have c0 : w4.cell? ⟨w3.heap.size, 0, none⟩ = some (.slice q4 m4 k4) := hBJ.cell 0
      replace hP := Lib.hid hP
      clear hBJ ho4 hR4 hv4 hne hA hput hR
      go_wp2
      go_returns
      exact hP.out
    · have hP := Lib.hid (post_none (addA n ds m ls) w w2 (fun r => if_neg (fun h => by rw [hk] at h; cases h.2)) hb)
      clear hf hk
      go_wp2
      go_returns
      exact hP.out
end Go.Proofs.YtofgkfdfondajaaGreat
