/- The walk of a record's text. -/
import Derived.Test.YtdgaoljobpneaaaJe
namespace Go.Proofs.Ytdgaoljobpneaaa
open Go.RowKit
theorem one_new (w : World) (x : Int) : BytesL (w.alloc (.cells #[.int .u8 x] 5)) (some ⟨w.heap.size, 0, none⟩) [x] := fun _ => ⟨_, _, rfl, by simp, fun j hj => by
  have : j = 0 := by simpa using hj
  subst this
  exact (Blk.new w 5 #[.int .u8 x]).cell 0⟩
def txL (k : ByteArray) (cl sq : Int) (p1 : Option Addr) (n1 c1 B0 H : Nat) : List (Value → World → Prop) := [
  SlL ([1]),
  Eq1 (.pointer (some ⟨H, 0, none⟩)),
  Eq1 (.pointer (some ⟨H, 0, none⟩)),
  Eq1 (.string k),
  SlL (keyL k),
  SlL (lenL (keyL k)),
  Eq1 (.pointer (some ⟨H, 0, none⟩)),
  Eq1 (.pointer (some ⟨H, 1, none⟩)),
  Eq1 (.int .i64 cl),
  SlL (numL cl),
  Eq1 (.pointer (some ⟨H, 0, none⟩)),
  Eq1 (.pointer (some ⟨H, 2, none⟩)),
  Eq1 (.int .i64 sq),
  SlL (numL sq),
  Eq1 (.pointer (some ⟨H, 0, none⟩)),
  Eq1 (.pointer (some ⟨H, 3, none⟩)),
  Eq1 (.slice p1 n1 c1),
  Eq1 (.int .i64 n1),
  SlL (numL (n1 : Nat)),
  PtL B0 ([[1], lenL (keyL k), numL cl, numL sq, numL (n1 : Nat)]),
  PtL B0 ([[1], lenL (keyL k), numL cl, numL sq, numL (n1 : Nat)])]
theorem txS (k : ByteArray) (cl sq : Int) (p1 : Option Addr) (n1 c1 B0 H : Nat) : ∀ j x' q q', (txL k cl sq p1 n1 c1 B0 H).getD j (fun _ _ => True) x' q → Below q.heap.size q q' → (txL k cl sq p1 n1 c1 B0 H).getD j (fun _ _ => True) x' q' := by
  refine sta_all _ ?_
  simp only [txL, List.mem_cons, forall_eq_or_imp, List.not_mem_nil, false_implies, implies_true, and_true]
  exact ⟨sta_slL _, sta_eq _, sta_eq _, sta_eq _, sta_slL _, sta_slL _, sta_eq _, sta_eq _, sta_eq _, sta_slL _, sta_eq _, sta_eq _, sta_eq _, sta_slL _, sta_eq _, sta_eq _, sta_eq _, sta_eq _, sta_slL _, sta_ptL _ _, sta_ptL _ _⟩
theorem bss_info : (Try.prog.info? 23).map (fun i => (i.zero, i.size, i.bytes)) = some (some (.slice none 0 0), 1, 24) := by kernel_rfl
theorem bss_under : Try.prog.underlying 62 = some (.slice 23) := by kernel_rfl
theorem PX.below {w w' : World} {v : Value} {q : Option Addr} {xs : List Int} (h : PX w v q xs) (hb : Below w.heap.size w w') : PX w' v q xs := fun hm => by
  obtain ⟨g, o, e, hlt, hne, hc⟩ := h hm
  exact ⟨g, o, e, Nat.lt_of_lt_of_le hlt hb.size, hne, fun j hj => (hb.cell (p := ⟨g, o + j, none⟩) hlt).trans (hc j hj)⟩
/-- bytes answered just now lie apart from a row of one's own -/
theorem px_of {w : World} {v : Value} {q : Option Addr} {xs : List Int} (h : BytesL w q xs) (hne : ∀ ad, q = some ad → v.ownBlock ≠ some ad.block) : PX w v q xs := fun hm => by
  obtain ⟨g, o, e, hg, hc⟩ := h hm
  exact ⟨g, o, e, hg, hne _ e, hc⟩
theorem run_pown {B : Nat} {w : World} {v : Value} {ps : List (List Int)} {q1 q2 : Option Addr} {n1 n2 c1 c2 : Nat} {x1 x2 : List Int} (ty : TypeId) (hP : POwn B w v ps) (hB : B ≤ w.heap.size) (h1 : PX w v q1 x1) (h2 : PX w v q2 x2) (e1 : n1 = x1.length) (e2 : n2 = x2.length) (hl : ps.length ≤ 10000000) :
    ∃ g cap w', (Builtin.append_ #[62, 62] ty #[v, .slice (some ⟨w.heap.size, 0, none⟩) 2 2]).run Try.prog (w.alloc (.cells #[.slice q1 n1 c1, .slice q2 n2 c2] 23)) = .ok (.slice (some ⟨g, 0, none⟩) (ps.length + 2) cap) w' ∧
      POwn B w' (.slice (some ⟨g, 0, none⟩) (ps.length + 2) cap) (ps ++ [x1, x2]) ∧ w.grownBy w' v.ownBlock ∧ ∀ k, v.ownBlock = some k → B ≤ k := by
  obtain ⟨i, hi, hz, hs, hby⟩ := info_parts bss_info
  obtain ⟨cells, ho, hc⟩ := hP
  have hbl : Below w.heap.size w (w.alloc (.cells #[.slice q1 n1 c1, .slice q2 n2 c2] 23)) := (Below.refl _ _).alloc (Nat.le_refl _) _
  obtain ⟨g, cap, w', hr, hown, hgr, hat, hlt⟩ := run_append_lies (P := Try.prog) (w.alloc (.cells #[.slice q1 n1 c1, .slice q2 n2 c2] 23)) 62 ty B 23 i _ 1 24 bss_under hi hz hs hby rfl (by decide) v ps.length cells (below_kept ho hbl) ⟨w.heap.size, 0, none⟩ 2 2 [.slice q1 n1 c1, .slice q2 n2 c2] rfl
    (World.news_of_block (Blk.new w 23 #[.slice q1 n1 c1, .slice q2 n2 c2])) (by
      intro u hu
      simp only [List.mem_cons, List.not_mem_nil, or_false] at hu
      rcases hu with rfl | rfl <;> rfl) (by decide) (by unfold maxLen; omega) (by omega) (Nat.le_trans hB hbl.size) _ rfl
  refine ⟨g, cap, w', hr, POwn.app2 ⟨cells, below_kept ho hbl, fun i hi => ?_, hown⟩ hgr ?_ e1 e2 (h1.below hbl) (h2.below hbl), ?_, fun k hk => (ho.lt k hk).1⟩
  · obtain ⟨q, n, c, h3, h4, h5⟩ := hc i hi
    exact ⟨q, n, c, h3, h4, h5.below hbl⟩
  · rcases hat with h | h
    · exact .inl (by rw [h]; rfl)
    · exact .inr (by rw [← h]; rfl)
  · exact (World.grownBy_alloc w _ _).trans hgr
theorem step_pown {B : Nat} {w : World} {v : Value} {ps : List (List Int)} {q1 q2 : Option Addr} {n1 n2 c1 c2 : Nat} {x1 x2 : List Int} {ops : Array Oper} {o : Oper} {a : Act} {K : Act → World → Prop} {Q : Exit → Act → World → Prop} {E : Prop} (hP : POwn B w v ps) (hB : B ≤ w.heap.size) (h1 : PX w v q1 x1) (h2 : PX w v q2 x2) (e1 : n1 = x1.length) (e2 : n2 = x2.length) (hl : ps.length ≤ 10000000)
    (hgd : o.guard = none) {s x : Operand} (ho : o.op = .call { callee := .builtin .append, args := #[s, x], argTypes := #[62, 62] }) (hs : a.eval s = v) (hx : a.eval x = .slice (some ⟨w.heap.size, 0, none⟩) 2 2)
    (h : ∀ g cap w', POwn B w' (.slice (some ⟨g, 0, none⟩) (ps.length + 2) cap) (ps ++ [x1, x2]) → w.grownBy w' v.ownBlock → (∀ k, v.ownBlock = some k → B ≤ k) → K (a.put o.dst (.slice (some ⟨g, 0, none⟩) (ps.length + 2) cap)) w') :
    if Region.wanted o (yielded ops a.tmps) = true then Oper.wp Try.prog o a (w.alloc (.cells #[.slice q1 n1 c1, .slice q2 n2 c2] 23)) K Q else E := by
  have hw : Region.wanted o (yielded ops a.tmps) = true := by simp [Region.wanted, hgd]
  rw [if_pos hw]
  obtain ⟨g, cap, w', hr, h3, h4, h5⟩ := run_pown (c1 := c1) (c2 := c2) o.type hP hB h1 h2 e1 e2 hl
  unfold Oper.wp execOp
  simp only [ho, resolve, invoke, builtin, Sem.run_bind, Sem.run_pure, Result.andThen_ok, List.map_toArray, List.map_cons, List.map_nil, hs, hx, hr]
  exact h g cap w' h3 h4 h5
theorem wpList_pown {B : Nat} {w : World} {v : Value} {ps : List (List Int)} {q1 q2 : Option Addr} {n1 n2 c1 c2 : Nat} {x1 x2 : List Int} {ops : Array Oper} {rest : List Oper} {o : Oper} {a : Act} {Q : Exit → Act → World → Prop} (hP : POwn B w v ps) (hB : B ≤ w.heap.size) (h1 : PX w v q1 x1) (h2 : PX w v q2 x2) (e1 : n1 = x1.length) (e2 : n2 = x2.length) (hl : ps.length ≤ 10000000)
    (hgd : o.guard = none) {s x : Operand} (ho : o.op = .call { callee := .builtin .append, args := #[s, x], argTypes := #[62, 62] }) (hs : a.eval s = v) (hx : a.eval x = .slice (some ⟨w.heap.size, 0, none⟩) 2 2)
    (h : ∀ g cap w', POwn B w' (.slice (some ⟨g, 0, none⟩) (ps.length + 2) cap) (ps ++ [x1, x2]) → w.grownBy w' v.ownBlock → (∀ k, v.ownBlock = some k → B ≤ k) → wpList Try.prog ops Q rest (a.put o.dst (.slice (some ⟨g, 0, none⟩) (ps.length + 2) cap)) w') :
    wpList Try.prog ops Q (o :: rest) a (w.alloc (.cells #[.slice q1 n1 c1, .slice q2 n2 c2] 23)) :=
  wpList_plain hgd fun _ hK => by
    obtain ⟨g, cap, w', hr, h3, h4, h5⟩ := run_pown (c1 := c1) (c2 := c2) o.type hP hB h1 h2 e1 e2 hl
    unfold Oper.wp execOp
    simp only [ho, resolve, invoke, builtin, Sem.run_bind, Sem.run_pure, Result.andThen_ok, List.map_toArray, List.map_cons, List.map_nil, hs, hx, hr]
    exact hK _ _ (h g cap w' h3 h4 h5)
theorem st_drew (w : World) : Below w.heap.size w w.drew := ⟨rfl, rfl, rfl, Nat.le_refl _, fun _ _ => rfl⟩
theorem POwn.lt {B : Nat} {w : World} {v : Value} {ps : List (List Int)} (h : POwn B w v ps) : ∀ g, v.ownBlock = some g → B ≤ g ∧ g < w.heap.size := fun g hg => by
  obtain ⟨cells, h1, _⟩ := h
  exact h1.lt g hg
theorem pown_two {B : Nat} {w w3 w4 : World} {v : Value} {ps : List (List Int)} {q1 q2 : Option Addr} {x1 x2 : List Int} (hP : POwn B w v ps) (hB : B ≤ w.heap.size) (hb3 : Below w.heap.size w w3) (hb4 : Below w3.heap.size w3 w4) (hR1 : BytesL w3 q1 x1) (hR2 : BytesL w4 q2 x2) (hf1 : ∀ ad, q1 = some ad → w.heap.size ≤ ad.block) (hf2 : ∀ ad, q2 = some ad → w3.heap.size ≤ ad.block) :
    POwn B w4 v ps ∧ B ≤ w4.heap.size ∧ PX w4 v q1 x1 ∧ PX w4 v q2 x2 := by
  refine ⟨(hP.below hb3).below hb4, Nat.le_trans hB (Nat.le_trans hb3.size hb4.size), px_of (hR1.below hb4) (fun ad e h => ?_), px_of hR2 (fun ad e h => ?_)⟩
  · have := (hP.lt _ h).2; have := hf1 ad e; omega
  · have := (hP.lt _ h).2; have := hf2 ad e; have := hb3.size; omega
theorem pown_gone {B gg : Nat} {w w2 : World} {v : Value} {ps : List (List Int)} {q2 : Option Addr} {x1 x2 : List Int} (hP : POwn B w v ps) (hB : B ≤ w.heap.size) (hg : gg < B) (h1 : BytesL w (some ⟨gg, 0, none⟩) x1) (hb : Below w.heap.size w w2) (h2 : BytesL w2 q2 x2) (hf2 : ∀ ad, q2 = some ad → w.heap.size ≤ ad.block) :
    POwn B w2 v ps ∧ B ≤ w2.heap.size ∧ PX w2 v (some ⟨gg, 0, none⟩) x1 ∧ PX w2 v q2 x2 := by
  refine ⟨hP.below hb, Nat.le_trans hB hb.size, px_of (h1.below hb) (fun ad e h => ?_), px_of h2 (fun ad e h => ?_)⟩
  · injection e with e; have := (hP.lt _ h).1; rw [← e] at this; exact absurd hg (Nat.not_lt.2 this)
  · have := (hP.lt _ h).2; have := hf2 ad e; omega
/-- the rows of a record's text, to dot m -/
def qL (k : ByteArray) (cl sq : Int) (n1 : Nat) (ds : List Int) : Nat → List (List Int)
  | 0 => [[1], lenL (keyL k), numL cl, numL sq, numL (n1 : Nat)]
  | m + 1 => qL k cl sq n1 ds m ++ [numL (dD ds (m * 2)), numL (dD ds (m * 2 + 1))]
theorem qL_len (k : ByteArray) (cl sq : Int) (n1 : Nat) (ds : List Int) : ∀ m, (qL k cl sq n1 ds m).length = 5 + 2 * m
  | 0 => rfl
  | m + 1 => by simp only [qL, List.length_append, qL_len k cl sq n1 ds m, List.length_cons, List.length_nil]; omega
theorem qL_flat (k : ByteArray) (cl sq : Int) (n1 : Nat) (ds : List Int) : ∀ m, (qL k cl sq n1 ds m).flatten.length = 33 + k.size + 16 * m
  | 0 => by simp [qL, lenL, numL_len, keyL_len]; omega
  | m + 1 => by simp only [qL, List.flatten_append, List.length_append, qL_flat k cl sq n1 ds m]; simp [numL_len]; omega
def goneI (g : Bool) : Int := if g then 1 else 0
/-- a record's text -/
def textL (k : ByteArray) (cl sq : Int) (n1 : Nat) (ds : List Int) (gone : Bool) (vs : List Int) : List Int := (qL k cl sq n1 ds n1 ++ [[goneI gone], lenL vs]).flatten
set_option maxRecDepth 20000 in
set_option maxHeartbeats 8000000 in
theorem text_o (k : ByteArray) (cl sq : Int) (p1 : Option Addr) (n1 c1 : Nat) (gone : Bool) (p2 : Option Addr) (n2 c2 : Nat) (p3 : Option Addr) (n3 c3 : Nat) (ds vs : List Int) (hk : k.size ≤ 64) (hcl0 : 0 ≤ cl) (hcl1 : cl < 4611686018427387904) (hsq0 : 0 ≤ sq) (hsq1 : sq < 4611686018427387904) (hn1 : n1 ≤ 400000) (hn2 : n2 = vs.length) (hn3 : n2 ≤ 1024) (w : World) (hD : DotsL w p1 n1 ds) (hV : BytesL w p2 vs) (hDr : ∀ i, i < 2 * n1 → 0 ≤ dD ds i ∧ dD ds i < 4611686018427387904) :
    Calls Try.prog 46 #[.agg #[.string k, .int .i64 cl, .int .i64 sq, .slice p1 n1 c1, .bool gone, .slice p2 n2 c2, .slice p3 n3 c3]] w (PostO (textL k cl sq n1 ds gone vs) w) := by
  obtain ⟨Q, hQ⟩ : ∃ Q, Q = qL k cl sq n1 ds := ⟨_, rfl⟩
  have hQ0 : Q 0 = [[1], lenL (keyL k), numL cl, numL sq, numL (n1 : Nat)] := by rw [hQ]; rfl
  have hQs : ∀ m, Q (m + 1) = Q m ++ [numL (dD ds (m * 2)), numL (dD ds (m * 2 + 1))] := by rw [hQ]; exact fun m => rfl
  have hQl : ∀ m, (Q m).length = 5 + 2 * m := by rw [hQ]; exact qL_len k cl sq n1 ds
  have hQt : ∀ g, (Q n1 ++ [[goneI g], lenL vs]).flatten = textL k cl sq n1 ds g vs ∧ (Q n1 ++ [[goneI g], lenL vs]).flatten.length ≤ 100000000 := by
    rw [hQ]
    refine fun g => ⟨rfl, ?_⟩
    rw [List.flatten_append, List.length_append, qL_flat]
    simp only [List.flatten_cons, List.flatten_nil, List.append_nil, List.length_append, List.length_cons, List.length_nil, lenL, numL_len]
    omega
  clear hQ
  replace hQ0 := Lib.hid hQ0
  replace hQs := Lib.hid hQs
  replace hQl := Lib.hid hQl
  replace hQt := Lib.hid hQt
  replace hDr := Lib.hid hDr
  replace hD := Lib.hid hD
  replace hV := Lib.hid hV
  replace hn2 := Lib.hid hn2
  go_enter Try.func46, Try.ntmps46
  cases gone
  · go_wp2
    refine at_world (fun W0 hW => ?_)
    have hG : Blk W0 w.heap.size 79 #[.string k, .int .i64 cl, .int .i64 sq, .slice p1 n1 c1, .bool false, .slice p2 n2 c2, .slice p3 n3 c3] := by rw [hW]; exact (Blk.new _ _ _).alloc _
    have hgg : Blk W0 (w.heap.size + 1) 5 #[.int .u8 0] := by rw [hW]; exact blk_at (by simp) (Blk.new _ _ _)
    have hb0 : Below w.heap.size w W0 := by rw [hW]; go_grown
    obtain ⟨B, hBe⟩ : ∃ B, B = w.heap.size + 1 + 1 := ⟨_, rfl⟩
    have hB : B ≤ W0.heap.size := by rw [hW, hBe]; simp
    have hgw : w.heap.size < w.heap.size + 1 := Nat.lt_succ_self _
    have hgB : w.heap.size + 1 < B := by omega
    clear hW hBe
    generalize w.heap.size + 1 = gg at *
    refine wp_region_grow2 21 (fun k => Nat.beq k 4 || (Nat.ble 13 k && Nat.ble k 32)) _ [] (fun j x' q => (txL k cl sq p1 n1 c1 B w.heap.size).getD j (fun _ _ => True) x' q) (fun _ => false) (fun f => #[.agg #[.string k, .int .i64 cl, .int .i64 sq, .slice p1 n1 c1, .bool false, .slice p2 n2 c2, .slice p3 n3 c3], .pointer (some ⟨w.heap.size, 0, none⟩), .slice none 0 0, .slice (some ⟨gg, 0, none⟩) 1 1, f 4, undef, undef, .slice (some ⟨gg, 0, none⟩) 1 1, .pointer (some ⟨w.heap.size, 0, none⟩), .pointer (some ⟨w.heap.size, 4, none⟩), .bool false, undef, undef, f 13, f 14, f 15, f 16, f 17, f 18, f 19, f 20, f 21, f 22, f 23, f 24, f 25, f 26, f 27, f 28, f 29, f 30, f 31, f 32, undef, undef, undef, undef, undef, undef, undef, undef, undef, undef, undef, undef, undef, undef, undef, undef, undef, undef, undef, undef, undef, undef, undef, undef, undef, undef, undef]) (fun f => rfl) (by kernel_rfl) (by kernel_rfl) (by kernel_rfl) (by kernel_rfl) (by kernel_rfl) (txS _ _ _ _ _ _ _ _) (fun _ _ _ h => by cases h) ?_ ?_
    · refine steps2_cons ?_ ?_
      · intro f w1 hb hd Q hK
        clear hd
        have hK := Lib.hid hK
        go_wp2
        exact hK.out _ _ ⟨_, _, _, rfl, rfl, one_new _ _⟩ ((Below.refl _ _).alloc (Nat.le_refl _) _) (fun h => by cases h)
      refine steps2_cons ?_ ?_
      · intro f w1 hb hd Q hK
        clear hd
        have hK := Lib.hid hK
        go_wp2
        exact hK.out _ _ rfl (Below.refl _ _) (fun h => by cases h)
      refine steps2_cons ?_ ?_
      · intro f w1 hb hd Q hK
        have e14 : f 14 = .pointer (some ⟨w.heap.size, 0, none⟩) := hd.1 rfl
        clear hd
        simp only [e14] at hK
        have hK := Lib.hid hK
        go_wp2
        exact hK.out _ _ rfl (Below.refl _ _) (fun h => by cases h)
      refine steps2_cons ?_ ?_
      · intro f w1 hb hd Q hK
        have e15 : f 15 = .pointer (some ⟨w.heap.size, 0, none⟩) := hd.1 rfl
        clear hd
        simp only [e15] at hK
        have hK := Lib.hid hK
        have c0 := (hG.below hb).cell 0
        simp only [List.getElem?_toArray, List.getElem?_cons_zero] at c0
        go_wp2
        exact hK.out _ _ rfl (Below.refl _ _) (fun h => by cases h)
      refine steps2_cons ?_ ?_
      · intro f w1 hb hd Q hK
        have e16 : f 16 = .string k := hd.1 rfl
        clear hd
        simp only [e16] at hK
        have hK := Lib.hid hK
        have kc := conv_run k
        go_wp2
        exact hK.out _ _ (conv_sl _ _ _) (conv_below _ _) (fun h => by cases h)
      refine steps2_cons ?_ ?_
      · intro f w1 hb hd Q hK
        obtain ⟨p17, n17, c17, e17, l17, b17⟩ := (hd.1 rfl : SlL (keyL k) (f 17) w1)
        replace l17 := Lib.hid l17
        replace b17 := Lib.hid b17
        clear hd
        simp only [e17] at hK
        have hK := Lib.hid hK
        go_wp2_with fail
        refine (bytes_l _ _ _ _ l17.out (by rw [l17.out, keyL_len]; omega) _ b17.out).mono ?_
        rintro e w2 ⟨r, m, c2, rfl, hm, hR, hb2, -⟩
        replace hm := Lib.hid hm
        go_wp2
        exact hK.out _ _ ⟨_, _, _, rfl, hm.out, hR⟩ hb2 (fun h => by cases h)
      refine steps2_cons ?_ ?_
      · intro f w1 hb hd Q hK
        clear hd
        have hK := Lib.hid hK
        go_wp2
        exact hK.out _ _ rfl (Below.refl _ _) (fun h => by cases h)
      refine steps2_cons ?_ ?_
      · intro f w1 hb hd Q hK
        have e19 : f 19 = .pointer (some ⟨w.heap.size, 0, none⟩) := hd.1 rfl
        clear hd
        simp only [e19] at hK
        have hK := Lib.hid hK
        go_wp2
        exact hK.out _ _ rfl (Below.refl _ _) (fun h => by cases h)
      refine steps2_cons ?_ ?_
      · intro f w1 hb hd Q hK
        have e20 : f 20 = .pointer (some ⟨w.heap.size, 1, none⟩) := hd.1 rfl
        clear hd
        simp only [e20] at hK
        have hK := Lib.hid hK
        have c0 := (hG.below hb).cell 1
        simp only [List.getElem?_toArray, List.getElem?_cons_zero, List.getElem?_cons_succ] at c0
        go_wp2
        exact hK.out _ _ rfl (Below.refl _ _) (fun h => by cases h)
      refine steps2_cons ?_ ?_
      · intro f w1 hb hd Q hK
        have e21 : f 21 = .int .i64 cl := hd.1 rfl
        clear hd
        simp only [e21] at hK
        have hK := Lib.hid hK
        go_wp2_with fail
        refine (number_c cl hcl0 hcl1 _).mono ?_
        rintro e w2 ⟨r, m, c2, rfl, hm, hR, hb2, -⟩
        replace hm := Lib.hid hm
        go_wp2
        exact hK.out _ _ ⟨_, _, _, rfl, hm.out, hR⟩ hb2 (fun h => by cases h)
      refine steps2_cons ?_ ?_
      · intro f w1 hb hd Q hK
        clear hd
        have hK := Lib.hid hK
        go_wp2
        exact hK.out _ _ rfl (Below.refl _ _) (fun h => by cases h)
      refine steps2_cons ?_ ?_
      · intro f w1 hb hd Q hK
        have e23 : f 23 = .pointer (some ⟨w.heap.size, 0, none⟩) := hd.1 rfl
        clear hd
        simp only [e23] at hK
        have hK := Lib.hid hK
        go_wp2
        exact hK.out _ _ rfl (Below.refl _ _) (fun h => by cases h)
      refine steps2_cons ?_ ?_
      · intro f w1 hb hd Q hK
        have e24 : f 24 = .pointer (some ⟨w.heap.size, 2, none⟩) := hd.1 rfl
        clear hd
        simp only [e24] at hK
        have hK := Lib.hid hK
        have c0 := (hG.below hb).cell 2
        simp only [List.getElem?_toArray, List.getElem?_cons_zero, List.getElem?_cons_succ] at c0
        go_wp2
        exact hK.out _ _ rfl (Below.refl _ _) (fun h => by cases h)
      refine steps2_cons ?_ ?_
      · intro f w1 hb hd Q hK
        have e25 : f 25 = .int .i64 sq := hd.1 rfl
        clear hd
        simp only [e25] at hK
        have hK := Lib.hid hK
        go_wp2_with fail
        refine (number_c sq hsq0 hsq1 _).mono ?_
        rintro e w2 ⟨r, m, c2, rfl, hm, hR, hb2, -⟩
        replace hm := Lib.hid hm
        go_wp2
        exact hK.out _ _ ⟨_, _, _, rfl, hm.out, hR⟩ hb2 (fun h => by cases h)
      refine steps2_cons ?_ ?_
      · intro f w1 hb hd Q hK
        clear hd
        have hK := Lib.hid hK
        go_wp2
        exact hK.out _ _ rfl (Below.refl _ _) (fun h => by cases h)
      refine steps2_cons ?_ ?_
      · intro f w1 hb hd Q hK
        have e27 : f 27 = .pointer (some ⟨w.heap.size, 0, none⟩) := hd.1 rfl
        clear hd
        simp only [e27] at hK
        have hK := Lib.hid hK
        go_wp2
        exact hK.out _ _ rfl (Below.refl _ _) (fun h => by cases h)
      refine steps2_cons ?_ ?_
      · intro f w1 hb hd Q hK
        have e28 : f 28 = .pointer (some ⟨w.heap.size, 3, none⟩) := hd.1 rfl
        clear hd
        simp only [e28] at hK
        have hK := Lib.hid hK
        have c0 := (hG.below hb).cell 3
        simp only [List.getElem?_toArray, List.getElem?_cons_zero, List.getElem?_cons_succ] at c0
        go_wp2
        exact hK.out _ _ rfl (Below.refl _ _) (fun h => by cases h)
      refine steps2_cons ?_ ?_
      · intro f w1 hb hd Q hK
        have e29 : f 29 = .slice p1 n1 c1 := hd.1 rfl
        clear hd
        simp only [e29] at hK
        have hK := Lib.hid hK
        go_wp2
        exact hK.out _ _ rfl (Below.refl _ _) (fun h => by cases h)
      refine steps2_cons ?_ ?_
      · intro f w1 hb hd Q hK
        have e30 : f 30 = .int .i64 n1 := hd.1 rfl
        clear hd
        simp only [e30] at hK
        have hK := Lib.hid hK
        go_wp2_with fail
        refine (number_c (n1 : Int) (by omega) (by omega) _).mono ?_
        rintro e w2 ⟨r, m, c2, rfl, hm, hR, hb2, -⟩
        replace hm := Lib.hid hm
        go_wp2
        exact hK.out _ _ ⟨_, _, _, rfl, hm.out, hR⟩ hb2 (fun h => by cases h)
      refine steps2_cons ?_ ?_
      · intro f w1 hb hd Q hK
        obtain ⟨p13, n13, c13, e13, l13, b13⟩ := (hd.1 rfl : SlL ([1]) (f 13) w1)
        replace l13 := Lib.hid l13
        replace b13 := Lib.hid b13
        obtain ⟨p18, n18, c18, e18, l18, b18⟩ := (hd.2.1 rfl : SlL (lenL (keyL k)) (f 18) w1)
        replace l18 := Lib.hid l18
        replace b18 := Lib.hid b18
        obtain ⟨p22, n22, c22, e22, l22, b22⟩ := (hd.2.2.1 rfl : SlL (numL cl) (f 22) w1)
        replace l22 := Lib.hid l22
        replace b22 := Lib.hid b22
        obtain ⟨p26, n26, c26, e26, l26, b26⟩ := (hd.2.2.2.1 rfl : SlL (numL sq) (f 26) w1)
        replace l26 := Lib.hid l26
        replace b26 := Lib.hid b26
        obtain ⟨p31, n31, c31, e31, l31, b31⟩ := (hd.2.2.2.2.1 rfl : SlL (numL (n1 : Nat)) (f 31) w1)
        replace l31 := Lib.hid l31
        replace b31 := Lib.hid b31
        clear hd
        simp only [e13, e18, e22, e26, e31] at hK
        have hK := Lib.hid hK
        have hB1 := Nat.le_trans hB hb.size
        go_wp2
        exact hK.out _ _ ⟨_, rfl, pown5 hB1 ⟨_, _, _, rfl, l13.out, b13.out⟩ ⟨_, _, _, rfl, l18.out, b18.out⟩ ⟨_, _, _, rfl, l22.out, b22.out⟩ ⟨_, _, _, rfl, l26.out, b26.out⟩ ⟨_, _, _, rfl, l31.out, b31.out⟩⟩ ((Below.refl _ _).alloc (Nat.le_refl _) _) (fun h => by cases h)
      refine steps2_cons ?_ ?_
      · intro f w1 hb hd Q hK
        obtain ⟨g32, e32, po32⟩ := (hd.1 rfl : PtL B ([[1], lenL (keyL k), numL cl, numL sq, numL (n1 : Nat)]) (f 32) w1)
        replace po32 := Lib.hid po32
        clear hd
        simp only [e32] at hK
        have hK := Lib.hid hK
        go_wp2
        exact hK.out _ _ ⟨_, rfl, po32.out⟩ (Below.refl _ _) (fun h => by cases h)
      trivial
    · intro f w1 hb hf hne
      refine wpList_nil ?_
      obtain ⟨g4, d4, po4⟩ : PtL B ([[1], lenL (keyL k), numL cl, numL sq, numL (n1 : Nat)]) (f 4) w1 := hf 20 _ _ (by decide) rfl rfl
      clear hf hne
      simp only [d4]
      clear d4
      replace hG := hG.below hb
      replace hgg := hgg.below hb
      replace hb0 := hb0.trans (hb.mono hb0.size)
      have hBs : B ≤ w1.heap.size := Nat.le_trans hB hb.size
      clear hb hB
      replace po4 := Lib.hid po4
      obtain ⟨y0, y1, y2, y3, y4, y5, y6⟩ := blk7 hG
      go_wp2
      clear y0 y1 y2 y3 y4 y5 y6
      go_loopw [4, 37] (fun v i wr => ∃ m : Nat, m ≤ n1 ∧ i = .int .i64 m ∧ POwn B wr v (Q m) ∧ Blk wr w.heap.size 79 #[.string k, .int .i64 cl, .int .i64 sq, .slice p1 n1 c1, .bool false, .slice p2 n2 c2, .slice p3 n3 c3] ∧ Blk wr gg 5 #[.int .u8 0] ∧ B ≤ wr.heap.size ∧ Below w.heap.size w wr) (fun _ i _ => (n1 - intOf i).toNat)
      case atStart => exact ⟨0, by omega, rfl, by rw [hQ0.out]; exact po4.out, hG, hgg, hBs, hb0⟩
      case round =>
        clear hG hgg hb0 po4 hBs
        obtain ⟨m, hm, hi, hP, hG, hgg, hBs, hb⟩ := hrel
        subst hi
        by_cases he : m = n1
        · subst he
          have hgone : BytesL wr (some ⟨gg, 0, none⟩) [goneI false] := fun _ => ⟨gg, 0, rfl, hgg.lt, fun j hj => by
            have : j = 0 := by simpa using hj
            subst this
            exact hgg.cell 0⟩
          have hql : (Q m).length ≤ 10000000 := by rw [hQl.out m]; omega
          obtain ⟨ht1, ht2⟩ := hQt.out false
          replace ht1 := Lib.hid ht1
          replace ht2 := Lib.hid ht2
          replace hql := Lib.hid hql
          replace hgone := Lib.hid hgone
          replace hP := Lib.hid hP
          clear hm
          obtain ⟨y0, y1, y2, y3, y4, y5, y6⟩ := blk7 hG
          go_wp2_with fail
          clear y0 y1 y2 y3 y4 y5 y6
          refine (bytes_l p2 n2 c2 vs hn2.out (by omega) _ (hV.out.below hb)).mono ?_
          rintro e w2 ⟨q2, m2, k2, rfl, hm2, hR2, hb2, hf2⟩
          have hPP := pown_gone hP.out hBs hgB hgone.out hb2 hR2 hf2
          replace hm2 := Lib.hid hm2
          replace hPP := Lib.hid hPP
          have hb3 := hb.trans (hb2.mono hb.size)
          clear hP hR2 hf2 hgone hG hgg hb2 hb hBs
          go_wp2_with (refine wpList_pown hPP.out.1 hPP.out.2.1 hPP.out.2.2.1 hPP.out.2.2.2 rfl hm2.out hql.out rfl rfl rfl rfl ?_; intro g6 c6 w6 hP6 hgr6 hk6; replace hP6 := Lib.hid hP6; replace hgr6 := Lib.hid hgr6; replace hk6 := Lib.hid hk6)
          have hb6 := hb3.grown hgr6.out hb3.size (fun k h => by have := hk6.out k h; omega)
          have hpl : (Q m).length + 2 = (Q m ++ [[goneI false], lenL vs]).length := by simp
          have hpk : (Q m).length + 2 ≤ 1000000 := by rw [hQl.out m]; omega
          refine (join_o g6 0 _ c6 _ hpl ht2.out hpk w6 (hP6.out.parts hpl)).mono ?_
          rintro e w7 ⟨v7, n7, rfl, ho7, hb7⟩
          rw [ht1.out] at ho7
          have hb8 := hb6.trans (hb7.mono hb6.size)
          have ho8 := Lib.hid (own_mono ho7 hb6.size)
          clear ho7 hpl hpk hb7 hb6 hb3 hP6 hgr6 hk6 hPP ht1 ht2
          go_wp2
          go_returns
          exact ⟨_, _, rfl, ho8.out, hb8⟩
        · have hm0 : (0 : Int) ≤ (m : Int) := by omega
          have hm1 : (m : Int) < (n1 : Int) := by omega
          have hm2 : m < n1 := by omega
          obtain ⟨g, o, rfl, hg, hc⟩ := (hD.out.2.below hb) (by omega)
          have c0 : wr.cell? ⟨g, o + m * 2, none⟩ = some (.int .i64 (dD ds (m * 2))) := hc (m * 2) (by omega)
          have c1 : wr.cell? ⟨g, o + m * 2 + 1, none⟩ = some (.int .i64 (dD ds (m * 2 + 1))) := by rw [Nat.add_assoc]; exact hc (m * 2 + 1) (by omega)
          have hx := hDr.out (m * 2) (by omega)
          have hy := hDr.out (m * 2 + 1) (by omega)
          have hnx := number_c _ hx.1 hx.2
          have hny := number_c _ hy.1 hy.2
          have hqs := hQs.out m
          have hql : (Q m).length ≤ 10000000 := by rw [hQl.out m]; omega
          replace hqs := Lib.hid hqs
          replace hnx := Lib.hid hnx
          replace hny := Lib.hid hny
          have hgd0 : u4.ownBlock ≠ some wr.heap.size := fun h => by have := (hP.lt _ h).2; omega
          replace hP := Lib.hid hP
          replace hql := Lib.hid hql
          clear hx hy hc he hm
          generalize dD ds (m * 2) = x at *
          generalize dD ds (m * 2 + 1) = y at *
          go_wp2
          clear c0 c1 hg
          refine at_world (fun W1 hW => ?_)
          have hd : Blk W1 wr.heap.size 86 #[.int .i64 x, .int .i64 y] := by rw [hW]; exact Blk.new _ _ _
          have hbw : Below wr.heap.size wr W1 := by rw [hW]; exact (Below.refl _ _).alloc (Nat.le_refl _) _
          clear hW
          replace hP := Lib.hid ((hP.out.below hbw).below (st_drew W1))
          replace hG := (hG.below hbw).drew
          replace hgg := (hgg.below hbw).drew
          have hb1 := (hb.trans (hbw.mono hb.size)).drew
          replace hBs : B ≤ W1.drew.heap.size := Nat.le_trans hBs hbw.size
          replace hd := hd.drew
          clear hbw hb
          have hgd : some wr.heap.size ≠ u4.ownBlock := fun h => hgd0 h.symm
          replace hgd := Lib.hid hgd
          clear hgd0
          generalize wr.heap.size = gd at *
          go_region_held3 (fun w' => w'.cell? ⟨gd, 0, none⟩ = some (.int .i64 x) ∧ w'.cell? ⟨gd, 1, none⟩ = some (.int .i64 y)) (first | exact blk2 hd6 | exact blk2 (hd4.alloc _) | exact blk2 hd4 | exact blk2 hd3 | exact blk2 hd) (first | (go_at_call 79; refine (hnx.out _).mono ?_; rintro q w3 ⟨q1, m1, k1, rfl, hm1, hR1, hb3, hf1⟩; replace hm1 := Lib.hid hm1; replace hR1 := Lib.hid hR1; replace hf1 := Lib.hid hf1; have hd3 := hd.below hb3; clear hnx hd) | (go_at_call 79; refine (hny.out _).mono ?_; rintro q w4 ⟨q2, m2, k2, rfl, hm2', hR2, hb4, hf2⟩; replace hm2' := Lib.hid hm2'; replace hR2 := Lib.hid hR2; replace hf2 := Lib.hid hf2; have hd4 := hd3.below hb4; clear hny hd3; have hPP := Lib.hid (pown_two hP.out hBs hb3 hb4 hR1.out hR2.out hf1.out hf2.out)) | (refine step_pown hPP.out.1 hPP.out.2.1 hPP.out.2.2.1 hPP.out.2.2.2 hm1.out hm2'.out hql.out rfl rfl rfl rfl ?_; intro g6 c6 w6 hP6 hgr6 hk6; replace hP6 := Lib.hid hP6; replace hgr6 := Lib.hid hgr6; replace hk6 := Lib.hid hk6; have hd6 := Blk.grown hd4 hgr6.out hgd.out))
          have hs3 := hb3.size
          have hs4 := hb4.size
          have hs6 := hgr6.out.size
          have hG6 := Blk.grown ((hG.below hb3).below hb4) hgr6.out (fun h => by have := hk6.out _ h.symm; omega)
          have hgg6 := Blk.grown ((hgg.below hb3).below hb4) hgr6.out (fun h => by have := hk6.out _ h.symm; omega)
          have hbb := hb1.trans (hb3.mono hb1.size)
          have hbb2 := hbb.trans (hb4.mono hbb.size)
          have hb6 := hbb2.grown hgr6.out hbb2.size (fun k h => by have := hk6.out k h; omega)
          have hBs6 : B ≤ w6.heap.size := by omega
          clear hG hgg hbb hbb2 hb1 hb3 hb4 hd4 hd6 hPP hR1 hR2 hf1 hf2 hm1 hm2' hgr6 hk6 hs3 hs4 hs6
          go_wp2
          exact ⟨⟨m + 1, by omega, rfl, by rw [hqs.out]; exact hP6.out, hG6, hgg6, hBs6, hb6⟩, by simp [intOf]; omega⟩
  · go_wp2
    refine at_world (fun W0 hW => ?_)
    have hG : Blk W0 w.heap.size 79 #[.string k, .int .i64 cl, .int .i64 sq, .slice p1 n1 c1, .bool true, .slice p2 n2 c2, .slice p3 n3 c3] := by rw [hW]; exact (Blk.new _ _ _).alloc _
    have hgg : Blk W0 (w.heap.size + 1) 5 #[.int .u8 1] := by rw [hW]; exact blk_at (by simp) (Blk.new _ _ _)
    have hb0 : Below w.heap.size w W0 := by rw [hW]; go_grown
    obtain ⟨B, hBe⟩ : ∃ B, B = w.heap.size + 1 + 1 := ⟨_, rfl⟩
    have hB : B ≤ W0.heap.size := by rw [hW, hBe]; simp
    have hgw : w.heap.size < w.heap.size + 1 := Nat.lt_succ_self _
    have hgB : w.heap.size + 1 < B := by omega
    clear hW hBe
    generalize w.heap.size + 1 = gg at *
    refine wp_region_grow2 21 (fun k => Nat.beq k 4 || (Nat.ble 13 k && Nat.ble k 32)) _ [] (fun j x' q => (txL k cl sq p1 n1 c1 B w.heap.size).getD j (fun _ _ => True) x' q) (fun _ => false) (fun f => #[.agg #[.string k, .int .i64 cl, .int .i64 sq, .slice p1 n1 c1, .bool true, .slice p2 n2 c2, .slice p3 n3 c3], .pointer (some ⟨w.heap.size, 0, none⟩), .slice none 0 0, .slice (some ⟨gg, 0, none⟩) 1 1, f 4, undef, undef, .slice (some ⟨gg, 0, none⟩) 1 1, .pointer (some ⟨w.heap.size, 0, none⟩), .pointer (some ⟨w.heap.size, 4, none⟩), .bool true, .slice (some ⟨gg, 0, none⟩) 1 1, .pointer (some ⟨gg, 0, none⟩), f 13, f 14, f 15, f 16, f 17, f 18, f 19, f 20, f 21, f 22, f 23, f 24, f 25, f 26, f 27, f 28, f 29, f 30, f 31, f 32, undef, undef, undef, undef, undef, undef, undef, undef, undef, undef, undef, undef, undef, undef, undef, undef, undef, undef, undef, undef, undef, undef, undef, undef, undef, undef, undef]) (fun f => rfl) (by kernel_rfl) (by kernel_rfl) (by kernel_rfl) (by kernel_rfl) (by kernel_rfl) (txS _ _ _ _ _ _ _ _) (fun _ _ _ h => by cases h) ?_ ?_
    · refine steps2_cons ?_ ?_
      · intro f w1 hb hd Q hK
        clear hd
        have hK := Lib.hid hK
        go_wp2
        exact hK.out _ _ ⟨_, _, _, rfl, rfl, one_new _ _⟩ ((Below.refl _ _).alloc (Nat.le_refl _) _) (fun h => by cases h)
      refine steps2_cons ?_ ?_
      · intro f w1 hb hd Q hK
        clear hd
        have hK := Lib.hid hK
        go_wp2
        exact hK.out _ _ rfl (Below.refl _ _) (fun h => by cases h)
      refine steps2_cons ?_ ?_
      · intro f w1 hb hd Q hK
        have e14 : f 14 = .pointer (some ⟨w.heap.size, 0, none⟩) := hd.1 rfl
        clear hd
        simp only [e14] at hK
        have hK := Lib.hid hK
        go_wp2
        exact hK.out _ _ rfl (Below.refl _ _) (fun h => by cases h)
      refine steps2_cons ?_ ?_
      · intro f w1 hb hd Q hK
        have e15 : f 15 = .pointer (some ⟨w.heap.size, 0, none⟩) := hd.1 rfl
        clear hd
        simp only [e15] at hK
        have hK := Lib.hid hK
        have c0 := (hG.below hb).cell 0
        simp only [List.getElem?_toArray, List.getElem?_cons_zero] at c0
        go_wp2
        exact hK.out _ _ rfl (Below.refl _ _) (fun h => by cases h)
      refine steps2_cons ?_ ?_
      · intro f w1 hb hd Q hK
        have e16 : f 16 = .string k := hd.1 rfl
        clear hd
        simp only [e16] at hK
        have hK := Lib.hid hK
        have kc := conv_run k
        go_wp2
        exact hK.out _ _ (conv_sl _ _ _) (conv_below _ _) (fun h => by cases h)
      refine steps2_cons ?_ ?_
      · intro f w1 hb hd Q hK
        obtain ⟨p17, n17, c17, e17, l17, b17⟩ := (hd.1 rfl : SlL (keyL k) (f 17) w1)
        replace l17 := Lib.hid l17
        replace b17 := Lib.hid b17
        clear hd
        simp only [e17] at hK
        have hK := Lib.hid hK
        go_wp2_with fail
        refine (bytes_l _ _ _ _ l17.out (by rw [l17.out, keyL_len]; omega) _ b17.out).mono ?_
        rintro e w2 ⟨r, m, c2, rfl, hm, hR, hb2, -⟩
        replace hm := Lib.hid hm
        go_wp2
        exact hK.out _ _ ⟨_, _, _, rfl, hm.out, hR⟩ hb2 (fun h => by cases h)
      refine steps2_cons ?_ ?_
      · intro f w1 hb hd Q hK
        clear hd
        have hK := Lib.hid hK
        go_wp2
        exact hK.out _ _ rfl (Below.refl _ _) (fun h => by cases h)
      refine steps2_cons ?_ ?_
      · intro f w1 hb hd Q hK
        have e19 : f 19 = .pointer (some ⟨w.heap.size, 0, none⟩) := hd.1 rfl
        clear hd
        simp only [e19] at hK
        have hK := Lib.hid hK
        go_wp2
        exact hK.out _ _ rfl (Below.refl _ _) (fun h => by cases h)
      refine steps2_cons ?_ ?_
      · intro f w1 hb hd Q hK
        have e20 : f 20 = .pointer (some ⟨w.heap.size, 1, none⟩) := hd.1 rfl
        clear hd
        simp only [e20] at hK
        have hK := Lib.hid hK
        have c0 := (hG.below hb).cell 1
        simp only [List.getElem?_toArray, List.getElem?_cons_zero, List.getElem?_cons_succ] at c0
        go_wp2
        exact hK.out _ _ rfl (Below.refl _ _) (fun h => by cases h)
      refine steps2_cons ?_ ?_
      · intro f w1 hb hd Q hK
        have e21 : f 21 = .int .i64 cl := hd.1 rfl
        clear hd
        simp only [e21] at hK
        have hK := Lib.hid hK
        go_wp2_with fail
        refine (number_c cl hcl0 hcl1 _).mono ?_
        rintro e w2 ⟨r, m, c2, rfl, hm, hR, hb2, -⟩
        replace hm := Lib.hid hm
        go_wp2
        exact hK.out _ _ ⟨_, _, _, rfl, hm.out, hR⟩ hb2 (fun h => by cases h)
      refine steps2_cons ?_ ?_
      · intro f w1 hb hd Q hK
        clear hd
        have hK := Lib.hid hK
        go_wp2
        exact hK.out _ _ rfl (Below.refl _ _) (fun h => by cases h)
      refine steps2_cons ?_ ?_
      · intro f w1 hb hd Q hK
        have e23 : f 23 = .pointer (some ⟨w.heap.size, 0, none⟩) := hd.1 rfl
        clear hd
        simp only [e23] at hK
        have hK := Lib.hid hK
        go_wp2
        exact hK.out _ _ rfl (Below.refl _ _) (fun h => by cases h)
      refine steps2_cons ?_ ?_
      · intro f w1 hb hd Q hK
        have e24 : f 24 = .pointer (some ⟨w.heap.size, 2, none⟩) := hd.1 rfl
        clear hd
        simp only [e24] at hK
        have hK := Lib.hid hK
        have c0 := (hG.below hb).cell 2
        simp only [List.getElem?_toArray, List.getElem?_cons_zero, List.getElem?_cons_succ] at c0
        go_wp2
        exact hK.out _ _ rfl (Below.refl _ _) (fun h => by cases h)
      refine steps2_cons ?_ ?_
      · intro f w1 hb hd Q hK
        have e25 : f 25 = .int .i64 sq := hd.1 rfl
        clear hd
        simp only [e25] at hK
        have hK := Lib.hid hK
        go_wp2_with fail
        refine (number_c sq hsq0 hsq1 _).mono ?_
        rintro e w2 ⟨r, m, c2, rfl, hm, hR, hb2, -⟩
        replace hm := Lib.hid hm
        go_wp2
        exact hK.out _ _ ⟨_, _, _, rfl, hm.out, hR⟩ hb2 (fun h => by cases h)
      refine steps2_cons ?_ ?_
      · intro f w1 hb hd Q hK
        clear hd
        have hK := Lib.hid hK
        go_wp2
        exact hK.out _ _ rfl (Below.refl _ _) (fun h => by cases h)
      refine steps2_cons ?_ ?_
      · intro f w1 hb hd Q hK
        have e27 : f 27 = .pointer (some ⟨w.heap.size, 0, none⟩) := hd.1 rfl
        clear hd
        simp only [e27] at hK
        have hK := Lib.hid hK
        go_wp2
        exact hK.out _ _ rfl (Below.refl _ _) (fun h => by cases h)
      refine steps2_cons ?_ ?_
      · intro f w1 hb hd Q hK
        have e28 : f 28 = .pointer (some ⟨w.heap.size, 3, none⟩) := hd.1 rfl
        clear hd
        simp only [e28] at hK
        have hK := Lib.hid hK
        have c0 := (hG.below hb).cell 3
        simp only [List.getElem?_toArray, List.getElem?_cons_zero, List.getElem?_cons_succ] at c0
        go_wp2
        exact hK.out _ _ rfl (Below.refl _ _) (fun h => by cases h)
      refine steps2_cons ?_ ?_
      · intro f w1 hb hd Q hK
        have e29 : f 29 = .slice p1 n1 c1 := hd.1 rfl
        clear hd
        simp only [e29] at hK
        have hK := Lib.hid hK
        go_wp2
        exact hK.out _ _ rfl (Below.refl _ _) (fun h => by cases h)
      refine steps2_cons ?_ ?_
      · intro f w1 hb hd Q hK
        have e30 : f 30 = .int .i64 n1 := hd.1 rfl
        clear hd
        simp only [e30] at hK
        have hK := Lib.hid hK
        go_wp2_with fail
        refine (number_c (n1 : Int) (by omega) (by omega) _).mono ?_
        rintro e w2 ⟨r, m, c2, rfl, hm, hR, hb2, -⟩
        replace hm := Lib.hid hm
        go_wp2
        exact hK.out _ _ ⟨_, _, _, rfl, hm.out, hR⟩ hb2 (fun h => by cases h)
      refine steps2_cons ?_ ?_
      · intro f w1 hb hd Q hK
        obtain ⟨p13, n13, c13, e13, l13, b13⟩ := (hd.1 rfl : SlL ([1]) (f 13) w1)
        replace l13 := Lib.hid l13
        replace b13 := Lib.hid b13
        obtain ⟨p18, n18, c18, e18, l18, b18⟩ := (hd.2.1 rfl : SlL (lenL (keyL k)) (f 18) w1)
        replace l18 := Lib.hid l18
        replace b18 := Lib.hid b18
        obtain ⟨p22, n22, c22, e22, l22, b22⟩ := (hd.2.2.1 rfl : SlL (numL cl) (f 22) w1)
        replace l22 := Lib.hid l22
        replace b22 := Lib.hid b22
        obtain ⟨p26, n26, c26, e26, l26, b26⟩ := (hd.2.2.2.1 rfl : SlL (numL sq) (f 26) w1)
        replace l26 := Lib.hid l26
        replace b26 := Lib.hid b26
        obtain ⟨p31, n31, c31, e31, l31, b31⟩ := (hd.2.2.2.2.1 rfl : SlL (numL (n1 : Nat)) (f 31) w1)
        replace l31 := Lib.hid l31
        replace b31 := Lib.hid b31
        clear hd
        simp only [e13, e18, e22, e26, e31] at hK
        have hK := Lib.hid hK
        have hB1 := Nat.le_trans hB hb.size
        go_wp2
        exact hK.out _ _ ⟨_, rfl, pown5 hB1 ⟨_, _, _, rfl, l13.out, b13.out⟩ ⟨_, _, _, rfl, l18.out, b18.out⟩ ⟨_, _, _, rfl, l22.out, b22.out⟩ ⟨_, _, _, rfl, l26.out, b26.out⟩ ⟨_, _, _, rfl, l31.out, b31.out⟩⟩ ((Below.refl _ _).alloc (Nat.le_refl _) _) (fun h => by cases h)
      refine steps2_cons ?_ ?_
      · intro f w1 hb hd Q hK
        obtain ⟨g32, e32, po32⟩ := (hd.1 rfl : PtL B ([[1], lenL (keyL k), numL cl, numL sq, numL (n1 : Nat)]) (f 32) w1)
        replace po32 := Lib.hid po32
        clear hd
        simp only [e32] at hK
        have hK := Lib.hid hK
        go_wp2
        exact hK.out _ _ ⟨_, rfl, po32.out⟩ (Below.refl _ _) (fun h => by cases h)
      trivial
    · intro f w1 hb hf hne
      refine wpList_nil ?_
      obtain ⟨g4, d4, po4⟩ : PtL B ([[1], lenL (keyL k), numL cl, numL sq, numL (n1 : Nat)]) (f 4) w1 := hf 20 _ _ (by decide) rfl rfl
      clear hf hne
      simp only [d4]
      clear d4
      replace hG := hG.below hb
      replace hgg := hgg.below hb
      replace hb0 := hb0.trans (hb.mono hb0.size)
      have hBs : B ≤ w1.heap.size := Nat.le_trans hB hb.size
      clear hb hB
      replace po4 := Lib.hid po4
      obtain ⟨y0, y1, y2, y3, y4, y5, y6⟩ := blk7 hG
      go_wp2
      clear y0 y1 y2 y3 y4 y5 y6
      go_loopw [4, 37] (fun v i wr => ∃ m : Nat, m ≤ n1 ∧ i = .int .i64 m ∧ POwn B wr v (Q m) ∧ Blk wr w.heap.size 79 #[.string k, .int .i64 cl, .int .i64 sq, .slice p1 n1 c1, .bool true, .slice p2 n2 c2, .slice p3 n3 c3] ∧ Blk wr gg 5 #[.int .u8 1] ∧ B ≤ wr.heap.size ∧ Below w.heap.size w wr) (fun _ i _ => (n1 - intOf i).toNat)
      case atStart => exact ⟨0, by omega, rfl, by rw [hQ0.out]; exact po4.out, hG, hgg, hBs, hb0⟩
      case round =>
        clear hG hgg hb0 po4 hBs
        obtain ⟨m, hm, hi, hP, hG, hgg, hBs, hb⟩ := hrel
        subst hi
        by_cases he : m = n1
        · subst he
          have hgone : BytesL wr (some ⟨gg, 0, none⟩) [goneI true] := fun _ => ⟨gg, 0, rfl, hgg.lt, fun j hj => by
            have : j = 0 := by simpa using hj
            subst this
            exact hgg.cell 0⟩
          have hql : (Q m).length ≤ 10000000 := by rw [hQl.out m]; omega
          obtain ⟨ht1, ht2⟩ := hQt.out true
          replace ht1 := Lib.hid ht1
          replace ht2 := Lib.hid ht2
          replace hql := Lib.hid hql
          replace hgone := Lib.hid hgone
          replace hP := Lib.hid hP
          clear hm
          obtain ⟨y0, y1, y2, y3, y4, y5, y6⟩ := blk7 hG
          go_wp2_with fail
          clear y0 y1 y2 y3 y4 y5 y6
          refine (bytes_l p2 n2 c2 vs hn2.out (by omega) _ (hV.out.below hb)).mono ?_
          rintro e w2 ⟨q2, m2, k2, rfl, hm2, hR2, hb2, hf2⟩
          have hPP := pown_gone hP.out hBs hgB hgone.out hb2 hR2 hf2
          replace hm2 := Lib.hid hm2
          replace hPP := Lib.hid hPP
          have hb3 := hb.trans (hb2.mono hb.size)
          clear hP hR2 hf2 hgone hG hgg hb2 hb hBs
          go_wp2_with (refine wpList_pown hPP.out.1 hPP.out.2.1 hPP.out.2.2.1 hPP.out.2.2.2 rfl hm2.out hql.out rfl rfl rfl rfl ?_; intro g6 c6 w6 hP6 hgr6 hk6; replace hP6 := Lib.hid hP6; replace hgr6 := Lib.hid hgr6; replace hk6 := Lib.hid hk6)
          have hb6 := hb3.grown hgr6.out hb3.size (fun k h => by have := hk6.out k h; omega)
          have hpl : (Q m).length + 2 = (Q m ++ [[goneI true], lenL vs]).length := by simp
          have hpk : (Q m).length + 2 ≤ 1000000 := by rw [hQl.out m]; omega
          refine (join_o g6 0 _ c6 _ hpl ht2.out hpk w6 (hP6.out.parts hpl)).mono ?_
          rintro e w7 ⟨v7, n7, rfl, ho7, hb7⟩
          rw [ht1.out] at ho7
          have hb8 := hb6.trans (hb7.mono hb6.size)
          have ho8 := Lib.hid (own_mono ho7 hb6.size)
          clear ho7 hpl hpk hb7 hb6 hb3 hP6 hgr6 hk6 hPP ht1 ht2
          go_wp2
          go_returns
          exact ⟨_, _, rfl, ho8.out, hb8⟩
        · have hm0 : (0 : Int) ≤ (m : Int) := by omega
          have hm1 : (m : Int) < (n1 : Int) := by omega
          have hm2 : m < n1 := by omega
          obtain ⟨g, o, rfl, hg, hc⟩ := (hD.out.2.below hb) (by omega)
          have c0 : wr.cell? ⟨g, o + m * 2, none⟩ = some (.int .i64 (dD ds (m * 2))) := hc (m * 2) (by omega)
          have c1 : wr.cell? ⟨g, o + m * 2 + 1, none⟩ = some (.int .i64 (dD ds (m * 2 + 1))) := by rw [Nat.add_assoc]; exact hc (m * 2 + 1) (by omega)
          have hx := hDr.out (m * 2) (by omega)
          have hy := hDr.out (m * 2 + 1) (by omega)
          have hnx := number_c _ hx.1 hx.2
          have hny := number_c _ hy.1 hy.2
          have hqs := hQs.out m
          have hql : (Q m).length ≤ 10000000 := by rw [hQl.out m]; omega
          replace hqs := Lib.hid hqs
          replace hnx := Lib.hid hnx
          replace hny := Lib.hid hny
          have hgd0 : u4.ownBlock ≠ some wr.heap.size := fun h => by have := (hP.lt _ h).2; omega
          replace hP := Lib.hid hP
          replace hql := Lib.hid hql
          clear hx hy hc he hm
          generalize dD ds (m * 2) = x at *
          generalize dD ds (m * 2 + 1) = y at *
          go_wp2
          clear c0 c1 hg
          refine at_world (fun W1 hW => ?_)
          have hd : Blk W1 wr.heap.size 86 #[.int .i64 x, .int .i64 y] := by rw [hW]; exact Blk.new _ _ _
          have hbw : Below wr.heap.size wr W1 := by rw [hW]; exact (Below.refl _ _).alloc (Nat.le_refl _) _
          clear hW
          replace hP := Lib.hid ((hP.out.below hbw).below (st_drew W1))
          replace hG := (hG.below hbw).drew
          replace hgg := (hgg.below hbw).drew
          have hb1 := (hb.trans (hbw.mono hb.size)).drew
          replace hBs : B ≤ W1.drew.heap.size := Nat.le_trans hBs hbw.size
          replace hd := hd.drew
          clear hbw hb
          have hgd : some wr.heap.size ≠ u4.ownBlock := fun h => hgd0 h.symm
          replace hgd := Lib.hid hgd
          clear hgd0
          generalize wr.heap.size = gd at *
          go_region_held3 (fun w' => w'.cell? ⟨gd, 0, none⟩ = some (.int .i64 x) ∧ w'.cell? ⟨gd, 1, none⟩ = some (.int .i64 y)) (first | exact blk2 hd6 | exact blk2 (hd4.alloc _) | exact blk2 hd4 | exact blk2 hd3 | exact blk2 hd) (first | (go_at_call 79; refine (hnx.out _).mono ?_; rintro q w3 ⟨q1, m1, k1, rfl, hm1, hR1, hb3, hf1⟩; replace hm1 := Lib.hid hm1; replace hR1 := Lib.hid hR1; replace hf1 := Lib.hid hf1; have hd3 := hd.below hb3; clear hnx hd) | (go_at_call 79; refine (hny.out _).mono ?_; rintro q w4 ⟨q2, m2, k2, rfl, hm2', hR2, hb4, hf2⟩; replace hm2' := Lib.hid hm2'; replace hR2 := Lib.hid hR2; replace hf2 := Lib.hid hf2; have hd4 := hd3.below hb4; clear hny hd3; have hPP := Lib.hid (pown_two hP.out hBs hb3 hb4 hR1.out hR2.out hf1.out hf2.out)) | (refine step_pown hPP.out.1 hPP.out.2.1 hPP.out.2.2.1 hPP.out.2.2.2 hm1.out hm2'.out hql.out rfl rfl rfl rfl ?_; intro g6 c6 w6 hP6 hgr6 hk6; replace hP6 := Lib.hid hP6; replace hgr6 := Lib.hid hgr6; replace hk6 := Lib.hid hk6; have hd6 := Blk.grown hd4 hgr6.out hgd.out))
          have hs3 := hb3.size
          have hs4 := hb4.size
          have hs6 := hgr6.out.size
          have hG6 := Blk.grown ((hG.below hb3).below hb4) hgr6.out (fun h => by have := hk6.out _ h.symm; omega)
          have hgg6 := Blk.grown ((hgg.below hb3).below hb4) hgr6.out (fun h => by have := hk6.out _ h.symm; omega)
          have hbb := hb1.trans (hb3.mono hb1.size)
          have hbb2 := hbb.trans (hb4.mono hbb.size)
          have hb6 := hbb2.grown hgr6.out hbb2.size (fun k h => by have := hk6.out k h; omega)
          have hBs6 : B ≤ w6.heap.size := by omega
          clear hG hgg hbb hbb2 hb1 hb3 hb4 hd4 hd6 hPP hR1 hR2 hf1 hf2 hm1 hm2' hgr6 hk6 hs3 hs4 hs6
          go_wp2
          exact ⟨⟨m + 1, by omega, rfl, by rw [hqs.out]; exact hP6.out, hG6, hgg6, hBs6, hb6⟩, by simp [intOf]; omega⟩
end Go.Proofs.Ytdgaoljobpneaaa
