/- The walks of New, one, rootOf. -/
import Derived.Test.YtdgaoljobpneaaaHl
namespace Go.Proofs.Ytdgaoljobpneaaa
open Go.RowKit
theorem book_nil {α : Type} {O : Nat → World → Value → α → List Nat → Prop} {T : α → List Int} {ok : α → Prop} {ty : TypeId} {k B : Nat} {w : World} {S : List Nat} {m : Nat} (h : w.ownsMap (H := Unit) Try.prog 9 (plainElem Try.prog 3) m 0 (.map [])) (hS : m ∈ S) : Book O T ok ty k B w S (.slice none 0 0) m [] :=
  ⟨[], [], .map [], ⟨by simp, .inl ⟨rfl, rfl⟩⟩, ⟨rfl, rfl, fun i v r bl h => by simp at h⟩, fun g hg => by simp at hg, fun g hg => by simp [Value.ownBlock] at hg, h, hS, fun xs _ => rfl, fun r hr => by cases hr⟩
theorem bkRec_size : (Try.prog.info? 34).map (·.size) = some 4 := by kernel_rfl
theorem bkRec_under : ∃ d, Try.prog.underlying 34 = some d ∧ (match d with | .struct _ | .array _ _ => true | _ => false) = true := by
  cases h : Try.prog.underlying 34 with
  | none => exact absurd (show (Try.prog.underlying 34).isSome = true by kernel_rfl) (by rw [h]; decide)
  | some d => exact ⟨d, rfl, by have := show (match Try.prog.underlying 34 with | some (.struct _) | some (.array _ _) => true | _ => false) = true by kernel_rfl
                                rw [h] at this
                                cases d <;> simp_all⟩
set_option maxHeartbeats 2000000 in
theorem begunRec_c (w : World) : Calls Try.prog 41 #[.func (.func 16) #[] #[], .func (.func 42) #[] #[]] w fun e w' => ∃ m, e = .returned (.agg #[.slice none 0 0, .map (some m), .func (.func 16) #[] #[], .func (.func 42) #[] #[]]) ∧ w.heap.size ≤ m ∧ w'.ownsMap (H := Unit) Try.prog 9 (plainElem Try.prog 3) m 0 (.map []) ∧ Below w.heap.size w w' := by
  have hmm := @run_makeMap Try.prog
  have hB : Blk ((w.alloc (.cells #[.slice none 0 0, .map none, .nilFunc, .nilFunc] 34)).alloc (.map #[] 0)) w.heap.size 34 #[.slice none 0 0, .map none, .nilFunc, .nilFunc] := (Blk.new _ _ _).alloc _
  have hm : ((w.alloc (.cells #[.slice none 0 0, .map none, .nilFunc, .nilFunc] 34)).alloc (.map #[] 0)).ownsMap (H := Unit) Try.prog 9 (plainElem Try.prog 3) (w.heap.size + 1) 0 (.map []) := by
    have := World.ownsMap_made (H := Unit) (w.alloc (.cells #[.slice none 0 0, .map none, .nilFunc, .nilFunc] 34)) Try.prog 9 (plainElem Try.prog 3)
    simpa using this
  have hb : Below w.heap.size w ((w.alloc (.cells #[.slice none 0 0, .map none, .nilFunc, .nilFunc] 34)).alloc (.map #[] 0)) := by go_grown
  replace hm := Lib.hid hm
  replace hb := Lib.hid hb
  go_enter Try.func41, Try.ntmps41
  go_wp2_with (refine wpList_store_blk rfl _ _ _ rfl _ _ _ _ rfl rfl hB rfl bkRec_size (by kernel_rfl) ?_; intro w2 hB2 hg2 hs2; replace hg2 := Lib.hid hg2; replace hs2 := Lib.hid hs2)
  obtain ⟨d, hd, hs⟩ := bkRec_under
  refine bodyPost_ret (results_cell_row rfl _ w2 w.heap.size 34 _ (0, 0) d rfl hB2 hd (by revert hs; cases d <;> exact fun h => h) bkRec_size) rfl ?_
  refine ⟨w.heap.size + 1, rfl, by omega, hm.out.kept hg2.out (fun h => by injection h with h; omega), hb.out.grown hg2.out hb.out.size (fun k h => by injection h with h; omega)⟩
theorem bkRoot_size : (Try.prog.info? 41).map (·.size) = some 4 := by kernel_rfl
theorem bkRoot_under : ∃ d, Try.prog.underlying 41 = some d ∧ (match d with | .struct _ | .array _ _ => true | _ => false) = true := by
  cases h : Try.prog.underlying 41 with
  | none => exact absurd (show (Try.prog.underlying 41).isSome = true by kernel_rfl) (by rw [h]; decide)
  | some d => exact ⟨d, rfl, by have := show (match Try.prog.underlying 41 with | some (.struct _) | some (.array _ _) => true | _ => false) = true by kernel_rfl
                                rw [h] at this
                                cases d <;> simp_all⟩
set_option maxHeartbeats 2000000 in
theorem begunRoot_c (w : World) : Calls Try.prog 43 #[.func (.func 19) #[] #[], .func (.func 44) #[] #[]] w fun e w' => ∃ m, e = .returned (.agg #[.slice none 0 0, .map (some m), .func (.func 19) #[] #[], .func (.func 44) #[] #[]]) ∧ w.heap.size ≤ m ∧ w'.ownsMap (H := Unit) Try.prog 9 (plainElem Try.prog 3) m 0 (.map []) ∧ Below w.heap.size w w' := by
  have hmm := @run_makeMap Try.prog
  have hB : Blk ((w.alloc (.cells #[.slice none 0 0, .map none, .nilFunc, .nilFunc] 41)).alloc (.map #[] 0)) w.heap.size 41 #[.slice none 0 0, .map none, .nilFunc, .nilFunc] := (Blk.new _ _ _).alloc _
  have hm : ((w.alloc (.cells #[.slice none 0 0, .map none, .nilFunc, .nilFunc] 41)).alloc (.map #[] 0)).ownsMap (H := Unit) Try.prog 9 (plainElem Try.prog 3) (w.heap.size + 1) 0 (.map []) := by
    have := World.ownsMap_made (H := Unit) (w.alloc (.cells #[.slice none 0 0, .map none, .nilFunc, .nilFunc] 41)) Try.prog 9 (plainElem Try.prog 3)
    simpa using this
  have hb : Below w.heap.size w ((w.alloc (.cells #[.slice none 0 0, .map none, .nilFunc, .nilFunc] 41)).alloc (.map #[] 0)) := by go_grown
  replace hm := Lib.hid hm
  replace hb := Lib.hid hb
  go_enter Try.func43, Try.ntmps43
  go_wp2_with (refine wpList_store_blk rfl _ _ _ rfl _ _ _ _ rfl rfl hB rfl bkRoot_size (by kernel_rfl) ?_; intro w2 hB2 hg2 hs2; replace hg2 := Lib.hid hg2; replace hs2 := Lib.hid hs2)
  obtain ⟨d, hd, hs⟩ := bkRoot_under
  refine bodyPost_ret (results_cell_row rfl _ w2 w.heap.size 41 _ (0, 0) d rfl hB2 hd (by revert hs; cases d <;> exact fun h => h) bkRoot_size) rfl ?_
  refine ⟨w.heap.size + 1, rfl, by omega, hm.out.kept hg2.out (fun h => by injection h with h; omega), hb.out.grown hg2.out hb.out.size (fun k h => by injection h with h; omega)⟩
set_option maxRecDepth 20000 in
set_option maxHeartbeats 2000000 in
theorem new_c (w : World) : Calls Try.prog 14 #[] w fun e w' => ∃ gb S, e = .returned (.pointer (some ⟨gb, 0, none⟩)) ∧ GS w.heap.size w' S gb [] [] ∧ Below w.heap.size w w' := by
  go_enter Try.func14, Try.ntmps14
  go_wp2_with fail
  refine (begunRec_c _).mono ?_
  rintro e w1 ⟨m1, rfl, h1, h2, hb⟩
  replace h1 := Lib.hid h1
  replace h2 := Lib.hid h2
  go_wp2_with fail
  refine (begunRoot_c _).mono ?_
  rintro e w2 ⟨m2, rfl, h3, h4, hb2⟩
  have hb3 := hb.trans (hb2.mono hb.size)
  have h5 := h2.out.kept (below_grown hb2) (by simp)
  have hlt1 := h5.lt
  have hlt2 := h4.lt
  have hne : m1 ≠ m2 := by have := h2.out.lt; omega
  replace h3 := Lib.hid h3
  replace h4 := Lib.hid h4
  replace h5 := Lib.hid h5
  replace hne := Lib.hid hne
  clear h2
  go_wp2
  go_returns
  refine ⟨_, [w2.heap.size, m1, m2], rfl, ⟨_, m1, _, m2, Blk.new _ _ _, by simp, fun g hg => ?_, hne.out, book_nil (h5.out.alloc _) (by simp), book_nil (h4.out.alloc _) (by simp)⟩, hb3.trans ((Below.refl _ _).alloc hb3.size _)⟩
  have h6 := h1.out
  have h7 := h3.out
  have h8 := hb.size
  have h9 := hb3.size
  simp only [List.mem_cons, List.not_mem_nil, or_false] at hg
  rw [World.size_alloc]
  rcases hg with rfl | rfl | rfl <;> omega
/-- a record of a number and a value -/
def oneD (seq : Int) (s : ByteArray) : RecD := ⟨⟨#[107]⟩, 1, seq, 0, [], false, keyL s, []⟩
set_option maxRecDepth 20000 in
set_option maxHeartbeats 2000000 in
theorem one_c (seq : Int) (s : ByteArray) (w : World) : Calls Try.prog 37 #[.int .i64 seq, .string s] w fun e w' => ∃ v, e = .returned v ∧ (∀ S : List Nat, (∀ g, g ∈ S → g < w.heap.size) → RecF S w' v (oneD seq s)) ∧ Below w.heap.size w w' := by
  have kc := conv_run s
  obtain ⟨Z, hZ⟩ : ∃ Z : Array Value, Z = #[.string ⟨#[]⟩, .int .i64 0, .int .i64 0, .slice none 0 0, .bool false, .slice none 0 0, .slice none 0 0] := ⟨_, rfl⟩
  have hB : Blk (Lib.bytesWorld (w.alloc (.cells Z 25)) 5 s) w.heap.size 25 Z := (Blk.new w 25 Z).below (conv_below _ s)
  have hbb : Below w.heap.size w (Lib.bytesWorld (w.alloc (.cells Z 25)) 5 s) := ((Below.refl _ _).alloc (Nat.le_refl _) _).trans ((conv_below _ s).mono (by simp))
  have hsl := fun c => conv_sl (w.alloc (.cells Z 25)) s c
  have hZs : Z.size = 7 := by rw [hZ]; rfl
  rw [World.size_alloc] at hsl
  rw [hZ] at hB hbb hsl hZs
  replace hbb := Lib.hid hbb
  replace hsl := Lib.hid hsl
  clear hZ
  go_enter Try.func37, Try.ntmps37
  go_wp2_with (refine stRec rfl rfl rfl rfl hB rfl (by kernel_rfl) ?_; intro w2 hB2 hg2 hs2; replace hg2 := Lib.hid hg2; replace hs2 := Lib.hid hs2)
  obtain ⟨p, n, c, e, hn, hb⟩ := hsl.out (grownCap (w.alloc (.cells #[.string ⟨#[]⟩, .int .i64 0, .int .i64 0, .slice none 0 0, .bool false, .slice none 0 0, .slice none 0 0] 25)) s.size 0 5)
  have hb2 : BytesL w2 p (keyL s) := hb.grown hg2.out (fun ad h h2 => by
    injection e with e1 e2 e3
    rw [h] at e1
    injection e1 with e1
    injection h2 with h2
    rw [← e1] at h2
    simp at h2)
  injection e with e1 e2 e3
  refine retRec rfl rfl hB2 rfl ⟨_, rfl, fun S hS => ⟨none, 0, p, c, none, 0, ?_, ⟨rfl, fun h => absurd h (by simp [oneD])⟩, fun hm => ?_, fun h => absurd h (by simp [oneD])⟩, hbb.out.grown hg2.out hbb.out.size (fun k h => by injection h with h; omega)⟩
  · unfold recV oneD
    dsimp only
    rw [← hn, ← e1, ← e2, ← e3]
    rfl
  · obtain ⟨g, o, e4, hg4, hc4⟩ := hb2 hm
    refine ⟨g, o, e4, hg4, fun hs => ?_, hc4⟩
    have := hS g hs
    rw [← e1] at e4
    injection e4 with e4
    injection e4 with e4
    omega
theorem made64b : (madeCells (Value.int .u8 0).cells (64 * 1)).toList = bL (List.replicate 64 0) := by kernel_rfl
/-- a root of a number -/
def rootD (seq : Int) : RootD := ⟨1, 1, seq, List.replicate 64 0, []⟩
set_option maxRecDepth 20000 in
set_option maxHeartbeats 2000000 in
theorem rootOf_c (seq : Int) (w : World) : Calls Try.prog 38 #[.int .i64 seq] w fun e w' => ∃ v, e = .returned v ∧ RootF [] w' v (rootD seq) ∧ Below w.heap.size w w' := by
  obtain ⟨i1, hi1, hy0, hy1, hy2⟩ := info_parts u8_info
  replace hi1 := Lib.hid hi1
  replace hy0 := Lib.hid hy0
  replace hy1 := Lib.hid hy1
  replace hy2 := Lib.hid hy2
  go_enter Try.func38, Try.ntmps38
  go_wp2_with (first
    | (refine wpList_make_full _ rfl _ _ 23 rfl w.heap.size 5 i1 (.int .u8 0) 1 (by kernel_rfl) hi1.out hy0.out hy1.out .i64 .i64 64 64 64 rfl rfl rfl rfl (by rw [hy2.out]; omega) (by unfold maxLen; omega) (by simp) ?_; intro w1 hO1 hg1; have hB1 := Blk.grown (Blk.new w 27 #[.int .i64 0, .int .i64 0, .int .i64 0, .slice none 0 0, .slice none 0 0]) hg1 (by simp); have hb1 := Lib.hid (((Below.refl w.heap.size w).alloc (Nat.le_refl _) (.cells #[.int .i64 0, .int .i64 0, .int .i64 0, .slice none 0 0, .slice none 0 0] 27)).grown hg1 (by simp) (fun k h => by cases h)); rw [made64b, World.size_alloc] at hO1; replace hO1 := Lib.hid hO1; clear hg1)
    | (refine stRoot rfl rfl rfl rfl hB1 rfl (by kernel_rfl) ?_; intro w2 hB2 hg2 hs2; replace hg2 := Lib.hid hg2; replace hs2 := Lib.hid hs2))
  have hO2 := own_far hO1.out hg2.out (fun g h e => by
    injection e with e
    have h2 : w.heap.size + 1 = g := Option.some.inj h
    omega)
  exact retRoot rfl rfl hB2 rfl ⟨_, rfl, ⟨some ⟨w.heap.size + 1, 0, none⟩, 64, none, 0, rfl, own_BF (xs := List.replicate 64 0) hO2 (fun _ _ h => by cases h), fun h => absurd h (by simp [rootD])⟩, hb1.out.grown hg2.out hb1.out.size (fun k h => by injection h with h; omega)⟩
end Go.Proofs.Ytdgaoljobpneaaa
