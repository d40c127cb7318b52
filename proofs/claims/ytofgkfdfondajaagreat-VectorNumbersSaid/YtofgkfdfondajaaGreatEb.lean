/- The walk of flatDots. -/
import Derived.Test.YtofgkfdfondajaaGreatEa
import Derived.Deep.RegionWith
namespace Go.Proofs.YtofgkfdfondajaaGreat
open Go.RowKit
def fd1L (L K C k m : Nat) (gr nr cr : Nat → Nat) (x : Int) : List (Value → World → Prop) := [
  Eq1 (.slice (some ⟨L, 0, none⟩) K C),
  Eq1 (.int .i64 k),
  Eq1 (.pointer (some ⟨L, k, none⟩)),
  Eq1 (.slice (some ⟨gr k, 0, none⟩) (nr k) (cr k)),
  Eq1 (.int .i64 m),
  Eq1 (.int .i64 k),
  Eq1 (.int .i64 m),
  Eq1 (.agg #[.int .i64 0, .int .i64 x]),
  Eq1 (.pointer (some ⟨gr k, m * 2, none⟩))]
theorem fd1S (L K C k m : Nat) (gr nr cr : Nat → Nat) (x : Int) : ∀ j x' q q', (fd1L L K C k m gr nr cr x).getD j (fun _ _ => True) x' q → Below q.heap.size q q' → (fd1L L K C k m gr nr cr x).getD j (fun _ _ => True) x' q' := by
  refine sta_all _ ?_
  simp only [fd1L, List.mem_cons, forall_eq_or_imp, List.not_mem_nil, false_implies, implies_true, and_true]
  exact ⟨sta_eq _, sta_eq _, sta_eq _, sta_eq _, sta_eq _, sta_eq _, sta_eq _, sta_eq _, sta_eq _⟩
def fd2aL (L G K C k m : Nat) (gr nr cr h c : Nat → Nat) (x : Int) : List (Value → World → Prop) := [
  Eq1 (.slice (some ⟨G, 0, none⟩) K K),
  Eq1 (.int .i64 k),
  Eq1 (.pointer (some ⟨G, k, none⟩)),
  Eq1 (.slice (some ⟨h k, 0, none⟩) (nr k + 64) (c k)),
  Eq1 (.int .i64 m),
  Eq1 (.pointer (some ⟨h k, m * 2, none⟩)),
  Eq1 (.agg #[.int .i64 0, .int .i64 x]),
  Eq1 (.int .i64 k),
  Eq1 (.int .i64 m),
  Eq1 (.agg #[.int .i64 0, .int .i64 x]),
  Eq1 (.bool true),
  Eq1 (.bool false),
  Eq1 (.bool false),
  Eq1 (.int .i64 m),
  Eq1 (.slice (some ⟨L, 0, none⟩) K C),
  Eq1 (.int .i64 k),
  Eq1 (.pointer (some ⟨L, k, none⟩)),
  Eq1 (.slice (some ⟨gr k, 0, none⟩) (nr k) (cr k)),
  Eq1 (.int .i64 (nr k)),
  Eq1 (.bool true),
  Eq1 (.bool true),
  Eq1 (.slice (some ⟨L, 0, none⟩) K C),
  Eq1 (.int .i64 k),
  Eq1 (.pointer (some ⟨L, k, none⟩)),
  Eq1 (.slice (some ⟨gr k, 0, none⟩) (nr k) (cr k)),
  Eq1 (.int .i64 m),
  Eq1 (.pointer (some ⟨gr k, m * 2, none⟩)),
  Eq1 (.agg #[.int .i64 0, .int .i64 x]),
  Eq1 (.int .i64 k),
  Eq1 (.int .i64 m),
  Eq1 (.agg #[.int .i64 0, .int .i64 x]),
  Eq1 (.bool true),
  Eq1 (.bool false),
  Eq1 (.bool false),
  Eq1 (.bool false)]
theorem fd2aS (L G K C k m : Nat) (gr nr cr h c : Nat → Nat) (x : Int) : ∀ j x' q q', (fd2aL L G K C k m gr nr cr h c x).getD j (fun _ _ => True) x' q → Below q.heap.size q q' → (fd2aL L G K C k m gr nr cr h c x).getD j (fun _ _ => True) x' q' := by
  refine sta_all _ ?_
  simp only [fd2aL, List.mem_cons, forall_eq_or_imp, List.not_mem_nil, false_implies, implies_true, and_true]
  exact ⟨sta_eq _, sta_eq _, sta_eq _, sta_eq _, sta_eq _, sta_eq _, sta_eq _, sta_eq _, sta_eq _, sta_eq _, sta_eq _, sta_eq _, sta_eq _, sta_eq _, sta_eq _, sta_eq _, sta_eq _, sta_eq _, sta_eq _, sta_eq _, sta_eq _, sta_eq _, sta_eq _, sta_eq _, sta_eq _, sta_eq _, sta_eq _, sta_eq _, sta_eq _, sta_eq _, sta_eq _, sta_eq _, sta_eq _, sta_eq _, sta_eq _⟩
def fd2bL (qq : Option Addr) (cq L G K C k m : Nat) (nr h c : Nat → Nat) (x : Int) : List (Value → World → Prop) := [
  Eq1 (.slice (some ⟨G, 0, none⟩) K K),
  Eq1 (.int .i64 k),
  Eq1 (.pointer (some ⟨G, k, none⟩)),
  Eq1 (.slice (some ⟨h k, 0, none⟩) (nr k + 64) (c k)),
  Eq1 (.int .i64 m),
  Eq1 (.pointer (some ⟨h k, m * 2, none⟩)),
  Eq1 (.agg #[.int .i64 0, .int .i64 x]),
  Eq1 (.int .i64 k),
  Eq1 (.int .i64 m),
  Eq1 (.agg #[.int .i64 0, .int .i64 x]),
  Eq1 (.bool true),
  Eq1 (.bool false),
  Eq1 (.bool false),
  Eq1 (.int .i64 m),
  Eq1 (.slice (some ⟨L, 0, none⟩) K C),
  Eq1 (.int .i64 k),
  Eq1 (.pointer (some ⟨L, k, none⟩)),
  Eq1 (.slice qq (nr k) cq),
  Eq1 (.int .i64 (nr k)),
  Eq1 (.bool false),
  Eq1 (.bool false),
  Eq1 (undef),
  Eq1 (undef),
  Eq1 (undef),
  Eq1 (undef),
  Eq1 (undef),
  Eq1 (undef),
  Eq1 (undef),
  Eq1 (undef),
  Eq1 (undef),
  Eq1 (undef),
  Eq1 (undef),
  Eq1 (undef),
  Eq1 (.bool false),
  Eq1 (.bool false)]
theorem fd2bS (qq : Option Addr) (cq L G K C k m : Nat) (nr h c : Nat → Nat) (x : Int) : ∀ j x' q q', (fd2bL qq cq L G K C k m nr h c x).getD j (fun _ _ => True) x' q → Below q.heap.size q q' → (fd2bL qq cq L G K C k m nr h c x).getD j (fun _ _ => True) x' q' := by
  refine sta_all _ ?_
  simp only [fd2bL, List.mem_cons, forall_eq_or_imp, List.not_mem_nil, false_implies, implies_true, and_true]
  exact ⟨sta_eq _, sta_eq _, sta_eq _, sta_eq _, sta_eq _, sta_eq _, sta_eq _, sta_eq _, sta_eq _, sta_eq _, sta_eq _, sta_eq _, sta_eq _, sta_eq _, sta_eq _, sta_eq _, sta_eq _, sta_eq _, sta_eq _, sta_eq _, sta_eq _, sta_eq _, sta_eq _, sta_eq _, sta_eq _, sta_eq _, sta_eq _, sta_eq _, sta_eq _, sta_eq _, sta_eq _, sta_eq _, sta_eq _, sta_eq _, sta_eq _⟩
def fd3L (L G K C k m : Nat) (gr nr cr h c : Nat → Nat) (x : Int) : List (Value → World → Prop) := [
  Eq1 (.slice (some ⟨L, 0, none⟩) K C),
  Eq1 (.int .i64 k),
  Eq1 (.pointer (some ⟨L, k, none⟩)),
  Eq1 (.slice (some ⟨gr k, 0, none⟩) (nr k) (cr k)),
  Eq1 (.int .i64 m),
  Eq1 (.pointer (some ⟨gr k, m * 2, none⟩)),
  Eq1 (.agg #[.int .i64 0, .int .i64 x]),
  Eq1 (.int .i64 k),
  Eq1 (.int .i64 m),
  Eq1 (.agg #[.int .i64 0, .int .i64 x]),
  Eq1 (.bool true),
  Eq1 (.bool false),
  Eq1 (.bool false),
  Eq1 (.slice (some ⟨G, 0, none⟩) K K),
  Eq1 (.int .i64 k),
  Eq1 (.pointer (some ⟨G, k, none⟩)),
  Eq1 (.slice (some ⟨h k, 0, none⟩) (nr k + 64) (c k)),
  Eq1 (.int .i64 m),
  Eq1 (.pointer (some ⟨h k, m * 2, none⟩)),
  Eq1 (.agg #[.int .i64 0, .int .i64 x]),
  Eq1 (.int .i64 k),
  Eq1 (.int .i64 m),
  Eq1 (.agg #[.int .i64 0, .int .i64 x]),
  Eq1 (.bool true),
  Eq1 (.bool false),
  Eq1 (.bool false)]
theorem fd3S (L G K C k m : Nat) (gr nr cr h c : Nat → Nat) (x : Int) : ∀ j x' q q', (fd3L L G K C k m gr nr cr h c x).getD j (fun _ _ => True) x' q → Below q.heap.size q q' → (fd3L L G K C k m gr nr cr h c x).getD j (fun _ _ => True) x' q' := by
  refine sta_all _ ?_
  simp only [fd3L, List.mem_cons, forall_eq_or_imp, List.not_mem_nil, false_implies, implies_true, and_true]
  exact ⟨sta_eq _, sta_eq _, sta_eq _, sta_eq _, sta_eq _, sta_eq _, sta_eq _, sta_eq _, sta_eq _, sta_eq _, sta_eq _, sta_eq _, sta_eq _, sta_eq _, sta_eq _, sta_eq _, sta_eq _, sta_eq _, sta_eq _, sta_eq _, sta_eq _, sta_eq _, sta_eq _, sta_eq _, sta_eq _, sta_eq _⟩
theorem madeD : (madeCells (Value.agg #[.int .i64 0, .int .i64 0]).cells (64 * 2)).toList = cD (64 * 2) (fun _ => 0) := by kernel_rfl
theorem rowE_of {w : World} {base g n c : Nat} {f : Nat → Int} (h : w.ownsRow base 35 2 (.slice (some ⟨g, 0, none⟩) n c) n (cD (n * 2) f)) : RowE w g (n * 2) (c * 2) f := by
  obtain ⟨hl, h | ⟨g', cap, cur, h1, h2, h3, h4, h5, h6, h7⟩⟩ := h
  · exact absurd h.1 (by simp)
  · injection h1 with h1 h1a h1b
    injection h1 with h1
    injection h1 with h1
    subst h1
    subst h1b
    exact ⟨cur, h3, by omega, by omega, h6, h7⟩
theorem RowE.elem {w : World} {g n c : Nat} {k : Int} {F : Nat → Int} (h : RowE w g n c F) (i : Nat) (hi : i * 2 + 1 < n) (h0 : F (i * 2) = mD k (i * 2)) (h1 : F (i * 2 + 1) = mD k (i * 2 + 1)) : w.cell? ⟨g, i * 2, none⟩ = some (.int .i64 0) ∧ w.cell? ⟨g, i * 2 + 1, none⟩ = some (.int .i64 (mk k i)) := by
  have a := h.cell (i * 2) (by omega)
  have b := h.cell (i * 2 + 1) hi
  rw [h0, mD_even] at a
  rw [h1, mD_odd] at b
  exact ⟨a, b⟩
set_option maxRecDepth 20000 in
set_option maxHeartbeats 4000000 in
theorem flatDots_c (B L K C : Nat) (nl : Nat → Bool) (gr nr cr : Nat → Nat) (f0 : Nat → Nat → Int) (w : World) (hA : ApE B L K nl gr nr) (hBw : B ≤ w.heap.size) (hS : StE B w L K nl gr nr cr f0 w) :
    Calls Tryz.prog 46 #[.slice (some ⟨L, 0, none⟩) K C] w fun e w' => e = .returned (.bool true) ∧ Below B w w' ∧ ∀ X, X < w.heap.size → (∀ k, k < K → nl k = false → gr k ≠ X) → w'.heap[X]? = w.heap[X]? := by
  have hK1 : (K : Int) ≤ 400 := by have := hA.many; omega
  replace hA := Lib.hid hA
  replace hS := Lib.hid hS
  go_enter Tryz.func46, Tryz.ntmps46
  go_wp2
  go_loopw [3] (fun i wr => ∃ k : Nat, k ≤ K ∧ i = .int .i64 k ∧ ∃ f, StE B w L K nl gr nr cr f wr ∧ ∀ j t, j < k → t < nr j * 2 → f j t = mD j t) (fun i _ => (K - intOf i).toNat)
  case atStart => exact ⟨0, Nat.zero_le _, rfl, f0, hS.out, fun j t h => absurd h (by omega)⟩
  case round =>
    clear hS
    obtain ⟨k, hk, hi', f, hS, hF⟩ := hrel
    subst hi'
    by_cases hend : k = K
    · obtain rfl := hend.symm
      have hS1 := hS.congr (f' := fun j t => mD j t) (fun j h1 t h2 => hF j t h1 h2)
      have hsz := hS1.size hBw
      clear hS hF hk
      replace hS1 := Lib.hid hS1
      obtain ⟨i0, hi0, hz0, hz1, hz2⟩ := info_parts dss_info
      replace hz1 := Lib.hid hz1
      replace hz2 := Lib.hid hz2
      replace hz0 := Lib.hid hz0
      replace hi0 := Lib.hid hi0
      go_wp2_with (refine wpList_make_full _ rfl _ _ 22 rfl wr.heap.size 23 i0 (.slice none 0 0) 1 (by kernel_rfl) hi0.out hz0.out hz1.out .i64 .i64 _ _ K rfl rfl rfl rfl (by rw [hz2.out]; omega) (by unfold maxLen; omega) (Nat.le_refl _) ?_; intro w1 hO1 hgr1; have hO : OutE B w L K nl gr nr cr 64 wr.heap.size 0 (fun _ => 0) (fun _ => 0) w1 := OutE.first hS1.out hsz hgr1 (ptrE_of hO1); clear hO1 hgr1 hS1)
      generalize wr.heap.size = G at *
      go_loopw [6] (fun i wr => ∃ k : Nat, k ≤ K ∧ i = .int .i64 k ∧ ∃ h c, OutE B w L K nl gr nr cr 64 G k h c wr) (fun i _ => (K - intOf i).toNat)
      case atStart => exact ⟨0, Nat.zero_le _, rfl, _, _, hO⟩
      case round =>
        clear hO
        obtain ⟨k, hk, hi', h, c, hO⟩ := hrel
        subst hi'
        by_cases hend : k = K
        · obtain rfl := hend.symm
          clear hk
          replace hO := Lib.hid hO
          go_wp2
          go_loopw [9] (fun i wr => ∃ k : Nat, k ≤ K ∧ i = .int .i64 k ∧ OutE B w L K nl gr nr cr 64 G K h c wr) (fun i _ => (K - intOf i).toNat)
          case atStart => exact ⟨0, Nat.zero_le _, rfl, hO.out⟩
          case round =>
            clear hO
            obtain ⟨k, hk, hi', hO⟩ := hrel
            subst hi'
            by_cases hend : k = K
            · obtain rfl := hend.symm
              have hO1 := hO.restart
              clear hk hO
              replace hO1 := Lib.hid hO1
              go_wp2
              go_loopw [11] (fun i wr => ∃ k : Nat, k ≤ K ∧ i = .int .i64 k ∧ ∃ h c, OutE B w L K nl gr nr cr 0 G k h c wr) (fun i _ => (K - intOf i).toNat)
              case atStart => exact ⟨0, Nat.zero_le _, rfl, _, _, hO1.out⟩
              case round =>
                clear hO1
                obtain ⟨k, hk, hi', h, c, hO⟩ := hrel
                subst hi'
                by_cases hend : k = K
                · obtain rfl := hend.symm
                  clear hk
                  replace hO := Lib.hid hO
                  go_wp2
                  go_loopw [14] (fun i wr => ∃ k : Nat, k ≤ K ∧ i = .int .i64 k ∧ OutE B w L K nl gr nr cr 0 G K h c wr) (fun i _ => (K - intOf i).toNat)
                  case atStart => exact ⟨0, Nat.zero_le _, rfl, hO.out⟩
                  case round =>
                    clear hO
                    obtain ⟨k, hk, hi', hO⟩ := hrel
                    subst hi'
                    by_cases hend : k = K
                    · obtain rfl := hend.symm
                      have hbl := Lib.hid (And.intro hO.st.below hO.st.keep)
                      clear hk hO
                      go_wp2
                      go_returns
                      exact ⟨rfl, hbl.out⟩
                    · have hk1 : k < K := by omega
                      have hk0 : (0 : Int) ≤ (k : Int) := by omega
                      have hk2 : (k : Int) < (K : Int) := by omega
                      have hn1 : (nr k : Int) ≤ 100000 := by have := hA.out.len k hk1; omega
                      clear hk hend
                      replace hO := Lib.hid hO
                      go_wp2
                      go_loopw [15] (fun i wr => ∃ m : Nat, m ≤ nr k ∧ i = .int .i64 m ∧ OutE B w L K nl gr nr cr 0 G K h c wr) (fun i _ => (nr k - intOf i).toNat)
                      case atStart => exact ⟨0, Nat.zero_le _, rfl, hO.out⟩
                      case round =>
                        clear hO
                        obtain ⟨m, hm, hi', hO⟩ := hrel
                        subst hi'
                        have cL := hO.st.ptr.cell k hk1
                        by_cases hme : m = nr k
                        · subst hme
                          replace hO := Lib.hid hO
                          clear hm
                          cases hnl : nl k
                          · rw [rowV_at hnl] at cL
                            go_wp2
                            exact ⟨⟨k + 1, by omega, by rw [Int.natCast_add]; rfl, hO.out⟩, by simp [intOf]; omega⟩
                          · rw [rowV_nil hnl] at cL
                            have hz : (nr k : Int) = 0 := by have := hA.out.none_ k hk1 hnl; omega
                            go_wp2
                            exact ⟨⟨k + 1, by omega, by rw [Int.natCast_add]; rfl, hO.out⟩, by simp [intOf]; omega⟩
                        · have hm1 : m < nr k := by omega
                          have hm0 : (0 : Int) ≤ (m : Int) := by omega
                          have hm2 : (m : Int) < (nr k : Int) := by omega
                          have hm3 : (m : Int) < (nr k : Int) + 64 := by omega
                          have hnl : nl k = false := by
                            cases hnl : nl k
                            · rfl
                            · have := hA.out.none_ k hk1 hnl; omega
                          rw [rowV_at hnl] at cL
                          have hmc := markDot_c k m (by omega) (by omega)
                          have hx : (mk k m == mk k m) = true := beq_self_eq_true _
                          have cG := hO.gs.cell k hk1
                          have lL := hO.st.ptr.lt
                          have lG := hO.gs.lt
                          have lH := (hO.row k hk1).lt
                          have lR := (hO.st.row k hk1 hnl).lt
                          obtain ⟨h0, h1⟩ := (hO.row k hk1).elem (k := k) m (by omega) rfl rfl
                          obtain ⟨r0, r1⟩ := (hO.st.row k hk1 hnl).elem (k := k) m (by omega) rfl rfl
                          have hO' := fun w' hb => hO.after (w' := w') hb
                          clear hO hm hme
                          replace hO' := Lib.hid hO'
                          replace hmc := Lib.hid hmc
                          generalize mk (k : Int) (m : Int) = x at *
                          go_wp2
                          refine wp_region_grow2 26 (fun k => (Nat.ble 167 k && Nat.ble k 192)) _ [] (fun j x' q => (fd3L L G K C k m gr nr cr h c x).getD j (fun _ _ => True) x' q) (fun _ => false) (fun f => #[.slice (some ⟨L, 0, none⟩) K C, undef, u2, .int .i64 K, u4, .slice (some ⟨G, 0, none⟩) K K, .int .i64 K, u7, u8, .int .i64 K, u10, .int .i64 K, u12, u13, .int .i64 k, .int .i64 m, .int .i64 K, .slice (some ⟨L, 0, none⟩) K C, .int .i64 K, .bool false, u20, u21, u22, u23, u24, u25, u26, u27, u28, u29, u30, u31, u32, u33, u34, u35, u36, u37, u38, u39, .slice (some ⟨L, 0, none⟩) K C, .int .i64 K, .slice (some ⟨G, 0, none⟩) K K, .int .i64 K, .slice (some ⟨L, 0, none⟩) K C, .int .i64 K, .bool false, u47, u48, u49, u50, u51, u52, u53, u54, u55, u56, u57, u58, u59, u60, u61, u62, u63, u64, u65, u66, u67, u68, u69, u70, u71, u72, .int .i64 K, .slice (some ⟨L, 0, none⟩) K C, .int .i64 K, .bool false, u77, u78, u79, u80, u81, u82, u83, u84, u85, u86, u87, u88, u89, u90, u91, u92, u93, u94, u95, u96, u97, u98, u99, u100, u101, u102, u103, u104, u105, u106, u107, u108, u109, u110, u111, u112, u113, u114, u115, u116, u117, u118, u119, u120, u121, u122, .int .i64 K, .slice (some ⟨L, 0, none⟩) K C, .int .i64 K, .bool false, u127, u128, u129, u130, u131, u132, u133, u134, u135, u136, u137, u138, u139, u140, u141, u142, u143, u144, u145, u146, u147, u148, u149, u150, u151, .int .i64 k, .slice (some ⟨L, 0, none⟩) K C, .int .i64 K, .bool true, u156, u157, .int .i64 m, .slice (some ⟨L, 0, none⟩) K C, .int .i64 k, .pointer (some ⟨L, k, none⟩), .slice (some ⟨gr k, 0, none⟩) (nr k) (cr k), .int .i64 (nr k), .bool true, u165, u166, f 167, f 168, f 169, f 170, f 171, f 172, f 173, f 174, f 175, f 176, f 177, f 178, f 179, f 180, f 181, f 182, f 183, f 184, f 185, f 186, f 187, f 188, f 189, f 190, f 191, f 192]) (fun f => rfl) (by kernel_rfl) (by kernel_rfl) (by kernel_rfl) (by kernel_rfl) (by kernel_rfl) (fd3S _ _ _ _ _ _ _ _ _ _ _ _) (fun _ _ _ h => by cases h) ?_ ?_
                          · refine steps2_cons ?_ ?_
                            · as_aux_lemma =>
                              intro f w1 hb hd Q hK
                              clear hd
                              have hK := Lib.hid hK
                              go_wp2
                              exact hK.out _ _ rfl (Below.refl _ _) (fun h => by cases h)
                            refine steps2_cons ?_ ?_
                            · as_aux_lemma =>
                              intro f w1 hb hd Q hK
                              clear hd
                              have hK := Lib.hid hK
                              go_wp2
                              exact hK.out _ _ rfl (Below.refl _ _) (fun h => by cases h)
                            refine steps2_cons ?_ ?_
                            · as_aux_lemma =>
                              intro f w1 hb hd Q hK
                              have e167 : f 167 = .slice (some ⟨L, 0, none⟩) K C := hd.1 rfl
                              have e168 : f 168 = .int .i64 k := hd.2.1 rfl
                              clear hd
                              simp only [e167, e168] at hK
                              have hK := Lib.hid hK
                              go_wp2
                              exact hK.out _ _ rfl (Below.refl _ _) (fun h => by cases h)
                            refine steps2_cons ?_ ?_
                            · as_aux_lemma =>
                              intro f w1 hb hd Q hK
                              have e169 : f 169 = .pointer (some ⟨L, k, none⟩) := hd.1 rfl
                              clear hd
                              simp only [e169] at hK
                              have hK := Lib.hid hK
                              have c0 := (hb.cell (p := ⟨L, k, none⟩) lL).trans cL
                              go_wp2
                              exact hK.out _ _ rfl (Below.refl _ _) (fun h => by cases h)
                            refine steps2_cons ?_ ?_
                            · as_aux_lemma =>
                              intro f w1 hb hd Q hK
                              clear hd
                              have hK := Lib.hid hK
                              go_wp2
                              exact hK.out _ _ rfl (Below.refl _ _) (fun h => by cases h)
                            refine steps2_cons ?_ ?_
                            · as_aux_lemma =>
                              intro f w1 hb hd Q hK
                              have e170 : f 170 = .slice (some ⟨gr k, 0, none⟩) (nr k) (cr k) := hd.1 rfl
                              have e171 : f 171 = .int .i64 m := hd.2.1 rfl
                              clear hd
                              simp only [e170, e171] at hK
                              have hK := Lib.hid hK
                              go_wp2
                              exact hK.out _ _ rfl (Below.refl _ _) (fun h => by cases h)
                            refine steps2_cons ?_ ?_
                            · as_aux_lemma =>
                              intro f w1 hb hd Q hK
                              have e172 : f 172 = .pointer (some ⟨gr k, m * 2, none⟩) := hd.1 rfl
                              clear hd
                              simp only [e172] at hK
                              have hK := Lib.hid hK
                              have c0 := (hb.cell (p := ⟨gr k, m * 2, none⟩) lR).trans r0
                              have c1 := (hb.cell (p := ⟨gr k, m * 2 + 1, none⟩) lR).trans r1
                              go_wp2
                              exact hK.out _ _ rfl (Below.refl _ _) (fun h => by cases h)
                            refine steps2_cons ?_ ?_
                            · as_aux_lemma =>
                              intro f w1 hb hd Q hK
                              clear hd
                              have hK := Lib.hid hK
                              go_wp2
                              exact hK.out _ _ rfl (Below.refl _ _) (fun h => by cases h)
                            refine steps2_cons ?_ ?_
                            · as_aux_lemma =>
                              intro f w1 hb hd Q hK
                              clear hd
                              have hK := Lib.hid hK
                              go_wp2
                              exact hK.out _ _ rfl (Below.refl _ _) (fun h => by cases h)
                            refine steps2_cons ?_ ?_
                            · as_aux_lemma =>
                              intro f w1 hb hd Q hK
                              have e174 : f 174 = .int .i64 k := hd.1 rfl
                              have e175 : f 175 = .int .i64 m := hd.2.1 rfl
                              clear hd
                              simp only [e174, e175] at hK
                              have hK := Lib.hid hK
                              go_wp2_with fail
                              refine (hmc.out _).mono ?_
                              rintro e w2 ⟨rfl, hb2⟩
                              go_wp2
                              exact hK.out _ _ rfl hb2 (fun h => by cases h)
                            refine steps2_cons ?_ ?_
                            · as_aux_lemma =>
                              intro f w1 hb hd Q hK
                              have e173 : f 173 = .agg #[.int .i64 0, .int .i64 x] := hd.1 rfl
                              have e176 : f 176 = .agg #[.int .i64 0, .int .i64 x] := hd.2.1 rfl
                              clear hd
                              simp only [e173, e176] at hK
                              have hK := Lib.hid hK
                              go_wp2
                              exact hK.out _ _ rfl (Below.refl _ _) (fun h => by cases h)
                            refine steps2_cons ?_ ?_
                            · as_aux_lemma =>
                              intro f w1 hb hd Q hK
                              have e177 : f 177 = .bool true := hd.1 rfl
                              clear hd
                              simp only [e177] at hK
                              have hK := Lib.hid hK
                              go_wp2
                              exact hK.out _ _ rfl (Below.refl _ _) (fun h => by cases h)
                            refine steps2_cons ?_ ?_
                            · as_aux_lemma =>
                              intro f w1 hb hd Q hK
                              have e178 : f 178 = .bool false := hd.1 rfl
                              clear hd
                              simp only [e178] at hK
                              have hK := Lib.hid hK
                              go_wp2
                              exact hK.out _ _ rfl (Below.refl _ _) (fun h => by cases h)
                            refine steps2_cons ?_ ?_
                            · as_aux_lemma =>
                              intro f w1 hb hd Q hK
                              have e179 : f 179 = .bool false := hd.1 rfl
                              clear hd
                              simp only [e179] at hK
                              have hK := Lib.hid hK
                              go_wp2
                              exact hK.out _ _ rfl (Below.refl _ _) (fun h => by cases h)
                            refine steps2_cons ?_ ?_
                            · as_aux_lemma =>
                              intro f w1 hb hd Q hK
                              have e179 : f 179 = .bool false := hd.1 rfl
                              clear hd
                              simp only [e179] at hK
                              have hK := Lib.hid hK
                              go_wp2
                              exact hK.out _ _ rfl (Below.refl _ _) (fun h => by cases h)
                            refine steps2_cons ?_ ?_
                            · as_aux_lemma =>
                              intro f w1 hb hd Q hK
                              have e180 : f 180 = .slice (some ⟨G, 0, none⟩) K K := hd.1 rfl
                              have e181 : f 181 = .int .i64 k := hd.2.1 rfl
                              have e179 : f 179 = .bool false := hd.2.2.1 rfl
                              clear hd
                              simp only [e180, e181, e179] at hK
                              have hK := Lib.hid hK
                              go_wp2
                              exact hK.out _ _ rfl (Below.refl _ _) (fun h => by cases h)
                            refine steps2_cons ?_ ?_
                            · as_aux_lemma =>
                              intro f w1 hb hd Q hK
                              have e182 : f 182 = .pointer (some ⟨G, k, none⟩) := hd.1 rfl
                              have e179 : f 179 = .bool false := hd.2.1 rfl
                              clear hd
                              simp only [e182, e179] at hK
                              have hK := Lib.hid hK
                              have c0 := (hb.cell (p := ⟨G, k, none⟩) lG).trans cG
                              go_wp2
                              exact hK.out _ _ rfl (Below.refl _ _) (fun h => by cases h)
                            refine steps2_cons ?_ ?_
                            · as_aux_lemma =>
                              intro f w1 hb hd Q hK
                              have e179 : f 179 = .bool false := hd.1 rfl
                              clear hd
                              simp only [e179] at hK
                              have hK := Lib.hid hK
                              go_wp2
                              exact hK.out _ _ rfl (Below.refl _ _) (fun h => by cases h)
                            refine steps2_cons ?_ ?_
                            · as_aux_lemma =>
                              intro f w1 hb hd Q hK
                              have e183 : f 183 = .slice (some ⟨h k, 0, none⟩) (nr k + 64) (c k) := hd.1 rfl
                              have e184 : f 184 = .int .i64 m := hd.2.1 rfl
                              have e179 : f 179 = .bool false := hd.2.2.1 rfl
                              clear hd
                              simp only [e183, e184, e179] at hK
                              have hK := Lib.hid hK
                              go_wp2
                              exact hK.out _ _ rfl (Below.refl _ _) (fun h => by cases h)
                            refine steps2_cons ?_ ?_
                            · as_aux_lemma =>
                              intro f w1 hb hd Q hK
                              have e185 : f 185 = .pointer (some ⟨h k, m * 2, none⟩) := hd.1 rfl
                              have e179 : f 179 = .bool false := hd.2.1 rfl
                              clear hd
                              simp only [e185, e179] at hK
                              have hK := Lib.hid hK
                              have c0 := (hb.cell (p := ⟨h k, m * 2, none⟩) lH).trans h0
                              have c1 := (hb.cell (p := ⟨h k, m * 2 + 1, none⟩) lH).trans h1
                              go_wp2
                              exact hK.out _ _ rfl (Below.refl _ _) (fun h => by cases h)
                            refine steps2_cons ?_ ?_
                            · as_aux_lemma =>
                              intro f w1 hb hd Q hK
                              have e179 : f 179 = .bool false := hd.1 rfl
                              clear hd
                              simp only [e179] at hK
                              have hK := Lib.hid hK
                              go_wp2
                              exact hK.out _ _ rfl (Below.refl _ _) (fun h => by cases h)
                            refine steps2_cons ?_ ?_
                            · as_aux_lemma =>
                              intro f w1 hb hd Q hK
                              have e179 : f 179 = .bool false := hd.1 rfl
                              clear hd
                              simp only [e179] at hK
                              have hK := Lib.hid hK
                              go_wp2
                              exact hK.out _ _ rfl (Below.refl _ _) (fun h => by cases h)
                            refine steps2_cons ?_ ?_
                            · as_aux_lemma =>
                              intro f w1 hb hd Q hK
                              have e187 : f 187 = .int .i64 k := hd.1 rfl
                              have e188 : f 188 = .int .i64 m := hd.2.1 rfl
                              have e179 : f 179 = .bool false := hd.2.2.1 rfl
                              clear hd
                              simp only [e187, e188, e179] at hK
                              have hK := Lib.hid hK
                              go_wp2_with fail
                              refine (hmc.out _).mono ?_
                              rintro e w2 ⟨rfl, hb2⟩
                              go_wp2
                              exact hK.out _ _ rfl hb2 (fun h => by cases h)
                            refine steps2_cons ?_ ?_
                            · as_aux_lemma =>
                              intro f w1 hb hd Q hK
                              have e186 : f 186 = .agg #[.int .i64 0, .int .i64 x] := hd.1 rfl
                              have e189 : f 189 = .agg #[.int .i64 0, .int .i64 x] := hd.2.1 rfl
                              have e179 : f 179 = .bool false := hd.2.2.1 rfl
                              clear hd
                              simp only [e186, e189, e179] at hK
                              have hK := Lib.hid hK
                              go_wp2
                              exact hK.out _ _ rfl (Below.refl _ _) (fun h => by cases h)
                            refine steps2_cons ?_ ?_
                            · as_aux_lemma =>
                              intro f w1 hb hd Q hK
                              have e190 : f 190 = .bool true := hd.1 rfl
                              have e179 : f 179 = .bool false := hd.2.1 rfl
                              clear hd
                              simp only [e190, e179] at hK
                              have hK := Lib.hid hK
                              go_wp2
                              exact hK.out _ _ rfl (Below.refl _ _) (fun h => by cases h)
                            refine steps2_cons ?_ ?_
                            · as_aux_lemma =>
                              intro f w1 hb hd Q hK
                              have e179 : f 179 = .bool false := hd.1 rfl
                              have e191 : f 191 = .bool false := hd.2.1 rfl
                              clear hd
                              simp only [e179, e191] at hK
                              have hK := Lib.hid hK
                              go_wp2
                              exact hK.out _ _ rfl (Below.refl _ _) (fun h => by cases h)
                            trivial
                          · intro f w1 hb2 hf hne
                            refine wpList_nil ?_
                            have d192 : f 192 = .bool false := hf 25 _ _ (by decide) rfl rfl
                            clear hf hne
                            simp only [d192]
                            clear d192
                            have hO2 := hO'.out _ hb2
                            replace hO2 := Lib.hid hO2
                            go_wp2
                            exact ⟨⟨m + 1, by omega, by rw [Int.natCast_add]; rfl, hO2.out⟩, by simp [intOf]; omega⟩
                · have hk1 : k < K := by omega
                  have hk0 : (0 : Int) ≤ (k : Int) := by omega
                  have hk2 : (k : Int) < (K : Int) := by omega
                  have hn1 : (nr k : Int) ≤ 100000 := by have := hA.out.len k hk1; omega
                  clear hk hend
                  replace hO := Lib.hid hO
                  obtain ⟨i1, hi1, hy0, hy1, hy2⟩ := info_parts dot_info
                  replace hy1 := Lib.hid hy1
                  replace hy2 := Lib.hid hy2
                  replace hy0 := Lib.hid hy0
                  replace hi1 := Lib.hid hi1
                  go_wp2_with (refine wpList_make_full _ rfl _ _ 23 rfl wr.heap.size 35 i1 (.agg #[.int .i64 0, .int .i64 0]) 2 (by kernel_rfl) hi1.out hy0.out hy1.out .i64 .i64 64 64 64 rfl rfl rfl rfl (by rw [hy2.out]; omega) (by unfold maxLen; omega) (Nat.le_refl _) ?_; intro w2 hO2 hgr2)
                  have hRM : RowE w2 wr.heap.size (64 * 2) (64 * 2) (fun _ => 0) := rowE_of (by rw [← madeD]; exact hO2)
                  have hOM := Lib.hid (hO.out.after ((Below.refl _ _).grown hgr2 (Nat.le_refl _) (fun k h => by cases h)))
                  have hMG := hO.out.size
                  have hMh : ∀ j, j < k → h j ≠ wr.heap.size := (fun j hj => by have := (hO.out.row j hj).lt; omega)
                  clear hO2 hgr2 hO
                  replace hMh := Lib.hid hMh
                  replace hRM := Lib.hid hRM
                  generalize wr.heap.size = M at *
                  go_loopw [13] (fun i wr => ∃ m : Nat, m ≤ 64 ∧ i = .int .i64 m ∧ OutE B w L K nl gr nr cr 0 G k h c wr ∧ ∃ f, RowE wr M (64 * 2) (64 * 2) f) (fun i _ => (64 - intOf i).toNat)
                  case atStart => exact ⟨0, Nat.zero_le _, rfl, hOM.out, _, hRM.out⟩
                  case round =>
                    clear hOM hRM
                    obtain ⟨m, hm, hi', hO, f, hRM⟩ := hrel
                    subst hi'
                    by_cases hme : m = 64
                    · subst hme
                      have cL := hO.st.ptr.cell k hk1
                      cases hnl : nl k
                      · rw [rowV_at hnl] at cL
                        have hRk := hO.st.row k hk1 hnl
                        have hca : ∀ j, j < 64 * 2 → wr.cell? ((⟨M, 0, none⟩ : Addr).add j) = some (.int .i64 ((fun t : Nat => if t < nr k * 2 then mD k t else f (t - nr k * 2)) (nr k * 2 + j))) := fun j hj => by
                          rw [add_lit2, Nat.zero_add, hRM.cell j hj]
                          show _ = some (Value.int .i64 (if nr k * 2 + j < nr k * 2 then mD k (nr k * 2 + j) else f (nr k * 2 + j - nr k * 2)))
                          rw [if_neg (by omega), Nat.add_sub_cancel_left]
                        replace hO := Lib.hid hO
                        clear hm hRM
                        go_wp2_with (at_builtin; refine wpList_appE rfl rfl rfl hRk rfl (fun t : Nat => if t < nr k * 2 then mD k t else f (t - nr k * 2)) (fun i hi => (if_pos hi).symm) hca (by omega) ?_; intro g2 c2 w4 hR4 hcase4; have hO5 := hO.out.app hA.out hk1 (by omega) (.inl ⟨rfl, rfl, hnl⟩) hR4 (fun t ht => if_pos ht) hcase4; have hfz := hO5.1.gs.frozen k; obtain ⟨u, hu⟩ := hO5.1.gs.some_ k hk1; have hO6 := Lib.hid (hO5.1.put hk1 (hc := g2) (cc := c2) ((hR4.cut (by omega)).congr (fun t ht => if_pos (by omega))) (hO5.2.elim (fun h => .inl ⟨h.1, h.2.2⟩) (fun h => .inr h.1))); clear hR4 hcase4 hca hO5 hRk hO)
                        exact ⟨⟨k + 1, by omega, by rw [Int.natCast_add]; rfl, _, _, hO6.out⟩, by simp [intOf]; omega⟩
                      · rw [rowV_nil hnl] at cL
                        have hz := hA.out.none_ k hk1 hnl
                        have hca : ∀ j, j < 64 * 2 → wr.cell? ((⟨M, 0, none⟩ : Addr).add j) = some (.int .i64 (f j)) := fun j hj => by
                          rw [add_lit2, Nat.zero_add, hRM.cell j hj]
                        replace hO := Lib.hid hO
                        replace hz := Lib.hid hz
                        clear hm hRM
                        go_wp2_with (at_builtin; refine wpList_appE0 rfl rfl rfl rfl f (by decide) hca (by omega) ?_; intro c2 w4 hR4 hgr4; have hO5 := hO.out.app0 hgr4; have hfz := hO5.1.gs.frozen k; obtain ⟨u, hu⟩ := hO5.1.gs.some_ k hk1; have hO6 := Lib.hid (hO5.1.put hk1 (hc := wr.heap.size) (cc := c2) ((hR4.cut (m := (nr k + 0) * 2) (by rw [hz.out]; omega)).congr (fun t ht => by rw [hz.out] at ht; omega)) (.inr hO5.2.1)); rw [hz.out] at hO6; clear hR4 hgr4 hca hO5 hO)
                        exact ⟨⟨k + 1, by omega, by rw [Int.natCast_add]; rfl, _, _, hO6.out⟩, by simp [intOf]; omega⟩
                    · have hm1 : m < 64 := by omega
                      have hm0 : (0 : Int) ≤ (m : Int) := by omega
                      have hm2 : (m : Int) < 64 := by omega
                      have hmc := markDot_c ((k : Int) + K) m (by omega) (by omega)
                      have lM := hRM.lt
                      have hnew : ∀ w3, Below wr.heap.size wr w3 → OutE B w L K nl gr nr cr 0 G k h c ((w3.setCell ⟨M, m * 2, none⟩ (.int .i64 0)).setCell ⟨M, m * 2 + 1, none⟩ (.int .i64 (mk ((k : Int) + K) m))) ∧ ∃ f, RowE ((w3.setCell ⟨M, m * 2, none⟩ (.int .i64 0)).setCell ⟨M, m * 2 + 1, none⟩ (.int .i64 (mk ((k : Int) + K) m))) M (64 * 2) (64 * 2) f := fun w3 hb3 => ⟨((hO.after hb3).far (p := ⟨M, _, none⟩) hMG hMh.out _).far (p := ⟨M, _, none⟩) hMG hMh.out _, _, (hRM.below hb3).set2 m (by omega) 0 _⟩
                      have hcl : ∀ w3, Below wr.heap.size wr w3 → (∃ u, w3.cell? ⟨M, m * 2, none⟩ = some u) ∧ (∃ u, w3.cell? ⟨M, m * 2 + 1, none⟩ = some u) ∧ w3.frozen? ⟨M, m * 2, none⟩ = false ∧ w3.frozen? ⟨M, m * 2 + 1, none⟩ = false := fun w3 hb3 => ⟨⟨_, (hRM.below hb3).cell _ (by omega)⟩, ⟨_, (hRM.below hb3).cell _ (by omega)⟩, (hRM.below hb3).frozen _, (hRM.below hb3).frozen _⟩
                      clear hO hRM hm hme
                      replace hnew := Lib.hid hnew
                      replace hcl := Lib.hid hcl
                      replace hmc := Lib.hid hmc
                      generalize mk ((k : Int) + K) (m : Int) = x at *
                      go_wp2_with fail
                      refine (hmc.out _).mono ?_
                      rintro e w3 ⟨rfl, hb3⟩
                      have hN := hnew.out w3 hb3
                      obtain ⟨⟨u0, hu0⟩, ⟨u1, hu1⟩, f0, f1⟩ := hcl.out w3 hb3
                      replace hN := Lib.hid hN
                      clear hnew hcl hmc
                      go_wp2
                      exact ⟨⟨m + 1, by omega, by rw [Int.natCast_add]; rfl, hN.out.1, hN.out.2⟩, by simp [intOf]; omega⟩
            · have hk1 : k < K := by omega
              have hk0 : (0 : Int) ≤ (k : Int) := by omega
              have hk2 : (k : Int) < (K : Int) := by omega
              have hn1 : (nr k : Int) ≤ 100000 := by have := hA.out.len k hk1; omega
              clear hk hend
              replace hO := Lib.hid hO
              go_wp2
              go_loopw [10] (fun i wr => ∃ m : Nat, m ≤ nr k + 64 ∧ i = .int .i64 m ∧ OutE B w L K nl gr nr cr 64 G K h c wr) (fun i _ => (nr k + 64 - intOf i).toNat)
              case atStart => exact ⟨0, Nat.zero_le _, rfl, hO.out⟩
              case round =>
                clear hO
                obtain ⟨m, hm, hi', hO⟩ := hrel
                subst hi'
                have cG := hO.gs.cell k hk1
                by_cases hme : m = nr k + 64
                · have hme1 : (m : Int) = (nr k : Int) + 64 := by omega
                  have hx : decide (m < nr k + 64) = false := decide_eq_false (by omega)
                  have hx2 : ((m : Int) < (nr k : Int) + 64) = False := eq_false (by omega)
                  replace hO := Lib.hid hO
                  clear hm
                  go_wp2
                  exact ⟨⟨k + 1, by omega, by rw [Int.natCast_add]; rfl, hO.out⟩, by simp [intOf]; omega⟩
                · have hm1 : m < nr k + 64 := by omega
                  have hm0 : (0 : Int) ≤ (m : Int) := by omega
                  have hm2 : (m : Int) < (nr k : Int) + 64 := by omega
                  have hm3 : (m : Int) < ((nr k + 64 : Nat) : Int) := by omega
                  have hmc := markDot_c k m (by omega) (by omega)
                  have hx : (mk k m == mk k m) = true := beq_self_eq_true _
                  have cL := hO.st.ptr.cell k hk1
                  have lL := hO.st.ptr.lt
                  have lG := hO.gs.lt
                  have lH := (hO.row k hk1).lt
                  obtain ⟨h0, h1⟩ := (hO.row k hk1).elem (k := k) m (by omega) rfl rfl
                  have hO' := fun w' hb => hO.after (w' := w') hb
                  by_cases hmn : m < nr k
                  · have hnl : nl k = false := by
                      cases hnl : nl k
                      · rfl
                      · have := hA.out.none_ k hk1 hnl; omega
                    rw [rowV_at hnl] at cL
                    have lR := (hO.st.row k hk1 hnl).lt
                    obtain ⟨r0, r1⟩ := (hO.st.row k hk1 hnl).elem (k := k) m (by omega) rfl rfl
                    clear hO hm hme
                    replace hO' := Lib.hid hO'
                    replace hmc := Lib.hid hmc
                    generalize mk (k : Int) (m : Int) = x at *
                    have hmn1 : (m : Int) < (nr k : Int) := by omega
                    have hmn2 : decide (m < nr k) = true := decide_eq_true hmn
                    go_wp2
                    refine wp_region_grow2 35 (fun k => (Nat.ble 88 k && Nat.ble k 122)) _ [] (fun j x' q => (fd2aL L G K C k m gr nr cr h c x).getD j (fun _ _ => True) x' q) (fun _ => false) (fun f => #[.slice (some ⟨L, 0, none⟩) K C, undef, u2, .int .i64 K, u4, .slice (some ⟨G, 0, none⟩) K K, .int .i64 K, u7, u8, .int .i64 k, .int .i64 m, undef, undef, undef, undef, undef, .int .i64 K, .slice (some ⟨L, 0, none⟩) K C, .int .i64 K, .bool false, u20, u21, u22, u23, u24, u25, u26, u27, u28, u29, u30, u31, u32, u33, u34, u35, u36, u37, u38, u39, .slice (some ⟨L, 0, none⟩) K C, .int .i64 K, .slice (some ⟨G, 0, none⟩) K K, .int .i64 K, .slice (some ⟨L, 0, none⟩) K C, .int .i64 K, .bool false, u47, u48, u49, u50, u51, u52, u53, u54, u55, u56, u57, u58, u59, u60, u61, u62, u63, u64, u65, u66, u67, u68, u69, u70, u71, u72, .int .i64 k, .slice (some ⟨L, 0, none⟩) K C, .int .i64 K, .bool true, u77, u78, .int .i64 m, .slice (some ⟨G, 0, none⟩) K K, .int .i64 k, .pointer (some ⟨G, k, none⟩), .slice (some ⟨h k, 0, none⟩) (nr k + 64) (c k), .int .i64 ((nr k : Int) + 64), .bool true, u86, u87, f 88, f 89, f 90, f 91, f 92, f 93, f 94, f 95, f 96, f 97, f 98, f 99, f 100, f 101, f 102, f 103, f 104, f 105, f 106, f 107, f 108, f 109, f 110, f 111, f 112, f 113, f 114, f 115, f 116, f 117, f 118, f 119, f 120, f 121, f 122, undef, undef, undef, undef, undef, undef, undef, undef, undef, undef, undef, undef, undef, undef, undef, undef, undef, undef, undef, undef, undef, undef, undef, undef, undef, undef, undef, undef, undef, undef, undef, undef, undef, undef, undef, undef, undef, undef, undef, undef, undef, undef, undef, undef, undef, undef, undef, undef, undef, undef, undef, undef, undef, undef, undef, undef, undef, undef, undef, undef, undef, undef, undef, undef, undef, undef, undef, undef, undef, undef]) (fun f => rfl) (by kernel_rfl) (by kernel_rfl) (by kernel_rfl) (by kernel_rfl) (by kernel_rfl) (fd2aS _ _ _ _ _ _ _ _ _ _ _ _) (fun _ _ _ h => by cases h) ?_ ?_
                    · refine steps2_cons ?_ ?_
                      · as_aux_lemma =>
                        intro f w1 hb hd Q hK
                        clear hd
                        have hK := Lib.hid hK
                        go_wp2
                        exact hK.out _ _ rfl (Below.refl _ _) (fun h => by cases h)
                      refine steps2_cons ?_ ?_
                      · as_aux_lemma =>
                        intro f w1 hb hd Q hK
                        clear hd
                        have hK := Lib.hid hK
                        go_wp2
                        exact hK.out _ _ rfl (Below.refl _ _) (fun h => by cases h)
                      refine steps2_cons ?_ ?_
                      · as_aux_lemma =>
                        intro f w1 hb hd Q hK
                        have e88 : f 88 = .slice (some ⟨G, 0, none⟩) K K := hd.1 rfl
                        have e89 : f 89 = .int .i64 k := hd.2.1 rfl
                        clear hd
                        simp only [e88, e89] at hK
                        have hK := Lib.hid hK
                        go_wp2
                        exact hK.out _ _ rfl (Below.refl _ _) (fun h => by cases h)
                      refine steps2_cons ?_ ?_
                      · as_aux_lemma =>
                        intro f w1 hb hd Q hK
                        have e90 : f 90 = .pointer (some ⟨G, k, none⟩) := hd.1 rfl
                        clear hd
                        simp only [e90] at hK
                        have hK := Lib.hid hK
                        have c0 := (hb.cell (p := ⟨G, k, none⟩) lG).trans cG
                        go_wp2
                        exact hK.out _ _ rfl (Below.refl _ _) (fun h => by cases h)
                      refine steps2_cons ?_ ?_
                      · as_aux_lemma =>
                        intro f w1 hb hd Q hK
                        clear hd
                        have hK := Lib.hid hK
                        go_wp2
                        exact hK.out _ _ rfl (Below.refl _ _) (fun h => by cases h)
                      refine steps2_cons ?_ ?_
                      · as_aux_lemma =>
                        intro f w1 hb hd Q hK
                        have e91 : f 91 = .slice (some ⟨h k, 0, none⟩) (nr k + 64) (c k) := hd.1 rfl
                        have e92 : f 92 = .int .i64 m := hd.2.1 rfl
                        clear hd
                        simp only [e91, e92] at hK
                        have hK := Lib.hid hK
                        go_wp2
                        exact hK.out _ _ rfl (Below.refl _ _) (fun h => by cases h)
                      refine steps2_cons ?_ ?_
                      · as_aux_lemma =>
                        intro f w1 hb hd Q hK
                        have e93 : f 93 = .pointer (some ⟨h k, m * 2, none⟩) := hd.1 rfl
                        clear hd
                        simp only [e93] at hK
                        have hK := Lib.hid hK
                        have c0 := (hb.cell (p := ⟨h k, m * 2, none⟩) lH).trans h0
                        have c1 := (hb.cell (p := ⟨h k, m * 2 + 1, none⟩) lH).trans h1
                        go_wp2
                        exact hK.out _ _ rfl (Below.refl _ _) (fun h => by cases h)
                      refine steps2_cons ?_ ?_
                      · as_aux_lemma =>
                        intro f w1 hb hd Q hK
                        clear hd
                        have hK := Lib.hid hK
                        go_wp2
                        exact hK.out _ _ rfl (Below.refl _ _) (fun h => by cases h)
                      refine steps2_cons ?_ ?_
                      · as_aux_lemma =>
                        intro f w1 hb hd Q hK
                        clear hd
                        have hK := Lib.hid hK
                        go_wp2
                        exact hK.out _ _ rfl (Below.refl _ _) (fun h => by cases h)
                      refine steps2_cons ?_ ?_
                      · as_aux_lemma =>
                        intro f w1 hb hd Q hK
                        have e95 : f 95 = .int .i64 k := hd.1 rfl
                        have e96 : f 96 = .int .i64 m := hd.2.1 rfl
                        clear hd
                        simp only [e95, e96] at hK
                        have hK := Lib.hid hK
                        go_wp2_with fail
                        refine (hmc.out _).mono ?_
                        rintro e w2 ⟨rfl, hb2⟩
                        go_wp2
                        exact hK.out _ _ rfl hb2 (fun h => by cases h)
                      refine steps2_cons ?_ ?_
                      · as_aux_lemma =>
                        intro f w1 hb hd Q hK
                        have e94 : f 94 = .agg #[.int .i64 0, .int .i64 x] := hd.1 rfl
                        have e97 : f 97 = .agg #[.int .i64 0, .int .i64 x] := hd.2.1 rfl
                        clear hd
                        simp only [e94, e97] at hK
                        have hK := Lib.hid hK
                        go_wp2
                        exact hK.out _ _ rfl (Below.refl _ _) (fun h => by cases h)
                      refine steps2_cons ?_ ?_
                      · as_aux_lemma =>
                        intro f w1 hb hd Q hK
                        have e98 : f 98 = .bool true := hd.1 rfl
                        clear hd
                        simp only [e98] at hK
                        have hK := Lib.hid hK
                        go_wp2
                        exact hK.out _ _ rfl (Below.refl _ _) (fun h => by cases h)
                      refine steps2_cons ?_ ?_
                      · as_aux_lemma =>
                        intro f w1 hb hd Q hK
                        have e99 : f 99 = .bool false := hd.1 rfl
                        clear hd
                        simp only [e99] at hK
                        have hK := Lib.hid hK
                        go_wp2
                        exact hK.out _ _ rfl (Below.refl _ _) (fun h => by cases h)
                      refine steps2_cons ?_ ?_
                      · as_aux_lemma =>
                        intro f w1 hb hd Q hK
                        have e100 : f 100 = .bool false := hd.1 rfl
                        clear hd
                        simp only [e100] at hK
                        have hK := Lib.hid hK
                        go_wp2
                        exact hK.out _ _ rfl (Below.refl _ _) (fun h => by cases h)
                      refine steps2_cons ?_ ?_
                      · as_aux_lemma =>
                        intro f w1 hb hd Q hK
                        have e100 : f 100 = .bool false := hd.1 rfl
                        clear hd
                        simp only [e100] at hK
                        have hK := Lib.hid hK
                        go_wp2
                        exact hK.out _ _ rfl (Below.refl _ _) (fun h => by cases h)
                      refine steps2_cons ?_ ?_
                      · as_aux_lemma =>
                        intro f w1 hb hd Q hK
                        have e100 : f 100 = .bool false := hd.1 rfl
                        clear hd
                        simp only [e100] at hK
                        have hK := Lib.hid hK
                        go_wp2
                        exact hK.out _ _ rfl (Below.refl _ _) (fun h => by cases h)
                      refine steps2_cons ?_ ?_
                      · as_aux_lemma =>
                        intro f w1 hb hd Q hK
                        have e102 : f 102 = .slice (some ⟨L, 0, none⟩) K C := hd.1 rfl
                        have e103 : f 103 = .int .i64 k := hd.2.1 rfl
                        have e100 : f 100 = .bool false := hd.2.2.1 rfl
                        clear hd
                        simp only [e102, e103, e100] at hK
                        have hK := Lib.hid hK
                        go_wp2
                        exact hK.out _ _ rfl (Below.refl _ _) (fun h => by cases h)
                      refine steps2_cons ?_ ?_
                      · as_aux_lemma =>
                        intro f w1 hb hd Q hK
                        have e104 : f 104 = .pointer (some ⟨L, k, none⟩) := hd.1 rfl
                        have e100 : f 100 = .bool false := hd.2.1 rfl
                        clear hd
                        simp only [e104, e100] at hK
                        have hK := Lib.hid hK
                        have c0 := (hb.cell (p := ⟨L, k, none⟩) lL).trans cL
                        go_wp2
                        exact hK.out _ _ rfl (Below.refl _ _) (fun h => by cases h)
                      refine steps2_cons ?_ ?_
                      · as_aux_lemma =>
                        intro f w1 hb hd Q hK
                        have e105 : f 105 = .slice (some ⟨gr k, 0, none⟩) (nr k) (cr k) := hd.1 rfl
                        have e100 : f 100 = .bool false := hd.2.1 rfl
                        clear hd
                        simp only [e105, e100] at hK
                        have hK := Lib.hid hK
                        go_wp2
                        exact hK.out _ _ rfl (Below.refl _ _) (fun h => by cases h)
                      refine steps2_cons ?_ ?_
                      · as_aux_lemma =>
                        intro f w1 hb hd Q hK
                        have e101 : f 101 = .int .i64 m := hd.1 rfl
                        have e106 : f 106 = .int .i64 (nr k) := hd.2.1 rfl
                        have e100 : f 100 = .bool false := hd.2.2.1 rfl
                        clear hd
                        simp only [e101, e106, e100] at hK
                        have hK := Lib.hid hK
                        go_wp2
                        exact hK.out _ _ rfl (Below.refl _ _) (fun h => by cases h)
                      refine steps2_cons ?_ ?_
                      · as_aux_lemma =>
                        intro f w1 hb hd Q hK
                        have e107 : f 107 = .bool true := hd.1 rfl
                        have e100 : f 100 = .bool false := hd.2.1 rfl
                        clear hd
                        simp only [e107, e100] at hK
                        have hK := Lib.hid hK
                        go_wp2
                        exact hK.out _ _ rfl (Below.refl _ _) (fun h => by cases h)
                      refine steps2_cons ?_ ?_
                      · as_aux_lemma =>
                        intro f w1 hb hd Q hK
                        have e108 : f 108 = .bool true := hd.1 rfl
                        clear hd
                        simp only [e108] at hK
                        have hK := Lib.hid hK
                        go_wp2
                        exact hK.out _ _ rfl (Below.refl _ _) (fun h => by cases h)
                      refine steps2_cons ?_ ?_
                      · as_aux_lemma =>
                        intro f w1 hb hd Q hK
                        have e108 : f 108 = .bool true := hd.1 rfl
                        clear hd
                        simp only [e108] at hK
                        have hK := Lib.hid hK
                        go_wp2
                        exact hK.out _ _ rfl (Below.refl _ _) (fun h => by cases h)
                      refine steps2_cons ?_ ?_
                      · as_aux_lemma =>
                        intro f w1 hb hd Q hK
                        have e109 : f 109 = .slice (some ⟨L, 0, none⟩) K C := hd.1 rfl
                        have e110 : f 110 = .int .i64 k := hd.2.1 rfl
                        have e108 : f 108 = .bool true := hd.2.2.1 rfl
                        clear hd
                        simp only [e109, e110, e108] at hK
                        have hK := Lib.hid hK
                        go_wp2
                        exact hK.out _ _ rfl (Below.refl _ _) (fun h => by cases h)
                      refine steps2_cons ?_ ?_
                      · as_aux_lemma =>
                        intro f w1 hb hd Q hK
                        have e111 : f 111 = .pointer (some ⟨L, k, none⟩) := hd.1 rfl
                        have e108 : f 108 = .bool true := hd.2.1 rfl
                        clear hd
                        simp only [e111, e108] at hK
                        have hK := Lib.hid hK
                        have c0 := (hb.cell (p := ⟨L, k, none⟩) lL).trans cL
                        go_wp2
                        exact hK.out _ _ rfl (Below.refl _ _) (fun h => by cases h)
                      refine steps2_cons ?_ ?_
                      · as_aux_lemma =>
                        intro f w1 hb hd Q hK
                        have e108 : f 108 = .bool true := hd.1 rfl
                        clear hd
                        simp only [e108] at hK
                        have hK := Lib.hid hK
                        go_wp2
                        exact hK.out _ _ rfl (Below.refl _ _) (fun h => by cases h)
                      refine steps2_cons ?_ ?_
                      · as_aux_lemma =>
                        intro f w1 hb hd Q hK
                        have e112 : f 112 = .slice (some ⟨gr k, 0, none⟩) (nr k) (cr k) := hd.1 rfl
                        have e113 : f 113 = .int .i64 m := hd.2.1 rfl
                        have e108 : f 108 = .bool true := hd.2.2.1 rfl
                        clear hd
                        simp only [e112, e113, e108] at hK
                        have hK := Lib.hid hK
                        go_wp2
                        exact hK.out _ _ rfl (Below.refl _ _) (fun h => by cases h)
                      refine steps2_cons ?_ ?_
                      · as_aux_lemma =>
                        intro f w1 hb hd Q hK
                        have e114 : f 114 = .pointer (some ⟨gr k, m * 2, none⟩) := hd.1 rfl
                        have e108 : f 108 = .bool true := hd.2.1 rfl
                        clear hd
                        simp only [e114, e108] at hK
                        have hK := Lib.hid hK
                        have c0 := (hb.cell (p := ⟨gr k, m * 2, none⟩) lR).trans r0
                        have c1 := (hb.cell (p := ⟨gr k, m * 2 + 1, none⟩) lR).trans r1
                        go_wp2
                        exact hK.out _ _ rfl (Below.refl _ _) (fun h => by cases h)
                      refine steps2_cons ?_ ?_
                      · as_aux_lemma =>
                        intro f w1 hb hd Q hK
                        have e108 : f 108 = .bool true := hd.1 rfl
                        clear hd
                        simp only [e108] at hK
                        have hK := Lib.hid hK
                        go_wp2
                        exact hK.out _ _ rfl (Below.refl _ _) (fun h => by cases h)
                      refine steps2_cons ?_ ?_
                      · as_aux_lemma =>
                        intro f w1 hb hd Q hK
                        have e108 : f 108 = .bool true := hd.1 rfl
                        clear hd
                        simp only [e108] at hK
                        have hK := Lib.hid hK
                        go_wp2
                        exact hK.out _ _ rfl (Below.refl _ _) (fun h => by cases h)
                      refine steps2_cons ?_ ?_
                      · as_aux_lemma =>
                        intro f w1 hb hd Q hK
                        have e116 : f 116 = .int .i64 k := hd.1 rfl
                        have e117 : f 117 = .int .i64 m := hd.2.1 rfl
                        have e108 : f 108 = .bool true := hd.2.2.1 rfl
                        clear hd
                        simp only [e116, e117, e108] at hK
                        have hK := Lib.hid hK
                        go_wp2_with fail
                        refine (hmc.out _).mono ?_
                        rintro e w2 ⟨rfl, hb2⟩
                        go_wp2
                        exact hK.out _ _ rfl hb2 (fun h => by cases h)
                      refine steps2_cons ?_ ?_
                      · as_aux_lemma =>
                        intro f w1 hb hd Q hK
                        have e115 : f 115 = .agg #[.int .i64 0, .int .i64 x] := hd.1 rfl
                        have e118 : f 118 = .agg #[.int .i64 0, .int .i64 x] := hd.2.1 rfl
                        have e108 : f 108 = .bool true := hd.2.2.1 rfl
                        clear hd
                        simp only [e115, e118, e108] at hK
                        have hK := Lib.hid hK
                        go_wp2
                        exact hK.out _ _ rfl (Below.refl _ _) (fun h => by cases h)
                      refine steps2_cons ?_ ?_
                      · as_aux_lemma =>
                        intro f w1 hb hd Q hK
                        have e119 : f 119 = .bool true := hd.1 rfl
                        have e108 : f 108 = .bool true := hd.2.1 rfl
                        clear hd
                        simp only [e119, e108] at hK
                        have hK := Lib.hid hK
                        go_wp2
                        exact hK.out _ _ rfl (Below.refl _ _) (fun h => by cases h)
                      refine steps2_cons ?_ ?_
                      · as_aux_lemma =>
                        intro f w1 hb hd Q hK
                        have e108 : f 108 = .bool true := hd.1 rfl
                        have e120 : f 120 = .bool false := hd.2.1 rfl
                        have e100 : f 100 = .bool false := hd.2.2.1 rfl
                        clear hd
                        simp only [e108, e120, e100] at hK
                        have hK := Lib.hid hK
                        go_wp2
                        exact hK.out _ _ rfl (Below.refl _ _) (fun h => by cases h)
                      refine steps2_cons ?_ ?_
                      · as_aux_lemma =>
                        intro f w1 hb hd Q hK
                        have e100 : f 100 = .bool false := hd.1 rfl
                        have e121 : f 121 = .bool false := hd.2.1 rfl
                        clear hd
                        simp only [e100, e121] at hK
                        have hK := Lib.hid hK
                        go_wp2
                        exact hK.out _ _ rfl (Below.refl _ _) (fun h => by cases h)
                      trivial
                    · intro f w1 hb2 hf hne
                      refine wpList_nil ?_
                      have d122 : f 122 = .bool false := hf 34 _ _ (by decide) rfl rfl
                      clear hf hne
                      simp only [d122]
                      clear d122
                      have hO2 := hO'.out _ hb2
                      replace hO2 := Lib.hid hO2
                      go_wp2
                      exact ⟨⟨m + 1, by omega, by rw [Int.natCast_add]; rfl, hO2.out⟩, by simp [intOf]; omega⟩
                  · obtain ⟨qq, cq, hq⟩ : ∃ q cq, rowV nl gr nr cr k = .slice q (nr k) cq := by
                      cases hnl : nl k
                      · exact ⟨_, _, rowV_at hnl⟩
                      · rw [hA.out.none_ k hk1 hnl]; exact ⟨_, _, rowV_nil hnl⟩
                    rw [hq] at cL
                    clear hO hm hme hq
                    replace hO' := Lib.hid hO'
                    replace hmc := Lib.hid hmc
                    generalize mk (k : Int) (m : Int) = x at *
                    have hmn1 : ¬ (m : Int) < (nr k : Int) := by omega
                    have hmn2 : decide (m < nr k) = false := decide_eq_false hmn
                    go_wp2
                    refine wp_region_grow2 35 (fun k => (Nat.ble 88 k && Nat.ble k 122)) _ [] (fun j x' q => (fd2bL qq cq L G K C k m nr h c x).getD j (fun _ _ => True) x' q) (fun _ => false) (fun f => #[.slice (some ⟨L, 0, none⟩) K C, undef, u2, .int .i64 K, u4, .slice (some ⟨G, 0, none⟩) K K, .int .i64 K, u7, u8, .int .i64 k, .int .i64 m, undef, undef, undef, undef, undef, .int .i64 K, .slice (some ⟨L, 0, none⟩) K C, .int .i64 K, .bool false, u20, u21, u22, u23, u24, u25, u26, u27, u28, u29, u30, u31, u32, u33, u34, u35, u36, u37, u38, u39, .slice (some ⟨L, 0, none⟩) K C, .int .i64 K, .slice (some ⟨G, 0, none⟩) K K, .int .i64 K, .slice (some ⟨L, 0, none⟩) K C, .int .i64 K, .bool false, u47, u48, u49, u50, u51, u52, u53, u54, u55, u56, u57, u58, u59, u60, u61, u62, u63, u64, u65, u66, u67, u68, u69, u70, u71, u72, .int .i64 k, .slice (some ⟨L, 0, none⟩) K C, .int .i64 K, .bool true, u77, u78, .int .i64 m, .slice (some ⟨G, 0, none⟩) K K, .int .i64 k, .pointer (some ⟨G, k, none⟩), .slice (some ⟨h k, 0, none⟩) (nr k + 64) (c k), .int .i64 ((nr k : Int) + 64), .bool true, u86, u87, f 88, f 89, f 90, f 91, f 92, f 93, f 94, f 95, f 96, f 97, f 98, f 99, f 100, f 101, f 102, f 103, f 104, f 105, f 106, f 107, f 108, f 109, f 110, f 111, f 112, f 113, f 114, f 115, f 116, f 117, f 118, f 119, f 120, f 121, f 122, undef, undef, undef, undef, undef, undef, undef, undef, undef, undef, undef, undef, undef, undef, undef, undef, undef, undef, undef, undef, undef, undef, undef, undef, undef, undef, undef, undef, undef, undef, undef, undef, undef, undef, undef, undef, undef, undef, undef, undef, undef, undef, undef, undef, undef, undef, undef, undef, undef, undef, undef, undef, undef, undef, undef, undef, undef, undef, undef, undef, undef, undef, undef, undef, undef, undef, undef, undef, undef, undef]) (fun f => rfl) (by kernel_rfl) (by kernel_rfl) (by kernel_rfl) (by kernel_rfl) (by kernel_rfl) (fd2bS _ _ _ _ _ _ _ _ _ _ _ _) (fun _ _ _ h => by cases h) ?_ ?_
                    · refine steps2_cons ?_ ?_
                      · as_aux_lemma =>
                        intro f w1 hb hd Q hK
                        clear hd
                        have hK := Lib.hid hK
                        go_wp2
                        exact hK.out _ _ rfl (Below.refl _ _) (fun h => by cases h)
                      refine steps2_cons ?_ ?_
                      · as_aux_lemma =>
                        intro f w1 hb hd Q hK
                        clear hd
                        have hK := Lib.hid hK
                        go_wp2
                        exact hK.out _ _ rfl (Below.refl _ _) (fun h => by cases h)
                      refine steps2_cons ?_ ?_
                      · as_aux_lemma =>
                        intro f w1 hb hd Q hK
                        have e88 : f 88 = .slice (some ⟨G, 0, none⟩) K K := hd.1 rfl
                        have e89 : f 89 = .int .i64 k := hd.2.1 rfl
                        clear hd
                        simp only [e88, e89] at hK
                        have hK := Lib.hid hK
                        go_wp2
                        exact hK.out _ _ rfl (Below.refl _ _) (fun h => by cases h)
                      refine steps2_cons ?_ ?_
                      · as_aux_lemma =>
                        intro f w1 hb hd Q hK
                        have e90 : f 90 = .pointer (some ⟨G, k, none⟩) := hd.1 rfl
                        clear hd
                        simp only [e90] at hK
                        have hK := Lib.hid hK
                        have c0 := (hb.cell (p := ⟨G, k, none⟩) lG).trans cG
                        go_wp2
                        exact hK.out _ _ rfl (Below.refl _ _) (fun h => by cases h)
                      refine steps2_cons ?_ ?_
                      · as_aux_lemma =>
                        intro f w1 hb hd Q hK
                        clear hd
                        have hK := Lib.hid hK
                        go_wp2
                        exact hK.out _ _ rfl (Below.refl _ _) (fun h => by cases h)
                      refine steps2_cons ?_ ?_
                      · as_aux_lemma =>
                        intro f w1 hb hd Q hK
                        have e91 : f 91 = .slice (some ⟨h k, 0, none⟩) (nr k + 64) (c k) := hd.1 rfl
                        have e92 : f 92 = .int .i64 m := hd.2.1 rfl
                        clear hd
                        simp only [e91, e92] at hK
                        have hK := Lib.hid hK
                        go_wp2
                        exact hK.out _ _ rfl (Below.refl _ _) (fun h => by cases h)
                      refine steps2_cons ?_ ?_
                      · as_aux_lemma =>
                        intro f w1 hb hd Q hK
                        have e93 : f 93 = .pointer (some ⟨h k, m * 2, none⟩) := hd.1 rfl
                        clear hd
                        simp only [e93] at hK
                        have hK := Lib.hid hK
                        have c0 := (hb.cell (p := ⟨h k, m * 2, none⟩) lH).trans h0
                        have c1 := (hb.cell (p := ⟨h k, m * 2 + 1, none⟩) lH).trans h1
                        go_wp2
                        exact hK.out _ _ rfl (Below.refl _ _) (fun h => by cases h)
                      refine steps2_cons ?_ ?_
                      · as_aux_lemma =>
                        intro f w1 hb hd Q hK
                        clear hd
                        have hK := Lib.hid hK
                        go_wp2
                        exact hK.out _ _ rfl (Below.refl _ _) (fun h => by cases h)
                      refine steps2_cons ?_ ?_
                      · as_aux_lemma =>
                        intro f w1 hb hd Q hK
                        clear hd
                        have hK := Lib.hid hK
                        go_wp2
                        exact hK.out _ _ rfl (Below.refl _ _) (fun h => by cases h)
                      refine steps2_cons ?_ ?_
                      · as_aux_lemma =>
                        intro f w1 hb hd Q hK
                        have e95 : f 95 = .int .i64 k := hd.1 rfl
                        have e96 : f 96 = .int .i64 m := hd.2.1 rfl
                        clear hd
                        simp only [e95, e96] at hK
                        have hK := Lib.hid hK
                        go_wp2_with fail
                        refine (hmc.out _).mono ?_
                        rintro e w2 ⟨rfl, hb2⟩
                        go_wp2
                        exact hK.out _ _ rfl hb2 (fun h => by cases h)
                      refine steps2_cons ?_ ?_
                      · as_aux_lemma =>
                        intro f w1 hb hd Q hK
                        have e94 : f 94 = .agg #[.int .i64 0, .int .i64 x] := hd.1 rfl
                        have e97 : f 97 = .agg #[.int .i64 0, .int .i64 x] := hd.2.1 rfl
                        clear hd
                        simp only [e94, e97] at hK
                        have hK := Lib.hid hK
                        go_wp2
                        exact hK.out _ _ rfl (Below.refl _ _) (fun h => by cases h)
                      refine steps2_cons ?_ ?_
                      · as_aux_lemma =>
                        intro f w1 hb hd Q hK
                        have e98 : f 98 = .bool true := hd.1 rfl
                        clear hd
                        simp only [e98] at hK
                        have hK := Lib.hid hK
                        go_wp2
                        exact hK.out _ _ rfl (Below.refl _ _) (fun h => by cases h)
                      refine steps2_cons ?_ ?_
                      · as_aux_lemma =>
                        intro f w1 hb hd Q hK
                        have e99 : f 99 = .bool false := hd.1 rfl
                        clear hd
                        simp only [e99] at hK
                        have hK := Lib.hid hK
                        go_wp2
                        exact hK.out _ _ rfl (Below.refl _ _) (fun h => by cases h)
                      refine steps2_cons ?_ ?_
                      · as_aux_lemma =>
                        intro f w1 hb hd Q hK
                        have e100 : f 100 = .bool false := hd.1 rfl
                        clear hd
                        simp only [e100] at hK
                        have hK := Lib.hid hK
                        go_wp2
                        exact hK.out _ _ rfl (Below.refl _ _) (fun h => by cases h)
                      refine steps2_cons ?_ ?_
                      · as_aux_lemma =>
                        intro f w1 hb hd Q hK
                        have e100 : f 100 = .bool false := hd.1 rfl
                        clear hd
                        simp only [e100] at hK
                        have hK := Lib.hid hK
                        go_wp2
                        exact hK.out _ _ rfl (Below.refl _ _) (fun h => by cases h)
                      refine steps2_cons ?_ ?_
                      · as_aux_lemma =>
                        intro f w1 hb hd Q hK
                        have e100 : f 100 = .bool false := hd.1 rfl
                        clear hd
                        simp only [e100] at hK
                        have hK := Lib.hid hK
                        go_wp2
                        exact hK.out _ _ rfl (Below.refl _ _) (fun h => by cases h)
                      refine steps2_cons ?_ ?_
                      · as_aux_lemma =>
                        intro f w1 hb hd Q hK
                        have e102 : f 102 = .slice (some ⟨L, 0, none⟩) K C := hd.1 rfl
                        have e103 : f 103 = .int .i64 k := hd.2.1 rfl
                        have e100 : f 100 = .bool false := hd.2.2.1 rfl
                        clear hd
                        simp only [e102, e103, e100] at hK
                        have hK := Lib.hid hK
                        go_wp2
                        exact hK.out _ _ rfl (Below.refl _ _) (fun h => by cases h)
                      refine steps2_cons ?_ ?_
                      · as_aux_lemma =>
                        intro f w1 hb hd Q hK
                        have e104 : f 104 = .pointer (some ⟨L, k, none⟩) := hd.1 rfl
                        have e100 : f 100 = .bool false := hd.2.1 rfl
                        clear hd
                        simp only [e104, e100] at hK
                        have hK := Lib.hid hK
                        have c0 := (hb.cell (p := ⟨L, k, none⟩) lL).trans cL
                        go_wp2
                        exact hK.out _ _ rfl (Below.refl _ _) (fun h => by cases h)
                      refine steps2_cons ?_ ?_
                      · as_aux_lemma =>
                        intro f w1 hb hd Q hK
                        have e105 : f 105 = .slice qq (nr k) cq := hd.1 rfl
                        have e100 : f 100 = .bool false := hd.2.1 rfl
                        clear hd
                        simp only [e105, e100] at hK
                        have hK := Lib.hid hK
                        go_wp2
                        exact hK.out _ _ rfl (Below.refl _ _) (fun h => by cases h)
                      refine steps2_cons ?_ ?_
                      · as_aux_lemma =>
                        intro f w1 hb hd Q hK
                        have e101 : f 101 = .int .i64 m := hd.1 rfl
                        have e106 : f 106 = .int .i64 (nr k) := hd.2.1 rfl
                        have e100 : f 100 = .bool false := hd.2.2.1 rfl
                        clear hd
                        simp only [e101, e106, e100] at hK
                        have hK := Lib.hid hK
                        go_wp2
                        exact hK.out _ _ rfl (Below.refl _ _) (fun h => by cases h)
                      refine steps2_cons ?_ ?_
                      · as_aux_lemma =>
                        intro f w1 hb hd Q hK
                        have e107 : f 107 = .bool false := hd.1 rfl
                        have e100 : f 100 = .bool false := hd.2.1 rfl
                        clear hd
                        simp only [e107, e100] at hK
                        have hK := Lib.hid hK
                        go_wp2
                        exact hK.out _ _ rfl (Below.refl _ _) (fun h => by cases h)
                      refine steps2_cons ?_ ?_
                      · as_aux_lemma =>
                        intro f w1 hb hd Q hK
                        have e108 : f 108 = .bool false := hd.1 rfl
                        clear hd
                        simp only [e108] at hK
                        have hK := Lib.hid hK
                        go_wp2
                        exact hK.out _ _ rfl (Below.refl _ _) (fun h => by cases h)
                      refine steps2_cons ?_ ?_
                      · as_aux_lemma =>
                        intro f w1 hb hd Q hK
                        have e108 : f 108 = .bool false := hd.1 rfl
                        clear hd
                        simp only [e108] at hK
                        have hK := Lib.hid hK
                        go_wp2
                        exact hK.out _ _ rfl (Below.refl _ _) (fun h => by cases h)
                      refine steps2_cons ?_ ?_
                      · as_aux_lemma =>
                        intro f w1 hb hd Q hK
                        have e109 : f 109 = undef := hd.1 rfl
                        have e110 : f 110 = undef := hd.2.1 rfl
                        have e108 : f 108 = .bool false := hd.2.2.1 rfl
                        clear hd
                        simp only [e109, e110, e108] at hK
                        have hK := Lib.hid hK
                        go_wp2
                        exact hK.out _ _ rfl (Below.refl _ _) (fun h => by cases h)
                      refine steps2_cons ?_ ?_
                      · as_aux_lemma =>
                        intro f w1 hb hd Q hK
                        have e111 : f 111 = undef := hd.1 rfl
                        have e108 : f 108 = .bool false := hd.2.1 rfl
                        clear hd
                        simp only [e111, e108] at hK
                        have hK := Lib.hid hK
                        go_wp2
                        exact hK.out _ _ rfl (Below.refl _ _) (fun h => by cases h)
                      refine steps2_cons ?_ ?_
                      · as_aux_lemma =>
                        intro f w1 hb hd Q hK
                        have e108 : f 108 = .bool false := hd.1 rfl
                        clear hd
                        simp only [e108] at hK
                        have hK := Lib.hid hK
                        go_wp2
                        exact hK.out _ _ rfl (Below.refl _ _) (fun h => by cases h)
                      refine steps2_cons ?_ ?_
                      · as_aux_lemma =>
                        intro f w1 hb hd Q hK
                        have e112 : f 112 = undef := hd.1 rfl
                        have e113 : f 113 = undef := hd.2.1 rfl
                        have e108 : f 108 = .bool false := hd.2.2.1 rfl
                        clear hd
                        simp only [e112, e113, e108] at hK
                        have hK := Lib.hid hK
                        go_wp2
                        exact hK.out _ _ rfl (Below.refl _ _) (fun h => by cases h)
                      refine steps2_cons ?_ ?_
                      · as_aux_lemma =>
                        intro f w1 hb hd Q hK
                        have e114 : f 114 = undef := hd.1 rfl
                        have e108 : f 108 = .bool false := hd.2.1 rfl
                        clear hd
                        simp only [e114, e108] at hK
                        have hK := Lib.hid hK
                        go_wp2
                        exact hK.out _ _ rfl (Below.refl _ _) (fun h => by cases h)
                      refine steps2_cons ?_ ?_
                      · as_aux_lemma =>
                        intro f w1 hb hd Q hK
                        have e108 : f 108 = .bool false := hd.1 rfl
                        clear hd
                        simp only [e108] at hK
                        have hK := Lib.hid hK
                        go_wp2
                        exact hK.out _ _ rfl (Below.refl _ _) (fun h => by cases h)
                      refine steps2_cons ?_ ?_
                      · as_aux_lemma =>
                        intro f w1 hb hd Q hK
                        have e108 : f 108 = .bool false := hd.1 rfl
                        clear hd
                        simp only [e108] at hK
                        have hK := Lib.hid hK
                        go_wp2
                        exact hK.out _ _ rfl (Below.refl _ _) (fun h => by cases h)
                      refine steps2_cons ?_ ?_
                      · as_aux_lemma =>
                        intro f w1 hb hd Q hK
                        have e116 : f 116 = undef := hd.1 rfl
                        have e117 : f 117 = undef := hd.2.1 rfl
                        have e108 : f 108 = .bool false := hd.2.2.1 rfl
                        clear hd
                        simp only [e116, e117, e108] at hK
                        have hK := Lib.hid hK
                        go_wp2
                        exact hK.out _ _ rfl (Below.refl _ _) (fun h => by cases h)
                      refine steps2_cons ?_ ?_
                      · as_aux_lemma =>
                        intro f w1 hb hd Q hK
                        have e115 : f 115 = undef := hd.1 rfl
                        have e118 : f 118 = undef := hd.2.1 rfl
                        have e108 : f 108 = .bool false := hd.2.2.1 rfl
                        clear hd
                        simp only [e115, e118, e108] at hK
                        have hK := Lib.hid hK
                        go_wp2
                        exact hK.out _ _ rfl (Below.refl _ _) (fun h => by cases h)
                      refine steps2_cons ?_ ?_
                      · as_aux_lemma =>
                        intro f w1 hb hd Q hK
                        have e119 : f 119 = undef := hd.1 rfl
                        have e108 : f 108 = .bool false := hd.2.1 rfl
                        clear hd
                        simp only [e119, e108] at hK
                        have hK := Lib.hid hK
                        go_wp2
                        exact hK.out _ _ rfl (Below.refl _ _) (fun h => by cases h)
                      refine steps2_cons ?_ ?_
                      · as_aux_lemma =>
                        intro f w1 hb hd Q hK
                        have e108 : f 108 = .bool false := hd.1 rfl
                        have e120 : f 120 = undef := hd.2.1 rfl
                        have e100 : f 100 = .bool false := hd.2.2.1 rfl
                        clear hd
                        simp only [e108, e120, e100] at hK
                        have hK := Lib.hid hK
                        go_wp2
                        exact hK.out _ _ rfl (Below.refl _ _) (fun h => by cases h)
                      refine steps2_cons ?_ ?_
                      · as_aux_lemma =>
                        intro f w1 hb hd Q hK
                        have e100 : f 100 = .bool false := hd.1 rfl
                        have e121 : f 121 = .bool false := hd.2.1 rfl
                        clear hd
                        simp only [e100, e121] at hK
                        have hK := Lib.hid hK
                        go_wp2
                        exact hK.out _ _ rfl (Below.refl _ _) (fun h => by cases h)
                      trivial
                    · intro f w1 hb2 hf hne
                      refine wpList_nil ?_
                      have d122 : f 122 = .bool false := hf 34 _ _ (by decide) rfl rfl
                      clear hf hne
                      simp only [d122]
                      clear d122
                      have hO2 := hO'.out _ hb2
                      replace hO2 := Lib.hid hO2
                      go_wp2
                      exact ⟨⟨m + 1, by omega, by rw [Int.natCast_add]; rfl, hO2.out⟩, by simp [intOf]; omega⟩
        · have hk1 : k < K := by omega
          have hk0 : (0 : Int) ≤ (k : Int) := by omega
          have hk2 : (k : Int) < (K : Int) := by omega
          have hn1 : (nr k : Int) ≤ 100000 := by have := hA.out.len k hk1; omega
          have cL := hO.st.ptr.cell k hk1
          clear hk hend
          obtain ⟨v0, hv0, hv1⟩ : ∃ v0, rowV nl gr nr cr k = v0 ∧ ((v0 = .slice none 0 0 ∧ nl k = true ∧ nr k = 0) ∨ (v0 = .slice (some ⟨gr k, 0, none⟩) (nr k) (cr k) ∧ nl k = false)) := by
            cases hnl : nl k
            · exact ⟨_, rfl, .inr ⟨rowV_at hnl, rfl⟩⟩
            · exact ⟨_, rfl, .inl ⟨rowV_nil hnl, rfl, hA.out.none_ k hk1 hnl⟩⟩
          rw [hv0] at cL
          have hat : ∀ wr, OutE B w L K nl gr nr cr 64 G k h c wr → wr.cell? ⟨L, k, none⟩ = some v0 := fun wr hO => by rw [hO.st.ptr.cell k hk1, hv0]
          have hst : (v0 = .slice none 0 0 ∧ nl k = true ∧ (0 : Nat) = 0) ∨ ∃ hc cc, v0 = .slice (some ⟨hc, 0, none⟩) (nr k + 0) cc ∧ RowE wr hc ((nr k + 0) * 2) (cc * 2) (fun t => mD k t) ∧ ((hc = gr k ∧ cc = cr k ∧ nl k = false) ∨ (G < hc ∧ ∀ j, j < k → h j ≠ hc)) := by
            rcases hv1 with ⟨e, hn, _⟩ | ⟨e, hn⟩
            · exact .inl ⟨e, hn, rfl⟩
            · exact .inr ⟨gr k, cr k, e, hO.st.row k hk1 hn, .inl ⟨rfl, rfl, hn⟩⟩
          obtain ⟨q0, cq, hq⟩ : ∃ q cq, v0 = .slice q (nr k) cq := by
            rcases hv1 with ⟨e, _, hz⟩ | ⟨e, _⟩
            · rw [hz]; exact ⟨_, _, e⟩
            · exact ⟨_, _, e⟩
          have hnil : v0 = .slice none 0 0 → nl k = true → nr k = 0 := fun _ hn => hA.out.none_ k hk1 hn
          clear hv1 hv0
          subst hq
          replace hO := Lib.hid hO
          replace hst := Lib.hid hst
          replace hat := Lib.hid hat
          replace hnil := Lib.hid hnil
          go_wp2
          go_loopw [7, 8] (fun v i wr => ∃ m : Nat, m ≤ 64 ∧ i = .int .i64 m ∧ OutE B w L K nl gr nr cr 64 G k h c wr ∧ ((v = .slice none 0 0 ∧ nl k = true ∧ m = 0) ∨ ∃ hc cc, v = .slice (some ⟨hc, 0, none⟩) (nr k + m) cc ∧ RowE wr hc ((nr k + m) * 2) (cc * 2) (fun t => mD k t) ∧ ((hc = gr k ∧ cc = cr k ∧ nl k = false) ∨ (G < hc ∧ ∀ j, j < k → h j ≠ hc)))) (fun _ i _ => (64 - intOf i).toNat)
          case atStart =>
            refine ⟨0, Nat.zero_le _, rfl, hO.out, ?_⟩
            rcases hst.out with ⟨e, hn, _⟩ | h
            · exact .inl ⟨e, hn, rfl⟩
            · exact .inr h
          case round =>
            clear hO hst cL
            rename_i v i
            obtain ⟨m, hm, hi', hO, hcs⟩ := hrel
            subst hi'
            have cL := hat.out _ hO
            rcases hcs with ⟨rfl, hnl, rfl⟩ | ⟨hc, cc, rfl, hR, hp⟩
            · have hz := hA.out.none_ k hk1 hnl
              have hmc := markDot_c k 0 (by omega) (by omega)
              rw [hz] at cL
              replace hmc := Lib.hid hmc
              replace hO := Lib.hid hO
              replace hz := Lib.hid hz
              clear hm
              go_wp2_with fail
              refine (hmc.out _).mono ?_
              rintro e w3 ⟨rfl, hb3⟩
              have hOa := (hO.out.after hb3).after (w' := w3.alloc (Obj.cells #[.int .i64 0, .int .i64 (mk k 0)] 35)) ((Below.refl _ _).alloc (Nat.le_refl _) _)
              have hca : ∀ j, j < 1 * 2 → (w3.alloc (Obj.cells #[.int .i64 0, .int .i64 (mk k 0)] 35)).cell? ((⟨w3.heap.size, 0, none⟩ : Addr).add j) = some (.int .i64 (mD k j)) := fun j hj => by
                have : j = 0 ∨ j = 1 := by omega
                rw [add_lit2]
                rcases this with rfl | rfl
                · exact (Blk.new w3 _ _).cell 0
                · exact (Blk.new w3 _ _).cell 1
              replace hOa := Lib.hid hOa
              clear hO
              go_wp2_with (at_builtin; refine wpList_appE0 rfl rfl rfl rfl (fun t : Nat => mD k t) (by decide) hca (by omega) ?_; intro c2 w4 hR4 hgr4; have hO5 := Lib.hid (hOa.out.app0 hgr4); have hR5 := Lib.hid hR4; clear hR4 hgr4 hca hOa)
              have e9 : (w3.alloc (Obj.cells #[.int .i64 0, .int .i64 (mk k 0)] 35)).heap.size = w3.heap.size + 1 := by simp
              rw [e9] at hO5 hR5
              exact ⟨⟨1, by omega, rfl, hO5.out.1, .inr ⟨_, c2, by rw [hz.out], by rw [hz.out]; exact hR5.out, .inr hO5.out.2⟩⟩, by simp [intOf]⟩
            · by_cases hme : m = 64
              · subst hme
                have hsome := hO.gs.some_ k hk1
                obtain ⟨u, hu⟩ := hsome
                have hfz := hO.gs.frozen k
                have hO' := hO.put hk1 hR (hp.elim (fun h => .inl ⟨h.1, h.2.2⟩) (fun h => .inr h.1))
                clear hO hR hp hm
                replace hO' := Lib.hid hO'
                go_wp2
                exact ⟨⟨k + 1, by omega, by rw [Int.natCast_add]; rfl, _, _, hO'.out⟩, by simp [intOf]; omega⟩
              · have hm1 : m < 64 := by omega
                have hm0 : (0 : Int) ≤ (m : Int) := by omega
                have hm2 : (m : Int) < 64 := by omega
                have hmc : ∀ w, Calls Tryz.prog 17 #[.int .i64 k, .int .i64 ((nr k : Int) + m)] w fun e w' => e = .returned (.agg #[.int .i64 0, .int .i64 (mk k ((nr k + m : Nat) : Int))]) ∧ Below w.heap.size w w' := fun w => markDot_c k _ (by omega) (by omega) _
                replace hmc := Lib.hid hmc
                replace hp := Lib.hid hp
                replace hO := Lib.hid hO
                replace hR := Lib.hid hR
                clear hm hme
                go_wp2_with fail
                refine (hmc.out _).mono ?_
                rintro e w3 ⟨rfl, hb3⟩
                have hal : Below w3.heap.size w3 (w3.alloc (Obj.cells #[.int .i64 0, .int .i64 (mk k ((nr k + m : Nat) : Int))] 35)) := (Below.refl _ _).alloc (Nat.le_refl _) _
                have hRa := (hR.out.below hb3).below hal
                have hOa := (hO.out.after hb3).after hal
                have hca : ∀ j, j < 1 * 2 → (w3.alloc (Obj.cells #[.int .i64 0, .int .i64 (mk k ((nr k + m : Nat) : Int))] 35)).cell? ((⟨w3.heap.size, 0, none⟩ : Addr).add j) = some (.int .i64 ((fun t : Nat => mD k t) ((nr k + m) * 2 + j))) := fun j hj => by
                  have : j = 0 ∨ j = 1 := by omega
                  rw [add_lit2]
                  rcases this with rfl | rfl
                  · show _ = some (Value.int .i64 (mD k ((nr k + m) * 2)))
                    rw [mD_even]
                    exact (Blk.new w3 _ _).cell 0
                  · show _ = some (Value.int .i64 (mD k ((nr k + m) * 2 + 1)))
                    rw [mD_odd]
                    exact (Blk.new w3 _ _).cell 1
                replace hOa := Lib.hid hOa
                clear hR hO
                go_wp2_with (at_builtin; refine wpList_appE rfl rfl rfl hRa rfl (fun t : Nat => mD k t) (fun i hi => rfl) hca (by omega) ?_; intro g2 c2 w4 hR4 hcase4; have hR5 := Lib.hid hR4; have hO5 := Lib.hid (hOa.out.app hA.out hk1 (by omega) hp.out hR4 (fun t _ => rfl) hcase4); clear hR4 hcase4 hca hRa hOa)
                exact ⟨⟨m + 1, by omega, by rw [Int.natCast_add]; rfl, hO5.out.1, .inr ⟨g2, c2, by rw [Nat.add_assoc], hR5.out, hO5.out.2⟩⟩, by simp [intOf]; omega⟩
    · have hk1 : k < K := by omega
      have hk0 : (0 : Int) ≤ (k : Int) := by omega
      have hk2 : (k : Int) < (K : Int) := by omega
      have hn1 : (nr k : Int) ≤ 100000 := by have := hA.out.len k hk1; omega
      clear hk hend
      replace hS := Lib.hid hS
      replace hF := Lib.hid hF
      go_wp2
      go_loopw [4] (fun i wr => ∃ m : Nat, m ≤ nr k ∧ i = .int .i64 m ∧ ∃ f, StE B w L K nl gr nr cr f wr ∧ (∀ j t, j < k → t < nr j * 2 → f j t = mD j t) ∧ ∀ t, t < m * 2 → f k t = mD k t) (fun i _ => (nr k - intOf i).toNat)
      case atStart => exact ⟨0, Nat.zero_le _, rfl, f, hS.out, hF.out, fun t h => absurd h (by omega)⟩
      case round =>
        clear hS hF
        rename_i wr0 _ _
        obtain ⟨m, hm, hi', f, hS, hF, hG⟩ := hrel
        subst hi'
        have cL := hS.ptr.cell k hk1
        by_cases hme : m = nr k
        · subst hme
          replace hS := Lib.hid hS
          have hF' : ∀ j t, j < k + 1 → t < nr j * 2 → f j t = mD j t := fun j t h1 h2 => by
            by_cases e : j = k
            · subst e; exact hG t h2
            · exact hF j t (by omega) h2
          replace hF' := Lib.hid hF'
          clear hF hG hm
          cases hnl : nl k
          · rw [rowV_at hnl] at cL
            go_wp2
            exact ⟨⟨k + 1, by omega, by rw [Int.natCast_add]; rfl, f, hS.out, hF'.out⟩, by simp [intOf]; omega⟩
          · rw [rowV_nil hnl] at cL
            have hz : (nr k : Int) = 0 := by have := hA.out.none_ k hk1 hnl; omega
            go_wp2
            exact ⟨⟨k + 1, by omega, by rw [Int.natCast_add]; rfl, f, hS.out, hF'.out⟩, by simp [intOf]; omega⟩
        · have hm1 : m < nr k := by omega
          have hm0 : (0 : Int) ≤ (m : Int) := by omega
          have hm2 : (m : Int) < (nr k : Int) := by omega
          have hnl : nl k = false := by
            cases hnl : nl k
            · rfl
            · have := hA.out.none_ k hk1 hnl; omega
          rw [rowV_at hnl] at cL
          have hmc := markDot_c k m (by have := hA.out.many; omega) (by have := hA.out.len k hk1; omega)
          have lL := hS.ptr.lt
          have hcl : ∀ w3, Below wr.heap.size wr w3 → (∃ u, w3.cell? ⟨gr k, m * 2, none⟩ = some u) ∧ (∃ u, w3.cell? ⟨gr k, m * 2 + 1, none⟩ = some u) ∧ w3.frozen? ⟨gr k, m * 2, none⟩ = false ∧ w3.frozen? ⟨gr k, m * 2 + 1, none⟩ = false := fun w3 hb3 => ⟨⟨_, ((hS.row k hk1 hnl).below hb3).cell _ (by omega)⟩, ⟨_, ((hS.row k hk1 hnl).below hb3).cell _ (by omega)⟩, ((hS.row k hk1 hnl).below hb3).frozen _, ((hS.row k hk1 hnl).below hb3).frozen _⟩
          have hnew : ∀ w3, Below wr.heap.size wr w3 → ∃ f', StE B w L K nl gr nr cr f' ((w3.setCell ⟨gr k, m * 2, none⟩ (.int .i64 0)).setCell ⟨gr k, m * 2 + 1, none⟩ (.int .i64 (mk k m))) ∧ (∀ j t, j < k → t < nr j * 2 → f' j t = mD j t) ∧ ∀ t, t < (m + 1) * 2 → f' k t = mD k t := fun w3 hb3 => by
            have hs1 := (hS.after (hS.size hBw) hb3).set_ hA.out hk1 hnl hm1 0 (mk k m)
            refine ⟨_, hs1, fun j t h1 h2 => ?_, fun t h1 => ?_⟩
            · show (if j = k then _ else f j t) = mD j t
              rw [if_neg (by omega)]; exact hF j t h1 h2
            · show (if k = k then (if t = m * 2 + 1 then mk k m else if t = m * 2 then 0 else f k t) else f k t) = mD k t
              rw [if_pos rfl]
              by_cases e : t = m * 2 + 1
              · rw [if_pos e, e, mD_odd]
              · rw [if_neg e]
                by_cases e2 : t = m * 2
                · rw [if_pos e2, e2, mD_even]
                · rw [if_neg e2]; exact hG t (by omega)
          clear hS hF hG
          replace hnew := Lib.hid hnew
          replace hcl := Lib.hid hcl
          replace hmc := Lib.hid hmc
          generalize mk (k : Int) (m : Int) = x at *
          go_wp2
          refine wp_region_grow2 9 (fun k => (Nat.ble 31 k && Nat.ble k 39)) _ [] (fun j x' q => (fd1L L K C k m gr nr cr x).getD j (fun _ _ => True) x' q) (fun _ => false) (fun f => #[.slice (some ⟨L, 0, none⟩) K C, undef, .bool false, .int .i64 k, .int .i64 m, undef, undef, undef, undef, undef, undef, undef, undef, undef, undef, undef, .int .i64 k, .slice (some ⟨L, 0, none⟩) K C, .int .i64 K, .bool true, u20, u21, .int .i64 m, .slice (some ⟨L, 0, none⟩) K C, .int .i64 k, .pointer (some ⟨L, k, none⟩), .slice (some ⟨gr k, 0, none⟩) (nr k) (cr k), .int .i64 (nr k), .bool true, u29, u30, f 31, f 32, f 33, f 34, f 35, f 36, f 37, f 38, f 39, undef, undef, undef, undef, undef, undef, undef, undef, undef, undef, undef, undef, undef, undef, undef, undef, undef, undef, undef, undef, undef, undef, undef, undef, undef, undef, undef, undef, undef, undef, undef, undef, undef, undef, undef, undef, undef, undef, undef, undef, undef, undef, undef, undef, undef, undef, undef, undef, undef, undef, undef, undef, undef, undef, undef, undef, undef, undef, undef, undef, undef, undef, undef, undef, undef, undef, undef, undef, undef, undef, undef, undef, undef, undef, undef, undef, undef, undef, undef, undef, undef, undef, undef, undef, undef, undef, undef, undef, undef, undef, undef, undef, undef, undef, undef, undef, undef, undef, undef, undef, undef, undef, undef, undef, undef, undef, undef, undef, undef, undef, undef, undef, undef, undef, undef, undef, undef, undef, undef, undef, undef, undef, undef, undef, undef, undef, undef, undef, undef, undef, undef, undef, undef, undef, undef, undef, undef, undef, undef, undef, undef, undef, undef, undef, undef, undef, undef, undef, undef, undef, undef, undef, undef]) (fun f => rfl) (by kernel_rfl) (by kernel_rfl) (by kernel_rfl) (by kernel_rfl) (by kernel_rfl) (fd1S _ _ _ _ _ _ _ _ _) (fun _ _ _ h => by cases h) ?_ ?_
          · refine steps2_cons ?_ ?_
            · as_aux_lemma =>
              intro f w1 hb hd Q hK
              clear hd
              have hK := Lib.hid hK
              go_wp2
              exact hK.out _ _ rfl (Below.refl _ _) (fun h => by cases h)
            refine steps2_cons ?_ ?_
            · as_aux_lemma =>
              intro f w1 hb hd Q hK
              clear hd
              have hK := Lib.hid hK
              go_wp2
              exact hK.out _ _ rfl (Below.refl _ _) (fun h => by cases h)
            refine steps2_cons ?_ ?_
            · as_aux_lemma =>
              intro f w1 hb hd Q hK
              have e31 : f 31 = .slice (some ⟨L, 0, none⟩) K C := hd.1 rfl
              have e32 : f 32 = .int .i64 k := hd.2.1 rfl
              clear hd
              simp only [e31, e32] at hK
              have hK := Lib.hid hK
              go_wp2
              exact hK.out _ _ rfl (Below.refl _ _) (fun h => by cases h)
            refine steps2_cons ?_ ?_
            · as_aux_lemma =>
              intro f w1 hb hd Q hK
              have e33 : f 33 = .pointer (some ⟨L, k, none⟩) := hd.1 rfl
              clear hd
              simp only [e33] at hK
              have hK := Lib.hid hK
              have c0 := (hb.cell (p := ⟨L, k, none⟩) lL).trans cL
              go_wp2
              exact hK.out _ _ rfl (Below.refl _ _) (fun h => by cases h)
            refine steps2_cons ?_ ?_
            · as_aux_lemma =>
              intro f w1 hb hd Q hK
              clear hd
              have hK := Lib.hid hK
              go_wp2
              exact hK.out _ _ rfl (Below.refl _ _) (fun h => by cases h)
            refine steps2_cons ?_ ?_
            · as_aux_lemma =>
              intro f w1 hb hd Q hK
              clear hd
              have hK := Lib.hid hK
              go_wp2
              exact hK.out _ _ rfl (Below.refl _ _) (fun h => by cases h)
            refine steps2_cons ?_ ?_
            · as_aux_lemma =>
              intro f w1 hb hd Q hK
              clear hd
              have hK := Lib.hid hK
              go_wp2
              exact hK.out _ _ rfl (Below.refl _ _) (fun h => by cases h)
            refine steps2_cons ?_ ?_
            · as_aux_lemma =>
              intro f w1 hb hd Q hK
              have e36 : f 36 = .int .i64 k := hd.1 rfl
              have e37 : f 37 = .int .i64 m := hd.2.1 rfl
              clear hd
              simp only [e36, e37] at hK
              have hK := Lib.hid hK
              go_wp2_with fail
              refine (hmc.out _).mono ?_
              rintro e w2 ⟨rfl, hb2⟩
              go_wp2
              exact hK.out _ _ rfl hb2 (fun h => by cases h)
            refine steps2_cons ?_ ?_
            · as_aux_lemma =>
              intro f w1 hb hd Q hK
              have e34 : f 34 = .slice (some ⟨gr k, 0, none⟩) (nr k) (cr k) := hd.1 rfl
              have e35 : f 35 = .int .i64 m := hd.2.1 rfl
              clear hd
              simp only [e34, e35] at hK
              have hK := Lib.hid hK
              go_wp2
              exact hK.out _ _ rfl (Below.refl _ _) (fun h => by cases h)
            trivial
          · intro f w1 hb2 hf hne
            have d39 : f 39 = .pointer (some ⟨gr k, m * 2, none⟩) := hf 8 _ _ (by decide) rfl rfl
            have d38 : f 38 = .agg #[.int .i64 0, .int .i64 x] := hf 7 _ _ (by decide) rfl rfl
            clear hf hne
            simp only [d39, d38]
            clear d39 d38
            obtain ⟨f', hN⟩ := hnew.out _ hb2
            obtain ⟨⟨u0, hu0⟩, ⟨u1, hu1⟩, z0, z1⟩ := hcl.out _ hb2
            replace hN := Lib.hid hN
            clear hnew hcl hmc
            go_wp2
            exact ⟨⟨m + 1, by omega, by rw [Int.natCast_add]; rfl, _, hN.out.1, hN.out.2.1, hN.out.2.2⟩, by simp [intOf]; omega⟩
end Go.Proofs.YtofgkfdfondajaaGreat
