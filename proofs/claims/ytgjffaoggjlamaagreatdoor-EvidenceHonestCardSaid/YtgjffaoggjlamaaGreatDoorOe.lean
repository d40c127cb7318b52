/- law16: EvidenceHonest, walked. -/
import Derived.Test.YtgjffaoggjlamaaGreatDoorOd
import Derived.Deep.CutRange
namespace Go.Proofs.YtgjffaoggjlamaaGreatDoor
open Go Go.RowKit
theorem shk {sh sq : Nat} (h1 : sh < 4) (h2 : sq < 5) : shT 2 (sh : Int) (1 + (sq : Int)) 64 = true := by
  simp only [shT, Bool.and_eq_true, decide_eq_true_eq]
  refine ⟨by decide, by decide, by omega, by omega, by omega, by omega, ?_⟩
  trivial
theorem ord_no {L : List RD} (hd : ∀ (i j : Nat) (x y : RD), L[i]? = some x → L[j]? = some y → x.sh = y.sh → x.sq = y.sq → i = j) {i j : Nat} {x y : RD} (hi : L[i]? = some x) (hj : L[j]? = some y) : ordI 2 x.sh x.sq 64 64 x.S 2 y.sh y.sq 64 64 y.S = 0 := by
  unfold ordI
  by_cases h1 : x.sh = y.sh
  · by_cases h2 : x.sq = y.sq
    · have := hd i j x y hi hj h1 h2
      subst this
      rw [hi] at hj
      obtain rfl : x = y := by injection hj
      split
      · exact cmpI_self _ _
      · rfl
    · rw [if_neg (by simp [h2])]
  · rw [if_neg (by simp [h1])]
set_option maxRecDepth 20000 in
set_option maxHeartbeats 16000000 in
theorem honest_small (p0 : Option Addr) (n0 c0 : Nat) (A0 : Nat → Int) (p1 : Option Addr) (n1 c1 : Nat) (A1 : Nat → Int) (p2 : Option Addr) (n2 c2 : Nat) (h0 : n0 ≤ 6) (h1 : n1 ≤ 6) (h2 : n2 ≤ 6) (w : World) (hI0 : IAt w p0 n0 A0) (hI1 : IAt w p1 n1 A1) (hV2 : VAt w p2 n2) (hS : ShP w) (hCv : CvP w) :
    Calls Tryz.prog 3 #[.slice p0 n0 c0, .slice p1 n1 c1, .slice p2 n2 c2] w (PostV (.bool true) w) := by
  have hB := hS.lt
  have ha := Lib.hid (awake16_c w hS hCv)
  have hPk4 := Lib.hid (fun x w1 => show Calls Tryz.prog 16 #[.int .i64 x, .int .i64 4] w1 (fun e w' => ∃ k : Nat, e = .returned (.int .i64 k) ∧ k < 4 ∧ w' = w1) from pick_c x 4 (by decide) (by decide) w1)
  have hPk5 := Lib.hid (fun x w1 => show Calls Tryz.prog 16 #[.int .i64 x, .int .i64 5] w1 (fun e w' => ∃ k : Nat, e = .returned (.int .i64 k) ∧ k < 5 ∧ w' = w1) from pick_c x 5 (by decide) (by decide) w1)
  have hsg := Lib.hid (fun (sh sq : Int) (hsh : shT 2 sh sq 64 = true) q m d b (hm : m ≤ 64) (hb : Sc.Byt b) w1 (hb1 : Below w.heap.size w w1) (hX : BAt w1 q m b) => signed_c 2 sh sq hsh q m d b hm hb w1 hX (hS.below hb1 hB) (hCv.below hb1 hCv.lt))
  have hse := Lib.hid (fun w1 => seed16_c 2 (by decide) (by decide) w1)
  have hPub := Lib.hid (fun g c w1 (h : RowB w1 g 32 c (sdI 2)) (hb : Below w.heap.size w w1) => Public_c (some ⟨g, 0, none⟩) c (sdI 2) h.cap (fun j _ => sdI_byt 2 j) w1 h.bx (hS.below hb hB) (by have := hb.size; omega) (hCv.below hb hCv.lt))
  have hCk := Lib.hid (fun (x : RD) gk ck w1 (hb : Below w.heap.size w w1) (hx : x.ok w1) (hk : RowB w1 gk 32 ck (Sh.ptI (Sh.keyP (sdI 2)))) => Check_true gk 0 ck x.a2 0 x.b2 2 x.sh x.sq (some ⟨x.a1, 0, none⟩) x.b1 x.S (Sh.ptI (Sh.keyP (sdI 2))) x.g hx.sh hx.r1.cap hk.cap hx.r2.cap (key_byt _) (sig_byt _ _) (fun j _ => hx.byt j) (Sh.ver_sig (sdI 2) (fun _ _ => rfl) (fun _ _ => rfl) rfl (fun _ _ => rfl)) w1 hk.lt (fun j hj => by rw [Nat.zero_add]; exact hk.cell j hj) hx.r2.lt (fun j hj => by rw [Nat.zero_add]; exact hx.r2.cell j hj) hx.r1.bx (hS.below hb hB) (hCv.below hb hCv.lt))
  have hOf := fun (x y : RD) (hO : ordI 2 x.sh x.sq 64 64 x.S 2 y.sh y.sq 64 64 y.S = 0) w1 (hx : x.ok w1) (hy : y.ok w1) => Of_zero 2 x.sh x.sq (some ⟨x.a1, 0, none⟩) 64 x.b1 (some ⟨x.a2, 0, none⟩) 64 x.b2 2 y.sh y.sq (some ⟨y.a1, 0, none⟩) 64 y.b1 (some ⟨y.a2, 0, none⟩) 64 y.b2 x.S y.S hO w1 hx.r1.bx hy.r1.bx
  unfold eZ at hOf
  replace hOf := Lib.hid hOf
  have hRt := Lib.hid (fun (x y : RD) (hO : ordI 2 x.sh x.sq 64 64 x.S 2 y.sh y.sq 64 64 y.S = 0) w1 (hx : x.ok w1) (hy : y.ok w1) => (eRight_c 2 x.sh x.sq (some ⟨x.a1, 0, none⟩) 64 x.b1 (some ⟨x.a2, 0, none⟩) 64 x.b2 2 y.sh y.sq (some ⟨y.a1, 0, none⟩) 64 y.b1 (some ⟨y.a2, 0, none⟩) 64 y.b2 x.S y.S w1 hx.r1.bx hy.r1.bx).mono fun e w' h => (⟨by rw [h.1, hO]; rfl, h.2⟩ : PostV (.bool false) w1 e w'))
  have hSz := Lib.hid (fun w1 => sameEv_z w1)
  replace hI0 := Lib.hid hI0
  replace hI1 := Lib.hid hI1
  replace hV2 := Lib.hid hV2
  obtain ⟨F, hF⟩ : ∃ F, F = sdI 2 := ⟨_, rfl⟩
  replace hF := Lib.hid hF
  have i0 : ¬ (6 : Int) < (n0 : Int) := by omega
  have i1 : ¬ (6 : Int) < (n1 : Int) := by omega
  have i2 : ¬ (6 : Int) < (n2 : Int) := by omega
  clear hS hCv
  go_enter Tryz.func3, Tryz.ntmps3
  go_wp2_with fail
  refine ha.out.mono ?_
  rintro e w1 ⟨rfl, hb1⟩
  clear ha
  go_wp2_with fail
  clear i0 i1 i2
  go_loopw [7, 8] (fun v i wr => ∃ (k : Nat) (p : Option Addr) (c : Nat) (L : List RD), k ≤ 6 ∧ i = .int .i64 k ∧ v = .slice p L.length c ∧ L.length ≤ k ∧ RowsH w.heap.size wr (.slice p L.length c) L ∧ Below w.heap.size w wr) (fun _ i _ => (6 - intOf i).toNat)
  case atStart => exact ⟨0, none, 0, [], by omega, rfl, rfl, by simp, RowsH.nil _ _, hb1⟩
  case round =>
    obtain ⟨k, p, c, L, hk, rfl, rfl, hLk, hR, hb⟩ := hrel
    obtain ⟨n, hn⟩ : ∃ n, n = L.length := ⟨_, rfl⟩
    rw [← hn] at hR hLk
    rw [← hn]
    replace hn := Lib.hid hn
    obtain ⟨C, hC⟩ : ∃ C, C = decide (k < n0 ∧ k < n1 ∧ k < n2) := ⟨_, rfl⟩
    replace hC := Lib.hid hC
    replace hR := Lib.hid hR
    replace hb := Lib.hid hb
    clear hb1
    go_upto_region 7 with fail
    go_cut [46] from 31 to 103 (fun v wx => v = .bool C ∧ wx = wr)
    case first =>
      by_cases j0 : (k : Int) < (n0 : Int)
      · by_cases j1 : (k : Int) < (n1 : Int)
        · by_cases j2 : (k : Int) < (n2 : Int)
          · have hc := Lib.hid (show C = true by rw [hC.out]; exact decide_eq_true ⟨by omega, by omega, by omega⟩)
            clear hC
            go_wp2
            go_meet
            case rel => exact ⟨by rw [hc.out], rfl⟩
          · have hc := Lib.hid (show C = false by rw [hC.out]; exact decide_eq_false (fun h => by omega))
            clear hC
            go_wp2
            go_meet
            case rel => exact ⟨by rw [hc.out], rfl⟩
        · have hc := Lib.hid (show C = false by rw [hC.out]; exact decide_eq_false (fun h => by omega))
          clear hC
          go_wp2
          go_meet
          case rel => exact ⟨by rw [hc.out], rfl⟩
      · have hc := Lib.hid (show C = false by rw [hC.out]; exact decide_eq_false (fun h => by omega))
        clear hC
        go_wp2
        go_meet
        case rel => exact ⟨by rw [hc.out], rfl⟩
    case rest =>
      obtain ⟨rfl, rfl⟩ := hcut
      cases C with
      | false =>
        clear hC hPk4 hPk5 hsg hI0 hI1 hV2 h0 h1 h2
        go_wp2_with fail
        go_loopw [12] (fun i wx => ∃ t : Nat, t ≤ n ∧ i = .int .i64 t ∧ Below wc.heap.size wc wx) (fun i _ => (n - intOf i).toNat)
        case atStart => exact ⟨0, by omega, rfl, Below.refl _ _⟩
        case round =>
          obtain ⟨t, ht, rfl, hbx⟩ := hrel
          have hs2 := hb.out.size
          have hR3 := hR.out.below hbx
          have hb3 := Lib.hid (hb.out.trans (hbx.mono hs2))
          by_cases he : t = n
          · subst he
            clear hse hPub hCk hOf hRt hSz hR3
            go_wp2_with fail
            go_returns
            exact ⟨rfl, hb3.out⟩
          have htl : t < L.length := by have := hn.out; omega
          obtain ⟨x, hx⟩ : ∃ x, L[t]? = some x := ⟨_, List.getElem?_eq_getElem htl⟩
          obtain ⟨g, hp, lg, x0, x1, x2, x3, x4⟩ := hR3.get hn.out hx
          subst hp
          have hxo := Lib.hid (hR3.ok x (List.mem_of_getElem? hx)).1
          have j0 : (0 : Int) ≤ (t : Int) := by omega
          have j1 : (t : Int) < (n : Int) := by omega
          have jt : (t : Int) < 6 := by omega
          have htn := Lib.hid (show t + 1 ≤ n by omega)
          replace hR3 := Lib.hid hR3
          replace hx := Lib.hid hx
          have hbx' := Lib.hid hbx
          have hSS := Lib.hid (fun w' (hb : Below wr.heap.size wr w') => (⟨(hb.cell (p := ⟨g, t * 5, none⟩) lg).trans x0, (hb.cell (p := ⟨g, t * 5 + 1, none⟩) lg).trans x1, (hb.cell (p := ⟨g, t * 5 + 2, none⟩) lg).trans x2, (hb.cell (p := ⟨g, t * 5 + 3, none⟩) lg).trans x3, (hb.cell (p := ⟨g, t * 5 + 4, none⟩) lg).trans x4⟩ : w'.cell? ⟨g, t * 5, none⟩ = some (.int .i64 2) ∧ w'.cell? ⟨g, t * 5 + 1, none⟩ = some (.int .i64 x.sh) ∧ w'.cell? ⟨g, t * 5 + 2, none⟩ = some (.int .i64 x.sq) ∧ w'.cell? ⟨g, t * 5 + 3, none⟩ = some (.slice (some ⟨x.a1, 0, none⟩) 64 x.b1) ∧ w'.cell? ⟨g, t * 5 + 4, none⟩ = some (.slice (some ⟨x.a2, 0, none⟩) 64 x.b2)))
          have z0 := Below.refl wr.heap.size wr
          have hs := Lib.hid hb3.out.size
          clear he htl hbx x0 x1 x2 x3 x4 ht hs2
          go_upto_region 22 with fail
          go_cut [117] from 104 to 155 (fun v wx => v = .bool false ∧ Below wr.heap.size wr wx)
          case first =>
            clear hOf hRt hSz hR hR3 hn
            go_region_held3 (fun w' => w'.cell? ⟨g, t * 5, none⟩ = some (.int .i64 2) ∧ w'.cell? ⟨g, t * 5 + 1, none⟩ = some (.int .i64 x.sh) ∧ w'.cell? ⟨g, t * 5 + 2, none⟩ = some (.int .i64 x.sq) ∧ w'.cell? ⟨g, t * 5 + 3, none⟩ = some (.slice (some ⟨x.a1, 0, none⟩) 64 x.b1) ∧ w'.cell? ⟨g, t * 5 + 4, none⟩ = some (.slice (some ⟨x.a2, 0, none⟩) 64 x.b2)) (first | exact hSS.out _ n3 | exact hSS.out _ n3.drew | exact hSS.out _ n2 | exact hSS.out _ n2.drew | exact hSS.out _ n1 | exact hSS.out _ n1.drew | exact hSS.out _ z0 | exact hSS.out _ z0.drew) (first | (go_at_call 19; refine calls_at (fun V1 h1 => ?_); have m1 : Below wr.heap.size wr V1 := (by rw [h1]; go_grown); clear h1; (with_reducible refine (hse.out V1).mono ?_); rintro e w1 ⟨gs, cs, rfl, _, kq, hbb⟩; have n1 := m1.trans (hbb.mono m1.size); clear hbb m1 hse) | (go_at_call 18; refine calls_at (fun V1 h1 => ?_); have m1 : Below w1.heap.size w1 V1 := (by rw [h1]; go_grown); clear h1; have m2 := n1.trans (m1.mono n1.size); (with_reducible refine (hPub.out gs cs V1 (kq.below m1) (hb3.out.trans (m2.mono hs.out))).mono ?_); rintro e w2 ⟨gk, ck, rfl, _, kk, hbb⟩; have n2 := m2.trans (hbb.mono m2.size); clear hbb m1 m2 hPub) | (go_at_call 17; refine calls_at (fun V1 h1 => ?_); have m1 : Below w2.heap.size w2 V1 := (by rw [h1]; go_grown); clear h1; have m2 := n2.trans (m1.mono n2.size); (with_reducible refine (hCk.out x gk ck V1 (hb3.out.trans (m2.mono hs.out)) (hxo.out.below m2) (kk.below m1)).mono ?_); rintro e w3 ⟨rfl, hbb⟩; have n3 := m2.trans (hbb.mono m2.size); clear hbb m1 m2 hCk))
            all_goals
              have hP := Lib.hid n3
              clear hSS n3 n2 n1 z0 hb3 hs kq kk hxo
              go_wp2_with fail
              go_meet
            all_goals
              case rel => exact ⟨rfl, hP.out⟩
          case rest =>
            obtain ⟨rfl, hbw⟩ := hcut
            clear hse hPub hCk z0
            go_wp2_with fail
            go_loopw [13] (fun j wx => ∃ i : Nat, i ≤ n ∧ j = .int .i64 i ∧ Below wr.heap.size wr wx) (fun j _ => (n - intOf j).toNat)
            case atStart => exact ⟨0, by omega, rfl, hbw⟩
            case round =>
              obtain ⟨i, hi, rfl, hbi⟩ := hrel
              have hsx := Lib.hid (hbx'.out.size)
              have hbc := Lib.hid (hbx'.out.trans (hbi.mono hsx.out))
              by_cases he : i = n
              · subst he
                clear hOf hRt hSz hSS hR hR3 hbi hb3 hxo
                go_wp2_with fail
                exact ⟨⟨t + 1, htn.out, by rfl, hbc.out⟩, by have := htn.out; simp [intOf]; omega⟩
              have htl : i < L.length := by have := hn.out; omega
              obtain ⟨y, hy⟩ : ∃ y, L[i]? = some y := ⟨_, List.getElem?_eq_getElem htl⟩
              obtain ⟨g', hp, lg', y0, y1, y2, y3, y4⟩ := (hR3.out.below hbi).get hn.out hy
              obtain rfl : g = g' := by injection hp with hp; injection hp
              have hyo := Lib.hid ((hR3.out.ok y (List.mem_of_getElem? hy)).1.below hbi)
              have hxi := Lib.hid (hxo.out.below hbi)
              have hO := Lib.hid (ord_no hR3.out.dist hx.out hy)
              have k0 : (0 : Int) ≤ (i : Int) := by omega
              have k1 : (i : Int) < (n : Int) := by omega
              have k6 : (i : Int) < 6 := by omega
              have hin := Lib.hid (show i + 1 ≤ n by omega)
              have hbi' := Lib.hid hbi
              have hST := Lib.hid (fun w'' (hb : Below wr.heap.size wr w'') => (⟨hSS.out w'' (hbi'.out.trans (hb.mono hbi'.out.size)), (fun w' hb => (⟨(hb.cell (p := ⟨g, i * 5, none⟩) lg').trans y0, (hb.cell (p := ⟨g, i * 5 + 1, none⟩) lg').trans y1, (hb.cell (p := ⟨g, i * 5 + 2, none⟩) lg').trans y2, (hb.cell (p := ⟨g, i * 5 + 3, none⟩) lg').trans y3, (hb.cell (p := ⟨g, i * 5 + 4, none⟩) lg').trans y4⟩ : w'.cell? ⟨g, i * 5, none⟩ = some (.int .i64 2) ∧ w'.cell? ⟨g, i * 5 + 1, none⟩ = some (.int .i64 y.sh) ∧ w'.cell? ⟨g, i * 5 + 2, none⟩ = some (.int .i64 y.sq) ∧ w'.cell? ⟨g, i * 5 + 3, none⟩ = some (.slice (some ⟨y.a1, 0, none⟩) 64 y.b1) ∧ w'.cell? ⟨g, i * 5 + 4, none⟩ = some (.slice (some ⟨y.a2, 0, none⟩) 64 y.b2))) w'' hb⟩ : (w''.cell? ⟨g, t * 5, none⟩ = some (.int .i64 2) ∧ w''.cell? ⟨g, t * 5 + 1, none⟩ = some (.int .i64 x.sh) ∧ w''.cell? ⟨g, t * 5 + 2, none⟩ = some (.int .i64 x.sq) ∧ w''.cell? ⟨g, t * 5 + 3, none⟩ = some (.slice (some ⟨x.a1, 0, none⟩) 64 x.b1) ∧ w''.cell? ⟨g, t * 5 + 4, none⟩ = some (.slice (some ⟨x.a2, 0, none⟩) 64 x.b2)) ∧ w''.cell? ⟨g, i * 5, none⟩ = some (.int .i64 2) ∧ w''.cell? ⟨g, i * 5 + 1, none⟩ = some (.int .i64 y.sh) ∧ w''.cell? ⟨g, i * 5 + 2, none⟩ = some (.int .i64 y.sq) ∧ w''.cell? ⟨g, i * 5 + 3, none⟩ = some (.slice (some ⟨y.a1, 0, none⟩) 64 y.b1) ∧ w''.cell? ⟨g, i * 5 + 4, none⟩ = some (.slice (some ⟨y.a2, 0, none⟩) 64 y.b2)))
              have z0 := Below.refl wr.heap.size wr
              clear he htl hy hp lg' y0 y1 y2 y3 y4 hi hbi hSS
              go_upto_region 27 with fail
              go_cut [14, 15] from 118 to 155 (fun u v wx => ∃ gE : Nat, u = .pointer (some ⟨gE, 0, none⟩) ∧ v = .int .i64 4 ∧ wr.heap.size ≤ gE ∧ Blk wx gE 36 #[.int .i64 0, .int .i64 0, .int .i64 0, .slice none 0 0, .slice none 0 0, .int .i64 0, .int .i64 0, .int .i64 0, .slice none 0 0, .slice none 0 0] ∧ Below wr.heap.size wr wx)
              case first =>
                clear hRt hSz hR hR3 hn hx hb3 hbc hsx hbx' htn hs
                go_region_held3 (fun w' => (w'.cell? ⟨g, t * 5, none⟩ = some (.int .i64 2) ∧ w'.cell? ⟨g, t * 5 + 1, none⟩ = some (.int .i64 x.sh) ∧ w'.cell? ⟨g, t * 5 + 2, none⟩ = some (.int .i64 x.sq) ∧ w'.cell? ⟨g, t * 5 + 3, none⟩ = some (.slice (some ⟨x.a1, 0, none⟩) 64 x.b1) ∧ w'.cell? ⟨g, t * 5 + 4, none⟩ = some (.slice (some ⟨x.a2, 0, none⟩) 64 x.b2)) ∧ w'.cell? ⟨g, i * 5, none⟩ = some (.int .i64 2) ∧ w'.cell? ⟨g, i * 5 + 1, none⟩ = some (.int .i64 y.sh) ∧ w'.cell? ⟨g, i * 5 + 2, none⟩ = some (.int .i64 y.sq) ∧ w'.cell? ⟨g, i * 5 + 3, none⟩ = some (.slice (some ⟨y.a1, 0, none⟩) 64 y.b1) ∧ w'.cell? ⟨g, i * 5 + 4, none⟩ = some (.slice (some ⟨y.a2, 0, none⟩) 64 y.b2)) (first | (with_reducible exact hST.out _ n5) | (with_reducible exact hST.out _ z0) | (with_reducible exact hST.out _ z0.drew) | exact hST.out _ (by go_grown)) (first | (go_at_call 20; refine calls_at (fun V1 h1 => ?_); have m1 : Below wr.heap.size wr V1 := (by rw [h1]; go_grown); (first | have kE0 : Blk V1 wr.heap.size 36 #[.int .i64 0, .int .i64 0, .int .i64 0, .slice none 0 0, .slice none 0 0, .int .i64 0, .int .i64 0, .int .i64 0, .slice none 0 0, .slice none 0 0] := (by rw [h1]; exact Blk.new _ _ _) | skip); clear h1; (with_reducible refine (hOf.out x y hO.out V1 (hxi.out.below m1) (hyo.out.below m1)).mono ?_); rintro e w5 ⟨rfl, hbb⟩; have n5 := m1.trans (hbb.mono m1.size); have s5 := n5.size; (try (have kE5 := kE0.below hbb; have f0 := kE5.frozen 0; have f1 := kE5.frozen 1; have f2 := kE5.frozen 2; have f3 := kE5.frozen 3; have f4 := kE5.frozen 4; have f5 := kE5.frozen 5; have f6 := kE5.frozen 6; have f7 := kE5.frozen 7; have f8 := kE5.frozen 8; have f9 := kE5.frozen 9; have lE5 := kE5.lt; obtain ⟨⟨v0, v1, v2, v3, v4⟩, v5, v6, v7, v8, v9⟩ := blk10v kE5)); clear hbb m1))
                all_goals
                  refine at_exit (fun Wx hWx => ?_)
                  replace hWx := Lib.hid hWx
                  clear hST hOf
                  try clear v0 v1 v2 v3 v4 v5 v6 v7 v8 v9 f0 f1 f2 f3 f4 f5 f6 f7 f8 f9
                  go_wp2
                  go_meet
                all_goals
                  case rel =>
                    have hW := hWx.out
                    first
                    | (have qq := setTen w5 wr.heap.size (.int .i64 0) (.int .i64 0) (.int .i64 0) (.slice none 0 0) (.slice none 0 0) (.int .i64 0) (.int .i64 0) (.int .i64 0) (.slice none 0 0) (.slice none 0 0) kE5; rw [← hW] at qq; exact ⟨wr.heap.size, rfl, rfl, Nat.le_refl _, qq.1, n5.grown qq.2 n5.size (fun k hk => by have := Option.some.inj hk; omega)⟩)
                    | (have q1 : Blk Wx w5.heap.size 36 #[.int .i64 0, .int .i64 0, .int .i64 0, .slice none 0 0, .slice none 0 0, .int .i64 0, .int .i64 0, .int .i64 0, .slice none 0 0, .slice none 0 0] := by rw [hW]; exact Blk.new _ _ _
                       have q2 : Below wr.heap.size wr Wx := by rw [hW]; exact n5.alloc n5.size _
                       exact ⟨w5.heap.size, rfl, rfl, n5.size, q1, q2⟩)
              case rest =>
                obtain ⟨gE, rfl, rfl, lE, kE, hbw2⟩ := hcut
                have hxw := Lib.hid (hxi.out.below hbw2)
                have hyw := Lib.hid (hyo.out.below hbw2)
                have hSU := Lib.hid (fun w'' (hb : Below wc.heap.size wc w'') => (⟨hST.out w'' (hbw2.trans (hb.mono hbw2.size)), blk10v (kE.below hb)⟩ : ((w''.cell? ⟨g, t * 5, none⟩ = some (.int .i64 2) ∧ w''.cell? ⟨g, t * 5 + 1, none⟩ = some (.int .i64 x.sh) ∧ w''.cell? ⟨g, t * 5 + 2, none⟩ = some (.int .i64 x.sq) ∧ w''.cell? ⟨g, t * 5 + 3, none⟩ = some (.slice (some ⟨x.a1, 0, none⟩) 64 x.b1) ∧ w''.cell? ⟨g, t * 5 + 4, none⟩ = some (.slice (some ⟨x.a2, 0, none⟩) 64 x.b2)) ∧ (w''.cell? ⟨g, i * 5, none⟩ = some (.int .i64 2) ∧ w''.cell? ⟨g, i * 5 + 1, none⟩ = some (.int .i64 y.sh) ∧ w''.cell? ⟨g, i * 5 + 2, none⟩ = some (.int .i64 y.sq) ∧ w''.cell? ⟨g, i * 5 + 3, none⟩ = some (.slice (some ⟨y.a1, 0, none⟩) 64 y.b1) ∧ w''.cell? ⟨g, i * 5 + 4, none⟩ = some (.slice (some ⟨y.a2, 0, none⟩) 64 y.b2))) ∧ (w''.cell? ⟨gE, 0, none⟩ = some (.int .i64 0) ∧ w''.cell? ⟨gE, 1, none⟩ = some (.int .i64 0) ∧ w''.cell? ⟨gE, 2, none⟩ = some (.int .i64 0) ∧ w''.cell? ⟨gE, 3, none⟩ = some (.slice none 0 0) ∧ w''.cell? ⟨gE, 4, none⟩ = some (.slice none 0 0)) ∧ w''.cell? ⟨gE, 5, none⟩ = some (.int .i64 0) ∧ w''.cell? ⟨gE, 6, none⟩ = some (.int .i64 0) ∧ w''.cell? ⟨gE, 7, none⟩ = some (.int .i64 0) ∧ w''.cell? ⟨gE, 8, none⟩ = some (.slice none 0 0) ∧ w''.cell? ⟨gE, 9, none⟩ = some (.slice none 0 0)))
                have hbw3 := Lib.hid hbw2
                clear hbw2 kE hST hxi hyo z0
                have z0 := Below.refl wc.heap.size wc
                go_upto_region 28 with fail
                go_cut [155] from 118 to 155 (fun v wx => v = .bool false ∧ Below wc.heap.size wc wx)
                case first =>
                  go_region_held3 (fun w' => ((w'.cell? ⟨g, t * 5, none⟩ = some (.int .i64 2) ∧ w'.cell? ⟨g, t * 5 + 1, none⟩ = some (.int .i64 x.sh) ∧ w'.cell? ⟨g, t * 5 + 2, none⟩ = some (.int .i64 x.sq) ∧ w'.cell? ⟨g, t * 5 + 3, none⟩ = some (.slice (some ⟨x.a1, 0, none⟩) 64 x.b1) ∧ w'.cell? ⟨g, t * 5 + 4, none⟩ = some (.slice (some ⟨x.a2, 0, none⟩) 64 x.b2)) ∧ (w'.cell? ⟨g, i * 5, none⟩ = some (.int .i64 2) ∧ w'.cell? ⟨g, i * 5 + 1, none⟩ = some (.int .i64 y.sh) ∧ w'.cell? ⟨g, i * 5 + 2, none⟩ = some (.int .i64 y.sq) ∧ w'.cell? ⟨g, i * 5 + 3, none⟩ = some (.slice (some ⟨y.a1, 0, none⟩) 64 y.b1) ∧ w'.cell? ⟨g, i * 5 + 4, none⟩ = some (.slice (some ⟨y.a2, 0, none⟩) 64 y.b2))) ∧ (w'.cell? ⟨gE, 0, none⟩ = some (.int .i64 0) ∧ w'.cell? ⟨gE, 1, none⟩ = some (.int .i64 0) ∧ w'.cell? ⟨gE, 2, none⟩ = some (.int .i64 0) ∧ w'.cell? ⟨gE, 3, none⟩ = some (.slice none 0 0) ∧ w'.cell? ⟨gE, 4, none⟩ = some (.slice none 0 0)) ∧ w'.cell? ⟨gE, 5, none⟩ = some (.int .i64 0) ∧ w'.cell? ⟨gE, 6, none⟩ = some (.int .i64 0) ∧ w'.cell? ⟨gE, 7, none⟩ = some (.int .i64 0) ∧ w'.cell? ⟨gE, 8, none⟩ = some (.slice none 0 0) ∧ w'.cell? ⟨gE, 9, none⟩ = some (.slice none 0 0)) (first | exact hSU.out _ n2 | exact hSU.out _ n2.drew | exact hSU.out _ n1 | exact hSU.out _ n1.drew | exact hSU.out _ z0 | exact hSU.out _ z0.drew) (first | (go_at_call 21; refine calls_at (fun V1 h1 => ?_); have m1 : Below wc.heap.size wc V1 := (by rw [h1]; go_grown); clear h1; (with_reducible refine (hRt.out x y hO.out V1 (hxw.out.below m1) (hyw.out.below m1)).mono ?_); rintro e w1 ⟨rfl, hbb⟩; have n1 := m1.trans (hbb.mono m1.size); clear hbb m1 hRt) | (go_at_call 22; refine calls_at (fun V1 h1 => ?_); have m1 : Below w1.heap.size w1 V1 := (by rw [h1]; go_grown); clear h1; have m2 := n1.trans (m1.mono n1.size); (with_reducible refine (hSz.out V1).mono ?_); rintro e w2 ⟨rfl, hbb⟩; have n2 := m2.trans (hbb.mono m2.size); clear hbb m1 m2 hSz))
                  all_goals
                    have hP := Lib.hid n2
                    clear hSU n2 n1 z0
                    go_wp2_with fail
                    go_meet
                  all_goals
                    case rel => exact ⟨rfl, hP.out⟩
                case rest =>
                  obtain ⟨rfl, hbw4⟩ := hcut
                  have hbf := Lib.hid (hbi'.out.trans ((hbw3.out.trans (hbw4.mono hbw3.out.size)).mono hbi'.out.size))
                  clear hSU hbw4
                  go_wp2_with fail
                  go_roundw
                  case rel => exact ⟨i + 1, hin.out, by rfl, hbf.out⟩
                  case measure =>
                    have := hin.out
                    simp [intOf]
                    omega
      | true =>
        obtain ⟨k0, k1, k2⟩ := of_decide_eq_true hC.out.symm
        obtain ⟨g0, o0, rfl, hg0, hc0⟩ := hI0.out (by omega)
        obtain ⟨g1, o1, rfl, hg1, hc1⟩ := hI1.out (by omega)
        obtain ⟨g2, o2, rfl, hg2, hc2⟩ := hV2.out (by omega)
        obtain ⟨q, m, d, b, hcv, hbr, hBb⟩ := hc2 k k2
        have j0 : (k : Int) < (n0 : Int) := by omega
        have j1 : (k : Int) < (n1 : Int) := by omega
        have j2 : (k : Int) < (n2 : Int) := by omega
        have jz : (0 : Int) ≤ (k : Int) := by omega
        have hSS := Lib.hid (fun w' (hb : Below w.heap.size w w') => (⟨(hb.cell (p := ⟨g0, o0 + k, none⟩) hg0).trans (hc0 k k0), (hb.cell (p := ⟨g1, o1 + k, none⟩) hg1).trans (hc1 k k1), (hb.cell (p := ⟨g2, o2 + k, none⟩) hg2).trans hcv⟩ : w'.cell? ⟨g0, o0 + k, none⟩ = some (.int .i64 (A0 k)) ∧ w'.cell? ⟨g1, o1 + k, none⟩ = some (.int .i64 (A1 k)) ∧ w'.cell? ⟨g2, o2 + k, none⟩ = some (.slice q m d)))
        have hBb' := Lib.hid (fun w1 (hb : Below w.heap.size w w1) => hBb.below hb)
        replace hbr := Lib.hid hbr
        have x2 := (hSS.out wc hb.out).2.2
        have l2 := Nat.lt_of_lt_of_le hg2 hb.out.size
        have l1 := Nat.lt_of_lt_of_le hg1 hb.out.size
        have l0 := Nat.lt_of_lt_of_le hg0 hb.out.size
        have hkl : k < 6 := by omega
        clear hC hc0 hc1 hc2 hcv hBb hg0 hg1 hg2 k0 k1 k2
        by_cases hm : 64 < m
        · have hm' : (64 : Int) < (m : Int) := by omega
          clear hSS hBb'
          go_wp2_with fail
          go_returns
          exact ⟨rfl, hb.out⟩
        · have hm' : ¬ (64 : Int) < (m : Int) := by omega
          have hm2 := Lib.hid (show m ≤ 64 by omega)
          go_upto_region 11 with fail
          have z0 := Below.refl wc.heap.size wc
          have hs := Lib.hid hb.out.size
          have hS2 := Lib.hid (fun w' (hb2 : Below wc.heap.size wc w') => hSS.out w' (hb.out.trans (hb2.mono hs.out)))
          clear hSS x2
          go_cut [9] from 31 to 103 (fun v wx => ∃ (gT : Nat) (u : RD), v = .pointer (some ⟨gT, 0, none⟩) ∧ Blk wx gT 28 #[.int .i64 2, .int .i64 u.sh, .int .i64 u.sq, .slice (some ⟨u.a1, 0, none⟩) 64 u.b1, .slice (some ⟨u.a2, 0, none⟩) 64 u.b2] ∧ u.ok wx ∧ wc.heap.size ≤ u.a1 ∧ wc.heap.size ≤ u.a2 ∧ wc.heap.size ≤ gT ∧ Below wc.heap.size wc wx)
          case first =>
            clear hse hPub hCk hOf hRt hSz hF hn hR hLk hk l0 l1 l2 hm hm' hB h0 h1 h2
            go_region_held3 (fun w' => w'.cell? ⟨g0, o0 + k, none⟩ = some (.int .i64 (A0 k)) ∧ w'.cell? ⟨g1, o1 + k, none⟩ = some (.int .i64 (A1 k)) ∧ w'.cell? ⟨g2, o2 + k, none⟩ = some (.slice q m d)) (first | (with_reducible exact hS2.out _ n5) | (with_reducible exact hS2.out _ z0) | (with_reducible exact hS2.out _ z0.drew) | exact hS2.out _ (by go_grown)) (first | (go_at_call 16; (with_reducible refine (hPk4.out (A0 k) _).mono ?_); rintro e V1 ⟨sh, rfl, hsh, rfl⟩; clear hPk4) | (go_at_call 16; (with_reducible refine (hPk5.out (A1 k) _).mono ?_); rintro e V2 ⟨sq, rfl, hsq, rfl⟩; clear hPk5; have hwq : IntKind.i64.wrap (1 + (sq : Int)) = 1 + (sq : Int) := (by rw [IntKind.wrap_i64]; omega)) | (go_at_call 15; refine calls_at (fun V1 h1 => ?_); have m1 : Below wc.heap.size wc V1 := (by rw [h1]; go_grown); (first | have kT0 : Blk V1 wc.heap.size 28 rtZ := (by rw [h1]; exact Blk.new _ _ _) | skip); clear h1; (with_reducible refine (hsg.out (sh : Int) (1 + (sq : Int)) (shk hsh hsq) q m d b hm2.out hbr.out V1 (hb.out.trans (m1.mono hs.out)) (hBb'.out V1 (hb.out.trans (m1.mono hs.out)))).mono ?_); rintro e w5 ⟨a1, e1, a2, e2, rfl, la1, la2, q1, q2, hbb⟩; (try (have ne1 : a1 ≠ wc.heap.size := (by have := kT0.lt; omega); have ne2 : a2 ≠ wc.heap.size := (by have := kT0.lt; omega))); have n5 := m1.trans (hbb.mono m1.size); have s5 := n5.size; replace la1 : wc.heap.size ≤ a1 := (Nat.le_trans m1.size la1); replace la2 : wc.heap.size ≤ a2 := (Nat.le_trans m1.size la2); (try (have kT5 := kT0.below hbb; have f0 := kT5.frozen 0; have f1 := kT5.frozen 1; have f2 := kT5.frozen 2; have f3 := kT5.frozen 3; have f4 := kT5.frozen 4; have lT := kT5.lt; obtain ⟨t0, t1, t2, t3, t4⟩ := blk5v (show Blk w5 wc.heap.size 28 #[.int .i64 0, .int .i64 0, .int .i64 0, .slice none 0 0, .slice none 0 0] from kT5))); clear hbb m1))
            all_goals
              have hsk := shk hsh hsq
              have hcb := cpI_byt (n := m) hbr.out
              clear hS2 hwq
              refine at_exit (fun Wx hWx => ?_)
              replace hWx := Lib.hid hWx
              try clear t0 t1 t2 t3 t4 f0 f1 f2 f3 f4
              go_wp2
              go_meet
            all_goals
              case rel =>
                have hW := hWx.out
                first
                | (have qq := setRoot w5 wc.heap.size (.int .i64 2) (.int .i64 sh) (.int .i64 (1 + sq)) (.slice (some ⟨a1, 0, none⟩) 64 e1) (.slice (some ⟨a2, 0, none⟩) 64 e2) kT5
                   rw [← hW] at qq
                   exact ⟨wc.heap.size, ⟨sh, 1 + sq, a1, e1, a2, e2, cpI m b⟩, rfl, qq.1, ⟨hsk, hcb, q1.grown qq.2 (fun e => ne1 (Option.some.inj e)), q2.grown qq.2 (fun e => ne2 (Option.some.inj e))⟩, la1, la2, Nat.le_refl _, n5.grown qq.2 n5.size (fun k hk => by have := Option.some.inj hk; omega)⟩)
                | (have hbl : Below w5.heap.size w5 Wx := by rw [hW]; exact (Below.refl _ _).alloc (Nat.le_refl _) _
                   have q0 : Blk Wx w5.heap.size 28 #[.int .i64 2, .int .i64 sh, .int .i64 (1 + sq), .slice (some ⟨a1, 0, none⟩) 64 e1, .slice (some ⟨a2, 0, none⟩) 64 e2] := by rw [hW]; exact Blk.new _ _ _
                   exact ⟨w5.heap.size, ⟨sh, 1 + sq, a1, e1, a2, e2, cpI m b⟩, rfl, q0, ⟨hsk, hcb, q1.below hbl, q2.below hbl⟩, la1, la2, n5.size, n5.trans (hbl.mono n5.size)⟩)
          case rest =>
            obtain ⟨gT, u, rfl, kT, hu, la1, la2, lT, hbw⟩ := hcut
            have hR2 := Lib.hid (hR.out.below hbw)
            have hb2 := Lib.hid (hb.out.trans (hbw.mono hs.out))
            have hv1 : (Value.slice p n c).ownBlock ≠ some u.a1 := fun e => by
              have := hR.out.own.lt _ e
              omega
            have hv2 : (Value.slice p n c).ownBlock ≠ some u.a2 := fun e => by
              have := hR.out.own.lt _ e
              omega
            have hvT : (Value.slice p n c).ownBlock ≠ some gT := fun e => by
              have := hR.out.own.lt _ e
              omega
            replace hv1 := Lib.hid hv1
            replace hv2 := Lib.hid hv2
            replace hvT := Lib.hid hvT
            replace hu := Lib.hid hu
            replace kT := Lib.hid kT
            have lTl := Lib.hid (show w.heap.size ≤ gT by have := hs.out; omega)
            clear hR hb hbw hS2 hBb' hbr la1 la2 lT z0 hPk4 hPk5 hsg hI0 hI1 hV2 j0 j1 j2 l0 l1 l2 hm hm' hs hm2 jz
            have hnk := Lib.hid hLk
            have hk6 := Lib.hid hkl
            clear hLk hk
            go_wp2_with fail
            go_loopw [10, 11] (fun b j wx => ∃ (t : Nat) (E : Bool), t ≤ n ∧ j = .int .i64 t ∧ b = .bool E ∧ (E = false → ∀ (t' : Nat) (y : RD), t' < t → L[t']? = some y → ¬ (y.sh = u.sh ∧ y.sq = u.sq)) ∧ Below wc.heap.size wc wx) (fun _ j _ => (n - intOf j).toNat)
            case atStart => exact ⟨0, false, by omega, rfl, rfl, fun _ t' y h => absurd h (by omega), Below.refl _ _⟩
            case round =>
              obtain ⟨t, E, ht, rfl, rfl, hE, hbx⟩ := hrel
              have hs2 := hb2.out.size
              have hR3 := hR2.out.below hbx
              have hb3 := Lib.hid (hb2.out.trans (hbx.mono hs2))
              have kT3 := kT.out.below hbx
              obtain ⟨z0, z1, z2, z3, z4⟩ := blk5v kT3
              have lT3 := kT3.lt
              have hu3 := Lib.hid (hu.out.below hbx)
              replace hE := Lib.hid hE
              by_cases he : t = n
              · subst he
                cases E with
                | true =>
                  have hR3' := Lib.hid hR3
                  have kz : (0 : Int) ≤ (k : Int) := by omega
                  have k6 : (k : Int) < 6 := by have := hk6.out; omega
                  clear hR3 hE
                  go_wp2_with fail
                  exact ⟨⟨k + 1, p, c, L, by have := hnk.out; have := hk6.out; omega, by rfl, by rw [← hn.out], by have := hnk.out; have := hn.out; omega, by rw [← hn.out]; exact hR3'.out, hb3.out⟩, by simp [intOf]; omega⟩
                | false =>
                  have hR3' := Lib.hid hR3
                  have kz : (0 : Int) ≤ (k : Int) := by omega
                  have k6 : (k : Int) < 6 := by have := hk6.out; omega
                  clear hR3
                  go_wp2_with (at_builtin; refine wpList_appRD rfl rfl rfl u (hR3'.out.below ((Below.refl _ _).alloc (Nat.le_refl _) _)) rfl (Blk.new _ _ _) (hu3.out.below ((Below.refl _ _).alloc (Nat.le_refl _) _)) hv1.out hv2.out (fun y hy => by obtain ⟨t', ht'⟩ := List.mem_iff_getElem?.1 hy; exact hE.out rfl t' y (by have := (List.getElem?_eq_some_iff.1 ht').1; have := hn.out; omega) ht') (by have := hn.out; have := hnk.out; have := hk6.out; omega) (by have := hb3.out.size; simp; omega) ?_; intro v' w' hRn hgr)
                  obtain ⟨p', c', rfl⟩ := hRn.sl
                  have hbA : Below w.heap.size w w' := (hb3.out.alloc hb3.out.size _).grown hgr (by have := hb3.out.size; simp; omega) (fun kk hk => (hR3'.out.own.lt kk hk).1)
                  clear hgr
                  exact ⟨⟨k + 1, p', c', L ++ [u], by omega, by rfl, rfl, by rw [List.length_append]; have := hnk.out; have := hn.out; show L.length + 1 ≤ k + 1; omega, hRn, hbA⟩, by simp [intOf]; omega⟩
              · have htl : t < L.length := by have := hn.out; omega
                obtain ⟨y, hy⟩ : ∃ y, L[t]? = some y := ⟨_, List.getElem?_eq_getElem htl⟩
                obtain ⟨g, rfl, lg, x0, x1, x2, x3, x4⟩ := hR3.get hn.out hy
                have j0 : (0 : Int) ≤ (t : Int) := by omega
                have j1 : (t : Int) < (n : Int) := by omega
                have hyt := Lib.hid (fun (h : ¬ (y.sh = u.sh ∧ y.sq = u.sq)) (hE : ∀ (t' : Nat) (y : RD), t' < t → L[t']? = some y → ¬ (y.sh = u.sh ∧ y.sq = u.sq)) (t' : Nat) (y' : RD) (h1 : t' < t + 1) (h2 : L[t']? = some y') => (show ¬ (y'.sh = u.sh ∧ y'.sq = u.sq) by
                  by_cases e : t' = t
                  · subst e
                    rw [hy] at h2
                    obtain rfl : y = y' := by injection h2
                    exact h
                  · exact hE t' y' (by omega) h2))
                have htn := Lib.hid (show t + 1 ≤ n by omega)
                have jt : (t : Int) < 6 := by have := hnk.out; have := hk6.out; omega
                have hbx' := Lib.hid hbx
                clear hR3 htl hy he ht hbx
                obtain ⟨ys, hys⟩ : ∃ z, z = y.sh := ⟨_, rfl⟩
                obtain ⟨yq, hyq⟩ : ∃ z, z = y.sq := ⟨_, rfl⟩
                obtain ⟨us, hus⟩ : ∃ z, z = u.sh := ⟨_, rfl⟩
                obtain ⟨uq, huq⟩ : ∃ z, z = u.sq := ⟨_, rfl⟩
                rw [← hys] at x1 hyt
                rw [← hyq] at x2 hyt
                rw [← hus] at z1
                rw [← huq] at z2
                replace hys := Lib.hid hys
                replace hyq := Lib.hid hyq
                replace hus := Lib.hid hus
                replace huq := Lib.hid huq
                clear x0 x3 x4 z0 z3 z4 hv1 hv2 hvT hu hu3 hR2 hb3 hb2 kT kT3 hse hPub hCk hOf hRt hSz hF hn lTl
                cases E with
                | true =>
                  clear hE hyt
                  go_wp2_with fail
                  go_region
                  all_goals
                    go_wp2_with fail
                    exact ⟨⟨t + 1, true, htn.out, by rfl, rfl, fun h => (by cases h), hbx'.out.drew⟩, by have := htn.out; simp [intOf]; omega⟩
                | false =>
                  by_cases e1 : ys = us
                  · by_cases e2 : yq = uq
                    · subst e1 e2
                      clear hyt hE
                      go_wp2_with fail
                      go_region
                      all_goals
                        go_wp2_with fail
                        exact ⟨⟨t + 1, true, htn.out, by rfl, rfl, fun h => (by cases h), hbx'.out.drew⟩, by have := htn.out; simp [intOf]; omega⟩
                    · have hE2 := Lib.hid (hyt.out (fun h => e2 (by rw [huq.out]; exact h.2)) (hE.out rfl))
                      have b2 : (yq == uq) = false := by simp [e2]
                      subst e1
                      clear hyt hE e2
                      go_wp2_with fail
                      go_region
                      all_goals
                        go_wp2_with fail
                        exact ⟨⟨t + 1, false, htn.out, by rfl, rfl, fun _ => hE2.out, hbx'.out.drew⟩, by have := htn.out; simp [intOf]; omega⟩
                  · have hE2 := Lib.hid (hyt.out (fun h => e1 (by rw [hus.out]; exact h.1)) (hE.out rfl))
                    have b1 : (ys == us) = false := by simp [e1]
                    clear hyt hE e1
                    go_wp2_with fail
                    go_region
                    all_goals
                      go_wp2_with fail
                      exact ⟨⟨t + 1, false, htn.out, by rfl, rfl, fun _ => hE2.out, hbx'.out.drew⟩, by have := htn.out; simp [intOf]; omega⟩
end Go.Proofs.YtgjffaoggjlamaaGreatDoor
