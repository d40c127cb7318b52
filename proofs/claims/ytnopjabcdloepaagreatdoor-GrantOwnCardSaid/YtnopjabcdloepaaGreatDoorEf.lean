import Derived.Test.YtnopjabcdloepaaGreatDoorZa
namespace Go.Proofs.YtnopjabcdloepaaGreatDoor
open Go.RowKit
def fo1L (u1:Fe.E) (u2:Fe.E) (u3:Fe.E) (u4:Fe.E) (a:Nat) (b:Nat) (c:Nat) (d:Nat):List (Value→World→Prop):=[
 Eq1 (.agg #[.int .u64 u1.a0,.int .u64 u1.a1,.int .u64 u1.a2,.int .u64 u1.a3,.int .u64 u1.a4]),
 Eq1 (.agg #[.int .u64 u2.a0,.int .u64 u2.a1,.int .u64 u2.a2,.int .u64 u2.a3,.int .u64 u2.a4]),
 ElP (a*b % Fe.P),
 Eq1 (.agg #[.int .u64 u3.a0,.int .u64 u3.a1,.int .u64 u3.a2,.int .u64 u3.a3,.int .u64 u3.a4]),
 Eq1 (.agg #[.int .u64 u4.a0,.int .u64 u4.a1,.int .u64 u4.a2,.int .u64 u4.a3,.int .u64 u4.a4]),
 ElP (c*d % Fe.P),
 Eq1 (.agg #[.int .u64 u2.a0,.int .u64 u2.a1,.int .u64 u2.a2,.int .u64 u2.a3,.int .u64 u2.a4]),
 Eq1 (.agg #[.int .u64 u3.a0,.int .u64 u3.a1,.int .u64 u3.a2,.int .u64 u3.a3,.int .u64 u3.a4]),
 ElP (b*c % Fe.P),
 Eq1 (.agg #[.int .u64 u1.a0,.int .u64 u1.a1,.int .u64 u1.a2,.int .u64 u1.a3,.int .u64 u1.a4]),
 Eq1 (.agg #[.int .u64 u4.a0,.int .u64 u4.a1,.int .u64 u4.a2,.int .u64 u4.a3,.int .u64 u4.a4]),
 ElP (a*d % Fe.P),
 PtP (a*b % Fe.P) (c*d % Fe.P) (b*c % Fe.P) (a*d % Fe.P)]
theorem fo1S (u1:Fe.E) (u2:Fe.E) (u3:Fe.E) (u4:Fe.E) (a:Nat) (b:Nat) (c:Nat) (d:Nat):∀ j x' q q',(fo1L u1 u2 u3 u4 a b c d).getD j (fun _ _=>True) x' q→Below q.heap.size q q'→(fo1L u1 u2 u3 u4 a b c d).getD j (fun _ _=>True) x' q':=by
 refine sta_all _ ?_
 simp only [fo1L,List.mem_cons,forall_eq_or_imp,List.not_mem_nil,false_implies,implies_true,and_true]
 exact ⟨sta_eq _,sta_eq _,sta_el _,sta_eq _,sta_eq _,sta_el _,sta_eq _,sta_eq _,sta_el _,sta_eq _,sta_eq _,sta_el _,sta_pt _ _ _ _⟩
set_option maxRecDepth 20000 in
set_option maxHeartbeats 8000000 in
theorem four_c {u1 u2 u3 u4:Fe.E} {a b c d:Nat} (hu1:El u1 a) (hu2:El u2 b) (hu3:El u3 c) (hu4:El u4 d) (w:World):Calls Tryz.prog 330 #[.agg #[.int .u64 u1.a0,.int .u64 u1.a1,.int .u64 u1.a2,.int .u64 u1.a3,.int .u64 u1.a4],.agg #[.int .u64 u2.a0,.int .u64 u2.a1,.int .u64 u2.a2,.int .u64 u2.a3,.int .u64 u2.a4],.agg #[.int .u64 u3.a0,.int .u64 u3.a1,.int .u64 u3.a2,.int .u64 u3.a3,.int .u64 u3.a4],.agg #[.int .u64 u4.a0,.int .u64 u4.a1,.int .u64 u4.a2,.int .u64 u4.a3,.int .u64 u4.a4]] w (PostP (a*b % Fe.P) (c*d % Fe.P) (b*c % Fe.P) (a*d % Fe.P) w):=by
 go_enter Tryz.func330,Tryz.ntmps330
 go_wp2_with fail
 refine at_world (fun W0 hW=>?_)
 have k0:Blk W0 (w.heap.size) 202 #[.int .u64 u1.a0,.int .u64 u1.a1,.int .u64 u1.a2,.int .u64 u1.a3,.int .u64 u1.a4]:=by rw [hW];exact ((((Blk.new _ _ _).alloc _).alloc _).alloc _).alloc _
 have k1:Blk W0 (w.heap.size+1) 202 #[.int .u64 u2.a0,.int .u64 u2.a1,.int .u64 u2.a2,.int .u64 u2.a3,.int .u64 u2.a4]:=by rw [hW];exact (((blk_at (by simp) (Blk.new _ _ _)).alloc _).alloc _).alloc _
 have k2:Blk W0 (w.heap.size+1+1) 202 #[.int .u64 u3.a0,.int .u64 u3.a1,.int .u64 u3.a2,.int .u64 u3.a3,.int .u64 u3.a4]:=by rw [hW];exact ((blk_at (by simp) (Blk.new _ _ _)).alloc _).alloc _
 have k3:Blk W0 (w.heap.size+1+1+1) 202 #[.int .u64 u4.a0,.int .u64 u4.a1,.int .u64 u4.a2,.int .u64 u4.a3,.int .u64 u4.a4]:=by rw [hW];exact (blk_at (by simp) (Blk.new _ _ _)).alloc _
 have k4:Blk W0 (w.heap.size+1+1+1+1) 204 #[.int .u64 0,.int .u64 0,.int .u64 0,.int .u64 0,.int .u64 0,.int .u64 0,.int .u64 0,.int .u64 0,.int .u64 0,.int .u64 0,.int .u64 0,.int .u64 0,.int .u64 0,.int .u64 0,.int .u64 0,.int .u64 0,.int .u64 0,.int .u64 0,.int .u64 0,.int .u64 0]:=by rw [hW];exact blk_at (by simp) (Blk.new _ _ _)
 have hb0:Below w.heap.size w W0:=by rw [hW];go_grown
 clear hW
 obtain ⟨G4,hG4⟩:∃ G4,G4=w.heap.size+1+1+1+1:=⟨_,rfl⟩
 rw [← hG4] at k4 ⊢
 obtain ⟨G3,hG3⟩:∃ G3,G3=w.heap.size+1+1+1:=⟨_,rfl⟩
 rw [← hG3] at k3 ⊢
 obtain ⟨G2,hG2⟩:∃ G2,G2=w.heap.size+1+1:=⟨_,rfl⟩
 rw [← hG2] at k2 ⊢
 obtain ⟨G1,hG1⟩:∃ G1,G1=w.heap.size+1:=⟨_,rfl⟩
 rw [← hG1] at k1 ⊢
 obtain ⟨G0,hG0⟩:∃ G0,G0=w.heap.size:=⟨_,rfl⟩
 rw [← hG0] at k0 ⊢
 have lo_G0:w.heap.size≤G0:=by omega
 have lo_G1:w.heap.size≤G1:=by omega
 have lo_G2:w.heap.size≤G2:=by omega
 have lo_G3:w.heap.size≤G3:=by omega
 have lo_G4:w.heap.size≤G4:=by omega
 have ne_G0_G1:G0≠G1:=by omega
 have ne_G0_G2:G0≠G2:=by omega
 have ne_G0_G3:G0≠G3:=by omega
 have ne_G0_G4:G0≠G4:=by omega
 have ne_G1_G2:G1≠G2:=by omega
 have ne_G1_G3:G1≠G3:=by omega
 have ne_G1_G4:G1≠G4:=by omega
 have ne_G2_G3:G2≠G3:=by omega
 have ne_G2_G4:G2≠G4:=by omega
 have ne_G3_G4:G3≠G4:=by omega
 clear hG0 hG1 hG2 hG3 hG4
 refine wp_region_grow2 13 (fun k=>(Nat.ble 9 k&&Nat.ble k 21)) _ [] (fun j x' q=>(fo1L u1 u2 u3 u4 a b c d).getD j (fun _ _=>True) x' q) (fun _=>false) (fun f=>#[.agg #[.int .u64 u1.a0,.int .u64 u1.a1,.int .u64 u1.a2,.int .u64 u1.a3,.int .u64 u1.a4],.agg #[.int .u64 u2.a0,.int .u64 u2.a1,.int .u64 u2.a2,.int .u64 u2.a3,.int .u64 u2.a4],.agg #[.int .u64 u3.a0,.int .u64 u3.a1,.int .u64 u3.a2,.int .u64 u3.a3,.int .u64 u3.a4],.agg #[.int .u64 u4.a0,.int .u64 u4.a1,.int .u64 u4.a2,.int .u64 u4.a3,.int .u64 u4.a4],.pointer (some ⟨G0,0,none⟩),.pointer (some ⟨G1,0,none⟩),.pointer (some ⟨G2,0,none⟩),.pointer (some ⟨G3,0,none⟩),.pointer (some ⟨G4,0,none⟩),f 9,f 10,f 11,f 12,f 13,f 14,f 15,f 16,f 17,f 18,f 19,f 20,f 21]) (fun f=>rfl) (by kernel_rfl) (by kernel_rfl) (by kernel_rfl) (by kernel_rfl) (by kernel_rfl) (fo1S _ _ _ _ _ _ _ _) (fun _ _ _ h=>by cases h) ?_ ?_
 ·refine steps2_cons ?_ ?_
  ·intro f w1 hb hd Q hK
   clear hd
   have hK:=Lib.hid hK
   have c0:w1.cell? ⟨G0,0,none⟩=some (.int .u64 u1.a0):=(k0.below hb).cell 0
   have c1:w1.cell? ⟨G0,1,none⟩=some (.int .u64 u1.a1):=(k0.below hb).cell 1
   have c2:w1.cell? ⟨G0,2,none⟩=some (.int .u64 u1.a2):=(k0.below hb).cell 2
   have c3:w1.cell? ⟨G0,3,none⟩=some (.int .u64 u1.a3):=(k0.below hb).cell 3
   have c4:w1.cell? ⟨G0,4,none⟩=some (.int .u64 u1.a4):=(k0.below hb).cell 4
   go_wp2
   exact hK.out _ _ rfl (.refl _ _) nof
  refine steps2_cons ?_ ?_
  ·intro f w1 hb hd Q hK
   clear hd
   have hK:=Lib.hid hK
   have c0:w1.cell? ⟨G1,0,none⟩=some (.int .u64 u2.a0):=(k1.below hb).cell 0
   have c1:w1.cell? ⟨G1,1,none⟩=some (.int .u64 u2.a1):=(k1.below hb).cell 1
   have c2:w1.cell? ⟨G1,2,none⟩=some (.int .u64 u2.a2):=(k1.below hb).cell 2
   have c3:w1.cell? ⟨G1,3,none⟩=some (.int .u64 u2.a3):=(k1.below hb).cell 3
   have c4:w1.cell? ⟨G1,4,none⟩=some (.int .u64 u2.a4):=(k1.below hb).cell 4
   go_wp2
   exact hK.out _ _ rfl (.refl _ _) nof
  refine steps2_cons ?_ ?_
  ·intro f w1 hb hd Q hK
   have e9:f 9=.agg #[.int .u64 u1.a0,.int .u64 u1.a1,.int .u64 u1.a2,.int .u64 u1.a3,.int .u64 u1.a4]:=hd.1 rfl
   have e10:f 10=.agg #[.int .u64 u2.a0,.int .u64 u2.a1,.int .u64 u2.a2,.int .u64 u2.a3,.int .u64 u2.a4]:=hd.2.1 rfl
   clear hd
   simp only [e9,e10] at hK
   have hK:=Lib.hid hK
   go_wp2_with fail
   refine (fMul hu1 hu2 _).mono ?_
   rintro e w2 ⟨x,rfl,hx,hb2⟩
   go_wp2
   exact hK.out _ _ ⟨x,rfl,hx⟩ hb2 nof
  refine steps2_cons ?_ ?_
  ·intro f w1 hb hd Q hK
   clear hd
   have hK:=Lib.hid hK
   have c0:w1.cell? ⟨G2,0,none⟩=some (.int .u64 u3.a0):=(k2.below hb).cell 0
   have c1:w1.cell? ⟨G2,1,none⟩=some (.int .u64 u3.a1):=(k2.below hb).cell 1
   have c2:w1.cell? ⟨G2,2,none⟩=some (.int .u64 u3.a2):=(k2.below hb).cell 2
   have c3:w1.cell? ⟨G2,3,none⟩=some (.int .u64 u3.a3):=(k2.below hb).cell 3
   have c4:w1.cell? ⟨G2,4,none⟩=some (.int .u64 u3.a4):=(k2.below hb).cell 4
   go_wp2
   exact hK.out _ _ rfl (.refl _ _) nof
  refine steps2_cons ?_ ?_
  ·intro f w1 hb hd Q hK
   clear hd
   have hK:=Lib.hid hK
   have c0:w1.cell? ⟨G3,0,none⟩=some (.int .u64 u4.a0):=(k3.below hb).cell 0
   have c1:w1.cell? ⟨G3,1,none⟩=some (.int .u64 u4.a1):=(k3.below hb).cell 1
   have c2:w1.cell? ⟨G3,2,none⟩=some (.int .u64 u4.a2):=(k3.below hb).cell 2
   have c3:w1.cell? ⟨G3,3,none⟩=some (.int .u64 u4.a3):=(k3.below hb).cell 3
   have c4:w1.cell? ⟨G3,4,none⟩=some (.int .u64 u4.a4):=(k3.below hb).cell 4
   go_wp2
   exact hK.out _ _ rfl (.refl _ _) nof
  refine steps2_cons ?_ ?_
  ·intro f w1 hb hd Q hK
   have e12:f 12=.agg #[.int .u64 u3.a0,.int .u64 u3.a1,.int .u64 u3.a2,.int .u64 u3.a3,.int .u64 u3.a4]:=hd.1 rfl
   have e13:f 13=.agg #[.int .u64 u4.a0,.int .u64 u4.a1,.int .u64 u4.a2,.int .u64 u4.a3,.int .u64 u4.a4]:=hd.2.1 rfl
   clear hd
   simp only [e12,e13] at hK
   have hK:=Lib.hid hK
   go_wp2_with fail
   refine (fMul hu3 hu4 _).mono ?_
   rintro e w2 ⟨x,rfl,hx,hb2⟩
   go_wp2
   exact hK.out _ _ ⟨x,rfl,hx⟩ hb2 nof
  refine steps2_cons ?_ ?_
  ·intro f w1 hb hd Q hK
   clear hd
   have hK:=Lib.hid hK
   have c0:w1.cell? ⟨G1,0,none⟩=some (.int .u64 u2.a0):=(k1.below hb).cell 0
   have c1:w1.cell? ⟨G1,1,none⟩=some (.int .u64 u2.a1):=(k1.below hb).cell 1
   have c2:w1.cell? ⟨G1,2,none⟩=some (.int .u64 u2.a2):=(k1.below hb).cell 2
   have c3:w1.cell? ⟨G1,3,none⟩=some (.int .u64 u2.a3):=(k1.below hb).cell 3
   have c4:w1.cell? ⟨G1,4,none⟩=some (.int .u64 u2.a4):=(k1.below hb).cell 4
   go_wp2
   exact hK.out _ _ rfl (.refl _ _) nof
  refine steps2_cons ?_ ?_
  ·intro f w1 hb hd Q hK
   clear hd
   have hK:=Lib.hid hK
   have c0:w1.cell? ⟨G2,0,none⟩=some (.int .u64 u3.a0):=(k2.below hb).cell 0
   have c1:w1.cell? ⟨G2,1,none⟩=some (.int .u64 u3.a1):=(k2.below hb).cell 1
   have c2:w1.cell? ⟨G2,2,none⟩=some (.int .u64 u3.a2):=(k2.below hb).cell 2
   have c3:w1.cell? ⟨G2,3,none⟩=some (.int .u64 u3.a3):=(k2.below hb).cell 3
   have c4:w1.cell? ⟨G2,4,none⟩=some (.int .u64 u3.a4):=(k2.below hb).cell 4
   go_wp2
   exact hK.out _ _ rfl (.refl _ _) nof
  refine steps2_cons ?_ ?_
  ·intro f w1 hb hd Q hK
   have e15:f 15=.agg #[.int .u64 u2.a0,.int .u64 u2.a1,.int .u64 u2.a2,.int .u64 u2.a3,.int .u64 u2.a4]:=hd.1 rfl
   have e16:f 16=.agg #[.int .u64 u3.a0,.int .u64 u3.a1,.int .u64 u3.a2,.int .u64 u3.a3,.int .u64 u3.a4]:=hd.2.1 rfl
   clear hd
   simp only [e15,e16] at hK
   have hK:=Lib.hid hK
   go_wp2_with fail
   refine (fMul hu2 hu3 _).mono ?_
   rintro e w2 ⟨x,rfl,hx,hb2⟩
   go_wp2
   exact hK.out _ _ ⟨x,rfl,hx⟩ hb2 nof
  refine steps2_cons ?_ ?_
  ·intro f w1 hb hd Q hK
   clear hd
   have hK:=Lib.hid hK
   have c0:w1.cell? ⟨G0,0,none⟩=some (.int .u64 u1.a0):=(k0.below hb).cell 0
   have c1:w1.cell? ⟨G0,1,none⟩=some (.int .u64 u1.a1):=(k0.below hb).cell 1
   have c2:w1.cell? ⟨G0,2,none⟩=some (.int .u64 u1.a2):=(k0.below hb).cell 2
   have c3:w1.cell? ⟨G0,3,none⟩=some (.int .u64 u1.a3):=(k0.below hb).cell 3
   have c4:w1.cell? ⟨G0,4,none⟩=some (.int .u64 u1.a4):=(k0.below hb).cell 4
   go_wp2
   exact hK.out _ _ rfl (.refl _ _) nof
  refine steps2_cons ?_ ?_
  ·intro f w1 hb hd Q hK
   clear hd
   have hK:=Lib.hid hK
   have c0:w1.cell? ⟨G3,0,none⟩=some (.int .u64 u4.a0):=(k3.below hb).cell 0
   have c1:w1.cell? ⟨G3,1,none⟩=some (.int .u64 u4.a1):=(k3.below hb).cell 1
   have c2:w1.cell? ⟨G3,2,none⟩=some (.int .u64 u4.a2):=(k3.below hb).cell 2
   have c3:w1.cell? ⟨G3,3,none⟩=some (.int .u64 u4.a3):=(k3.below hb).cell 3
   have c4:w1.cell? ⟨G3,4,none⟩=some (.int .u64 u4.a4):=(k3.below hb).cell 4
   go_wp2
   exact hK.out _ _ rfl (.refl _ _) nof
  refine steps2_cons ?_ ?_
  ·intro f w1 hb hd Q hK
   have e18:f 18=.agg #[.int .u64 u1.a0,.int .u64 u1.a1,.int .u64 u1.a2,.int .u64 u1.a3,.int .u64 u1.a4]:=hd.1 rfl
   have e19:f 19=.agg #[.int .u64 u4.a0,.int .u64 u4.a1,.int .u64 u4.a2,.int .u64 u4.a3,.int .u64 u4.a4]:=hd.2.1 rfl
   clear hd
   simp only [e18,e19] at hK
   have hK:=Lib.hid hK
   go_wp2_with fail
   refine (fMul hu1 hu4 _).mono ?_
   rintro e w2 ⟨x,rfl,hx,hb2⟩
   go_wp2
   exact hK.out _ _ ⟨x,rfl,hx⟩ hb2 nof
  refine steps2_cons ?_ ?_
  ·intro f w1 hb hd Q hK
   obtain ⟨x11,e11,h11⟩:=(hd.1 rfl:ElP (a*b % Fe.P) (f 11) w1)
   obtain ⟨x14,e14,h14⟩:=(hd.2.1 rfl:ElP (c*d % Fe.P) (f 14) w1)
   obtain ⟨x17,e17,h17⟩:=(hd.2.2.1 rfl:ElP (b*c % Fe.P) (f 17) w1)
   obtain ⟨x20,e20,h20⟩:=(hd.2.2.2.1 rfl:ElP (a*d % Fe.P) (f 20) w1)
   clear hd
   simp only [e11,e14,e17,e20] at hK
   have hK:=Lib.hid hK
   go_wp2
   exact hK.out _ _ ⟨x11,x14,x17,x20,rfl,h11,h14,h17,h20⟩ (.refl _ _) nof
  trivial
 intro ff yw hb hf hne
 obtain ⟨p21,q21,r21,s21,d21,hp21,hq21,hr21,hs21⟩:PtP (a*b % Fe.P) (c*d % Fe.P) (b*c % Fe.P) (a*d % Fe.P) (ff 21) yw:=hf 12 _ _ (by decide) rfl rfl
 clear hf hne
 simp only [d21]
 clear d21
 replace k4:=k4.below hb
 replace hb0:=hb0.trans (hb.mono hb0.size)
 refine stPt rfl rfl rfl rfl k4 rfl rfl (by kernel_rfl) ?_
 intro w2 k5 hgr hsz
 replace hb0:=hb0.grown hgr hb0.size (fun k hk=>by injection hk with hk;omega)
 clear hgr hsz hb
 refine wpList_nil ?_
 go_wp2
 exact retPt rfl rfl k5 rfl rfl ⟨_,_,_,_,rfl,hp21,hq21,hr21,hs21,hb0⟩
def sameP (a b c a2 b2 c2:Nat):Bool:=decide (a*c2 % Fe.P=a2*c % Fe.P)&&decide (b*c2 % Fe.P=b2*c % Fe.P)
def safL (x1:Fe.E) (z1:Fe.E) (x2:Fe.E) (z2:Fe.E) (a:Nat) (c:Nat) (a2:Nat) (c2:Nat) (G0:Nat) (G1:Nat):List (Value→World→Prop):=[
 Eq1 (.pointer (some ⟨G0,0,none⟩)),
 Eq1 (.agg #[.int .u64 x1.a0,.int .u64 x1.a1,.int .u64 x1.a2,.int .u64 x1.a3,.int .u64 x1.a4]),
 Eq1 (.pointer (some ⟨G1,10,none⟩)),
 Eq1 (.agg #[.int .u64 z2.a0,.int .u64 z2.a1,.int .u64 z2.a2,.int .u64 z2.a3,.int .u64 z2.a4]),
 ElP (a*c2 % Fe.P),
 Eq1 (.pointer (some ⟨G1,0,none⟩)),
 Eq1 (.agg #[.int .u64 x2.a0,.int .u64 x2.a1,.int .u64 x2.a2,.int .u64 x2.a3,.int .u64 x2.a4]),
 Eq1 (.pointer (some ⟨G0,10,none⟩)),
 Eq1 (.agg #[.int .u64 z1.a0,.int .u64 z1.a1,.int .u64 z1.a2,.int .u64 z1.a3,.int .u64 z1.a4]),
 ElP (a2*c % Fe.P),
 Eq1 (.bool false),
 Eq1 (.bool false),
 Eq1 (undef),
 Eq1 (undef),
 Eq1 (undef),
 Eq1 (undef),
 Eq1 (undef),
 Eq1 (undef),
 Eq1 (undef),
 Eq1 (undef),
 Eq1 (undef),
 Eq1 (undef),
 Eq1 (undef),
 Eq1 (.bool false),
 Eq1 (.bool false)]
theorem safS (x1:Fe.E) (z1:Fe.E) (x2:Fe.E) (z2:Fe.E) (a:Nat) (c:Nat) (a2:Nat) (c2:Nat) (G0:Nat) (G1:Nat):∀ j x' q q',(safL x1 z1 x2 z2 a c a2 c2 G0 G1).getD j (fun _ _=>True) x' q→Below q.heap.size q q'→(safL x1 z1 x2 z2 a c a2 c2 G0 G1).getD j (fun _ _=>True) x' q':=by
 refine sta_all _ ?_
 simp only [safL,List.mem_cons,forall_eq_or_imp,List.not_mem_nil,false_implies,implies_true,and_true]
 exact ⟨sta_eq _,sta_eq _,sta_eq _,sta_eq _,sta_el _,sta_eq _,sta_eq _,sta_eq _,sta_eq _,sta_el _,sta_eq _,sta_eq _,sta_eq _,sta_eq _,sta_eq _,sta_eq _,sta_eq _,sta_eq _,sta_eq _,sta_eq _,sta_eq _,sta_eq _,sta_eq _,sta_eq _,sta_eq _⟩
def satL (x1:Fe.E) (y1:Fe.E) (z1:Fe.E) (x2:Fe.E) (y2:Fe.E) (z2:Fe.E) (a:Nat) (b:Nat) (c:Nat) (a2:Nat) (b2:Nat) (c2:Nat) (G0:Nat) (G1:Nat):List (Value→World→Prop):=[
 Eq1 (.pointer (some ⟨G0,0,none⟩)),
 Eq1 (.agg #[.int .u64 x1.a0,.int .u64 x1.a1,.int .u64 x1.a2,.int .u64 x1.a3,.int .u64 x1.a4]),
 Eq1 (.pointer (some ⟨G1,10,none⟩)),
 Eq1 (.agg #[.int .u64 z2.a0,.int .u64 z2.a1,.int .u64 z2.a2,.int .u64 z2.a3,.int .u64 z2.a4]),
 ElP (a*c2 % Fe.P),
 Eq1 (.pointer (some ⟨G1,0,none⟩)),
 Eq1 (.agg #[.int .u64 x2.a0,.int .u64 x2.a1,.int .u64 x2.a2,.int .u64 x2.a3,.int .u64 x2.a4]),
 Eq1 (.pointer (some ⟨G0,10,none⟩)),
 Eq1 (.agg #[.int .u64 z1.a0,.int .u64 z1.a1,.int .u64 z1.a2,.int .u64 z1.a3,.int .u64 z1.a4]),
 ElP (a2*c % Fe.P),
 Eq1 (.bool true),
 Eq1 (.bool true),
 Eq1 (.pointer (some ⟨G0,5,none⟩)),
 Eq1 (.agg #[.int .u64 y1.a0,.int .u64 y1.a1,.int .u64 y1.a2,.int .u64 y1.a3,.int .u64 y1.a4]),
 Eq1 (.pointer (some ⟨G1,10,none⟩)),
 Eq1 (.agg #[.int .u64 z2.a0,.int .u64 z2.a1,.int .u64 z2.a2,.int .u64 z2.a3,.int .u64 z2.a4]),
 ElP (b*c2 % Fe.P),
 Eq1 (.pointer (some ⟨G1,5,none⟩)),
 Eq1 (.agg #[.int .u64 y2.a0,.int .u64 y2.a1,.int .u64 y2.a2,.int .u64 y2.a3,.int .u64 y2.a4]),
 Eq1 (.pointer (some ⟨G0,10,none⟩)),
 Eq1 (.agg #[.int .u64 z1.a0,.int .u64 z1.a1,.int .u64 z1.a2,.int .u64 z1.a3,.int .u64 z1.a4]),
 ElP (b2*c % Fe.P),
 Eq1 (.bool (decide ((b*c2 % Fe.P)=(b2*c % Fe.P)))),
 Eq1 (.bool (decide ((b*c2 % Fe.P)=(b2*c % Fe.P)))),
 Eq1 (.bool (decide ((b*c2 % Fe.P)=(b2*c % Fe.P))))]
theorem satS (x1:Fe.E) (y1:Fe.E) (z1:Fe.E) (x2:Fe.E) (y2:Fe.E) (z2:Fe.E) (a:Nat) (b:Nat) (c:Nat) (a2:Nat) (b2:Nat) (c2:Nat) (G0:Nat) (G1:Nat):∀ j x' q q',(satL x1 y1 z1 x2 y2 z2 a b c a2 b2 c2 G0 G1).getD j (fun _ _=>True) x' q→Below q.heap.size q q'→(satL x1 y1 z1 x2 y2 z2 a b c a2 b2 c2 G0 G1).getD j (fun _ _=>True) x' q':=by
 refine sta_all _ ?_
 simp only [satL,List.mem_cons,forall_eq_or_imp,List.not_mem_nil,false_implies,implies_true,and_true]
 exact ⟨sta_eq _,sta_eq _,sta_eq _,sta_eq _,sta_el _,sta_eq _,sta_eq _,sta_eq _,sta_eq _,sta_el _,sta_eq _,sta_eq _,sta_eq _,sta_eq _,sta_eq _,sta_eq _,sta_el _,sta_eq _,sta_eq _,sta_eq _,sta_eq _,sta_el _,sta_eq _,sta_eq _,sta_eq _⟩
set_option maxRecDepth 20000 in
set_option maxHeartbeats 8000000 in
theorem psame_c {x1 y1 z1 t1:Fe.E} {a b c:Nat} (hx1:El x1 a) (hy1:El y1 b) (hz1:El z1 c) {x2 y2 z2 t2:Fe.E} {a2 b2 c2:Nat} (hx2:El x2 a2) (hy2:El y2 b2) (hz2:El z2 c2) (w:World):Calls Tryz.prog 164 #[.agg #[.int .u64 x1.a0,.int .u64 x1.a1,.int .u64 x1.a2,.int .u64 x1.a3,.int .u64 x1.a4,.int .u64 y1.a0,.int .u64 y1.a1,.int .u64 y1.a2,.int .u64 y1.a3,.int .u64 y1.a4,.int .u64 z1.a0,.int .u64 z1.a1,.int .u64 z1.a2,.int .u64 z1.a3,.int .u64 z1.a4,.int .u64 t1.a0,.int .u64 t1.a1,.int .u64 t1.a2,.int .u64 t1.a3,.int .u64 t1.a4],.agg #[.int .u64 x2.a0,.int .u64 x2.a1,.int .u64 x2.a2,.int .u64 x2.a3,.int .u64 x2.a4,.int .u64 y2.a0,.int .u64 y2.a1,.int .u64 y2.a2,.int .u64 y2.a3,.int .u64 y2.a4,.int .u64 z2.a0,.int .u64 z2.a1,.int .u64 z2.a2,.int .u64 z2.a3,.int .u64 z2.a4,.int .u64 t2.a0,.int .u64 t2.a1,.int .u64 t2.a2,.int .u64 t2.a3,.int .u64 t2.a4]] w (PostV (.bool (sameP a b c a2 b2 c2)) w):=by
 go_enter Tryz.func164,Tryz.ntmps164
 go_wp2_with fail
 refine at_world (fun W0 hW=>?_)
 have k0:Blk W0 (w.heap.size) 204 #[.int .u64 x1.a0,.int .u64 x1.a1,.int .u64 x1.a2,.int .u64 x1.a3,.int .u64 x1.a4,.int .u64 y1.a0,.int .u64 y1.a1,.int .u64 y1.a2,.int .u64 y1.a3,.int .u64 y1.a4,.int .u64 z1.a0,.int .u64 z1.a1,.int .u64 z1.a2,.int .u64 z1.a3,.int .u64 z1.a4,.int .u64 t1.a0,.int .u64 t1.a1,.int .u64 t1.a2,.int .u64 t1.a3,.int .u64 t1.a4]:=by rw [hW];exact (Blk.new _ _ _).alloc _
 have k1:Blk W0 (w.heap.size+1) 204 #[.int .u64 x2.a0,.int .u64 x2.a1,.int .u64 x2.a2,.int .u64 x2.a3,.int .u64 x2.a4,.int .u64 y2.a0,.int .u64 y2.a1,.int .u64 y2.a2,.int .u64 y2.a3,.int .u64 y2.a4,.int .u64 z2.a0,.int .u64 z2.a1,.int .u64 z2.a2,.int .u64 z2.a3,.int .u64 z2.a4,.int .u64 t2.a0,.int .u64 t2.a1,.int .u64 t2.a2,.int .u64 t2.a3,.int .u64 t2.a4]:=by rw [hW];exact blk_at (by simp) (Blk.new _ _ _)
 have hb0:Below w.heap.size w W0:=by rw [hW];go_grown
 clear hW
 obtain ⟨G1,hG1⟩:∃ G1,G1=w.heap.size+1:=⟨_,rfl⟩
 rw [← hG1] at k1 ⊢
 obtain ⟨G0,hG0⟩:∃ G0,G0=w.heap.size:=⟨_,rfl⟩
 rw [← hG0] at k0 ⊢
 have lo_G0:w.heap.size≤G0:=by omega
 have lo_G1:w.heap.size≤G1:=by omega
 have ne_G0_G1:G0≠G1:=by omega
 clear hG0 hG1
 cases hE:decide (a*c2 % Fe.P=a2*c % Fe.P)
 ·refine wp_region_grow2 25 (fun k=>(Nat.ble 4 k&&Nat.ble k 28)) _ [] (fun j x' q=>(safL x1 z1 x2 z2 a c a2 c2 G0 G1).getD j (fun _ _=>True) x' q) (fun _=>false) (fun f=>#[.agg #[.int .u64 x1.a0,.int .u64 x1.a1,.int .u64 x1.a2,.int .u64 x1.a3,.int .u64 x1.a4,.int .u64 y1.a0,.int .u64 y1.a1,.int .u64 y1.a2,.int .u64 y1.a3,.int .u64 y1.a4,.int .u64 z1.a0,.int .u64 z1.a1,.int .u64 z1.a2,.int .u64 z1.a3,.int .u64 z1.a4,.int .u64 t1.a0,.int .u64 t1.a1,.int .u64 t1.a2,.int .u64 t1.a3,.int .u64 t1.a4],.agg #[.int .u64 x2.a0,.int .u64 x2.a1,.int .u64 x2.a2,.int .u64 x2.a3,.int .u64 x2.a4,.int .u64 y2.a0,.int .u64 y2.a1,.int .u64 y2.a2,.int .u64 y2.a3,.int .u64 y2.a4,.int .u64 z2.a0,.int .u64 z2.a1,.int .u64 z2.a2,.int .u64 z2.a3,.int .u64 z2.a4,.int .u64 t2.a0,.int .u64 t2.a1,.int .u64 t2.a2,.int .u64 t2.a3,.int .u64 t2.a4],.pointer (some ⟨G0,0,none⟩),.pointer (some ⟨G1,0,none⟩),f 4,f 5,f 6,f 7,f 8,f 9,f 10,f 11,f 12,f 13,f 14,f 15,f 16,f 17,f 18,f 19,f 20,f 21,f 22,f 23,f 24,f 25,f 26,f 27,f 28]) (fun f=>rfl) (by kernel_rfl) (by kernel_rfl) (by kernel_rfl) (by kernel_rfl) (by kernel_rfl) (safS _ _ _ _ _ _ _ _ _ _) (fun _ _ _ h=>by cases h) ?_ ?_
  ·refine steps2_cons ?_ ?_
   ·intro f w1 hb hd Q hK
    clear hd
    have hK:=Lib.hid hK
    go_wp2
    exact hK.out _ _ rfl (.refl _ _) nof
   refine steps2_cons ?_ ?_
   ·intro f w1 hb hd Q hK
    have e5:f 5=.pointer (some ⟨G0,0,none⟩):=hd.1 rfl
    clear hd
    simp only [e5] at hK
    have hK:=Lib.hid hK
    have c0:w1.cell? ⟨G0,0,none⟩=some (.int .u64 x1.a0):=(k0.below hb).cell 0
    have c1:w1.cell? ⟨G0,1,none⟩=some (.int .u64 x1.a1):=(k0.below hb).cell 1
    have c2:w1.cell? ⟨G0,2,none⟩=some (.int .u64 x1.a2):=(k0.below hb).cell 2
    have c3:w1.cell? ⟨G0,3,none⟩=some (.int .u64 x1.a3):=(k0.below hb).cell 3
    have c4:w1.cell? ⟨G0,4,none⟩=some (.int .u64 x1.a4):=(k0.below hb).cell 4
    go_wp2
    exact hK.out _ _ rfl (.refl _ _) nof
   refine steps2_cons ?_ ?_
   ·intro f w1 hb hd Q hK
    clear hd
    have hK:=Lib.hid hK
    go_wp2
    exact hK.out _ _ rfl (.refl _ _) nof
   refine steps2_cons ?_ ?_
   ·intro f w1 hb hd Q hK
    have e7:f 7=.pointer (some ⟨G1,10,none⟩):=hd.1 rfl
    clear hd
    simp only [e7] at hK
    have hK:=Lib.hid hK
    have c0:w1.cell? ⟨G1,10,none⟩=some (.int .u64 z2.a0):=(k1.below hb).cell 10
    have c1:w1.cell? ⟨G1,11,none⟩=some (.int .u64 z2.a1):=(k1.below hb).cell 11
    have c2:w1.cell? ⟨G1,12,none⟩=some (.int .u64 z2.a2):=(k1.below hb).cell 12
    have c3:w1.cell? ⟨G1,13,none⟩=some (.int .u64 z2.a3):=(k1.below hb).cell 13
    have c4:w1.cell? ⟨G1,14,none⟩=some (.int .u64 z2.a4):=(k1.below hb).cell 14
    go_wp2
    exact hK.out _ _ rfl (.refl _ _) nof
   refine steps2_cons ?_ ?_
   ·intro f w1 hb hd Q hK
    have e6:f 6=.agg #[.int .u64 x1.a0,.int .u64 x1.a1,.int .u64 x1.a2,.int .u64 x1.a3,.int .u64 x1.a4]:=hd.1 rfl
    have e8:f 8=.agg #[.int .u64 z2.a0,.int .u64 z2.a1,.int .u64 z2.a2,.int .u64 z2.a3,.int .u64 z2.a4]:=hd.2.1 rfl
    clear hd
    simp only [e6,e8] at hK
    have hK:=Lib.hid hK
    go_wp2_with fail
    refine (fMul hx1 hz2 _).mono ?_
    rintro e w2 ⟨x,rfl,hx,hb2⟩
    go_wp2
    exact hK.out _ _ ⟨x,rfl,hx⟩ hb2 nof
   refine steps2_cons ?_ ?_
   ·intro f w1 hb hd Q hK
    clear hd
    have hK:=Lib.hid hK
    go_wp2
    exact hK.out _ _ rfl (.refl _ _) nof
   refine steps2_cons ?_ ?_
   ·intro f w1 hb hd Q hK
    have e10:f 10=.pointer (some ⟨G1,0,none⟩):=hd.1 rfl
    clear hd
    simp only [e10] at hK
    have hK:=Lib.hid hK
    have c0:w1.cell? ⟨G1,0,none⟩=some (.int .u64 x2.a0):=(k1.below hb).cell 0
    have c1:w1.cell? ⟨G1,1,none⟩=some (.int .u64 x2.a1):=(k1.below hb).cell 1
    have c2:w1.cell? ⟨G1,2,none⟩=some (.int .u64 x2.a2):=(k1.below hb).cell 2
    have c3:w1.cell? ⟨G1,3,none⟩=some (.int .u64 x2.a3):=(k1.below hb).cell 3
    have c4:w1.cell? ⟨G1,4,none⟩=some (.int .u64 x2.a4):=(k1.below hb).cell 4
    go_wp2
    exact hK.out _ _ rfl (.refl _ _) nof
   refine steps2_cons ?_ ?_
   ·intro f w1 hb hd Q hK
    clear hd
    have hK:=Lib.hid hK
    go_wp2
    exact hK.out _ _ rfl (.refl _ _) nof
   refine steps2_cons ?_ ?_
   ·intro f w1 hb hd Q hK
    have e12:f 12=.pointer (some ⟨G0,10,none⟩):=hd.1 rfl
    clear hd
    simp only [e12] at hK
    have hK:=Lib.hid hK
    have c0:w1.cell? ⟨G0,10,none⟩=some (.int .u64 z1.a0):=(k0.below hb).cell 10
    have c1:w1.cell? ⟨G0,11,none⟩=some (.int .u64 z1.a1):=(k0.below hb).cell 11
    have c2:w1.cell? ⟨G0,12,none⟩=some (.int .u64 z1.a2):=(k0.below hb).cell 12
    have c3:w1.cell? ⟨G0,13,none⟩=some (.int .u64 z1.a3):=(k0.below hb).cell 13
    have c4:w1.cell? ⟨G0,14,none⟩=some (.int .u64 z1.a4):=(k0.below hb).cell 14
    go_wp2
    exact hK.out _ _ rfl (.refl _ _) nof
   refine steps2_cons ?_ ?_
   ·intro f w1 hb hd Q hK
    have e11:f 11=.agg #[.int .u64 x2.a0,.int .u64 x2.a1,.int .u64 x2.a2,.int .u64 x2.a3,.int .u64 x2.a4]:=hd.1 rfl
    have e13:f 13=.agg #[.int .u64 z1.a0,.int .u64 z1.a1,.int .u64 z1.a2,.int .u64 z1.a3,.int .u64 z1.a4]:=hd.2.1 rfl
    clear hd
    simp only [e11,e13] at hK
    have hK:=Lib.hid hK
    go_wp2_with fail
    refine (fMul hx2 hz1 _).mono ?_
    rintro e w2 ⟨x,rfl,hx,hb2⟩
    go_wp2
    exact hK.out _ _ ⟨x,rfl,hx⟩ hb2 nof
   refine steps2_cons ?_ ?_
   ·intro f w1 hb hd Q hK
    obtain ⟨x9,e9,h9⟩:=(hd.1 rfl:ElP (a*c2 % Fe.P) (f 9) w1)
    obtain ⟨x14,e14,h14⟩:=(hd.2.1 rfl:ElP (a2*c % Fe.P) (f 14) w1)
    clear hd
    simp only [e9,e14] at hK
    have hK:=Lib.hid hK
    go_wp2_with fail
    refine (fSameV h9 h14 hE _).mono ?_
    rintro e w2 ⟨rfl,hb2⟩
    go_wp2
    exact hK.out _ _ rfl hb2 nof
   refine steps2_cons ?_ ?_
   ·intro f w1 hb hd Q hK
    have e15:f 15=.bool false:=hd.1 rfl
    clear hd
    simp only [e15] at hK
    have hK:=Lib.hid hK
    go_wp2
    exact hK.out _ _ rfl (.refl _ _) nof
   refine steps2_cons ?_ ?_
   ·intro f w1 hb hd Q hK
    have e16:f 16=.bool false:=hd.1 rfl
    clear hd
    simp only [e16] at hK
    have hK:=Lib.hid hK
    go_wp2
    exact hK.out _ _ rfl (.refl _ _) nof
   refine steps2_cons ?_ ?_
   ·intro f w1 hb hd Q hK
    have e17:f 17=undef:=hd.1 rfl
    have e16:f 16=.bool false:=hd.2.1 rfl
    clear hd
    simp only [e17,e16] at hK
    have hK:=Lib.hid hK
    go_wp2
    exact hK.out _ _ rfl (.refl _ _) nof
   refine steps2_cons ?_ ?_
   ·intro f w1 hb hd Q hK
    have e16:f 16=.bool false:=hd.1 rfl
    clear hd
    simp only [e16] at hK
    have hK:=Lib.hid hK
    go_wp2
    exact hK.out _ _ rfl (.refl _ _) nof
   refine steps2_cons ?_ ?_
   ·intro f w1 hb hd Q hK
    have e19:f 19=undef:=hd.1 rfl
    have e16:f 16=.bool false:=hd.2.1 rfl
    clear hd
    simp only [e19,e16] at hK
    have hK:=Lib.hid hK
    go_wp2
    exact hK.out _ _ rfl (.refl _ _) nof
   refine steps2_cons ?_ ?_
   ·intro f w1 hb hd Q hK
    have e18:f 18=undef:=hd.1 rfl
    have e20:f 20=undef:=hd.2.1 rfl
    have e16:f 16=.bool false:=hd.2.2.1 rfl
    clear hd
    simp only [e18,e20,e16] at hK
    have hK:=Lib.hid hK
    go_wp2
    exact hK.out _ _ rfl (.refl _ _) nof
   refine steps2_cons ?_ ?_
   ·intro f w1 hb hd Q hK
    have e16:f 16=.bool false:=hd.1 rfl
    clear hd
    simp only [e16] at hK
    have hK:=Lib.hid hK
    go_wp2
    exact hK.out _ _ rfl (.refl _ _) nof
   refine steps2_cons ?_ ?_
   ·intro f w1 hb hd Q hK
    have e22:f 22=undef:=hd.1 rfl
    have e16:f 16=.bool false:=hd.2.1 rfl
    clear hd
    simp only [e22,e16] at hK
    have hK:=Lib.hid hK
    go_wp2
    exact hK.out _ _ rfl (.refl _ _) nof
   refine steps2_cons ?_ ?_
   ·intro f w1 hb hd Q hK
    have e16:f 16=.bool false:=hd.1 rfl
    clear hd
    simp only [e16] at hK
    have hK:=Lib.hid hK
    go_wp2
    exact hK.out _ _ rfl (.refl _ _) nof
   refine steps2_cons ?_ ?_
   ·intro f w1 hb hd Q hK
    have e24:f 24=undef:=hd.1 rfl
    have e16:f 16=.bool false:=hd.2.1 rfl
    clear hd
    simp only [e24,e16] at hK
    have hK:=Lib.hid hK
    go_wp2
    exact hK.out _ _ rfl (.refl _ _) nof
   refine steps2_cons ?_ ?_
   ·intro f w1 hb hd Q hK
    have e23:f 23=undef:=hd.1 rfl
    have e25:f 25=undef:=hd.2.1 rfl
    have e16:f 16=.bool false:=hd.2.2.2.1 rfl
    clear hd
    simp only [e23,e25,e16] at hK
    have hK:=Lib.hid hK
    go_wp2
    exact hK.out _ _ rfl (.refl _ _) nof
   refine steps2_cons ?_ ?_
   ·intro f w1 hb hd Q hK
    have e21:f 21=undef:=hd.1 rfl
    have e26:f 26=undef:=hd.2.1 rfl
    have e16:f 16=.bool false:=hd.2.2.2.1 rfl
    clear hd
    simp only [e21,e26,e16] at hK
    have hK:=Lib.hid hK
    go_wp2
    exact hK.out _ _ rfl (.refl _ _) nof
   refine steps2_cons ?_ ?_
   ·intro f w1 hb hd Q hK
    have e16:f 16=.bool false:=hd.1 rfl
    have e27:f 27=undef:=hd.2.1 rfl
    clear hd
    simp only [e16,e27] at hK
    have hK:=Lib.hid hK
    go_wp2
    exact hK.out _ _ rfl (.refl _ _) nof
   refine steps2_cons ?_ ?_
   ·intro f w1 hb hd Q hK
    have e28:f 28=.bool false:=hd.1 rfl
    clear hd
    simp only [e28] at hK
    have hK:=Lib.hid hK
    go_wp2
    exact hK.out _ _ rfl (.refl _ _) nof
   trivial
  intro ff yw hb hf hne
  refine wpList_nil ?_
  have d4:ff 4=.bool false:=hf 24 _ _ (by decide) rfl rfl
  clear hf hne
  replace hb0:=hb0.trans (hb.mono hb0.size)
  simp only [d4]
  clear d4
  go_wp2
  go_returns
  exact ⟨by unfold sameP;rw [hE];rfl,hb0⟩
 refine wp_region_grow2 25 (fun k=>(Nat.ble 4 k&&Nat.ble k 28)) _ [] (fun j x' q=>(satL x1 y1 z1 x2 y2 z2 a b c a2 b2 c2 G0 G1).getD j (fun _ _=>True) x' q) (fun _=>false) (fun f=>#[.agg #[.int .u64 x1.a0,.int .u64 x1.a1,.int .u64 x1.a2,.int .u64 x1.a3,.int .u64 x1.a4,.int .u64 y1.a0,.int .u64 y1.a1,.int .u64 y1.a2,.int .u64 y1.a3,.int .u64 y1.a4,.int .u64 z1.a0,.int .u64 z1.a1,.int .u64 z1.a2,.int .u64 z1.a3,.int .u64 z1.a4,.int .u64 t1.a0,.int .u64 t1.a1,.int .u64 t1.a2,.int .u64 t1.a3,.int .u64 t1.a4],.agg #[.int .u64 x2.a0,.int .u64 x2.a1,.int .u64 x2.a2,.int .u64 x2.a3,.int .u64 x2.a4,.int .u64 y2.a0,.int .u64 y2.a1,.int .u64 y2.a2,.int .u64 y2.a3,.int .u64 y2.a4,.int .u64 z2.a0,.int .u64 z2.a1,.int .u64 z2.a2,.int .u64 z2.a3,.int .u64 z2.a4,.int .u64 t2.a0,.int .u64 t2.a1,.int .u64 t2.a2,.int .u64 t2.a3,.int .u64 t2.a4],.pointer (some ⟨G0,0,none⟩),.pointer (some ⟨G1,0,none⟩),f 4,f 5,f 6,f 7,f 8,f 9,f 10,f 11,f 12,f 13,f 14,f 15,f 16,f 17,f 18,f 19,f 20,f 21,f 22,f 23,f 24,f 25,f 26,f 27,f 28]) (fun f=>rfl) (by kernel_rfl) (by kernel_rfl) (by kernel_rfl) (by kernel_rfl) (by kernel_rfl) (satS _ _ _ _ _ _ _ _ _ _ _ _ _ _) (fun _ _ _ h=>by cases h) ?_ ?_
 ·refine steps2_cons ?_ ?_
  ·intro f w1 hb hd Q hK
   clear hd
   have hK:=Lib.hid hK
   go_wp2
   exact hK.out _ _ rfl (.refl _ _) nof
  refine steps2_cons ?_ ?_
  ·intro f w1 hb hd Q hK
   have e5:f 5=.pointer (some ⟨G0,0,none⟩):=hd.1 rfl
   clear hd
   simp only [e5] at hK
   have hK:=Lib.hid hK
   have c0:w1.cell? ⟨G0,0,none⟩=some (.int .u64 x1.a0):=(k0.below hb).cell 0
   have c1:w1.cell? ⟨G0,1,none⟩=some (.int .u64 x1.a1):=(k0.below hb).cell 1
   have c2:w1.cell? ⟨G0,2,none⟩=some (.int .u64 x1.a2):=(k0.below hb).cell 2
   have c3:w1.cell? ⟨G0,3,none⟩=some (.int .u64 x1.a3):=(k0.below hb).cell 3
   have c4:w1.cell? ⟨G0,4,none⟩=some (.int .u64 x1.a4):=(k0.below hb).cell 4
   go_wp2
   exact hK.out _ _ rfl (.refl _ _) nof
  refine steps2_cons ?_ ?_
  ·intro f w1 hb hd Q hK
   clear hd
   have hK:=Lib.hid hK
   go_wp2
   exact hK.out _ _ rfl (.refl _ _) nof
  refine steps2_cons ?_ ?_
  ·intro f w1 hb hd Q hK
   have e7:f 7=.pointer (some ⟨G1,10,none⟩):=hd.1 rfl
   clear hd
   simp only [e7] at hK
   have hK:=Lib.hid hK
   have c0:w1.cell? ⟨G1,10,none⟩=some (.int .u64 z2.a0):=(k1.below hb).cell 10
   have c1:w1.cell? ⟨G1,11,none⟩=some (.int .u64 z2.a1):=(k1.below hb).cell 11
   have c2:w1.cell? ⟨G1,12,none⟩=some (.int .u64 z2.a2):=(k1.below hb).cell 12
   have c3:w1.cell? ⟨G1,13,none⟩=some (.int .u64 z2.a3):=(k1.below hb).cell 13
   have c4:w1.cell? ⟨G1,14,none⟩=some (.int .u64 z2.a4):=(k1.below hb).cell 14
   go_wp2
   exact hK.out _ _ rfl (.refl _ _) nof
  refine steps2_cons ?_ ?_
  ·intro f w1 hb hd Q hK
   have e6:f 6=.agg #[.int .u64 x1.a0,.int .u64 x1.a1,.int .u64 x1.a2,.int .u64 x1.a3,.int .u64 x1.a4]:=hd.1 rfl
   have e8:f 8=.agg #[.int .u64 z2.a0,.int .u64 z2.a1,.int .u64 z2.a2,.int .u64 z2.a3,.int .u64 z2.a4]:=hd.2.1 rfl
   clear hd
   simp only [e6,e8] at hK
   have hK:=Lib.hid hK
   go_wp2_with fail
   refine (fMul hx1 hz2 _).mono ?_
   rintro e w2 ⟨x,rfl,hx,hb2⟩
   go_wp2
   exact hK.out _ _ ⟨x,rfl,hx⟩ hb2 nof
  refine steps2_cons ?_ ?_
  ·intro f w1 hb hd Q hK
   clear hd
   have hK:=Lib.hid hK
   go_wp2
   exact hK.out _ _ rfl (.refl _ _) nof
  refine steps2_cons ?_ ?_
  ·intro f w1 hb hd Q hK
   have e10:f 10=.pointer (some ⟨G1,0,none⟩):=hd.1 rfl
   clear hd
   simp only [e10] at hK
   have hK:=Lib.hid hK
   have c0:w1.cell? ⟨G1,0,none⟩=some (.int .u64 x2.a0):=(k1.below hb).cell 0
   have c1:w1.cell? ⟨G1,1,none⟩=some (.int .u64 x2.a1):=(k1.below hb).cell 1
   have c2:w1.cell? ⟨G1,2,none⟩=some (.int .u64 x2.a2):=(k1.below hb).cell 2
   have c3:w1.cell? ⟨G1,3,none⟩=some (.int .u64 x2.a3):=(k1.below hb).cell 3
   have c4:w1.cell? ⟨G1,4,none⟩=some (.int .u64 x2.a4):=(k1.below hb).cell 4
   go_wp2
   exact hK.out _ _ rfl (.refl _ _) nof
  refine steps2_cons ?_ ?_
  ·intro f w1 hb hd Q hK
   clear hd
   have hK:=Lib.hid hK
   go_wp2
   exact hK.out _ _ rfl (.refl _ _) nof
  refine steps2_cons ?_ ?_
  ·intro f w1 hb hd Q hK
   have e12:f 12=.pointer (some ⟨G0,10,none⟩):=hd.1 rfl
   clear hd
   simp only [e12] at hK
   have hK:=Lib.hid hK
   have c0:w1.cell? ⟨G0,10,none⟩=some (.int .u64 z1.a0):=(k0.below hb).cell 10
   have c1:w1.cell? ⟨G0,11,none⟩=some (.int .u64 z1.a1):=(k0.below hb).cell 11
   have c2:w1.cell? ⟨G0,12,none⟩=some (.int .u64 z1.a2):=(k0.below hb).cell 12
   have c3:w1.cell? ⟨G0,13,none⟩=some (.int .u64 z1.a3):=(k0.below hb).cell 13
   have c4:w1.cell? ⟨G0,14,none⟩=some (.int .u64 z1.a4):=(k0.below hb).cell 14
   go_wp2
   exact hK.out _ _ rfl (.refl _ _) nof
  refine steps2_cons ?_ ?_
  ·intro f w1 hb hd Q hK
   have e11:f 11=.agg #[.int .u64 x2.a0,.int .u64 x2.a1,.int .u64 x2.a2,.int .u64 x2.a3,.int .u64 x2.a4]:=hd.1 rfl
   have e13:f 13=.agg #[.int .u64 z1.a0,.int .u64 z1.a1,.int .u64 z1.a2,.int .u64 z1.a3,.int .u64 z1.a4]:=hd.2.1 rfl
   clear hd
   simp only [e11,e13] at hK
   have hK:=Lib.hid hK
   go_wp2_with fail
   refine (fMul hx2 hz1 _).mono ?_
   rintro e w2 ⟨x,rfl,hx,hb2⟩
   go_wp2
   exact hK.out _ _ ⟨x,rfl,hx⟩ hb2 nof
  refine steps2_cons ?_ ?_
  ·intro f w1 hb hd Q hK
   obtain ⟨x9,e9,h9⟩:=(hd.1 rfl:ElP (a*c2 % Fe.P) (f 9) w1)
   obtain ⟨x14,e14,h14⟩:=(hd.2.1 rfl:ElP (a2*c % Fe.P) (f 14) w1)
   clear hd
   simp only [e9,e14] at hK
   have hK:=Lib.hid hK
   go_wp2_with fail
   refine (fSameV h9 h14 hE _).mono ?_
   rintro e w2 ⟨rfl,hb2⟩
   go_wp2
   exact hK.out _ _ rfl hb2 nof
  refine steps2_cons ?_ ?_
  ·intro f w1 hb hd Q hK
   have e15:f 15=.bool true:=hd.1 rfl
   clear hd
   simp only [e15] at hK
   have hK:=Lib.hid hK
   go_wp2
   exact hK.out _ _ rfl (.refl _ _) nof
  refine steps2_cons ?_ ?_
  ·intro f w1 hb hd Q hK
   have e16:f 16=.bool true:=hd.1 rfl
   clear hd
   simp only [e16] at hK
   have hK:=Lib.hid hK
   go_wp2
   exact hK.out _ _ rfl (.refl _ _) nof
  refine steps2_cons ?_ ?_
  ·intro f w1 hb hd Q hK
   have e17:f 17=.pointer (some ⟨G0,5,none⟩):=hd.1 rfl
   have e16:f 16=.bool true:=hd.2.1 rfl
   clear hd
   simp only [e17,e16] at hK
   have hK:=Lib.hid hK
   have c0:w1.cell? ⟨G0,5,none⟩=some (.int .u64 y1.a0):=(k0.below hb).cell 5
   have c1:w1.cell? ⟨G0,6,none⟩=some (.int .u64 y1.a1):=(k0.below hb).cell 6
   have c2:w1.cell? ⟨G0,7,none⟩=some (.int .u64 y1.a2):=(k0.below hb).cell 7
   have c3:w1.cell? ⟨G0,8,none⟩=some (.int .u64 y1.a3):=(k0.below hb).cell 8
   have c4:w1.cell? ⟨G0,9,none⟩=some (.int .u64 y1.a4):=(k0.below hb).cell 9
   go_wp2
   exact hK.out _ _ rfl (.refl _ _) nof
  refine steps2_cons ?_ ?_
  ·intro f w1 hb hd Q hK
   have e16:f 16=.bool true:=hd.1 rfl
   clear hd
   simp only [e16] at hK
   have hK:=Lib.hid hK
   go_wp2
   exact hK.out _ _ rfl (.refl _ _) nof
  refine steps2_cons ?_ ?_
  ·intro f w1 hb hd Q hK
   have e19:f 19=.pointer (some ⟨G1,10,none⟩):=hd.1 rfl
   have e16:f 16=.bool true:=hd.2.1 rfl
   clear hd
   simp only [e19,e16] at hK
   have hK:=Lib.hid hK
   have c0:w1.cell? ⟨G1,10,none⟩=some (.int .u64 z2.a0):=(k1.below hb).cell 10
   have c1:w1.cell? ⟨G1,11,none⟩=some (.int .u64 z2.a1):=(k1.below hb).cell 11
   have c2:w1.cell? ⟨G1,12,none⟩=some (.int .u64 z2.a2):=(k1.below hb).cell 12
   have c3:w1.cell? ⟨G1,13,none⟩=some (.int .u64 z2.a3):=(k1.below hb).cell 13
   have c4:w1.cell? ⟨G1,14,none⟩=some (.int .u64 z2.a4):=(k1.below hb).cell 14
   go_wp2
   exact hK.out _ _ rfl (.refl _ _) nof
  refine steps2_cons ?_ ?_
  ·intro f w1 hb hd Q hK
   have e18:f 18=.agg #[.int .u64 y1.a0,.int .u64 y1.a1,.int .u64 y1.a2,.int .u64 y1.a3,.int .u64 y1.a4]:=hd.1 rfl
   have e20:f 20=.agg #[.int .u64 z2.a0,.int .u64 z2.a1,.int .u64 z2.a2,.int .u64 z2.a3,.int .u64 z2.a4]:=hd.2.1 rfl
   have e16:f 16=.bool true:=hd.2.2.1 rfl
   clear hd
   simp only [e18,e20,e16] at hK
   have hK:=Lib.hid hK
   go_wp2_with fail
   refine (fMul hy1 hz2 _).mono ?_
   rintro e w2 ⟨x,rfl,hx,hb2⟩
   go_wp2
   exact hK.out _ _ ⟨x,rfl,hx⟩ hb2 nof
  refine steps2_cons ?_ ?_
  ·intro f w1 hb hd Q hK
   have e16:f 16=.bool true:=hd.1 rfl
   clear hd
   simp only [e16] at hK
   have hK:=Lib.hid hK
   go_wp2
   exact hK.out _ _ rfl (.refl _ _) nof
  refine steps2_cons ?_ ?_
  ·intro f w1 hb hd Q hK
   have e22:f 22=.pointer (some ⟨G1,5,none⟩):=hd.1 rfl
   have e16:f 16=.bool true:=hd.2.1 rfl
   clear hd
   simp only [e22,e16] at hK
   have hK:=Lib.hid hK
   have c0:w1.cell? ⟨G1,5,none⟩=some (.int .u64 y2.a0):=(k1.below hb).cell 5
   have c1:w1.cell? ⟨G1,6,none⟩=some (.int .u64 y2.a1):=(k1.below hb).cell 6
   have c2:w1.cell? ⟨G1,7,none⟩=some (.int .u64 y2.a2):=(k1.below hb).cell 7
   have c3:w1.cell? ⟨G1,8,none⟩=some (.int .u64 y2.a3):=(k1.below hb).cell 8
   have c4:w1.cell? ⟨G1,9,none⟩=some (.int .u64 y2.a4):=(k1.below hb).cell 9
   go_wp2
   exact hK.out _ _ rfl (.refl _ _) nof
  refine steps2_cons ?_ ?_
  ·intro f w1 hb hd Q hK
   have e16:f 16=.bool true:=hd.1 rfl
   clear hd
   simp only [e16] at hK
   have hK:=Lib.hid hK
   go_wp2
   exact hK.out _ _ rfl (.refl _ _) nof
  refine steps2_cons ?_ ?_
  ·intro f w1 hb hd Q hK
   have e24:f 24=.pointer (some ⟨G0,10,none⟩):=hd.1 rfl
   have e16:f 16=.bool true:=hd.2.1 rfl
   clear hd
   simp only [e24,e16] at hK
   have hK:=Lib.hid hK
   have c0:w1.cell? ⟨G0,10,none⟩=some (.int .u64 z1.a0):=(k0.below hb).cell 10
   have c1:w1.cell? ⟨G0,11,none⟩=some (.int .u64 z1.a1):=(k0.below hb).cell 11
   have c2:w1.cell? ⟨G0,12,none⟩=some (.int .u64 z1.a2):=(k0.below hb).cell 12
   have c3:w1.cell? ⟨G0,13,none⟩=some (.int .u64 z1.a3):=(k0.below hb).cell 13
   have c4:w1.cell? ⟨G0,14,none⟩=some (.int .u64 z1.a4):=(k0.below hb).cell 14
   go_wp2
   exact hK.out _ _ rfl (.refl _ _) nof
  refine steps2_cons ?_ ?_
  ·intro f w1 hb hd Q hK
   have e23:f 23=.agg #[.int .u64 y2.a0,.int .u64 y2.a1,.int .u64 y2.a2,.int .u64 y2.a3,.int .u64 y2.a4]:=hd.1 rfl
   have e25:f 25=.agg #[.int .u64 z1.a0,.int .u64 z1.a1,.int .u64 z1.a2,.int .u64 z1.a3,.int .u64 z1.a4]:=hd.2.1 rfl
   have e16:f 16=.bool true:=hd.2.2.2.1 rfl
   clear hd
   simp only [e23,e25,e16] at hK
   have hK:=Lib.hid hK
   go_wp2_with fail
   refine (fMul hy2 hz1 _).mono ?_
   rintro e w2 ⟨x,rfl,hx,hb2⟩
   go_wp2
   exact hK.out _ _ ⟨x,rfl,hx⟩ hb2 nof
  refine steps2_cons ?_ ?_
  ·intro f w1 hb hd Q hK
   obtain ⟨x21,e21,h21⟩:=(hd.1 rfl:ElP (b*c2 % Fe.P) (f 21) w1)
   obtain ⟨x26,e26,h26⟩:=(hd.2.1 rfl:ElP (b2*c % Fe.P) (f 26) w1)
   have e16:f 16=.bool true:=hd.2.2.2.1 rfl
   clear hd
   simp only [e21,e26,e16] at hK
   have hK:=Lib.hid hK
   go_wp2_with fail
   refine (fSame h21 h26 _).mono ?_
   rintro e w2 ⟨rfl,hb2⟩
   go_wp2
   exact hK.out _ _ rfl hb2 nof
  refine steps2_cons ?_ ?_
  ·intro f w1 hb hd Q hK
   have e16:f 16=.bool true:=hd.1 rfl
   have e27:f 27=.bool (decide ((b*c2 % Fe.P)=(b2*c % Fe.P))):=hd.2.1 rfl
   clear hd
   simp only [e16,e27] at hK
   have hK:=Lib.hid hK
   go_wp2
   exact hK.out _ _ rfl (.refl _ _) nof
  refine steps2_cons ?_ ?_
  ·intro f w1 hb hd Q hK
   have e28:f 28=.bool (decide ((b*c2 % Fe.P)=(b2*c % Fe.P))):=hd.1 rfl
   clear hd
   simp only [e28] at hK
   have hK:=Lib.hid hK
   go_wp2
   exact hK.out _ _ rfl (.refl _ _) nof
  trivial
 intro ff yw hb hf hne
 refine wpList_nil ?_
 have d4:ff 4=.bool (decide ((b*c2 % Fe.P)=(b2*c % Fe.P))):=hf 24 _ _ (by decide) rfl rfl
 clear hf hne
 replace hb0:=hb0.trans (hb.mono hb0.size)
 simp only [d4]
 clear d4
 go_wp2
 go_returns
 exact ⟨by unfold sameP;rw [hE];simp only [Bool.true_and];rfl,hb0⟩
end Go.Proofs.YtnopjabcdloepaaGreatDoor
