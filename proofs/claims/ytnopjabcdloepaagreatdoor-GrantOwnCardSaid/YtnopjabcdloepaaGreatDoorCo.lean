import Derived.Test.YtnopjabcdloepaaGreatDoorCp
namespace Go.Proofs.YtnopjabcdloepaaGreatDoor
open Go Go.RowKit
set_option maxRecDepth 20000 in
set_option maxHeartbeats 1500000 in
theorem verify_x3 (p:Option Addr) (c g o d:Nat) (s:Nat→Int) (v:Value) (w:World) (hd:64≤d) (hs:Sc.Byt s) (hg:g<w.heap.size) (hc:∀ j,j<64→w.cell? ⟨g,o+j,none⟩=some (.int .u8 (s j))) (hno:¬ Sc.leV (fun j=>s (32+j)) 32<LI):Calls Tryz.prog 82 #[.slice p 32 c,.slice (some ⟨g,o,none⟩) 64 d,v] w (PostV (.bool false) w):=by
 have hs2:Sc.Byt (fun j=>s (32+j)):=fun j=>hs _
 have e:(fun j=>((toF (fun j=>s (32+j)) j).val:Int))=fun j=>s (32+j):=funext fun j=>toF_val (hs2 j)
 have hr:=right_c (some ⟨g,o+32,none⟩) (d-32) (toF (fun j=>s (32+j))) w (by rw [e];exact fun _=>⟨g,o+32,rfl,hg,fun j hj=>by rw [Nat.add_assoc];exact hc _ (by omega)⟩)
 rw [e,decide_eq_false hno] at hr
 replace hr:=Lib.hid hr
 have hd1:(64:Int)≤(d:Int):=by omega
 clear hc hs hs2 e
 go_enter Tryz.func82,Tryz.ntmps82
 go_wp2_with fail
 refine hr.out.mono ?_
 rintro e w2 ⟨rfl,hb⟩
 replace hb:=Lib.hid hb
 go_wp2_with fail
 go_returns
 exact ⟨rfl,hb.out⟩
theorem getb_c (g o c:Nat) (b:Nat→Int) (hr:∀ j,0≤b j∧b j<256) (w:World) (hg:g<w.heap.size) (hc:∀ j,j<32→w.cell? ⟨g,o+j,none⟩=some (.int .u8 (b j))) (hCv:CvP w) :
  Calls Tryz.prog 163 #[.slice (some ⟨g,o,none⟩) 32 c] w fun e w'=>∃ X Y Z T,e=.returned (.tuple #[.agg (pcs X Y Z T),.bool (Fe.okB b)])∧(Fe.okB b=true→PtE X Y Z T (Fe.zf (Fe.gX (Fe.nB b) (Fe.odB b))) (Fe.zf (Fe.nB b)))∧Below w.heap.size w w':=by
 by_cases h:Fe.okB b=true
 ·refine (getq_c g o c b hr w hg hc hCv h).mono ?_
  rintro e w' ⟨X,Y,Z,T,he,hp,hb⟩
  exact ⟨X,Y,Z,T,by rw [h];exact he,fun _=>hp,hb⟩
 have h2:Fe.okB b=false:=by simpa using h
 refine (getn_c g o c b hr w hg hc hCv h2).mono ?_
 rintro e w' ⟨he,hb⟩
 exact ⟨_,_,_,_,by rw [h2];exact he,fun k=>absurd k h,hb⟩
def HowP (H:Int):Value→World→Prop:=fun v w=>∃ g c,v=.slice (some ⟨g,0,none⟩) 32 c∧RowB w g 32 c (Sc.byt H)
theorem sta_how (H:Int):Sta (HowP H):=fun _ _ _ h hb=>h.elim fun g h=>h.elim fun c h=>⟨g,c,h.1,h.2.below hb⟩
def verL (g1:Nat) (o1:Nat) (c:Nat) (g:Nat) (o:Nat) (d:Nat) (v:Value) (H:Int) (Qp:Fe.Pt) (A:Fe.Pt) (R:Fe.Pt):List (Value→World→Prop):=[
 Eq1 (.bool true),
 Eq1 (.bool true),
 Eq1 (.bool true),
 Eq1 (.bool true),
 Eq1 (.bool true),
 Eq1 (.slice (some ⟨g,o,none⟩) 64 d),
 Eq1 (.slice (some ⟨g,o,none⟩) 32 d),
 Eq1 (.slice (some ⟨g1,o1,none⟩) 32 c),
 Eq1 (v),
 HowP H,
 PqP A.1 A.2,
 PqP (-A.1) A.2,
 Eq1 (.slice (some ⟨g,o,none⟩) 64 d),
 Eq1 (.slice (some ⟨g,o+32,none⟩) 32 (d-32)),
 PqP Qp.1 Qp.2,
 PqP R.1 R.2,
 Eq1 (.bool (decide (Qp.1=R.1)&&decide (Qp.2=R.2))),
 Eq1 (.bool (decide (Qp.1=R.1)&&decide (Qp.2=R.2))),
 Eq1 (.bool (decide (Qp.1=R.1)&&decide (Qp.2=R.2)))]
theorem verS (g1:Nat) (o1:Nat) (c:Nat) (g:Nat) (o:Nat) (d:Nat) (v:Value) (H:Int) (Qp:Fe.Pt) (A:Fe.Pt) (R:Fe.Pt):∀ j x' q q',(verL g1 o1 c g o d v H Qp A R).getD j (fun _ _=>True) x' q→Below q.heap.size q q'→(verL g1 o1 c g o d v H Qp A R).getD j (fun _ _=>True) x' q':=by
 refine sta_all _ ?_
 simp only [verL,List.mem_cons,forall_eq_or_imp,List.not_mem_nil,false_implies,implies_true,and_true]
 exact ⟨sta_eq _,sta_eq _,sta_eq _,sta_eq _,sta_eq _,sta_eq _,sta_eq _,sta_eq _,sta_eq _,sta_how _,sta_pq _ _,sta_pq _ _,sta_eq _,sta_eq _,sta_pq _ _,sta_pq _ _,sta_eq _,sta_eq _,sta_eq _⟩
set_option maxRecDepth 20000 in
set_option maxHeartbeats 4000000 in
theorem verify_c (g1 o1 c g o d:Nat) (b s:Nat→Int) (v:Value) (cs:List Value) (l:Sh.Ps) (w:World) (hc32:32≤c) (hd:64≤d) (hb:Sc.Byt b) (hs:Sc.Byt s) (hg1:g1<w.heap.size) (hc1:∀ j,j<32→w.cell? ⟨g1,o1+j,none⟩=some (.int .u8 (b j))) (hg:g<w.heap.size) (hc:∀ j,j<64→w.cell? ⟨g,o+j,none⟩=some (.int .u8 (s j))) (hlt:Sc.leV (fun j=>s (32+j)) 32<LI) (hCv:CvP w) (hv:Parts w v cs) (hl:PVs w cs l) (hrl:Sh.BytI l) (hn:Sh.lenI l≤1000000) (hk:cs.length≤10000) (hS:ShP w) (hB:3<w.heap.size):Calls Tryz.prog 82 #[.slice (some ⟨g1,o1,none⟩) 32 c,.slice (some ⟨g,o,none⟩) 64 d,v] w (PostV (.bool (Sh.verI b s l)) w):=by
 have hs2:Sc.Byt (fun j=>s (32+j)):=fun j=>hs _
 have e:(fun j=>((toF (fun j=>s (32+j)) j).val:Int))=fun j=>s (32+j):=funext fun j=>toF_val (hs2 j)
 have hr:=right_c (some ⟨g,o+32,none⟩) (d-32) (toF (fun j=>s (32+j))) w (by rw [e];exact fun _=>⟨g,o+32,rfl,hg,fun j hj=>by rw [Nat.add_assoc];exact hc _ (by omega)⟩)
 rw [e,decide_eq_true hlt] at hr
 replace hr:=Lib.hid hr
 have hd1:(64:Int)≤(d:Int):=by omega
 have hd2:(32:Int)≤(d:Int):=by omega
 obtain ⟨A,hA⟩:∃ A,A=Sh.gP (Sh.cut b):=⟨_,rfl⟩
 obtain ⟨R,hR⟩:∃ R,R=Sh.gP (Sh.cut s):=⟨_,rfl⟩
 obtain ⟨H,hH⟩:∃ H,H=Sh.numI ((32,s)::(32,b)::l):=⟨_,rfl⟩
 obtain ⟨Qp,hQp⟩:∃ Qp,Qp=Fe.gad (Fe.nP (Sc.leV (Sc.byt H) 32).toNat (Fe.neg2 A)) (Fe.nP (Sc.leV (fun j=>s (32+j)) 32).toNat Fe.Bp):=⟨_,rfl⟩
 have hE:Sh.verI b s l=(Fe.okB (Sh.cut b)&&(Fe.okB (Sh.cut s)&&(decide (Qp.1=R.1)&&decide (Qp.2=R.2)))):=by
  unfold Sh.verI Sh.hash3
  rw [decide_eq_true hlt,← hA,← hR,← hH,← hQp]
  rfl
 have hG1:=fun w1 (h:Below w.heap.size w w1)=>getb_c g1 o1 c (Sh.cut b) (Sh.cut_byt hb) w1 (Nat.lt_of_lt_of_le hg1 h.size) (fun j hj=>((h.cell (p:=⟨g1,o1+j,none⟩) hg1).trans (hc1 j hj)).trans (by unfold Sh.cut;rw [if_pos hj])) (hCv.below h hCv.lt)
 have hG2:=fun w1 (h:Below w.heap.size w w1)=>getb_c g o d (Sh.cut s) (Sh.cut_byt hs) w1 (Nat.lt_of_lt_of_le hg h.size) (fun j hj=>((h.cell (p:=⟨g,o+j,none⟩) hg).trans (hc j (by omega))).trans (by unfold Sh.cut;rw [if_pos hj])) (hCv.below h hCv.lt)
 rw [show Fe.zf (Fe.gX (Fe.nB (Sh.cut b)) (Fe.odB (Sh.cut b)))=A.1 by rw [hA];rfl,show Fe.zf (Fe.nB (Sh.cut b))=A.2 by rw [hA];rfl] at hG1
 rw [show Fe.zf (Fe.gX (Fe.nB (Sh.cut s)) (Fe.odB (Sh.cut s)))=R.1 by rw [hR];rfl,show Fe.zf (Fe.nB (Sh.cut s))=R.2 by rw [hR];rfl] at hG2
 have hhow:=Lib.hid (fun w1 (h:Below w.heap.size w w1)=>how_c (.slice (some ⟨g,o,none⟩) 32 d) (.slice (some ⟨g1,o1,none⟩) 32 c) v 32 32 s b cs l w1 ⟨_,d,rfl,by omega,fun _=>⟨g,o,rfl,Nat.lt_of_lt_of_le hg h.size,by simp,fun j hj=>(h.cell (p:=⟨g,o+j,none⟩) hg).trans (hc j (by omega))⟩⟩ ⟨_,c,rfl,hc32,fun _=>⟨g1,o1,rfl,Nat.lt_of_lt_of_le hg1 h.size,by simp,fun j hj=>(h.cell (p:=⟨g1,o1+j,none⟩) hg1).trans (hc1 j hj)⟩⟩ (hv.below h) (hl.below h) ⟨fun j _=>hs j,fun j _=>hb j,hrl⟩ (by show 32+(32+Sh.lenI l)≤10000000;omega) (by omega) (hS.below h hB) (by have:=h.size;omega))
 rw [← hH] at hhow
 have hboth:=fun w1 g9 c9 (X Y Z T:Fe.E) (h:Below w.heap.size w w1) (hR:RowB w1 g9 32 c9 (Sc.byt H)) (hp:PtE X Y Z T (-A.1) A.2)=>fboth_c (p:=Fe.neg2 A) g9 0 c9 (Sc.byt_r H) g (o+32) (d-32) hs2 w1 hR.lt (fun j hj=>by rw [Nat.zero_add];exact hR.cell j hj) (Nat.lt_of_lt_of_le hg h.size) (fun j hj=>by rw [Nat.add_assoc];exact (h.cell (p:=⟨g,o+(32+j),none⟩) hg).trans (hc _ (by omega))) hp (hCv.below h hCv.lt)
 rw [← hQp] at hboth
 rw [hE]
 clear hE hQp hH hA hR hCv hc hv hl hrl hS hs hb hc1 hs2 e hlt
 generalize Fe.okB (Sh.cut b)=ok at *
 generalize Fe.okB (Sh.cut s)=ok2 at *
 obtain ⟨E,hE⟩:∃ E,E=(ok&&(ok2&&(decide (Qp.1=R.1)&&decide (Qp.2=R.2)))):=⟨_,rfl⟩
 rw [← hE]
 replace hE:=Lib.hid hE
 replace hG1:=Lib.hid hG1
 replace hG2:=Lib.hid hG2
 replace hboth:=Lib.hid hboth
 go_enter Tryz.func82,Tryz.ntmps82
 go_wp2_with fail
 refine hr.out.mono ?_
 rintro e w2 ⟨rfl,hb2⟩
 clear hr
 have hk1:=Lib.hid (hG1.out w2 hb2)
 clear hG1
 replace hb2:=Lib.hid hb2
 go_wp2_with fail
 refine hk1.out.mono ?_
 rintro e w3 ⟨X,Y,Z,T,rfl,hp,hb3⟩
 replace hp:=Lib.hid hp
 replace hb3:=Lib.hid (hb2.out.trans (hb3.mono hb2.out.size))
 go_wp2_with (refine stPt rfl rfl rfl rfl (Blk.new _ _ _) rfl rfl (by kernel_rfl) ?_;intro w4 k4 hgr4 hsz4)
 have hb4:Below w.heap.size w w4:=(hb3.out.alloc hb3.out.size _).grown hgr4 (by have:=hb3.out.size;rw [World.size_alloc];omega) (fun k hk=>by injection hk with hk;have:=hb3.out.size;omega)
 obtain ⟨GA,hGA⟩:∃ GA,GA=w3.heap.size:=⟨_,rfl⟩
 rw [← hGA] at k4 ⊢
 clear hgr4 hsz4 hb3 hGA
 have hk2:=Lib.hid (hG2.out w4 hb4)
 clear hG2 hb2
 replace hb4:=Lib.hid hb4
 replace k4:=Lib.hid k4
 refine hk2.out.mono ?_
 rintro e w5 ⟨X2,Y2,Z2,T2,rfl,hp2,hb5⟩
 replace hp2:=Lib.hid hp2
 have k5:=Lib.hid (k4.out.below hb5)
 replace hb5:=Lib.hid (hb4.out.trans (hb5.mono hb4.out.size))
 clear hb4 k4 hk2 hk1
 go_wp2_with (refine stPt rfl rfl rfl rfl (Blk.new _ _ _) rfl rfl (by kernel_rfl) ?_;intro w6 k6 hgr6 hsz6)
 have hb6:Below w.heap.size w w6:=(hb5.out.alloc hb5.out.size _).grown hgr6 (by have:=hb5.out.size;rw [World.size_alloc];omega) (fun k hk=>by injection hk with hk;have:=hb5.out.size;omega)
 have k7:Blk w6 GA 204 (pcs X Y Z T):=((k5.out.alloc _).grown hgr6 (fun e=>by injection e with e;have:=k5.out.lt;omega))
 obtain ⟨GB,hGB⟩:∃ GB,GB=w5.heap.size:=⟨_,rfl⟩
 rw [← hGB] at k6 ⊢
 clear hgr6 hsz6 hb5 k5 hGB
 cases ok with
 | false =>
  have hE0:=Lib.hid (show E=false from hE.out)
  clear hE hp hp2 hhow hboth
  replace hb6:=Lib.hid hb6
  go_wp2_with fail
  go_region
  all_goals (go_wp2;go_returns;exact ⟨by rw [hE0.out];rfl,hb6.out.drew⟩)
 | true =>
  cases ok2 with
  | false =>
   have hE0:=Lib.hid (show E=false from hE.out)
   clear hE hp hp2 hhow hboth
   replace hb6:=Lib.hid hb6
   go_wp2_with fail
   go_region
   all_goals (go_wp2;go_returns;exact ⟨by rw [hE0.out];rfl,hb6.out.drew⟩)
  | true =>
   have hsz6:=hb6.size
   have hhow2:=Lib.hid (fun w' (h:Below w6.heap.size w6 w')=>hhow.out w' (hb6.trans (h.mono hsz6)))
   have hboth2:=Lib.hid (fun w' g9 c9 X Y Z T (h:Below w6.heap.size w6 w')=>hboth.out w' g9 c9 X Y Z T (hb6.trans (h.mono hsz6)))
   clear hhow hboth
   have hhow:=hhow2
   have hboth:=hboth2
   clear hhow2 hboth2
   have hA:=hp.out rfl
   have hR2:=hp2.out rfl
   clear hp hp2
   replace hE:=Lib.hid (show E=(decide (Qp.1=R.1)&&decide (Qp.2=R.2)) from hE.out)
   go_wp2_with fail
   refine wp_region_grow2 19 (fun k=>Nat.beq k 6||(Nat.ble 36 k&&Nat.ble k 53)) _ [] (fun j x' q=>(verL g1 o1 c g o d v H Qp A R).getD j (fun _ _=>True) x' q) (fun _=>false) (fun f=>#[.slice (some ⟨g1,o1,none⟩) 32 c,.slice (some ⟨g,o,none⟩) 64 d,v,_,_,_,f 6,.pointer (some ⟨GA,0,none⟩),.bool true,.pointer (some ⟨GB,0,none⟩),.bool true,_,_,_,_,_,_,_,_,_,_,_,_,_,_,_,_,_,_,_,_,_,_,_,_,_,f 36,f 37,f 38,f 39,f 40,f 41,f 42,f 43,f 44,f 45,f 46,f 47,f 48,f 49,f 50,f 51,f 52,f 53]) (fun f=>rfl) (by kernel_rfl) (by kernel_rfl) (by kernel_rfl) (by kernel_rfl) (by kernel_rfl) (verS _ _ _ _ _ _ _ _ _ _ _) (fun _ _ _ h=>by cases h) ?_ ?_
   ·refine steps2_cons ?_ ?_
    ·as_aux_lemma =>
     intro f w1 hb hd Q hK
     clear hd
     have hK:=Lib.hid hK
     go_wp2
     exact hK.out _ _ rfl (.refl _ _) nof
    refine steps2_cons ?_ ?_
    ·as_aux_lemma =>
     intro f w1 hb hd Q hK
     have e36:f 36=.bool true:=hd.1 rfl
     clear hd
     simp only [e36] at hK
     have hK:=Lib.hid hK
     go_wp2
     exact hK.out _ _ rfl (.refl _ _) nof
    refine steps2_cons ?_ ?_
    ·as_aux_lemma =>
     intro f w1 hb hd Q hK
     have e37:f 37=.bool true:=hd.1 rfl
     clear hd
     simp only [e37] at hK
     have hK:=Lib.hid hK
     go_wp2
     exact hK.out _ _ rfl (.refl _ _) nof
    refine steps2_cons ?_ ?_
    ·as_aux_lemma =>
     intro f w1 hb hd Q hK
     have e37:f 37=.bool true:=hd.1 rfl
     have e38:f 38=.bool true:=hd.2.1 rfl
     clear hd
     simp only [e37,e38] at hK
     have hK:=Lib.hid hK
     go_wp2
     exact hK.out _ _ rfl (.refl _ _) nof
    refine steps2_cons ?_ ?_
    ·as_aux_lemma =>
     intro f w1 hb hd Q hK
     have e39:f 39=.bool true:=hd.1 rfl
     clear hd
     simp only [e39] at hK
     have hK:=Lib.hid hK
     go_wp2
     exact hK.out _ _ rfl (.refl _ _) nof
    refine steps2_cons ?_ ?_
    ·as_aux_lemma =>
     intro f w1 hb hd Q hK
     have e40:f 40=.bool true:=hd.1 rfl
     clear hd
     simp only [e40] at hK
     have hK:=Lib.hid hK
     go_wp2
     exact hK.out _ _ rfl (.refl _ _) nof
    refine steps2_cons ?_ ?_
    ·as_aux_lemma =>
     intro f w1 hb hd Q hK
     have e41:f 41=.slice (some ⟨g,o,none⟩) 64 d:=hd.1 rfl
     have e40:f 40=.bool true:=hd.2.1 rfl
     clear hd
     simp only [e41,e40] at hK
     have hK:=Lib.hid hK
     go_wp2
     exact hK.out _ _ rfl (.refl _ _) nof
    refine steps2_cons ?_ ?_
    ·as_aux_lemma =>
     intro f w1 hb hd Q hK
     have e40:f 40=.bool true:=hd.1 rfl
     clear hd
     simp only [e40] at hK
     have hK:=Lib.hid hK
     go_wp2
     exact hK.out _ _ rfl (.refl _ _) nof
    refine steps2_cons ?_ ?_
    ·as_aux_lemma =>
     intro f w1 hb hd Q hK
     have e40:f 40=.bool true:=hd.1 rfl
     clear hd
     simp only [e40] at hK
     have hK:=Lib.hid hK
     go_wp2
     exact hK.out _ _ rfl (.refl _ _) nof
    refine steps2_cons ?_ ?_
    ·as_aux_lemma =>
     intro f w1 hb hd Q hK
     have e42:f 42=.slice (some ⟨g,o,none⟩) 32 d:=hd.1 rfl
     have e43:f 43=.slice (some ⟨g1,o1,none⟩) 32 c:=hd.2.1 rfl
     have e44:f 44=v:=hd.2.2.1 rfl
     have e40:f 40=.bool true:=hd.2.2.2.1 rfl
     clear hd
     simp only [e42,e43,e44,e40] at hK
     have hK:=Lib.hid hK
     go_wp2_with fail
     refine (hhow.out w1 hb).mono ?_
     rintro e w2 ⟨g,c,rfl,hg,hR,hb2⟩
     go_wp2
     exact hK.out _ _ ⟨g,c,rfl,hR⟩ hb2 nof
    refine steps2_cons ?_ ?_
    ·as_aux_lemma =>
     intro f w1 hb hd Q hK
     have e40:f 40=.bool true:=hd.1 rfl
     clear hd
     simp only [e40] at hK
     have hK:=Lib.hid hK
     refine ldPtG (by simp only [e40];kernel_rfl) rfl rfl (k7.below hb) ?_
     refine wpList_nil ?_
     simp only [e40]
     exact hK.out _ _ ⟨_,_,_,_,rfl,hA⟩ (.refl _ _) nof
    refine steps2_cons ?_ ?_
    ·as_aux_lemma =>
     intro f w1 hb hd Q hK
     obtain ⟨X46,Y46,Z46,T46,e46,h46⟩:=(hd.1 rfl:PqP A.1 A.2 (f 46) w1)
     have e40:f 40=.bool true:=hd.2.2.1 rfl
     clear hd
     simp only [e46,e40] at hK
     have hK:=Lib.hid hK
     go_wp2_with fail
     refine (pneg_c _ h46).mono ?_
     rintro e w2 ⟨X,Y,Z,T,rfl,hx,hb2⟩
     go_wp2
     exact hK.out _ _ ⟨X,Y,Z,T,rfl,hx⟩ hb2 nof
    refine steps2_cons ?_ ?_
    ·as_aux_lemma =>
     intro f w1 hb hd Q hK
     have e40:f 40=.bool true:=hd.1 rfl
     clear hd
     simp only [e40] at hK
     have hK:=Lib.hid hK
     go_wp2
     exact hK.out _ _ rfl (.refl _ _) nof
    refine steps2_cons ?_ ?_
    ·as_aux_lemma =>
     intro f w1 hb hd Q hK
     have e48:f 48=.slice (some ⟨g,o,none⟩) 64 d:=hd.1 rfl
     have e40:f 40=.bool true:=hd.2.1 rfl
     clear hd
     simp only [e48,e40] at hK
     have hK:=Lib.hid hK
     go_wp2
     exact hK.out _ _ rfl (.refl _ _) nof
    refine steps2_cons ?_ ?_
    ·as_aux_lemma =>
     intro f w1 hb hd Q hK
     obtain ⟨g45,c45,e45,h45⟩:=(hd.1 rfl:HowP H (f 45) w1)
     obtain ⟨X47,Y47,Z47,T47,e47,h47⟩:=(hd.2.1 rfl:PqP (-A.1) A.2 (f 47) w1)
     have e49:f 49=.slice (some ⟨g,o+32,none⟩) 32 (d-32):=hd.2.2.1 rfl
     have e40:f 40=.bool true:=hd.2.2.2.2.1 rfl
     clear hd
     simp only [e45,e47,e49,e40] at hK
     have hK:=Lib.hid hK
     go_wp2_with fail
     refine (hboth.out w1 g45 c45 _ _ _ _ hb h45 h47).mono ?_
     rintro e w2 ⟨X,Y,Z,T,rfl,hx,hb2⟩
     go_wp2
     exact hK.out _ _ ⟨X,Y,Z,T,rfl,hx⟩ hb2 nof
    refine steps2_cons ?_ ?_
    ·as_aux_lemma =>
     intro f w1 hb hd Q hK
     have e40:f 40=.bool true:=hd.1 rfl
     clear hd
     simp only [e40] at hK
     have hK:=Lib.hid hK
     refine ldPtG (by simp only [e40];kernel_rfl) rfl rfl (k6.below hb) ?_
     refine wpList_nil ?_
     simp only [e40]
     exact hK.out _ _ ⟨_,_,_,_,rfl,hR2⟩ (.refl _ _) nof
    refine steps2_cons ?_ ?_
    ·as_aux_lemma =>
     intro f w1 hb hd Q hK
     obtain ⟨X50,Y50,Z50,T50,e50,h50⟩:=(hd.1 rfl:PqP Qp.1 Qp.2 (f 50) w1)
     obtain ⟨X51,Y51,Z51,T51,e51,h51⟩:=(hd.2.1 rfl:PqP R.1 R.2 (f 51) w1)
     have e40:f 40=.bool true:=hd.2.2.2.1 rfl
     clear hd
     simp only [e50,e51,e40] at hK
     have hK:=Lib.hid hK
     go_wp2_with fail
     refine (pssame_c w1 h50 h51).mono ?_
     rintro e w2 ⟨rfl,hb2⟩
     go_wp2
     exact hK.out _ _ rfl hb2 nof
    refine steps2_cons ?_ ?_
    ·as_aux_lemma =>
     intro f w1 hb hd Q hK
     have e40:f 40=.bool true:=hd.1 rfl
     have e52:f 52=.bool (decide (Qp.1=R.1)&&decide (Qp.2=R.2)):=hd.2.1 rfl
     clear hd
     simp only [e40,e52] at hK
     have hK:=Lib.hid hK
     go_wp2
     exact hK.out _ _ rfl (.refl _ _) nof
    refine steps2_cons ?_ ?_
    ·as_aux_lemma =>
     intro f w1 hb hd Q hK
     have e53:f 53=.bool (decide (Qp.1=R.1)&&decide (Qp.2=R.2)):=hd.1 rfl
     clear hd
     simp only [e53] at hK
     have hK:=Lib.hid hK
     go_wp2
     exact hK.out _ _ rfl (.refl _ _) nof
    trivial
   intro f9 w7 hb hf hne
   refine wpList_nil ?_
   have d6:f9 6=.bool (decide (Qp.1=R.1)&&decide (Qp.2=R.2)):=hf 18 _ _ (by decide) rfl rfl
   simp only [d6]
   clear hf hne d6 k6 k7 hA hR2 hhow hboth
   go_wp2
   go_returns
   exact ⟨by rw [hE.out];rfl,hb6.trans (hb.mono hsz6)⟩
theorem Verify_c (g1 o1 c g o d:Nat) (b s:Nat→Int) (v:Value) (cs:List Value) (l:Sh.Ps) (w:World) (hc32:32≤c) (hd:64≤d) (hb:Sc.Byt b) (hs:Sc.Byt s) (hg1:g1<w.heap.size) (hc1:∀ j,j<32→w.cell? ⟨g1,o1+j,none⟩=some (.int .u8 (b j))) (hg:g<w.heap.size) (hc:∀ j,j<64→w.cell? ⟨g,o+j,none⟩=some (.int .u8 (s j))) (hCv:CvP w) (hv:Parts w v cs) (hl:PVs w cs l) (hrl:Sh.BytI l) (hn:Sh.lenI l≤1000000) (hk:cs.length≤10000) (hS:ShP w) (hB:3<w.heap.size):Calls Tryz.prog 82 #[.slice (some ⟨g1,o1,none⟩) 32 c,.slice (some ⟨g,o,none⟩) 64 d,v] w (PostV (.bool (Sh.verI b s l)) w):=by
 by_cases h:Sc.leV (fun j=>s (32+j)) 32<LI
 ·exact verify_c g1 o1 c g o d b s v cs l w hc32 hd hb hs hg1 hc1 hg hc h hCv hv hl hrl hn hk hS hB
 have e:Sh.verI b s l=false:=by unfold Sh.verI;rw [decide_eq_false h];rfl
 rw [e]
 exact verify_x3 (some ⟨g1,o1,none⟩) c g o d s v w hd hs hg hc h
end Go.Proofs.YtnopjabcdloepaaGreatDoor
