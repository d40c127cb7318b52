import Derived.Test.YtnopjabcdloepaaGreatDoorYc
import Derived.Test.YtnopjabcdloepaaGreatDoorZd
namespace Sc
open Go.Proofs.YtnopjabcdloepaaGreatDoor
def leV (b:Nat→Int):Nat→Int
 | 0=>0
 | n+1=>leV b n+256 ^ n*b n
theorem leV_shift (b:Nat→Int):∀ n,leV b (n+1)=b 0+256*leV (fun j=>b (j+1)) n
 | 0=>by simp [leV]
 | n+1=>by
  rw [leV,leV_shift b n,leV,Int.mul_add,← Int.mul_assoc,Int.add_assoc]
  congr 2
  rw [Int.pow_succ,Int.mul_comm (256 ^ n) 256]
theorem leV_bd {b:Nat→Int} (h:∀ j,0≤b j∧b j<256):∀ n,0≤leV b n∧leV b n<256 ^ n
 | 0=>by simp [leV]
 | n+1=>by
  have ih:=leV_bd h n
  have h1:=h n
  rw [leV,Int.pow_succ]
  have hp:(0:Int)<256 ^ n:=by omega
  have h2:0≤256 ^ n*b n:=Int.mul_nonneg (by omega) h1.1
  have h3:256 ^ n*b n≤256 ^ n*255:=Int.mul_le_mul_of_nonneg_left (by omega) (by omega)
  omega
def remS (s:List (Nat × Fin 256)):Int:=s.foldl (fun s e=>(256*s+(e.2.val:Int)) % LI) 0
theorem remS_snoc (l:List (Nat × Fin 256)) (e:Nat × Fin 256):remS (l++[e])=(256*remS l+(e.2.val:Int)) % LI:=by simp [remS]
theorem remS_bd (l:List (Nat × Fin 256)):0≤remS l∧remS l<LI:=by
 rcases List.eq_nil_or_concat l with rfl | ⟨l,e,rfl⟩
 ·exact ⟨by decide,by unfold LI;decide⟩
 rw [List.concat_eq_append,remS_snoc]
 exact ⟨Int.emod_nonneg _ (by unfold LI;decide),Int.emod_lt_of_pos _ (by unfold LI;decide)⟩
theorem remS_upto (b:Nat→Fin 256) (m:Nat):∀ k,k≤m→remS (upto (fun i=>(m-1-i,b (m-1-i))) k)=leV (fun j=>((b (m-k+j)).val:Int)) k % LI
 | 0,_=>rfl
 | k+1,h=>by
  rw [upto_succ,remS_snoc,remS_upto b m k (by omega),leV_shift]
  have e1:(fun j=>((b (m-(k+1)+(j+1))).val:Int))=fun j=>((b (m-k+j)).val:Int):=by
   funext j
   rw [show m-(k+1)+(j+1)=m-k+j by omega]
  rw [e1,show m-(k+1)+0=m-1-k by omega,Int.add_comm ((b (m-1-k)).val:Int)]
  rw [Int.add_emod,Int.mul_emod,Int.emod_emod_of_dvd _ (Int.dvd_refl _),← Int.mul_emod,← Int.add_emod]
theorem remS_all (b:Nat→Fin 256) (m:Nat):remS (upto (fun i=>(m-1-i,b (m-1-i))) m)=leV (fun j=>((b j).val:Int)) m % LI:=by
 rw [remS_upto b m m (Nat.le_refl _)]
 congr 2
 funext j
 rw [Nat.sub_self,Nat.zero_add]
def byt (N:Int) (j:Nat):Int:=N / 256 ^ j % 256
end Sc
namespace Go.Proofs.YtnopjabcdloepaaGreatDoor
open Go.RowKit Go.Shelf
attribute [local go_sem] Oper.semAt_some
def KpY (Bs m:Nat) (p:Option Addr) (W W':World):Prop:=(∀ g o j,0<m→p=some ⟨g,o,none⟩→W'.cell? ⟨g,o+j,none⟩=W.cell? ⟨g,o+j,none⟩)∧W'.cell? ⟨Bs,0,none⟩=W.cell? ⟨Bs,0,none⟩
theorem KpY.refl (Bs m:Nat) (p:Option Addr) (W:World):KpY Bs m p W W:=⟨fun _ _ _ _ _=>rfl,rfl⟩
theorem KpY.trans {Bs m:Nat} {p:Option Addr} {A B C:World} (h:KpY Bs m p A B) (k:KpY Bs m p B C):KpY Bs m p A C:=⟨fun g o j h0 e=>(k.1 g o j h0 e).trans (h.1 g o j h0 e),k.2.trans h.2⟩
theorem ybk_c (p:Option Addr) (m c:Nat) (w:World):Calls Tryz.prog 320 #[.slice p m c] w fun e w'=>e=.returned (.func (.func 352) #[] #[.pointer (some ⟨w.heap.size,0,none⟩)])∧w'=w.alloc (.cells #[.slice p m c] 22):=by
 go_enter Tryz.func320,Tryz.ntmps320
 go_wp2
 go_returns
 exact ⟨rfl,rfl⟩
set_option maxRecDepth 100000 in
set_option maxHeartbeats 2000000 in
theorem ybk1_in (F:Fence) (n:Nat) (hf:F.fn 352) (hro:F.round=none) (hn:1≤n) (l Bs m c:Nat) (p:Option Addr) (b:Nat→Fin 256) (hm:m≤1000000) (J Jx:List (Nat × Fin 256)→World→Prop)
  (hY:∀ pre x W,J pre W→pre.length<m→YieldAt F (n-1) Tryz.prog l #[.int .i64 (x.1:Int),.int .u8 (x.2.val:Int)] W fun e W' =>
   (e=.returned (.bool true)∧J (pre++[x]) W'∧KpY Bs m p W W')∨(e=.returned (.bool false)∧Jx (pre++[x]) W'))
  (W:World) (hBs:W.cell? ⟨Bs,0,none⟩=some (.slice p m c)) (hc:BAt W p m (fun j=>((b j).val:Int))) (h0:J [] W) :
  CallsIn F n Tryz.prog 352 #[.func (.yield l) #[] #[],.pointer (some ⟨Bs,0,none⟩)] W fun e W'=>(∃ v,e=.returned v) ∧
   ((∃ ys,ys=upto (fun i=>(m-1-i,b (m-1-i))) m∧J ys W')∨(∃ pre,True∧Jx pre W')):=by
 replace hY:=Lib.hid hY
 replace hc:=Lib.hid hc
 refine callsIn_of_wp Tryz.func352 rfl hf ?_ hro
 simp only [Tryz.ntmps352,List.size_toArray,List.length_cons,List.length_nil,Nat.reduceAdd,Nat.reduceSub,Array.replicate_succ,Array.replicate_zero,List.push_toArray,List.append_toArray,List.nil_append,List.cons_append]
 gi_wp2
 gi_loopw [3] (fun i wr=>∃ k:Nat,k≤m∧i=.int .i64 ((m:Int)-1-k)∧J (upto (fun i=>(m-1-i,b (m-1-i))) k) wr∧KpY Bs m p W wr)
  (fun i _=>(intOf i+1).toNat)
 case atStart=>exact ⟨0,Nat.zero_le _,by simp,h0,KpY.refl _ _ _ _⟩
 case round =>
  obtain ⟨k,hk,rfl,hJs,hnx⟩:=hrel
  have hq:wr.cell? ⟨Bs,0,none⟩=some (.slice p m c):=hnx.2.trans hBs
  by_cases hlt:k<m
  ·obtain ⟨j,hj⟩:∃ j,j=m-1-k:=⟨_,rfl⟩
   obtain ⟨fn,tmps,assign,body,hy,hR⟩:=hY.out _ (m-1-k,b (m-1-k)) wr hJs (by rw [upto_length];exact hlt)
   obtain ⟨g,o,rfl,hg,hc2⟩:=hc.out (by omega)
   have hcx:wr.cell? ⟨g,o+j,none⟩=some (.int .u8 ((b j).val:Int)):=(hnx.1 g o j (by omega) rfl).trans (hc2 _ (by omega))
   have hi:((m:Int)-1-k)=(j:Int):=by omega
   rw [← hj] at hy hR
   dsimp only at hy
   rw [hi]
   have hjm:(j:Int)<(m:Int):=by omega
   have hj0:(0:Int)≤(j:Int):=by omega
   replace hj:=Lib.hid hj
   replace hi:=Lib.hid hi
   clear hc2
   gi_wp2
   refine hR.mono ?_
   rintro e W3 (⟨rfl,hJ3,hk3⟩ | ⟨rfl,hJx3⟩)
   ·gi_wp2
    go_roundw
    case rel=>exact ⟨k+1,by omega,by have:=hj.out;congr 1 <;> omega,by rw [upto_succ,← hj.out];exact hJ3,hnx.trans hk3⟩
    case measure=>have:=hj.out;first | (simp [intOf];done) | (simp [intOf];omega)
   gi_wp2
   refine bodyPost_ret (results_none rfl _ _ _) rfl ?_
   exact ⟨⟨_,rfl⟩,.inr ⟨_,trivial,hJx3⟩⟩
  obtain rfl:k=m:=by omega
  have hneg:((k:Int)-1-k) = -1:=by omega
  rw [hneg]
  gi_wp2
  go_end0
  exact ⟨⟨_,rfl⟩,.inl ⟨_,rfl,hJs⟩⟩
theorem ybk_stops (F:Fence) (n:Nat) (hf:F.fn 352) (hro:F.round=none) (hn:1≤n) (Bs m c:Nat) (p:Option Addr) (b:Nat→Fin 256) (hm:m≤1000000) (w:World) (hB:Bs<w.heap.size)
  (hBs:w.cell? ⟨Bs,0,none⟩=some (.slice p m c)) (hc:BAt w p m (fun j=>((b j).val:Int))) :
  SeqStopsK F n Tryz.prog 352 #[.pointer (some ⟨Bs,0,none⟩)] (fun x:Nat × Fin 256=>#[.int .i64 (x.1:Int),.int .u8 (x.2.val:Int)]) (KpY Bs m p) (fun ys=>ys=upto (fun i=>(m-1-i,b (m-1-i))) m) (fun _=>True) m w:=fun l J Jx W hW _ _ hY h0 =>
 ybk1_in F n hf hro hn l Bs m c p b hm J Jx hY W ((hW.cell (p:=⟨Bs,0,none⟩) hB).trans hBs) (hc.below hW) h0
theorem KpY.putObj {Bs m n₀ l:Nat} {p:Option Addr} {W:World} {o o':Obj} (h1:0<m→∀ ad,p=some ad→ad.block<n₀) (h2:Bs<n₀) (hl:n₀≤l) (h:W.heap[l]?=some o):KpY Bs m p W (W.putObj l o'):=by
 have hlt:l<W.heap.size:=(Array.getElem?_eq_some_iff.1 h).1
 have hb:Below n₀ W (W.putObj l o'):=(Below.refl n₀ W).grown (grownBy_putObj' W l o') (by omega) (fun k e=>by cases e;exact hl)
 exact ⟨fun g o j h0 e=>hb.cell (p:=⟨g,o+j,none⟩) (show g<n₀ from h1 h0 _ e),hb.cell (p:=⟨Bs,0,none⟩) h2⟩
theorem KpY.grown {Bs m GS:Nat} {p:Option Addr} {W W':World} (hg:W.grownBy W' (some GS)) (h1:0<m→∀ ad,p=some ad→ad.block<W.heap.size∧ad.block≠GS) (h2:Bs<W.heap.size) (n2:Bs≠GS):KpY Bs m p W W' :=
 ⟨fun g o j h0 e=>hg.cell_far ⟨g,o+j,none⟩ (show g<W.heap.size from (h1 h0 _ e).1) (fun e2=>(show g≠GS from (h1 h0 _ e).2) (Option.some.inj e2)),hg.cell_far ⟨Bs,0,none⟩ h2 (fun e=>n2 (Option.some.inj e))⟩
end Go.Proofs.YtnopjabcdloepaaGreatDoor
namespace Go.Proofs.YtnopjabcdloepaaGreatDoor
open Go.RowKit Go.Shelf
attribute [local go_sem] Oper.semAt_some
def wdE (d:Fe.E) (i:Nat):Int:=if i=0 then d.a0 else if i=1 then d.a1 else if i=2 then d.a2 else if i=3 then d.a3 else d.a4
theorem wd_cell {w:World} {g:Nat} {t:TypeId} {d:Fe.E} (h:Blk w g t #[.int .u64 d.a0,.int .u64 d.a1,.int .u64 d.a2,.int .u64 d.a3,.int .u64 d.a4]) (i:Nat) (hi:i<5):w.cell? ⟨g,i,none⟩=some (.int .u64 (wdE d i)):=by
 rw [h.cell i]
 match i,hi with
 | 0,_=>rfl
 | 1,_=>rfl
 | 2,_=>rfl
 | 3,_=>rfl
 | 4,_=>rfl
theorem mod64_byte (X r:Nat) (hr:r<8):X % 18446744073709551616 / 2 ^ (8*r) % 256=X / 256 ^ r % 256:=by
 have h:r=0∨r=1∨r=2∨r=3∨r=4∨r=5∨r=6∨r=7:=by omega
 rcases h with rfl | rfl | rfl | rfl | rfl | rfl | rfl | rfl <;> simp only [Nat.reduceMul,Nat.reducePow] <;> omega
theorem wd_byte {d:Fe.E} (hw:Fe.W d) (k:Nat) (hk:k<32):wdE d (k / 8) / 2 ^ (8*(k % 8)) % 256=Sc.byt (Sc.V d) k:=by
 obtain ⟨a0,a1,a2,a3,a4⟩:=d
 obtain ⟨⟨h0,k0⟩,⟨h1,k1⟩,⟨h2,k2⟩,⟨h3,k3⟩,⟨h4,k4⟩⟩:=hw
 dsimp only at h0 k0 h1 k1 h2 k2 h3 k3 h4 k4
 obtain ⟨a0,rfl⟩:=Int.eq_ofNat_of_zero_le h0
 obtain ⟨a1,rfl⟩:=Int.eq_ofNat_of_zero_le h1
 obtain ⟨a2,rfl⟩:=Int.eq_ofNat_of_zero_le h2
 obtain ⟨a3,rfl⟩:=Int.eq_ofNat_of_zero_le h3
 obtain ⟨a4,rfl⟩:=Int.eq_ofNat_of_zero_le h4
 obtain ⟨X,hX⟩:∃ X:Nat,Sc.V ⟨(a0:Int),a1,a2,a3,a4⟩=(X:Int)∧X=a0+18446744073709551616*a1+340282366920938463463374607431768211456*a2+6277101735386680763835789423207666416102355444464034512896*a3+115792089237316195423570985008687907853269984665640564039457584007913129639936*a4:=⟨_,by unfold Sc.V;dsimp only;omega,rfl⟩
 rw [hX.1]
 have hX2:=hX.2
 clear hX
 have hq:wdE ⟨(a0:Int),a1,a2,a3,a4⟩ (k / 8)=((X / 256 ^ (8*(k / 8)) % 18446744073709551616:Nat):Int):=by
  have h:k / 8=0∨k / 8=1∨k / 8=2∨k / 8=3:=by omega
  rcases h with h | h | h | h <;> rw [h] <;> simp [wdE] <;> omega
 rw [hq]
 have hb:=mod64_byte (X / 256 ^ (8*(k / 8))) (k % 8) (by omega)
 rw [Nat.div_div_eq_div_mul,← Nat.pow_add,show 8*(k / 8)+k % 8=k by omega] at hb
 generalize X / 256 ^ (8*(k / 8)) % 18446744073709551616=Y at *
 unfold Sc.byt
 have h1:((Y / 2 ^ (8*(k % 8)) % 256:Nat):Int)=(Y:Int) / 2 ^ (8*(k % 8)) % 256:=by rw [Int.natCast_emod,Int.natCast_ediv,Int.natCast_pow];rfl
 have h2:((X / 256 ^ k % 256:Nat):Int)=(X:Int) / 256 ^ k % 256:=by rw [Int.natCast_emod,Int.natCast_ediv,Int.natCast_pow];rfl
 rw [← h1,← h2,hb]
def RstB (w:World) (g:Nat) (N:Int):Prop:=∃ d:Fe.E,Fe.W d∧Sc.V d=N∧Blk w g 384 #[.int .u64 d.a0,.int .u64 d.a1,.int .u64 d.a2,.int .u64 d.a3,.int .u64 d.a4]
theorem wpIn_at {F:Fence} {n:Nat} {P:Program} {c:Code} {Q:Exit→Act→World→Prop} {a:Act} {W:World} (h:∀ W0,W0=W→Code.wpIn F n P c Q a W0):Code.wpIn F n P c Q a W:=h W rfl
theorem RstB.lt {w:World} {g:Nat} {N:Int} (h:RstB w g N):g<w.heap.size:=h.elim fun _ h=>h.2.2.lt
theorem RstB.below {w w':World} {g:Nat} {N:Int} (h:RstB w g N) (hb:Below w.heap.size w w'):RstB w' g N:=h.elim fun d h=>⟨d,h.1,h.2.1,h.2.2.below hb⟩
theorem RstB.grown {w w':World} {g:Nat} {N:Int} {row:Option Nat} (h:RstB w g N) (hb:w.grownBy w' row) (hg:some g≠row):RstB w' g N:=h.elim fun d h=>⟨d,h.1,h.2.1,h.2.2.grown hb hg⟩
set_option maxRecDepth 100000 in
set_option maxHeartbeats 4000000 in
theorem reduced_c (p:Option Addr) (m c:Nat) (hm:m≤1000000) (b:Nat→Fin 256) (w:World) (hB:BAt w p m (fun j=>((b j).val:Int))) :
  Calls Tryz.prog 249 #[.slice p m c] w (PostBs 32 (Sc.byt (Sc.leV (fun j=>((b j).val:Int)) m % LI)) w):=by
 obtain ⟨N,hN⟩:∃ N,N=Sc.leV (fun j=>((b j).val:Int)) m % LI:=⟨_,rfl⟩
 rw [← hN]
 replace hN:=Lib.hid hN
 refine (callsIn_wide (n:=3)).1 ?_
 have hro:Fence.wide.round=none:=rfl
 have h1:1≤3:=by decide
 refine callsIn_of_wp_marks Tryz.func249 rfl trivial ?_ hro
 simp only [Tryz.ntmps249,List.size_toArray,List.length_cons,List.length_nil,Nat.reduceAdd,Nat.reduceSub,Array.replicate_succ,Array.replicate_zero,List.push_toArray,List.append_toArray,List.nil_append,List.cons_append]
 gi_wp2_with fail
 refine ⟨trivial,callsIn_at (fun W0 hW=>?_)⟩
 have kS:RstB W0 w.heap.size (Sc.remS []):=by rw [hW];exact ⟨⟨0,0,0,0,0⟩,by unfold Fe.W;decide,by decide,Blk.new _ _ _⟩
 have hb0:Below w.heap.size w W0:=by rw [hW];go_grown
 clear hW
 obtain ⟨GS,hGS⟩:∃ GS,GS=w.heap.size:=⟨_,rfl⟩
 rw [← hGS] at kS ⊢
 have loS:w.heap.size≤GS:=by omega
 clear hGS
 have hBp:0<m→∀ ad,p=some ad→ad.block<w.heap.size:=fun h0 ad e=>by
  obtain ⟨g,o,e2,hg,_⟩:=hB h0
  rw [e] at e2
  injection e2 with e2
  subst e2
  exact hg
 refine (callsIn_wide.2 (ybk_c _ _ _ _)).mono ?_
 rintro e w3 ⟨rfl,hW⟩
 have hb:Below W0.heap.size W0 w3:=by rw [hW];exact (Below.refl _ _).alloc (Nat.le_refl _) _
 have hBs:w3.cell? ⟨W0.heap.size,0,none⟩=some (.slice p m c):=by rw [hW];exact (Boxed.new W0 _ _).cell
 have hsz:w3.heap.size=W0.heap.size+1:=by rw [hW,World.size_alloc]
 clear hW
 have nSs:W0.heap.size≠GS:=by have:=kS.lt;omega
 replace kS:=kS.below hb
 replace hb0:=hb0.trans (hb.mono hb0.size)
 have hB3:=hB.below hb0
 clear hb hB
 obtain ⟨Bs,hBx⟩:∃ Bs,Bs=W0.heap.size:=⟨_,rfl⟩
 rw [← hBx] at hBs nSs ⊢
 have ltB:Bs<w3.heap.size:=by omega
 clear hsz hBx
 have lts:=kS.lt
 have hws:=hb0.size
 replace hB3:=Lib.hid hB3
 gi_wp2
 refine wpIn_rangeFunc_ownG hro h1 (gf:=352) (lb:=#[.pointer (some ⟨Bs,0,none⟩)]) rfl trivial (enters_of Tryz.func352 (by kernel_rfl) rfl)
  (ybk_stops Fence.wide (3-1) trivial hro (by decide) Bs m c p b hm w3 ltB hBs hB3.out) KpY.trans (fun W l o o' hl h _ _=>KpY.putObj (fun h0 ad e=>Nat.lt_of_lt_of_le (hBp h0 ad e) hws) ltB hl h) (Below.refl _ _) (fun _=>rfl)
  (fun pre W=>RstB W GS (Sc.remS pre)∧Below w.heap.size w W∧w3.heap.size≤W.heap.size)
  (fun _ _ _=>False)
  (fun s A B row hs hg hr=>⟨hs.1.grown hg (fun e=>by have:=(hr _ e.symm).1;omega),hs.2.1.grown hg hs.2.1.size (fun k e=>by have:=(hr _ e).1;omega),Nat.le_trans hs.2.2 hg.size⟩)
  (fun _ _ _ _ _ hs _ _=>hs)
  ⟨kS,hb0,Nat.le_refl _⟩
  (fun x=>{ tmps:=#[.slice p m c,undef,.slice none 0 0,.pointer (some ⟨GS,0,none⟩),undef,.int .u8 (x.2.val:Int),undef,undef,.slice p m c,.func (.func 352) #[] #[.pointer (some ⟨Bs,0,none⟩)],.int .i64 (x.1:Int),.int .u8 (x.2.val:Int),undef,undef,undef,undef,undef,undef,undef,undef,undef,undef,undef,undef,undef,undef,undef,undef,undef,undef,undef,undef,undef,undef,undef],defers:=[] }) ?assign ?body ?done ?stop
 case assign =>
  intro l x W K hK
  gi_wp2
  exact hK
 case body =>
  rintro l pre ⟨xi,xb⟩ W ⟨hS,hb,hs⟩ hlt
  obtain ⟨d,hw,hv,hR⟩:=hS
  have hbd:=Sc.remS_bd pre
  gi_wp2_with fail
  refine ⟨trivial,(CallsIn.inRound l (callsIn_wide.2 (srest_c d hw (by rw [hv];exact hbd) (xb.val:Int) (by have:=xb.isLt;omega) GS W hR))).mono ?_⟩
  rintro e W2 ⟨rfl,d2,hw2,hv2,hR2,hg2⟩
  have kf:=KeepsFrom.of_grownBy (B:=w3.heap.size) hg2 (fun j e=>by cases e;exact lts)
  have kp:=KpY.grown (p:=p) (m:=m) hg2 (fun h0 ad e=>by have:=hBp h0 ad e;constructor <;> omega) (Nat.lt_of_lt_of_le ltB hs) nSs
  have hb2:=hb.grown hg2 hb.size (fun k e=>by injection e with e;omega)
  have hs2:=Nat.le_trans hs hg2.size
  have hS2:RstB W2 GS (Sc.remS (pre++[(xi,xb)])):=⟨d2,hw2,by rw [Sc.remS_snoc,hv2,hv],hR2⟩
  clear hb hbd hw hv hR hw2 hv2 hR2 hg2
  gi_wp2
  exact ⟨kf,kp,hS2,hb2,hs2⟩
 case done =>
  rintro D ys W hD rfl ⟨hS,hb,hs⟩ hK
  rw [Sc.remS_all,← hN.out] at hS
  obtain ⟨d,hw,hv,hR⟩:=hS
  have hmk:∀ w,(Instr.makeSlice 22 (.int .i64 32) (.int .i64 32)).run Tryz.prog w=.ok (.slice (some ⟨w.heap.size,0,none⟩) 32 32) (w.alloc (.cells (List.replicate 32 (.int .u8 0)).toArray 5)):=fun _=>by kernel_rfl
  replace hw:=Lib.hid hw
  replace hv:=Lib.hid hv
  replace hR:=Lib.hid hR
  replace hK:=Lib.hid hK
  replace hb:=Lib.hid hb
  clear hB3 hBp hws
  gi_wp2
  refine wpIn_at (fun W0 hW=>?_)
  have hO:RowB W0 W.heap.size 32 32 (fun j=>if j<0 then Sc.byt N j else 0):=by
   rw [hW]
   exact ⟨_,heap_alloc_new W _,Nat.le_refl _,by unfold maxLen;decide,rfl,by kernel_rfl⟩
  have hbW:Below W.heap.size W W0:=by rw [hW];exact (Below.refl _ _).alloc (Nat.le_refl _) _
  clear hW hmk
  have ltD:D<W.heap.size:=(Array.getElem?_eq_some_iff.1 hK.out).1
  obtain ⟨G,hG⟩:∃ G,G=W.heap.size:=⟨_,rfl⟩
  rw [← hG] at hO ltD ⊢
  have hR1:=hR.out.below hbW
  have ltS:=hR.out.lt
  have lo:w.heap.size≤G:=by have:=hb.out.size;omega
  have hK1:W0.heap[D]?=some (.deferred (some [])):=(hbW.block D (by omega)).trans hK.out
  have hb1:=hb.out.trans (hbW.mono hb.out.size)
  have nDG:D≠G:=by omega
  have nSG:GS≠G:=by omega
  clear hK hR hb hbW hG
  gi_loopw [17] (fun i wr=>∃ k:Nat,k≤32∧i=.int .i64 k∧RowB wr G 32 32 (fun j=>if j<k then Sc.byt N j else 0)∧Blk wr GS 384 #[.int .u64 d.a0,.int .u64 d.a1,.int .u64 d.a2,.int .u64 d.a3,.int .u64 d.a4]∧wr.heap[D]?=some (.deferred (some []))∧Below w.heap.size w wr) (fun i _=>(32-intOf i).toNat)
  case atStart=>exact ⟨0,by omega,rfl,hO,hR1,hK1,hb1⟩
  case round =>
   clear hO hR1 hK1 hb1
   obtain ⟨k,hk,hi,hO,hR,hK,hb⟩:=hrel
   subst hi
   by_cases he:k=32
   ·subst he
    rw [show ((32:Nat):Int)=32 from rfl]
    have hO2:RowB wr G 32 32 (Sc.byt N):=hO.congr fun j hj=>by rw [if_pos hj]
    have ltD1:D<wr.heap.size:=(Array.getElem?_eq_some_iff.1 hK).1
    have hP:PostBs 32 (Sc.byt N) w (.returned (.slice (some ⟨G,0,none⟩) 32 32)) (wr.putObj D (.deferred none)) :=
     ⟨G,32,rfl,lo,hO2.grown (grownBy_putObj' wr D (.deferred none)) (fun e=>by injection e with e;omega),hb.grown (grownBy_putObj' wr D (.deferred none)) hb.size (fun k e=>by injection e with e;omega)⟩
    replace hP:=Lib.hid hP
    replace hK:=Lib.hid hK
    clear hO hO2 hR hb
    gi_wp2
    refine ⟨by simp,.inl ⟨_,_,rfl,run_takeDeferred hK.out,?_⟩⟩
    exact ⟨_,by simp [results,Tryz.results249,go_sem],hP.out⟩
   have hk0:(0:Int)≤(k:Int):=by omega
   have hk1:(k:Int)<32:=by omega
   have hk8:(k:Int) / 8<5:=by omega
   have c1:=wd_cell hR (k / 8) (by omega)
   have hf:=hO.frozen k
   have hbt:=wd_byte hw.out k (by omega)
   rw [hv.out] at hbt
   replace hbt:=Lib.hid hbt
   replace hR:=Lib.hid hR
   replace hO:=Lib.hid hO
   replace hK:=Lib.hid hK
   replace hb:=Lib.hid hb
   have c0:=hO.out.cell k (by omega)
   gi_wp2
   refine ⟨⟨k+1,by omega,by simp,(hO.out.set_ k (by omega) _).congr fun j hj=>?_,hR.out.far (by exact nSG) _,(Below.heap_setCell wr ⟨G,k,none⟩ _ D nDG).trans hK.out,hb.out.setCell (p:=⟨G,k,none⟩) lo _⟩,by simp [intOf];omega⟩
   by_cases e:j=k
   ·subst e
    rw [if_pos rfl,if_pos (by omega),hbt.out]
   rw [if_neg e]
   by_cases e2:j<k
   ·rw [if_pos e2,if_pos (by omega)]
   rw [if_neg e2,if_neg (by omega)]
 case stop =>
  rintro D c pre W _ _ h _
  exact h.elim
end Go.Proofs.YtnopjabcdloepaaGreatDoor
