import Derived.Test.YtnopjabcdloepaaGreatDoorYh
namespace Sc
open Go.Proofs.YtnopjabcdloepaaGreatDoor
theorem byt_r (N:Int):Byt (byt N):=fun j=>by unfold byt;omega
theorem byt_shift (N:Int) (j:Nat):byt N (j+1)=byt (N / 256) j:=by
 unfold byt
 rw [Int.pow_succ,Int.mul_comm,Int.ediv_ediv_of_nonneg (by decide)]
theorem leV_byt:∀ (n:Nat) (N:Int),leV (byt N) n=N % 256 ^ n
 | 0,N=>by simp [leV,Int.emod_one]
 | n+1,N=>by
  rw [leV_shift]
  have e:(fun j=>byt N (j+1))=byt (N / 256):=funext fun j=>byt_shift N j
  rw [e,leV_byt n (N / 256)]
  have h0:byt N 0=N % 256:=by simp [byt]
  rw [h0,Int.pow_succ,Int.mul_comm (256 ^ n) 256]
  have hp:(0:Int)<256 ^ n:=Int.pow_pos (by decide)
  have h1:=Int.emod_add_mul_ediv N 256
  have h2:=Int.emod_add_mul_ediv (N / 256) (256 ^ n)
  have h3:=Int.emod_nonneg (N / 256) (Int.ne_of_gt hp)
  have h4:=Int.emod_lt_of_pos (N / 256) hp
  have h5:N=N % 256+256*(N / 256 % 256 ^ n)+256*256 ^ n*(N / 256 / 256 ^ n):=by
   rw [Int.mul_assoc]
   omega
  have h6:0≤N % 256+256*(N / 256 % 256 ^ n)∧N % 256+256*(N / 256 % 256 ^ n)<256*256 ^ n:=by omega
  conv=>rhs;rw [h5]
  rw [Int.add_mul_emod_self_left]
  exact (Int.emod_eq_of_lt h6.1 h6.2).symm
theorem leV_inj {a b:Nat→Int} (ha:Byt a) (hb:Byt b):∀ n,leV a n=leV b n→∀ j,j<n→a j=b j
 | 0,_,j,h=>by omega
 | n+1,h,j,hj=>by
  have h1:=leV_bd ha n
  have h2:=leV_bd hb n
  rw [leV_succ,leV_succ] at h
  have hp:(0:Int)<256 ^ n:=Int.pow_pos (by decide)
  have h3:a n=b n:=by
   have e1:(leV a n+256 ^ n*a n) / 256 ^ n=a n:=by rw [Int.add_mul_ediv_left _ _ (Int.ne_of_gt hp),Int.ediv_eq_zero_of_lt h1.1 h1.2,Int.zero_add]
   have e2:(leV b n+256 ^ n*b n) / 256 ^ n=b n:=by rw [Int.add_mul_ediv_left _ _ (Int.ne_of_gt hp),Int.ediv_eq_zero_of_lt h2.1 h2.2,Int.zero_add]
   rw [← e1,← e2,h]
  by_cases e:j=n
  ·subst e;exact h3
  rw [h3] at h
  exact leV_inj ha hb n (by omega) j (by omega)
def eqF (a b:Nat→Int) (n:Nat):Bool:=decide (∀ j,j<n→a j=b j)
theorem right_val {b:Nat→Int} (hb:Byt b):eqF (byt (leV b 32 % LI)) b 32=decide (leV b 32<LI):=by
 have h1:=leV_bd hb 32
 have hm:0≤leV b 32 % LI∧leV b 32 % LI<LI:=⟨Int.emod_nonneg _ (by unfold LI;decide),Int.emod_lt_of_pos _ (by unfold LI;decide)⟩
 have hL:LI<256 ^ 32:=by unfold LI;decide
 unfold eqF
 rw [decide_eq_decide]
 constructor
 ·intro h
  have h2:=leV_congr 32 h
  rw [leV_byt,Int.emod_eq_of_lt hm.1 (by omega)] at h2
  omega
 intro h
 rw [Int.emod_eq_of_lt h1.1 h]
 exact leV_inj (byt_r _) hb 32 (by rw [leV_byt,Int.emod_eq_of_lt h1.1 h1.2])
end Sc
namespace Go.Proofs.YtnopjabcdloepaaGreatDoor
open Go.RowKit
set_option maxRecDepth 20000 in
set_option maxHeartbeats 2000000 in
theorem equal_c (p q:Option Addr) (n c d:Nat) (hn:n≤1000000) (a b:Nat→Int) (w:World) (hA:BAt w p n a) (hB:BAt w q n b):Calls Tryz.prog 248 #[.slice p n c,.slice q n d] w (PostV (.bool (Sc.eqF a b n)) w):=by
 obtain ⟨r,hr⟩:∃ r,Sc.eqF a b n=r:=⟨_,rfl⟩
 rw [hr]
 have hr2:r=true↔∀ j,j<n→a j=b j:=by rw [← hr];unfold Sc.eqF;simp
 clear hr
 replace hr2:=Lib.hid hr2
 replace hA:=Lib.hid hA
 replace hB:=Lib.hid hB
 have hn0:(0:Int)≤(n:Int):=by omega
 have hn1:(n:Int)≤1000000:=by omega
 have hnn:((n:Int) != (n:Int))=false:=by simp
 go_enter Tryz.func248,Tryz.ntmps248
 go_wp2
 go_loopw [13] (fun t wr=>∃ i:Nat,i≤n∧t=.int .i64 i∧(∀ j,j<i→a j=b j)∧Below w.heap.size w wr) (fun t _=>(n-intOf t).toNat)
 case atStart=>exact ⟨0,by omega,rfl,fun j hj=>by omega,Below.refl _ _⟩
 case round =>
  obtain ⟨i,hi,ht,he,hb⟩:=hrel
  subst ht
  by_cases hin:i=n
  ·subst hin
   have h1:r=true:=hr2.out.2 he
   subst h1
   clear hr2 he
   go_wp2
   go_returns
   exact ⟨rfl,hb⟩
  have hi0:(0:Int)≤(i:Int):=by omega
  have hi1:(i:Int)<(n:Int):=by omega
  obtain ⟨g,o,rfl,hg,hc⟩:=hA.out (by omega)
  obtain ⟨g2,o2,rfl,hg2,hc2⟩:=hB.out (by omega)
  have x1:=rd_cell hg hc hb i (by omega)
  have x2:=rd_cell hg2 hc2 hb i (by omega)
  clear hc hc2
  have he2:=Lib.hid he
  clear he
  by_cases hab:a i=b i
  ·have hq:(a i != b i)=false:=by simp [hab]
   have hab2:=Lib.hid hab
   clear hab
   go_wp2
   go_region
   go_wp2
   exact ⟨⟨i+1,by omega,by simp,fun j hj=>by by_cases e:j=i;(subst e;exact hab2.out);exact he2.out j (by omega),hb.drew⟩,by simp [intOf];omega⟩
  have hq:(a i != b i)=true:=by simp [hab]
  have h1:r=false:=by
   cases r
   ·rfl
   exact absurd (hr2.out.1 rfl i (by omega)) hab
  subst h1
  clear hab hr2
  go_wp2
  go_region
  go_wp2
  go_returns
  exact ⟨rfl,hb.drew⟩
set_option maxRecDepth 20000 in
set_option maxHeartbeats 2000000 in
theorem reduce_c (p:Option Addr) (m c:Nat) (hm:m≤64) (b:Nat→Fin 256) (w:World) (hB:BAt w p m (fun j=>((b j).val:Int))) :
  Calls Tryz.prog 300 #[.slice p m c] w (PostBs 32 (Sc.byt (Sc.leV (fun j=>((b j).val:Int)) m % LI)) w):=by
 have hr:=reduced_c p m c (by omega) b w hB
 replace hr:=Lib.hid hr
 have hm0:(0:Int)≤(m:Int):=by omega
 have hm1:(m:Int)≤64:=by omega
 clear hB hm
 go_enter Tryz.func300,Tryz.ntmps300
 go_wp2_with fail
 refine hr.out.mono ?_
 rintro e w1 ⟨g,cc,rfl,h⟩
 replace h:=Lib.hid h
 go_wp2
 go_returns
 exact ⟨g,cc,rfl,h.out⟩
set_option maxRecDepth 20000 in
set_option maxHeartbeats 2000000 in
theorem right_c (p:Option Addr) (c:Nat) (b:Nat→Fin 256) (w:World) (hB:BAt w p 32 (fun j=>((b j).val:Int))) :
  Calls Tryz.prog 162 #[.slice p 32 c] w (PostV (.bool (decide (Sc.leV (fun j=>((b j).val:Int)) 32<LI))) w):=by
 have hby:Sc.Byt (fun j=>((b j).val:Int)):=fun j=>by have:=(b j).isLt;show 0≤((b j).val:Int)∧((b j).val:Int)<256;omega
 have hrv:=Sc.right_val hby
 have hr:=reduced_c p 32 c (by omega) b w hB
 rw [← hrv]
 clear hrv hby
 have he:=fun (g cc:Nat) (W:World) (hb:Below w.heap.size w W) (hR:RowB W g 32 cc (Sc.byt (Sc.leV (fun j=>((b j).val:Int)) 32 % LI)))=>equal_c (some ⟨g,0,none⟩) p 32 cc c (by decide) (Sc.byt (Sc.leV (fun j=>((b j).val:Int)) 32 % LI)) (fun j=>((b j).val:Int)) W (fun _=>⟨g,0,rfl,hR.lt,fun j hj=>by rw [Nat.zero_add];exact hR.cell j hj⟩) (hB.below hb)
 generalize Sc.eqF _ _ _=r at *
 replace hr:=Lib.hid hr
 replace he:=Lib.hid he
 clear hB
 go_enter Tryz.func162,Tryz.ntmps162
 go_wp2_with fail
 refine hr.out.mono ?_
 rintro e w1 ⟨g,cc,rfl,hg,hR,hb⟩
 replace he:=Lib.hid (he.out g cc w1 hb hR)
 replace hb:=Lib.hid hb
 clear hR hr
 go_wp2_with fail
 refine he.out.mono ?_
 rintro e w2 ⟨rfl,hb2⟩
 replace hb2:=Lib.hid hb2
 go_wp2
 go_returns
 exact ⟨rfl,hb.out.trans (hb2.out.mono hb.out.size)⟩
end Go.Proofs.YtnopjabcdloepaaGreatDoor
