import Derived.Test.YtnopjabcdloepaaGreatDoorCf
namespace Sh
def zerI (n:Nat):Nat:=(239-n % 128) % 128
def endI (n j:Nat):Int:=if j=0 then 128 else if j<9+zerI n then 0 else 8*(n:Int) / 2 ^ (56-8*(j-(9+zerI n))) % 256
def joinI (n:Nat) (b:Nat→Int) (j:Nat):Int:=if j<n then b j else endI n (j-n)
def sumI (n:Nat) (b:Nat→Int):Nat→Int:=outI (hsI (joinI n b) ((n+(9+zerI n+8)) / 128))
theorem end_join (n:Nat) (b:Nat→Int):End (joinI n b) n (zerI n) where
 z:=by unfold zerI;omega
 k1:=by unfold zerI;omega
 b0:=by
  unfold joinI endI
  rw [if_neg (by omega),if_pos (by omega)]
 bz j h0 h1:=by
  unfold joinI endI
  rw [if_neg (by omega),if_neg (by omega),if_pos (by omega)]
 bn j hj:=by
  unfold joinI endI
  rw [if_neg (by omega),if_neg (by omega),if_neg (by omega),show n+(9+zerI n+j)-n-(9+zerI n)=j by omega]
theorem endI_r (n j:Nat):0≤endI n j∧endI n j<256:=by
 unfold endI
 split
 ·decide
 split
 ·decide
 exact ⟨Int.emod_nonneg _ (by decide),Int.emod_lt_of_pos _ (by decide)⟩
theorem joinI_r (n:Nat) {b:Nat→Int} (h:∀ j,j<n→0≤b j∧b j<256) (j:Nat):0≤joinI n b j∧joinI n b j<256:=by
 unfold joinI
 split
 ·exact h j (by assumption)
 exact endI_r _ _
end Sh
namespace Go.Proofs.YtnopjabcdloepaaGreatDoor
open Go.RowKit
theorem off_le {off:Nat→Nat} (h:∀ i,off i≤off (i+1)) {i:Nat}:∀ k,i≤k→off i≤off k
 | 0,hk=>by
   obtain rfl:i=0:=by omega
   exact Nat.le_refl _
 | k+1,hk=>by
  by_cases e:i=k+1
  ·subst e;exact Nat.le_refl _
  exact Nat.le_trans (off_le h k (by omega)) (h k)
theorem PX.congr {S:List Nat} {w:World} {p:Option Addr} {k:Nat} {off:Nat→Nat} {T U:Nat→Int} (h:PX S w p k off T) (hoff:∀ i,off i≤off (i+1)) (e:∀ j,j<off k→T j=U j):PX S w p k off U:=fun h0=>by
 obtain ⟨g,o,ep,hg,hS,hc⟩:=h h0
 refine ⟨g,o,ep,hg,hS,fun i hi=>?_⟩
 obtain ⟨pi,ci,a1,a2,a3⟩:=hc i hi
 refine ⟨pi,ci,a1,a2,fun hl=>?_⟩
 obtain ⟨g1,o1,e1,h1,h2,h3⟩:=a3 hl
 have hle:=off_le hoff (i:=i+1) k (by omega)
 refine ⟨g1,o1,e1,h1,h2,fun j hj=>?_⟩
 rw [h3 j hj]
 dsimp only
 rw [e _ (by omega)]
set_option maxRecDepth 20000 in
set_option maxHeartbeats 4000000 in
theorem sha_c (b:Nat→Int) (p:Option Addr) (k c n:Nat) (off:Nat→Nat) (h0:off 0=0) (hoff:∀ i,off i≤off (i+1)) (hn:off k=n) (hn1:n≤10000000) (hk:k≤1000000) (hb:∀ j,j<n→0≤b j∧b j<256) (w:World) (hP:PX [] w p k off b) (hS:ShP w) (hB:3<w.heap.size):Calls Tryz.prog 160 #[.slice p k c] w (PostBs 64 (Sh.sumI n b) w):=by
 have hnew:=Lib.hid (hnew_c w hS)
 obtain ⟨G,hG⟩:∃ G,G=w.heap.size:=⟨_,rfl⟩
 have ha:Below G w (w.alloc (.cells (hC Sh.ivI (.slice none 0 0) 0) 380)):=by rw [hG];exact (Below.refl _ _).alloc (Nat.le_refl _) _
 have hasz:=ha.size
 have hT:=Sh.joinI_r n hb
 have hE:=Sh.end_join n b
 have hPT:=hP.congr (U:=Sh.joinI n b) hoff (fun j hj=>by unfold Sh.joinI;rw [if_pos (by omega)])
 obtain ⟨T,hTe⟩:∃ T,T=Sh.joinI n b:=⟨_,rfl⟩
 rw [← hTe] at hT hE hPT
 have hH:HS G (w.alloc (.cells (hC Sh.ivI (.slice none 0 0) 0) 380)) G T (off 0) (.slice none 0 0):=by
  rw [h0,hG]
  exact ⟨Blk.new _ _ _,⟨rfl,.inl ⟨rfl,rfl⟩⟩,by simp [Value.ownBlock]⟩
 have hP2:PX (G::obv (.slice none 0 0)) (w.alloc (.cells (hC Sh.ivI (.slice none 0 0) 0) 380)) p k off T:=hPT.ext ⟨ha.os,ha.tape,ha.output,ha.size,fun j hj _=>ha.block j (by omega),fun j hj=>by
  rcases List.mem_cons.1 hj with h | h
  ·exact .inr (by omega)
  exact absurd h (by simp [obv,Value.ownBlock])⟩
 have hw:=Lib.hid (write_c G G T hT (.slice none 0 0) p k c off hoff (fun i hi=>by have:=off_le hoff k hi;omega) hk _ (by omega) hH hP2 (hS.below ha (by omega)) (by omega) (Nat.le_refl _))
 have hge:∀ x,x∈G::obv (.slice none 0 0)→G≤x:=fun x hx=>by
  rcases List.mem_cons.1 hx with h | h
  ·omega
  exact absurd h (by simp [obv,Value.ownBlock])
 clear hP hPT hH hP2 hb
 replace hE:=Lib.hid hE
 replace hS:=Lib.hid hS
 replace hT:=Lib.hid hT
 replace hge:=Lib.hid hge
 replace ha:=Lib.hid ha
 replace hTe:=Lib.hid hTe
 replace hoff:=Lib.hid hoff
 replace h0:=Lib.hid h0
 replace hn:=Lib.hid hn
 rw [hG] at hw
 go_enter Tryz.func160,Tryz.ntmps160
 go_wp2_with fail
 refine hnew.out.mono ?_
 rintro e w1 ⟨rfl,rfl⟩
 clear hnew
 go_wp2_with fail
 refine hw.out.mono ?_
 rintro e w2 ⟨rfl,sv2,hH2,hE2⟩
 clear hw
 have hb2:Below w.heap.size w w2:=by
  rw [← hG] at hE2 ⊢
  exact ha.out.trans (hE2.old (hG ▸ hasz) hge.out)
 rw [hn.out] at hH2
 have hsz2:=hb2.size
 have hs:=Lib.hid (hsum_c w.heap.size w.heap.size T hT.out n (Sh.zerI n) hn1 hE.out sv2 w2 hH2 (hS.out.below hb2 hB) (by omega))
 replace hb2:=Lib.hid hb2
 clear hH2 hE2
 go_wp2_with fail
 refine hs.out.mono ?_
 rintro e w3 ⟨g,c3,rfl,hg,hR,hb3⟩
 have hP:=Lib.hid (show PostBs 64 (Sh.sumI n b) w (.returned (.slice (some ⟨g,0,none⟩) 64 c3)) w3 from ⟨g,c3,rfl,by omega,by unfold Sh.sumI;rw [← hTe.out];exact hR,hb2.out.trans (hb3.mono hsz2)⟩)
 clear hR hb3 hs
 go_wp2_with fail
 go_returns
 exact hP.out
end Go.Proofs.YtnopjabcdloepaaGreatDoor
