import Derived.Test.YtnopjabcdloepaaGreatDoorYk
import Derived.Test.YtnopjabcdloepaaGreatDoorEs
namespace Fe
open Go.Proofs.YtnopjabcdloepaaGreatDoor
theorem Bp_ne:Bp≠O2:=fun h=>by
 have h1:=congrArg (fun p=>p.1.val) h
 exact absurd h1 (by decide +kernel)
theorem nP_dz {d:Nat} (h0:0<d) (h1:d<ordN):nP d Bp≠O2:=fun h=>by
 have hf:d ^ (ordN-1) % ordN=1:=Nt.fermat Nt.prLf (fun k=>by
  have:=Nat.le_of_dvd h0 k
  omega)
 obtain ⟨k,hk⟩:∃ k,ordN-1=k+1:=⟨ordN-2,by unfold ordN;rfl⟩
 rw [hk,Nat.pow_succ] at hf
 generalize d ^ k=u at hf
 refine Bp_ne ?_
 rw [← nP_one Bp,← hf,nP_mod,Nat.mul_comm,nP_mul Bp_on,h,nP_zero]
theorem nP_lt {x y:Nat} (hx:x<ordN) (hy:y<ordN) (h:nP x Bp=nP y Bp):x=y:=by
 have key:∀ x y:Nat,x<ordN→y<ordN→x<y→nP x Bp=nP y Bp→False:=fun x y _ hy hlt h=>by
  obtain ⟨d,rfl⟩:∃ d,y=x+d:=⟨y-x,by omega⟩
  rw [nP_add Bp_on] at h
  refine nP_dz (d:=d) (by omega) (by omega) ?_
  refine (gad_cancel (nP_on Bp_on d) o2_on (nP_on Bp_on x) ?_)
  rw [z_gad,gad_comm]
  exact h.symm
 rcases Nat.lt_trichotomy x y with k | k | k
 ·exact (key x y hx hy k h).elim
 ·exact k
 exact (key y x hy hx k h.symm).elim
end Fe
namespace Sh
open Go Go.Proofs.YtnopjabcdloepaaGreatDoor Go.Proofs
def cut (b:Nat→Int) (j:Nat):Int:=if j<32 then b j else 0
theorem cut_byt {b:Nat→Int} (h:Sc.Byt b):Sc.Byt (cut b):=fun j=>by
 unfold cut
 split
 ·exact h j
 exact (show (0:Int)≤0∧(0:Int)<256 by decide)
def gP (b:Nat→Int):Fe.Pt:=(Fe.zf (Fe.gX (Fe.nB b) (Fe.odB b)),Fe.zf (Fe.nB b))
def hash3 (b s:Nat→Int) (l:Ps):Nat:=(Sc.leV (Sc.byt (Sh.numI ((32,s)::(32,b)::l))) 32).toNat
def verI (b s:Nat→Int) (l:Ps):Bool:=decide (Sc.leV (fun j=>s (32+j)) 32<LI)&&(Fe.okB (cut b)&&(Fe.okB (cut s)&&(
 let Q:=Fe.gad (Fe.nP (hash3 b s l) (Fe.neg2 (gP (cut b)))) (Fe.nP (Sc.leV (fun j=>s (32+j)) 32).toNat Fe.Bp)
 decide (Q.1=(gP (cut s)).1)&&decide (Q.2=(gP (cut s)).2))))
theorem numI_congr {l m:Ps} (h:lenI l=lenI m) (e:∀ j,j<lenI l→catI l j=catI m j):Sh.numI l=Sh.numI m:=by
 unfold Sh.numI
 rw [← h,sumI_congr e]
theorem cat_cons {x y:Nat × (Nat→Int)} {l m:Ps} (h1:x.1=y.1) (h2:∀ j,j<x.1→x.2 j=y.2 j) (h3:∀ j,j<lenI l→catI l j=catI m j) (j:Nat) (hj:j<lenI (x::l)):catI (x::l) j=catI (y::m) j:=by
 unfold catI
 rw [← h1]
 split
 ·exact h2 j (by assumption)
 exact h3 _ (by unfold lenI at hj;omega)
theorem hash3_congr {b b' s s':Nat→Int} {l l':Ps} (hb:∀ j,j<32→b j=b' j) (hs:∀ j,j<32→s j=s' j) (hl:lenI l=lenI l') (hc:∀ j,j<lenI l→catI l j=catI l' j):hash3 b s l=hash3 b' s' l':=by
 unfold hash3
 rw [numI_congr (l:=(32,s)::(32,b)::l) (m:=(32,s')::(32,b')::l') (by show 32+(32+lenI l)=32+(32+lenI l');rw [hl]) (cat_cons rfl hs (cat_cons rfl hb hc))]
theorem ptI_far (p:Fe.Pt) (j:Nat) (h:¬ j<32):ptI p j=0:=by
 unfold ptI ptB
 rw [if_neg (by omega)]
 unfold Dg.rb
 rw [Nat.div_eq_of_lt (Nat.lt_of_lt_of_le (Fe.lt_256 p.2.isLt) (Nat.pow_le_pow_right (by decide) (by omega)))]
 rfl
theorem cut_pt {p:Fe.Pt} {b:Nat→Int} (h:∀ j,j<32→b j=ptI p j):cut b=Fe.enc p.1 p.2:=funext fun j=>by
 unfold cut
 split
 ·exact h j (by assumption)
 exact (ptI_far p j (by assumption)).symm
theorem gP_enc {p:Fe.Pt} (h:Fe.On2 p):gP (Fe.enc p.1 p.2)=p:=Prod.ext (Fe.dec_enc h).1 (Fe.dec_enc h).2
theorem same_iff (p q:Fe.Pt):(decide (p.1=q.1)&&decide (p.2=q.2))=decide (p=q):=by
 rw [Bool.eq_iff_iff]
 simp [Prod.ext_iff]
theorem verI_pt {A R:Fe.Pt} (hA:Fe.On2 A) (hR:Fe.On2 R) {b s:Nat→Int} (hb:∀ j,j<32→b j=ptI A j) (hs:∀ j,j<32→s j=ptI R j) (l:Ps) (h:Sc.leV (fun j=>s (32+j)) 32<LI) :
  verI b s l=decide (Fe.gad (Fe.nP (hash3 b s l) (Fe.neg2 A)) (Fe.nP (Sc.leV (fun j=>s (32+j)) 32).toNat Fe.Bp)=R):=by
 unfold verI
 rw [decide_eq_true h,cut_pt hb,cut_pt hs,Fe.okB_enc hA,Fe.okB_enc hR,gP_enc hA,gP_enc hR]
 simp only [Bool.true_and]
 exact same_iff _ _
theorem LI_ord:LI=(Fe.ordN:Int):=rfl
theorem leV_bytL {N:Int} (h0:0≤N) (h:N<LI):Sc.leV (Sc.byt N) 32=N:=by
 rw [Sc.leV_byt]
 have:LI<256 ^ 32:=by unfold LI;decide
 exact Int.emod_eq_of_lt h0 (by omega)
theorem sI_bd (f:Nat→Int) (l:Ps):0≤sI f l∧sI f l<LI:=⟨Int.emod_nonneg _ (by unfold LI;decide),Int.emod_lt_of_pos _ (by unfold LI;decide)⟩
theorem sig_lo (f:Nat→Int) (l:Ps) (j:Nat) (h:j<32):sigI f l j=ptI (rP f l) j:=by
 unfold sigI catI
 rw [if_pos h]
theorem sig_hi (f:Nat→Int) (l:Ps) (j:Nat) (h:j<32):sigI f l (32+j)=Sc.byt (sI f l) j:=by
 unfold sigI catI catI
 rw [if_neg (by omega),if_pos (by show 32+j-32<32;omega),show 32+j-32=j by omega]
theorem sig_leV (f:Nat→Int) (l:Ps):Sc.leV (fun j=>sigI f l (32+j)) 32=sI f l:=by
 rw [Sc.leV_congr 32 (fun j hj=>sig_hi f l j hj),leV_bytL (sI_bd f l).1 (sI_bd f l).2]
theorem key_on (f:Nat→Int):Fe.On2 (keyP f):=Fe.nP_on Fe.Bp_on _
theorem rP_on (f:Nat→Int) (l:Ps):Fe.On2 (rP f l):=Fe.nP_on Fe.Bp_on _
theorem hash_own {f b s:Nat→Int} {l l':Ps} (hb:∀ j,j<32→b j=ptI (keyP f) j) (hs:∀ j,j<32→s j=ptI (rP f l) j) (hl:lenI l=lenI l') (hc:∀ j,j<lenI l→catI l j=catI l' j):hash3 b s l'=(Sc.leV (Sc.byt (hI f l)) 32).toNat :=
 (hash3_congr (fun j hj=>(hb j hj).symm) (fun j hj=>(hs j hj).symm) hl hc).symm
theorem sI_nat (f:Nat→Int) (l:Ps):(sI f l).toNat=((Sc.leV (Sc.byt (hI f l)) 32).toNat*(Sc.leV (clampI (sumI 32 f)) 32).toNat+(Sc.leV (Sc.byt (rI f l)) 32).toNat) % Fe.ordN:=by
 have h1:=(Sc.leV_bd (Sc.byt_r (hI f l)) 32).1
 have h2:=(Sc.leV_bd (clamp_r (sumI_byt 32 f)) 32).1
 have h3:=(Sc.leV_bd (Sc.byt_r (rI f l)) 32).1
 unfold sI
 rw [LI_ord]
 generalize Sc.leV (Sc.byt (hI f l)) 32=X at *
 generalize Sc.leV (clampI (sumI 32 f)) 32=Y at *
 generalize Sc.leV (Sc.byt (rI f l)) 32=Z at *
 obtain ⟨x,rfl⟩:=Int.eq_ofNat_of_zero_le h1
 obtain ⟨y,rfl⟩:=Int.eq_ofNat_of_zero_le h2
 obtain ⟨z,rfl⟩:=Int.eq_ofNat_of_zero_le h3
 simp only [Int.toNat_natCast]
 rw [← Int.natCast_mul,← Int.natCast_add,← Int.natCast_emod,Int.toNat_natCast]
theorem own_point (f:Nat→Int) (l:Ps) (n:Nat):Fe.gad (Fe.nP (Sc.leV (Sc.byt (hI f l)) 32).toNat (Fe.neg2 (keyP f))) (Fe.nP n Fe.Bp)=rP f l↔Fe.nP n Fe.Bp=Fe.nP (sI f l).toNat Fe.Bp:=by
 rw [sI_nat,Fe.nP_mod,Fe.nP_add Fe.Bp_on,Nat.mul_comm,Fe.nP_mul Fe.Bp_on,Fe.nP_neg (key_on f)]
 have hX:Fe.On2 (Fe.nP (Sc.leV (Sc.byt (hI f l)) 32).toNat (keyP f)):=Fe.nP_on (key_on f) _
 have hr:=rP_on f l
 have hn:Fe.On2 (Fe.nP n Fe.Bp):=Fe.nP_on Fe.Bp_on n
 show _↔Fe.nP n Fe.Bp=Fe.gad (Fe.nP (Sc.leV (Sc.byt (hI f l)) 32).toNat (keyP f)) (rP f l)
 generalize Fe.nP (Sc.leV (Sc.byt (hI f l)) 32).toNat (keyP f)=X at *
 generalize rP f l=R at *
 generalize Fe.nP n Fe.Bp=N at *
 constructor
 ·intro h
  rw [← h,← Fe.gad_assoc hX (Fe.neg2_on hX) hn,Fe.gad_neg hX,Fe.z_gad]
 intro h
 rw [h,← Fe.gad_assoc (Fe.neg2_on hX) hX hr,Fe.gad_comm (Fe.neg2 X),Fe.gad_neg hX,Fe.z_gad]
theorem ver_own (f:Nat→Int) {b s:Nat→Int} {l l':Ps} (hb:∀ j,j<32→b j=ptI (keyP f) j) (hs:∀ j,j<32→s j=ptI (rP f l) j) (hl:lenI l=lenI l') (hc:∀ j,j<lenI l→catI l j=catI l' j) (h0:0≤Sc.leV (fun j=>s (32+j)) 32) (h:Sc.leV (fun j=>s (32+j)) 32<LI) :
  verI b s l'=decide (Sc.leV (fun j=>s (32+j)) 32=sI f l):=by
 rw [verI_pt (key_on f) (rP_on f l) hb hs l' h,hash_own hb hs hl hc]
 refine decide_eq_decide.2 ((own_point f l _).trans ?_)
 have hs:=sI_bd f l
 rw [LI_ord] at hs h
 constructor
 ·intro e
  have:=Fe.nP_lt (by omega) (by omega) e
  omega
 intro e
 rw [e]
theorem ver_sig (f:Nat→Int) {b s:Nat→Int} {l l':Ps} (hb:∀ j,j<32→b j=ptI (keyP f) j) (hs:∀ j,j<64→s j=sigI f l j) (hl:lenI l=lenI l') (hc:∀ j,j<lenI l→catI l j=catI l' j):verI b s l'=true:=by
 have e:Sc.leV (fun j=>s (32+j)) 32=sI f l:=by rw [Sc.leV_congr 32 (fun j hj=>hs (32+j) (by omega)),sig_leV]
 rw [ver_own f hb (fun j hj=>by rw [hs j (by omega),sig_lo f l j hj]) hl hc (by rw [e];exact (sI_bd f l).1) (by rw [e];exact (sI_bd f l).2)]
 exact decide_eq_true e
end Sh
