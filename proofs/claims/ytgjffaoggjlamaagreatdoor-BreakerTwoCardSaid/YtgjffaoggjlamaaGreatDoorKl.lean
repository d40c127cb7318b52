import Derived.Test.YtgjffaoggjlamaaGreatDoorKk
import Derived.Test.YtgjffaoggjlamaaGreatDoorBm
import Derived.Deep.RegionHeld3
namespace Go.Proofs.YtgjffaoggjlamaaGreatDoor.Rc
open Go Go.RowKit
def PostRw (T:List TxV) (n:Nat) (w:World) (e:Ending) (w':World):Prop:=∃ b:Bool,e=.returned (.bool b)∧(b=true→n≤60∧∀ x∈T,x.xs.length≤3000)∧Below w.heap.size w w'
set_option maxRecDepth 20000 in
set_option maxHeartbeats 4000000 in
theorem rows29_c (p:Option Addr) (n c:Nat) (T:List TxV) (hn:n=T.length) (w:World) (hA:TsAt w p T) :
  Calls Tryz.prog 60 #[.slice p n c,.int .i64 3000] w (PostRw T n w):=by
 replace hA:=Lib.hid hA
 replace hn:=Lib.hid hn
 go_enter Tryz.func60,Tryz.ntmps60
 go_wp2_with fail
 go_loopw [5,6] (fun s i wr=>∃ (k m:Nat),k≤n∧k≤61∧i=.int .i64 k∧s=.int .i64 m∧m≤5000*k∧(∀ (j:Nat) (x:TxV),j<k→T[j]?=some x→min x.xs.length 5000≤m)∧wr=w) (fun _ i _=>(61-intOf i).toNat)
 case atStart=>exact ⟨0,0,by omega,by omega,rfl,rfl,by omega,fun j x h=>absurd h (by omega),rfl⟩
 case round =>
  obtain ⟨k,m,hk,hk61,rfl,rfl,hm,hx,rfl⟩:=hrel
  replace hx:=Lib.hid hx
  by_cases he:k=n
  ·subst he
   have j1:¬ (k:Int)<(k:Int):=by omega
   by_cases h60:k≤60
   ·have i1:(k:Int)≤60:=by omega
    by_cases h3:m≤3000
    ·have i2:(m:Int)≤3000:=by omega
     clear hm
     go_wp2
     go_returns
     exact ⟨true,rfl,fun _=>⟨h60,fun x hxT=>by
      obtain ⟨j,hj⟩:=List.mem_iff_getElem?.1 hxT
      have:=hx.out j x (by have:=hn.out;have:=(List.getElem?_eq_some_iff.1 hj).1;omega) hj
      omega⟩,Below.refl _ _⟩
    have i2:¬ (m:Int)≤3000:=by omega
    clear hm
    go_wp2
    go_returns
    exact ⟨false,rfl,fun h=>(by cases h),Below.refl _ _⟩
   have i1:¬ (k:Int)≤60:=by omega
   clear hm
   go_wp2
   go_returns
   exact ⟨false,rfl,fun h=>(by cases h),Below.refl _ _⟩
  have j1:(k:Int)<(n:Int):=by omega
  have j0:(0:Int)≤(k:Int):=by omega
  by_cases h61:k=61
  ·subst h61
   have i1:¬ (n:Int)≤60:=by omega
   clear hm
   go_wp2
   go_returns
   exact ⟨false,rfl,fun h=>(by cases h),Below.refl _ _⟩
  have hkl:k<T.length:=by have:=hn.out;omega
  obtain ⟨x,hxk⟩:∃ x,T[k]?=some x:=⟨_,List.getElem?_eq_getElem hkl⟩
  obtain ⟨g,o,rfl,hg,hc⟩:=hA.out (by omega)
  obtain ⟨y0,-,-⟩:=hc k x hxk
  have j2:(k:Int)<61:=by omega
  obtain ⟨l,hl⟩:∃ l,l=x.xs.length:=⟨_,rfl⟩
  rw [← hl] at y0
  have hw:IntKind.i64.wrap ((m:Int)+(min l 5000:Nat))=((m+min l 5000:Nat):Int):=by rw [IntKind.wrap_i64];omega
  replace hl:=Lib.hid hl
  replace hxk:=Lib.hid hxk
  clear hc
  go_wp2
  exact ⟨⟨k+1,m+min l 5000,by omega,by omega,by simp,congrArg (fun z=>Value.int .i64 z) (by omega),by omega,fun j z hj hz=>by
   by_cases e:j=k
   ·subst e
    rw [hxk.out] at hz
    obtain rfl:x=z:=by injection hz
    have:=hl.out
    omega
   have:=hx.out j z (by omega) hz
   omega,by first | rfl | trivial⟩,by simp [intOf];omega⟩
theorem fsT_pre {T:List TxV} {s:List Int} {z:TxV}:∀ {j i:Nat},j≤i→fsT (T.take j) s=some z→fsT (T.take i) s=some z:=fun {j i} hji h=>by
 have e:T.take i=T.take j++(T.drop j).take (i-j):=by rw [← List.take_add,Nat.add_sub_cancel' hji]
 unfold fsT at h ⊢
 rw [e,List.find?_append,h]
 rfl
theorem NoCl.two {T:List TxV} {n:Nat} (h:NoCl T n) {i k:Nat} {x y:TxV} (hi:i<n) (hk:k<i) (hx:T[i]?=some x) (hy:T[k]?=some y) (hs:smL x.xs=smL y.xs):x.xs=y.xs:=by
 have key:∃ z,fsT (T.take i) (smL x.xs)=some z∧z.xs=y.xs:=by
  cases hf:fsT (T.take k) (smL y.xs) with
  | some z=>exact ⟨z,by rw [hs];exact fsT_pre (by omega) hf,h k y z (by omega) hy hf⟩
  | none =>
   have h1:fsT (T.take (k+1)) (smL y.xs)=some y:=by
    rw [show T.take (k+1)=T.take k++[y] by rw [List.take_add_one,hy];rfl,fsT_snoc,hf]
    exact if_pos rfl
   exact ⟨y,by rw [hs];exact fsT_pre hk h1,rfl⟩
 obtain ⟨z,hz,e⟩:=key
 exact (h i x z hi hx hz).symm.trans e
end Go.Proofs.YtgjffaoggjlamaaGreatDoor.Rc

namespace Go.Proofs.YtgjffaoggjlamaaGreatDoor.Rc
open Go Go.RowKit
def twEL (g o n c i k:Nat) (x y:TxV):List (Value→World→Prop):=[
 Eq1 (.slice (some ⟨g,o,none⟩) n c),
 Eq1 (.int .i64 i),
 Eq1 (.pointer (some ⟨g,o+i,none⟩)),
 Eq1 (.slice x.q x.xs.length x.c),
 Eq1 (.slice (some ⟨g,o,none⟩) n c),
 Eq1 (.int .i64 k),
 Eq1 (.pointer (some ⟨g,o+k,none⟩)),
 Eq1 (.slice y.q y.xs.length y.c),
 Eq1 (.bool true),
 Eq1 (.bool false),
 Eq1 (.bool false),
 Eq1 (undef),
 Eq1 (undef),
 Eq1 (undef),
 Eq1 (undef),
 Eq1 (undef),
 Eq1 (undef),
 Eq1 (undef),
 Eq1 (undef),
 Eq1 (undef),
 Eq1 (undef),
 Eq1 (undef),
 Eq1 (undef),
 Eq1 (undef),
 Eq1 (.bool false)]
theorem twES (g o n c i k:Nat) (x y:TxV):∀ j x' q q',(twEL g o n c i k x y).getD j (fun _ _=>True) x' q→Below q.heap.size q q'→(twEL g o n c i k x y).getD j (fun _ _=>True) x' q':=by
 refine sta_all _ ?_
 simp only [twEL,List.mem_cons,forall_eq_or_imp,List.not_mem_nil,false_implies,implies_true,and_true]
 exact ⟨sta_eq _,sta_eq _,sta_eq _,sta_eq _,sta_eq _,sta_eq _,sta_eq _,sta_eq _,sta_eq _,sta_eq _,sta_eq _,sta_eq _,sta_eq _,sta_eq _,sta_eq _,sta_eq _,sta_eq _,sta_eq _,sta_eq _,sta_eq _,sta_eq _,sta_eq _,sta_eq _,sta_eq _,sta_eq _⟩
set_option maxRecDepth 20000 in
set_option maxHeartbeats 8000000 in
theorem two_c (p:Option Addr) (n c:Nat) (T:List TxV) (hn:n=T.length) (hT:∀ x∈T,BR x.xs) (w:World) (hA:TsAt w p T) (hS:ShP w) (hCv:CvP w) :
  Calls Tryz.prog 12 #[.slice p n c] w (PostV (.bool true) w):=by
 have hB:=hS.lt
 have ha:=Lib.hid (awake29_c w hS hCv)
 have hrw:=Lib.hid (fun w1 (hb:Below w.heap.size w w1)=>rows29_c p n c T hn w1 (hA.below hb))
 have hcl:=Lib.hid (fun w1 (hb:Below w.heap.size w w1) (h60:n≤60) (hl:∀ x∈T,x.xs.length≤3000)=>Clash_c p n c T hn (by omega) (fun x hx=>⟨hT x hx,by have:=hl x hx;omega⟩) w1 (hA.below hb) (hS.below hb hB))
 have hsm:=Lib.hid (fun q cc (xs:List Int) (hbr:BR xs) (hle:xs.length≤3000) X w1 (hb:Below w.heap.size w w1) (hX:BytesL w1 q xs) (hc:xs.length≤cc) (hk:Blk w1 X 26 #[.slice q xs.length cc])=>show Calls Tryz.prog 62 #[.slice (some ⟨X,0,none⟩) 1 1] w1 (PostBs 64 (Sh.sumI (Sh.lenI [(xs.length,gB xs)]) (Sh.catI [(xs.length,gB xs)])) w1) from
  sha_l X 0 1 [.slice q xs.length cc] [(xs.length,gB xs)] w1 hk.lt (fun j u hu=>by rw [Nat.zero_add,hk.cell j];simpa using hu) ⟨⟨q,cc,rfl,hc,hX.bx⟩,trivial⟩ ⟨fun j _=>gB_byt hbr j,trivial⟩ (by show xs.length+0≤10000000;omega) (by show 1≤1000000;decide) (hS.below hb hB) (by have:=hb.size;omega))
 have hsB:=Lib.hid (fun g1 c1 g2 c2 (xs ys:List Int) w1 (k1:RowB w1 g1 64 c1 (Sh.sumI (Sh.lenI [(xs.length,gB xs)]) (Sh.catI [(xs.length,gB xs)]))) (k2:RowB w1 g2 64 c2 (Sh.sumI (Sh.lenI [(ys.length,gB ys)]) (Sh.catI [(ys.length,gB ys)])))=>show Calls Tryz.prog 28 #[.slice (some ⟨g1,0,none⟩) 64 c1,.slice (some ⟨g2,0,none⟩) 64 c2] w1 (PostV (.bool (eqL (smL xs) (smL ys))) w1) from sameBytes_c (some ⟨g1,0,none⟩) (some ⟨g2,0,none⟩) 64 c1 64 c2 (smL xs) (smL ys) (smL_len _).symm (smL_len _).symm (by decide) (by decide) w1 (rowB_l k1) (rowB_l k2))
 replace hA:=Lib.hid hA
 replace hT:=Lib.hid hT
 replace hn:=Lib.hid hn
 clear hS hCv
 go_enter Tryz.func12,Tryz.ntmps12
 go_wp2_with fail
 refine ha.out.mono ?_
 rintro e w1 ⟨rfl,hb0⟩
 clear ha
 go_wp2_with fail
 refine (hrw.out w1 hb0).mono ?_
 rintro e w2 ⟨b,rfl,hr,hb⟩
 replace hb0:=hb0.trans (hb.mono hb0.size)
 clear hb hrw
 cases b with
 | false =>
  clear hr hcl hsm
  go_wp2_with fail
  go_returns
  exact ⟨rfl,hb0⟩
 | true =>
  obtain ⟨h60,hl⟩:=hr rfl
  have cCl:=Lib.hid (hcl.out w2 hb0 h60 hl)
  replace hl:=Lib.hid hl
  clear hr hcl
  go_wp2_with fail
  refine cCl.out.mono ?_
  rintro e w3 h
  clear cCl
  rcases h with ⟨k,x,y,q1,d1,q2,d2,rfl,hk,hf,hne,k1,k2,⟨cp1,cp2⟩,hb⟩ | ⟨rfl,hno,hb⟩
  ·replace hb0:=hb0.trans (hb.mono hb0.size)
   have hxm:x∈T:=List.mem_of_mem_take (fsT_sum hf).2
   have hym:=List.mem_of_getElem? hk
   have bx:=Lib.hid (hT.out x hxm)
   have by':=Lib.hid (hT.out y hym)
   have lx:=hl.out x hxm
   have ly:=hl.out y hym
   have e1:eqL x.xs y.xs=false:=decide_eq_false hne
   have e2:eqL (smL x.xs) (smL y.xs)=true:=decide_eq_true (fsT_sum hf).1
   have cS:=sameBytes_c q1 q2 x.xs.length d1 y.xs.length d2 x.xs y.xs rfl rfl (by omega) (by omega) w3 k1 k2
   have cT:=fun g1 c1 g2 c2 w1 k1 k2=>hsB.out g1 c1 g2 c2 x.xs y.xs w1 k1 k2
   rw [e1] at cS
   rw [e2] at cT
   replace cS:=Lib.hid cS
   replace cT:=Lib.hid cT
   clear hb hk hf hne hxm hym e1 e2 hsB hA
   go_wp2_with fail
   refine cS.out.mono ?_
   rintro e w4 ⟨rfl,hb⟩
   replace k1:=k1.below hb
   replace k2:=k2.below hb
   replace hb0:=hb0.trans (hb.mono hb0.size)
   clear hb cS
   go_wp2_with fail
   refine calls_at (fun W hW=>?_)
   have hb:Below w4.heap.size w4 W:=by rw [hW];go_grown
   have kx:Blk W w4.heap.size 26 #[.slice q1 x.xs.length d1]:=by rw [hW];exact Blk.new _ _ _
   clear hW
   replace k1:=k1.below hb
   replace k2:=k2.below hb
   replace hb0:=hb0.trans (hb.mono hb0.size)
   clear hb
   refine (hsm.out q1 d1 x.xs bx.out lx _ W hb0 k1 cp1 kx).mono ?_
   rintro e w5 ⟨gs1,cs1,rfl,_,kS1,hb⟩
   replace k2:=k2.below hb
   replace hb0:=hb0.trans (hb.mono hb0.size)
   clear hb kx k1
   go_wp2_with fail
   refine calls_at (fun W hW=>?_)
   have hb:Below w5.heap.size w5 W:=by rw [hW];go_grown
   have kx:Blk W w5.heap.size 26 #[.slice q2 y.xs.length d2]:=by rw [hW];exact Blk.new _ _ _
   clear hW
   replace k2:=k2.below hb
   replace kS1:=kS1.below hb
   replace hb0:=hb0.trans (hb.mono hb0.size)
   clear hb
   refine (hsm.out q2 d2 y.xs by'.out ly _ W hb0 k2 cp2 kx).mono ?_
   rintro e w6 ⟨gs2,cs2,rfl,_,kS2,hb⟩
   replace kS1:=kS1.below hb
   replace hb0:=hb0.trans (hb.mono hb0.size)
   clear hb kx k2 hsm
   go_wp2_with fail
   refine (cT.out gs1 cs1 gs2 cs2 w6 kS1 kS2).mono ?_
   rintro e w7 ⟨rfl,hb⟩
   replace hb0:=hb0.trans (hb.mono hb0.size)
   clear hb cT kS1 kS2
   go_wp2_with fail
   go_returns
   exact ⟨rfl,hb0⟩
  replace hb0:=Lib.hid (hb0.trans (hb.mono hb0.size))
  replace hno:=Lib.hid hno
  clear hb
  go_wp2_with fail
  go_loopw [6,7] (fun i _ wr=>∃ k:Nat,k≤n∧i=.int .i64 k∧Below w.heap.size w wr) (fun i _ _=>(n-intOf i).toNat)
  case atStart=>exact ⟨0,by omega,rfl,hb0.out⟩
  case round =>
   obtain ⟨i,hi,rfl,hbi⟩:=hrel
   by_cases he:i=n
   ·subst he
    clear hsm hsB
    go_wp2
    go_returns
    exact ⟨rfl,hbi⟩
   have i0:(0:Int)≤(i:Int):=by omega
   have i1:(i:Int)<(n:Int):=by omega
   have hi2:=Lib.hid (show i<n by omega)
   have hil:i<T.length:=by have:=hn.out;omega
   obtain ⟨x,hx⟩:∃ x,T[i]?=some x:=⟨_,List.getElem?_eq_getElem hil⟩
   replace hx:=Lib.hid hx
   replace hbi:=Lib.hid hbi
   clear he hi hil
   go_wp2_with fail
   go_loopw [7] (fun j wr=>∃ k:Nat,k≤i∧j=.int .i64 k∧Below w.heap.size w wr) (fun j _=>(i-intOf j).toNat)
   case atStart=>exact ⟨0,by omega,rfl,hbi.out⟩
   case round =>
    obtain ⟨k,hk,rfl,hbk⟩:=hrel
    by_cases he:k=i
    ·subst he
     have h2:=hi2.out
     clear hsm hsB
     go_wp2
     exact ⟨⟨k+1,by omega,by simp,hbk⟩,by simp [intOf];omega⟩
    have k0:(0:Int)≤(k:Int):=by omega
    have k1:(k:Int)<(i:Int):=by omega
    have k2:(k:Int)<(n:Int):=by have:=hi2.out;omega
    have hk2:=Lib.hid (show k<i by omega)
    have hkl:k<T.length:=by have:=hn.out;have:=hi2.out;omega
    obtain ⟨y,hy⟩:∃ x,T[k]?=some x:=⟨_,List.getElem?_eq_getElem hkl⟩
    obtain ⟨g,o,rfl,hg,hc⟩:=(hA.out.below hbk) (by omega)
    obtain ⟨y0,xb,xc⟩:=hc i x hx.out
    obtain ⟨z0,yb,yc⟩:=hc k y hy
    have hxT:=List.mem_of_getElem? hx.out
    have hyT:=List.mem_of_getElem? hy
    have hSS:=Lib.hid (fun w' (hb:Below wr.heap.size wr w')=>(⟨(hb.cell (p:=⟨g,o+i,none⟩) hg).trans y0,(hb.cell (p:=⟨g,o+k,none⟩) hg).trans z0⟩:w'.cell? ⟨g,o+i,none⟩=some (.slice x.q x.xs.length x.c)∧w'.cell? ⟨g,o+k,none⟩=some (.slice y.q y.xs.length y.c)))
    have cS:=Lib.hid (fun w1 (hb:Below wr.heap.size wr w1)=>sameBytes_c x.q y.q x.xs.length x.c y.xs.length y.c x.xs y.xs rfl rfl (by have:=hl.out x hxT;omega) (by have:=hl.out y hyT;omega) w1 (xb.below hb) (yb.below hb))
    by_cases hxy:x.xs=y.xs
    ·have eq1:eqL x.xs y.xs=true:=decide_eq_true hxy
     rw [eq1] at cS
     replace hxy:=Lib.hid hxy
     have z1:=Below.refl wr.heap.size wr
     have hs:=Lib.hid hbk.size
     replace hbk:=Lib.hid hbk
     clear he hk hc xb yb hxT hyT eq1 hkl hsm hsB
     go_upto_region 14 with fail
     refine wp_region_grow2 25 (fun k=>(Nat.ble 44 k&&Nat.ble k 68)) _ [] (fun j x' q=>(twEL g o n c i k x y).getD j (fun _ _=>True) x' q) (fun _=>false) (fun f=>#[.slice (some ⟨g,o,none⟩) n c,_,_,_,_,_,.int .i64 i,.int .i64 k,_,_,_,_,_,_,_,_,_,_,_,_,_,_,_,_,_,_,_,_,_,_,_,_,_,_,_,_,_,_,_,_,_,_,_,_,f 44,f 45,f 46,f 47,f 48,f 49,f 50,f 51,f 52,f 53,f 54,f 55,f 56,f 57,f 58,f 59,f 60,f 61,f 62,f 63,f 64,f 65,f 66,f 67,f 68,_,_,_,_,_,_]) (fun f=>rfl) (by kernel_rfl) (by kernel_rfl) (by kernel_rfl) (by kernel_rfl) (by kernel_rfl) (twES _ _ _ _ _ _ _ _) (fun _ _ _ h=>by cases h) ?_ ?_
     ·refine steps2_cons ?_ ?_
      ·intro f w1 hb hd Q hK
       clear hd
       have hK:=Lib.hid hK
       go_wp2
       exact hK.out _ _ rfl (.refl _ _) nof
      refine steps2_cons ?_ ?_
      ·intro f w1 hb hd Q hK
       clear hd
       have hK:=Lib.hid hK
       go_wp2
       exact hK.out _ _ rfl (.refl _ _) nof
      refine steps2_cons ?_ ?_
      ·intro f w1 hb hd Q hK
       have e44:f 44=.slice (some ⟨g,o,none⟩) n c:=hd.1 rfl
       have e45:f 45=.int .i64 i:=hd.2.1 rfl
       clear hd
       simp only [e44,e45] at hK
       have hK:=Lib.hid hK
       go_wp2
       exact hK.out _ _ rfl (.refl _ _) nof
      refine steps2_cons ?_ ?_
      ·intro f w1 hb hd Q hK
       have e46:f 46=.pointer (some ⟨g,o+i,none⟩):=hd.1 rfl
       clear hd
       simp only [e46] at hK
       have hK:=Lib.hid hK
       have c0:=(hSS.out _ hb).1
       go_wp2
       exact hK.out _ _ rfl (.refl _ _) nof
      refine steps2_cons ?_ ?_
      ·intro f w1 hb hd Q hK
       clear hd
       have hK:=Lib.hid hK
       go_wp2
       exact hK.out _ _ rfl (.refl _ _) nof
      refine steps2_cons ?_ ?_
      ·intro f w1 hb hd Q hK
       clear hd
       have hK:=Lib.hid hK
       go_wp2
       exact hK.out _ _ rfl (.refl _ _) nof
      refine steps2_cons ?_ ?_
      ·intro f w1 hb hd Q hK
       have e48:f 48=.slice (some ⟨g,o,none⟩) n c:=hd.1 rfl
       have e49:f 49=.int .i64 k:=hd.2.1 rfl
       clear hd
       simp only [e48,e49] at hK
       have hK:=Lib.hid hK
       go_wp2
       exact hK.out _ _ rfl (.refl _ _) nof
      refine steps2_cons ?_ ?_
      ·intro f w1 hb hd Q hK
       have e50:f 50=.pointer (some ⟨g,o+k,none⟩):=hd.1 rfl
       clear hd
       simp only [e50] at hK
       have hK:=Lib.hid hK
       have c0:=(hSS.out _ hb).2
       go_wp2
       exact hK.out _ _ rfl (.refl _ _) nof
      refine steps2_cons ?_ ?_
      ·intro f w1 hb hd Q hK
       have e47:f 47=.slice x.q x.xs.length x.c:=hd.1 rfl
       have e51:f 51=.slice y.q y.xs.length y.c:=hd.2.1 rfl
       clear hd
       simp only [e47,e51] at hK
       have hK:=Lib.hid hK
       go_wp2_with fail
       refine (cS.out _ hb).mono ?_
       rintro e w2 ⟨rfl,hb2⟩
       go_wp2
       exact hK.out _ _ rfl hb2 nof
      refine steps2_cons ?_ ?_
      ·intro f w1 hb hd Q hK
       have e52:f 52=.bool true:=hd.1 rfl
       clear hd
       simp only [e52] at hK
       have hK:=Lib.hid hK
       go_wp2
       exact hK.out _ _ rfl (.refl _ _) nof
      refine steps2_cons ?_ ?_
      ·intro f w1 hb hd Q hK
       have e53:f 53=.bool false:=hd.1 rfl
       clear hd
       simp only [e53] at hK
       have hK:=Lib.hid hK
       go_wp2
       exact hK.out _ _ rfl (.refl _ _) nof
      refine steps2_cons ?_ ?_
      ·intro f w1 hb hd Q hK
       have e54:f 54=.bool false:=hd.1 rfl
       clear hd
       simp only [e54] at hK
       have hK:=Lib.hid hK
       go_wp2
       exact hK.out _ _ rfl (.refl _ _) nof
      refine steps2_cons ?_ ?_
      ·intro f w1 hb hd Q hK
       have e54:f 54=.bool false:=hd.1 rfl
       clear hd
       simp only [e54] at hK
       have hK:=Lib.hid hK
       go_wp2
       exact hK.out _ _ rfl (.refl _ _) nof
      refine steps2_cons ?_ ?_
      ·intro f w1 hb hd Q hK
       have e55:f 55=undef:=hd.1 rfl
       have e56:f 56=undef:=hd.2.1 rfl
       have e54:f 54=.bool false:=hd.2.2.1 rfl
       clear hd
       simp only [e55,e56,e54] at hK
       have hK:=Lib.hid hK
       go_wp2
       exact hK.out _ _ rfl (.refl _ _) nof
      refine steps2_cons ?_ ?_
      ·intro f w1 hb hd Q hK
       have e57:f 57=undef:=hd.1 rfl
       have e54:f 54=.bool false:=hd.2.1 rfl
       clear hd
       simp only [e57,e54] at hK
       have hK:=Lib.hid hK
       go_wp2
       exact hK.out _ _ rfl (.refl _ _) nof
      refine steps2_cons ?_ ?_
      ·intro f w1 hb hd Q hK
       have e58:f 58=undef:=hd.1 rfl
       have e54:f 54=.bool false:=hd.2.1 rfl
       clear hd
       simp only [e58,e54] at hK
       have hK:=Lib.hid hK
       go_wp2
       exact hK.out _ _ rfl (.refl _ _) nof
      refine steps2_cons ?_ ?_
      ·intro f w1 hb hd Q hK
       have e59:f 59=undef:=hd.1 rfl
       have e54:f 54=.bool false:=hd.2.1 rfl
       clear hd
       simp only [e59,e54] at hK
       have hK:=Lib.hid hK
       go_wp2
       exact hK.out _ _ rfl (.refl _ _) nof
      refine steps2_cons ?_ ?_
      ·intro f w1 hb hd Q hK
       have e54:f 54=.bool false:=hd.1 rfl
       clear hd
       simp only [e54] at hK
       have hK:=Lib.hid hK
       go_wp2
       exact hK.out _ _ rfl (.refl _ _) nof
      refine steps2_cons ?_ ?_
      ·intro f w1 hb hd Q hK
       have e54:f 54=.bool false:=hd.1 rfl
       clear hd
       simp only [e54] at hK
       have hK:=Lib.hid hK
       go_wp2
       exact hK.out _ _ rfl (.refl _ _) nof
      refine steps2_cons ?_ ?_
      ·intro f w1 hb hd Q hK
       have e61:f 61=undef:=hd.1 rfl
       have e62:f 62=undef:=hd.2.1 rfl
       have e54:f 54=.bool false:=hd.2.2.1 rfl
       clear hd
       simp only [e61,e62,e54] at hK
       have hK:=Lib.hid hK
       go_wp2
       exact hK.out _ _ rfl (.refl _ _) nof
      refine steps2_cons ?_ ?_
      ·intro f w1 hb hd Q hK
       have e63:f 63=undef:=hd.1 rfl
       have e54:f 54=.bool false:=hd.2.1 rfl
       clear hd
       simp only [e63,e54] at hK
       have hK:=Lib.hid hK
       go_wp2
       exact hK.out _ _ rfl (.refl _ _) nof
      refine steps2_cons ?_ ?_
      ·intro f w1 hb hd Q hK
       have e64:f 64=undef:=hd.1 rfl
       have e54:f 54=.bool false:=hd.2.1 rfl
       clear hd
       simp only [e64,e54] at hK
       have hK:=Lib.hid hK
       go_wp2
       exact hK.out _ _ rfl (.refl _ _) nof
      refine steps2_cons ?_ ?_
      ·intro f w1 hb hd Q hK
       have e65:f 65=undef:=hd.1 rfl
       have e54:f 54=.bool false:=hd.2.2.1 rfl
       clear hd
       simp only [e65,e54] at hK
       have hK:=Lib.hid hK
       go_wp2
       exact hK.out _ _ rfl (.refl _ _) nof
      refine steps2_cons ?_ ?_
      ·intro f w1 hb hd Q hK
       have e60:f 60=undef:=hd.1 rfl
       have e66:f 66=undef:=hd.2.1 rfl
       have e54:f 54=.bool false:=hd.2.2.2.1 rfl
       clear hd
       simp only [e60,e66,e54] at hK
       have hK:=Lib.hid hK
       go_wp2
       exact hK.out _ _ rfl (.refl _ _) nof
      refine steps2_cons ?_ ?_
      ·intro f w1 hb hd Q hK
       have e54:f 54=.bool false:=hd.1 rfl
       have e67:f 67=undef:=hd.2.1 rfl
       clear hd
       simp only [e54,e67] at hK
       have hK:=Lib.hid hK
       go_wp2
       exact hK.out _ _ rfl (.refl _ _) nof
      trivial
     intro f w1 hb hf hne
     refine wpList_nil ?_
     have d68:f 68=.bool false:=hf 24 _ _ (by decide) rfl rfl
     simp only [d68]
     have hP:=Lib.hid (hbk.out.trans (hb.mono hs.out))
     clear hf hne d68 hb hSS cS z1
     have hk9:=hk2.out
     go_wp2
     exact ⟨⟨k+1,by omega,by simp,hP.out⟩,by simp [intOf];omega⟩
    have eq1:eqL x.xs y.xs=false:=decide_eq_false hxy
    rw [eq1] at cS
    have e2:eqL (smL x.xs) (smL y.xs)=false:=decide_eq_false (fun h=>hxy (hno.out.two (by have:=hn.out;have:=hi2.out;omega) hk2.out hx.out hy h))
    have cT:=fun g1 c1 g2 c2 w1 k1 k2=>hsB.out g1 c1 g2 c2 x.xs y.xs w1 k1 k2
    rw [e2] at cT
    replace cT:=Lib.hid cT
    have bx:=Lib.hid (hT.out x hxT)
    have by':=Lib.hid (hT.out y hyT)
    have lx:=hl.out x hxT
    have ly:=hl.out y hyT
    have z1:=Below.refl wr.heap.size wr
    have hs:=Lib.hid hbk.size
    replace hbk:=Lib.hid hbk
    clear he hk hc hxT hyT eq1 e2 hkl hxy
    go_upto_region 14 with fail
    go_region_held3 (fun w'=>w'.cell? ⟨g,o+i,none⟩=some (.slice x.q x.xs.length x.c)∧w'.cell? ⟨g,o+k,none⟩=some (.slice y.q y.xs.length y.c)) (first | (with_reducible exact hSS.out _ n4) | (with_reducible exact hSS.out _ n3) | (with_reducible exact hSS.out _ n2) | (with_reducible exact hSS.out _ n1) | (with_reducible exact hSS.out _ z1) | (with_reducible exact hSS.out _ z1.drew) | exact hSS.out _ (by go_grown)) (first | (go_at_call 28;refine calls_at (fun V1 h1=>?_);have m1:Below wr.heap.size wr V1:=(by rw [h1];go_grown);clear h1;(with_reducible refine (cS.out V1 m1).mono ?_);rintro e w4 ⟨rfl,hbb⟩;have n1:=m1.trans (hbb.mono m1.size);have s4:=n1.size;clear hbb m1) | (go_at_call 62;refine calls_at (fun V1 h1=>?_);have m1:Below w4.heap.size w4 V1:=(by rw [h1];go_grown);(first | have kx:Blk V1 w4.heap.size 26 #[.slice x.q x.xs.length x.c]:=(by rw [h1];first | exact Blk.new _ _ _ | exact (Blk.new _ _ _).alloc _) | have kx:Blk V1 (w4.heap.size+1) 26 #[.slice x.q x.xs.length x.c]:=(by rw [h1];exact blk_at (by simp) (Blk.new _ _ _)));(first | have ky0:Blk V1 w4.heap.size 26 #[.slice y.q y.xs.length y.c]:=(by rw [h1];first | exact Blk.new _ _ _ | exact (Blk.new _ _ _).alloc _) | have ky0:Blk V1 (w4.heap.size+1) 26 #[.slice y.q y.xs.length y.c]:=(by rw [h1];exact blk_at (by simp) (Blk.new _ _ _)) | skip);clear h1;have m2:=n1.trans (m1.mono n1.size);(with_reducible refine (hsm.out x.q x.c x.xs bx.out lx _ V1 (hbk.out.trans (m2.mono hs.out)) (xb.below m2) xc kx).mono ?_);rintro e w5 ⟨gs1,cs1,rfl,_,kS1,hbb⟩;have n2:=m2.trans (hbb.mono m2.size);have s5:=n2.size;(try have ky1:=ky0.below hbb);clear hbb m1 kx) | (go_at_call 62;refine calls_at (fun V1 h1=>?_);have m1:Below w5.heap.size w5 V1:=(by rw [h1];go_grown);(first | have ky:=ky1.below m1 | have ky:Blk V1 w5.heap.size 26 #[.slice y.q y.xs.length y.c]:=(by rw [h1];exact Blk.new _ _ _));clear h1;have m2:=n2.trans (m1.mono n2.size);(with_reducible refine (hsm.out y.q y.c y.xs by'.out ly _ V1 (hbk.out.trans (m2.mono hs.out)) (yb.below m2) yc ky).mono ?_);rintro e w6 ⟨gs2,cs2,rfl,_,kS2,hbb⟩;have n3:=m2.trans (hbb.mono m2.size);have kS1':=(kS1.below m1).below hbb;clear hbb m1 ky) | (go_at_call 28;(with_reducible refine (cT.out gs1 cs1 gs2 cs2 w6 kS1' kS2).mono ?_);rintro e w7 ⟨rfl,hbb⟩;have n4:=n3.trans (hbb.mono n3.size);clear hbb))
    all_goals
     have hP:=Lib.hid (hbk.out.trans (n4.mono hs.out))
     clear hSS n4 n3 n2 n1 z1 cS cT xb yb
     have hk9:=hk2.out
     go_wp2
     exact ⟨⟨k+1,by omega,by simp,hP.out⟩,by simp [intOf];omega⟩
end Go.Proofs.YtgjffaoggjlamaaGreatDoor.Rc
