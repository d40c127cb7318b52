import Derived.Test.YtnopjabcdloepaaGreatDoorKr
import Derived.Test.YtnopjabcdloepaaGreatDoorCv
import Derived.Test.YtnopjabcdloepaaGreatDoorKi
import Derived.Test.YtnopjabcdloepaaGreatDoorPa
import Derived.RegionTactic
import Derived.Deep.CutRange
namespace Go.Proofs.YtnopjabcdloepaaGreatDoor
open Go Go.RowKit
set_option maxRecDepth 20000 in
set_option maxHeartbeats 2000000 in
theorem copyB_c (g o n c:Nat) (b:Nat→Int) (hn0:0<n) (hn:n≤1000000) (w:World) (hc:∀ j,j<n→w.cell? ⟨g,o+j,none⟩=some (.int .u8 (b j))):Calls Tryz.prog 54 #[.slice (some ⟨g,o,none⟩) n c] w (PostBs n b w):=by
 obtain ⟨i0,hi,hz0,hz1,hz2⟩:=info3 u8_info'
 have hnews:∀ j u,(cB n b)[j]?=some u→w.cell? ((⟨g,o,none⟩:Addr).add j)=some u:=fun j u hu=>by
  have hj:j<n:=by have:=(List.getElem?_eq_some_iff.1 hu).1;rwa [cB_len] at this
  rw [cB_get n b j hj] at hu
  rw [add_o,hc j hj,hu]
 replace hi:=Lib.hid hi
 replace hz0:=Lib.hid hz0
 replace hz1:=Lib.hid hz1
 replace hz2:=Lib.hid hz2
 replace hnews:=Lib.hid hnews
 have hn1:=Lib.hid hn
 have hn2:=Lib.hid hn0
 clear hc hn hn0
 go_enter Tryz.func54,Tryz.ntmps54
 go_wp2_with (at_builtin;refine wpList_append_own_at w rfl _ _ 22 rfl w.heap.size 5 i0 _ 1 1 by_under' hi.out hz0.out hz1.out hz2.out rfl (by decide) (.slice none 0 0) 0 [] rfl ⟨rfl,.inl ⟨rfl,rfl⟩⟩ ⟨g,o,none⟩ n c (cB n b) rfl (by rw [cB_len];omega) hnews.out cB_one (by have:=hn1.out;unfold maxLen;omega) (by have:=hn1.out;omega) (Nat.le_refl _) ?_;intro v1 w1 hO hgr _ _;rw [Nat.zero_add,List.nil_append] at hO;obtain ⟨g1,cc,rfl,hg1,hR⟩:=own_rowB hO hn2.out;have hb1:Below w.heap.size w w1:=(Below.refl _ _).grown hgr (Nat.le_refl _) (fun k hk=>by cases hk);have hP:=Lib.hid (show PostBs n b w (.returned (.slice (some ⟨g1,0,none⟩) n cc)) w1 from ⟨g1,cc,rfl,hg1,hR,hb1⟩);clear hO hgr hg1 hR hb1)
 go_returns
 exact hP.out
set_option maxRecDepth 20000 in
set_option maxHeartbeats 2000000 in
theorem openx_c (p:Option Addr) (n c:Nat) (hn:n≠32) (w:World):Calls Tryz.prog 117 #[.slice p n c] w fun e w'=>e=.returned (.tuple #[.pointer none,.bool false])∧w=w':=by
 have hn1:¬ (n:Int)=32:=by omega
 go_enter Tryz.func117,Tryz.ntmps117
 go_wp2
 go_returns
 exact ⟨rfl,rfl⟩
set_option maxRecDepth 20000 in
set_option maxHeartbeats 2000000 in
theorem Publicx_c (p:Option Addr) (n c:Nat) (hn:n≠32) (w:World):Calls Tryz.prog 37 #[.slice p n c] w (PostV (.slice none 0 0) w):=by
 have hop:=Lib.hid (openx_c p n c hn w)
 go_enter Tryz.func37,Tryz.ntmps37
 go_wp2_with fail
 refine hop.out.mono ?_
 rintro e w2 ⟨rfl,rfl⟩
 go_wp2_with fail
 go_returns
 exact ⟨rfl,Below.refl _ _⟩
set_option maxRecDepth 20000 in
set_option maxHeartbeats 1500000 in
theorem verify_x1 (p q:Option Addr) (n c m d:Nat) (v:Value) (hn:¬ n=32) (w:World):Calls Tryz.prog 82 #[.slice p n c,.slice q m d,v] w (PostV (.bool false) w):=by
 have h1:¬ (n:Int)=32:=by omega
 go_enter Tryz.func82,Tryz.ntmps82
 go_wp2_with fail
 go_returns
 exact ⟨rfl,Below.refl _ _⟩
def eqB (n:Nat) (a:Nat→Int) (m:Nat) (b:Nat→Int):Bool:=decide (n=m∧∀ j,j<n→a j=b j)
set_option maxRecDepth 20000 in
set_option maxHeartbeats 4000000 in
theorem sameB_c (p1 p2:Option Addr) (n1 c1 n2 c2:Nat) (b1 b2:Nat→Int) (hn:n1≤1000000) (hn2:n2≤1000000) (w:World) (hXc:BAt w p1 n1 b1) (hYc:BAt w p2 n2 b2) :
  Calls Tryz.prog 27 #[.slice p1 n1 c1,.slice p2 n2 c2] w fun e w'=>e=.returned (.bool (eqB n1 b1 n2 b2))∧Below w.heap.size w w':=by
 have hne:n1≠n2→eqB n1 b1 n2 b2=false:=fun h=>decide_eq_false (fun e=>h e.1)
 have hyes:n1=n2→(∀ j,j<n1→b1 j=b2 j)→eqB n1 b1 n2 b2=true:=fun e h=>decide_eq_true ⟨e,h⟩
 have hno:∀ j,j<n1→b1 j≠b2 j→eqB n1 b1 n2 b2=false:=fun j hj h=>decide_eq_false (fun e=>h (e.2 j hj))
 generalize eqB n1 b1 n2 b2=E at *
 replace hyes:=Lib.hid hyes
 replace hno:=Lib.hid hno
 replace hne:=Lib.hid hne
 replace hXc:=Lib.hid hXc
 replace hYc:=Lib.hid hYc
 go_enter Tryz.func27,Tryz.ntmps27
 by_cases hn:n1=n2
 ·subst hn
  go_wp2
  go_loopw [5] (fun i wr=>∃ m:Nat,m≤n1∧i=.int .i64 m∧(∀ j,j<m→b1 j=b2 j)∧Below w.heap.size w wr) (fun i _=>(n1-intOf i).toNat)
  case atStart=>exact ⟨0,by omega,rfl,fun j h=>absurd h (by omega),Below.refl _ _⟩
  case round =>
   obtain ⟨m,hm,hi,hI,hb⟩:=hrel
   subst hi
   by_cases hmn:m=n1
   ·subst hmn
    have he:=hyes.out (by trivial) hI
    replace he:=Lib.hid he
    clear hm hI
    go_wp2
    go_returns
    exact ⟨by rw [he.out];rfl,hb⟩
   have hm':(m:Int)<n1:=by omega
   have hm0:(0:Int)≤(m:Int):=by omega
   have hn0:(n1:Int)≤1000000:=by omega
   obtain ⟨g1,o1,rfl,hg1,hB1⟩:=hXc.out (by omega)
   obtain ⟨g2,o2,rfl,hg2,hB2⟩:=hYc.out (by omega)
   have ca:=(hb.cell (p:=⟨g1,o1+m,none⟩) hg1).trans (hB1 m (by omega))
   have cb:=(hb.cell (p:=⟨g2,o2+m,none⟩) hg2).trans (hB2 m (by omega))
   have hm2:m+1≤n1:=by omega
   clear hB1 hB2 hXc hYc
   have hIh:=Lib.hid hI
   clear hI
   by_cases he:b1 m=b2 m
   ·replace he:=Lib.hid he
    go_wp2
    go_region
    rw [he.out]
    go_wp2
    refine ⟨⟨m+1,hm2,rfl,fun j hj=>?_,hb.drew⟩,by simp [intOf];omega⟩
    by_cases e:j=m
    ·rw [e];exact he.out
    exact hIh.out j (by omega)
   have he2:(b1 m==b2 m)=false:=by simpa using he
   have hf:=Lib.hid (hno.out m (by omega) he)
   go_wp2
   go_region
   simp only [he2,bne,Bool.not_false]
   go_wp2
   go_returns
   exact ⟨by rw [hf.out];rfl,hb.drew⟩
 have hn3:((n1:Int)==(n2:Int))=false:=by simp;omega
 have hf:=Lib.hid (hne.out hn)
 go_wp2
 go_returns
 exact ⟨by rw [hf.out];rfl,Below.refl _ _⟩
set_option maxRecDepth 20000 in
set_option maxHeartbeats 2000000 in
theorem pick_c (x:Int) (n:Nat) (h0:0<n) (hn:n≤1000000000) (w:World):Calls Tryz.prog 40 #[.int .i64 x,.int .i64 n] w fun e w'=>∃ k:Nat,e=.returned (.int .i64 k)∧k<n∧w'=w:=by
 have ht : -(n:Int)<x.tmod n∧x.tmod n<n:=by
  have h1:=Int.tmod_lt_of_pos x (show (0:Int)<n by omega)
  have h2 : -(n:Int)<x.tmod n:=by
   have h3:=Int.tmod_lt_of_pos (-x) (show (0:Int)<n by omega)
   rw [Int.neg_tmod] at h3
   omega
  exact ⟨h2,h1⟩
 obtain ⟨r,hr⟩:∃ r,r=x.tmod n:=⟨_,rfl⟩
 rw [← hr] at ht
 have hw:IntKind.i64.wrap r=r:=by rw [IntKind.wrap_i64];omega
 have hw5:IntKind.i64.wrap (r+n)=r+n:=by rw [IntKind.wrap_i64];omega
 have hz:¬ (n:Int)=0:=by omega
 have hz1:¬ (n:Int)<1:=by omega
 go_enter Tryz.func40,Tryz.ntmps40
 by_cases hn:r<0
 ·go_wp2
  rw [← hr]
  go_returns
  exact ⟨(r+n).toNat,by rw [Int.toNat_of_nonneg (by omega)];rfl,by omega,rfl⟩
 go_wp2
 rw [← hr]
 go_returns
 exact ⟨r.toNat,by rw [Int.toNat_of_nonneg (by omega)];rfl,by omega,rfl⟩
end Go.Proofs.YtnopjabcdloepaaGreatDoor
namespace Go.Proofs.YtnopjabcdloepaaGreatDoor
open Go.ChangeShapes Go.WideShapes Go.ChangeAt Go.WideMaps Go.WideElems Go.RowKit
theorem u8_cells:Tryz.prog.cellsOf 5=1:=by kernel_rfl
section
variable {H:Type} {enc:TypeId × Value→H} {W:World}
set_option maxRecDepth 100000 in
theorem open_bs {base:Nat} {r:Reach} {b0:Nat} {sp:Nat→Bool} {v:Value} {d:DataW H} {ps:List MemPlace} (hv:Value.okWide Tryz.prog W r b0 22 v) (h:DataW.Trod enc Tryz.prog W base sp true 22 v d ps) :
  ∃ p n c b,v=.slice p n c∧(∀ j,0≤b j∧b j<256)∧BAt W p n b∧n≤c:=by
 obtain ⟨a1,len,cap,rfl⟩:=okWide_slice bs_underK hv
 obtain ⟨fuel,hf⟩:=h
 rcases open_ints bs_underK u8_under u8_cells hf with ⟨hcs,hx⟩ | ⟨a,len',cap',zs,hcs,_,hl,hm,hz,hx,hcell,hwz⟩
 ·simp [Value.cells] at hcs
  obtain ⟨rfl,rfl,rfl⟩:=hcs
  exact ⟨none,0,0,fun _=>0,rfl,fun _=>⟨Int.le_refl _,show (0:Int)<256 by decide⟩,fun h=>absurd h (by decide),Nat.le_refl _⟩
 simp [Value.cells] at hcs
 obtain ⟨rfl,rfl,rfl⟩:=hcs
 have hlz:len≤zs.length:=by rw [hz];split <;> omega
 refine ⟨some a,len,cap,fun j=>zs.getD j 0,rfl,fun j=>by
  have:=range_u8 hwz j
  show 0≤zs.getD j 0∧zs.getD j 0<256
  rw [List.getD_eq_getElem?_getD]
  omega,fun hpos=>?_,hl⟩
 obtain ⟨ab,ao,spot⟩:=a
 have hc1:=hcell 0 (by omega)
 have hspot:spot=none:=by simpa [Addr.add] using World.cell?_spot hc1
 subst hspot
 refine ⟨ab,ao,rfl,?_,fun j hj=>?_⟩
 ·rcases Nat.lt_or_ge ab W.heap.size with h | h
  ·exact h
  rw [add_o] at hc1
  simp only [World.cell?,Array.getElem?_eq_none h] at hc1
  cases hc1
 have:=hcell j (by omega)
 rwa [add_o] at this
end
end Go.Proofs.YtnopjabcdloepaaGreatDoor

namespace Go.Proofs.YtnopjabcdloepaaGreatDoor.Rc
open Go Go.RowKit
theorem bL_fL (n:Nat) (f:Nat→Int):bL (fL n f)=cB n f:=by simp [bL,fL,cB]
theorem rowB_own {w:World} {g n c:Nat} {f:Nat→Int} (h:RowB w g n c f) {B:Nat} (hB:B≤g):w.ownsRow B 5 1 (.slice (some ⟨g,0,none⟩) n c) n (bL (fL n f)):=by
 obtain ⟨cur,h1,h2,h3,h4,h5⟩:=h
 refine ⟨by rw [bL_len,fL_len,Nat.mul_one],.inr ⟨g,c,cur,rfl,hB,h1,h2,h3,by rw [Nat.mul_one];exact h4,?_⟩⟩
 rw [bL_fL,Nat.mul_one]
 exact h5
def recZ:Array Value:=#[.string ⟨#[]⟩,.int .i64 0,.int .i64 0,.slice none 0 0,.bool false,.slice none 0 0,.slice none 0 0]
def PostZ (code:Int) (w:World) (e:Ending) (w':World):Prop:=e=.returned (.tuple #[.agg recZ,.int .i64 code])∧Below w.heap.size w w'
set_option maxRecDepth 20000 in
set_option maxHeartbeats 2000000 in
theorem Seal_x1 (p:Option Addr) (m c:Nat) (hm:m≠32) (k:ByteArray) (cl sq:Int) (p1:Option Addr) (n1 c1:Nat) (gone:Bool) (p2:Option Addr) (n2 c2:Nat) (p3:Option Addr) (n3 c3:Nat) (w:World) :
  Calls Tryz.prog 35 #[.slice p m c,.agg #[.string k,.int .i64 cl,.int .i64 sq,.slice p1 n1 c1,.bool gone,.slice p2 n2 c2,.slice p3 n3 c3]] w (PostZ 2 w):=by
 have hpx:=Lib.hid (fun w1=>Publicx_c p m c hm w1)
 have he:=eqnilB_none 0 0
 clear hm
 go_enter Tryz.func35,Tryz.ntmps35
 go_wp2_with fail
 refine calls_at (fun W hW=>?_)
 have hb0:Below w.heap.size w W:=by rw [hW];go_grown
 obtain ⟨gZ,hgZ⟩:∃ g,g=w.heap.size+1:=⟨_,rfl⟩
 have kZ:Blk W gZ 45 #[.string ⟨#[]⟩,.int .i64 0,.int .i64 0,.slice none 0 0,.bool false,.slice none 0 0,.slice none 0 0]:=by rw [hW,hgZ];exact (blk_at (by simp) (Blk.new _ _ _)).alloc _
 have lZ:w.heap.size≤gZ:=by omega
 rw [← hgZ]
 clear hW hgZ
 refine (hpx.out W).mono ?_
 rintro e w2 ⟨rfl,hb⟩
 replace kZ:=kZ.below hb
 replace hb0:=hb0.trans (hb.mono hb0.size)
 clear hb hpx
 have hs:=hb0.size
 go_wp2_with (refine stRec rfl rfl rfl rfl kZ rfl (by kernel_rfl) ?_;intro w4 hR4 hg4 hs4)
 obtain ⟨u0,u1,u2,u3,u4,u5,u6⟩:=blk7 hR4
 have hbf:Below w.heap.size w w4:=hb0.grown hg4 hs (fun k hk=>by have:gZ=k:=Option.some.inj hk;omega)
 exact bodyPost_ret (v:=.tuple #[.agg recZ,.int .i64 2]) (by simp [results,Tryz.results35,go_sem,u0,u1,u2,u3,u4,u5,u6,recZ]) rfl ⟨rfl,hbf⟩
set_option maxRecDepth 20000 in
set_option maxHeartbeats 2000000 in
theorem Seal_x2 (p:Option Addr) (c:Nat) (F:Nat→Int) (hc:32≤c) (hF:Sc.Byt F) (k:ByteArray) (cl sq:Int) (p1:Option Addr) (n1 c1:Nat) (gone:Bool) (p2:Option Addr) (n2 c2:Nat) (p3:Option Addr) (n3 c3:Nat) (ds:List Int) (hn1:n1≤100000) (hno:shB k.size cl sq n1 ds gone n2=false) (w:World) (hX:BX [] w p 32 F) (hD:DotsL w p1 n1 ds) (hS:ShP w) (hCv:CvP w) :
  Calls Tryz.prog 35 #[.slice p 32 c,.agg #[.string k,.int .i64 cl,.int .i64 sq,.slice p1 n1 c1,.bool gone,.slice p2 n2 c2,.slice p3 n3 c3]] w (PostZ 4 w):=by
 have hB:=hS.lt
 have hpx:=Lib.hid (fun w1 (hb:Below w.heap.size w w1)=>Public_c p c F hc (fun j _=>hF j) w1 (bx_below hX hb) (hS.below hb hB) (by have:=hb.size;omega) (hCv.below hb hCv.lt))
 have hsh:=fun w1 (hb:Below w.heap.size w w1)=>shaped_c k cl sq p1 n1 c1 gone p2 n2 c2 p3 n3 c3 ds (by omega) w1 (hD.below hb)
 rw [hno] at hsh
 replace hsh:=Lib.hid hsh
 clear hS hCv hX hD hno hn1 hF hc
 go_enter Tryz.func35,Tryz.ntmps35
 go_wp2_with fail
 refine calls_at (fun W hW=>?_)
 have hb0:Below w.heap.size w W:=by rw [hW];go_grown
 obtain ⟨gZ,hgZ⟩:∃ g,g=w.heap.size+1:=⟨_,rfl⟩
 obtain ⟨gW,hgW⟩:∃ g,g=w.heap.size+1+1:=⟨_,rfl⟩
 have kZ:Blk W gZ 45 #[.string ⟨#[]⟩,.int .i64 0,.int .i64 0,.slice none 0 0,.bool false,.slice none 0 0,.slice none 0 0]:=by rw [hW,hgZ];exact (blk_at (by simp) (Blk.new _ _ _)).alloc _
 have kW:Blk W gW 155 #[.string k,.int .i64 cl,.int .i64 sq,.slice p1 n1 c1,.bool gone,.slice p2 n2 c2,.slice p3 n3 c3]:=by rw [hW,hgW];exact blk_at (by simp) (Blk.new _ _ _)
 have lZ:w.heap.size≤gZ:=by omega
 rw [← hgW,← hgZ]
 clear hW hgZ hgW
 refine (hpx.out W hb0).mono ?_
 rintro e w2 ⟨gk,ck,rfl,_,_,hb⟩
 replace kZ:=kZ.below hb
 replace kW:=kW.below hb
 replace hb0:=hb0.trans (hb.mono hb0.size)
 clear hb hpx
 have he:=eqnilB_some ⟨gk,0,none⟩ 32 ck
 obtain ⟨y0,y1,y2,y3,y4,y5,y6⟩:=blk7 kW
 go_wp2_with fail
 refine (hsh.out w2 hb0).mono ?_
 rintro e w3 ⟨rfl,hb⟩
 replace kZ:=kZ.below hb
 replace hb0:=hb0.trans (hb.mono hb0.size)
 clear hb hsh y0 y1 y2 y3 y4 y5 y6 kW
 have hs:=hb0.size
 go_wp2_with (refine stRec rfl rfl rfl rfl kZ rfl (by kernel_rfl) ?_;intro w4 hR4 hg4 hs4)
 obtain ⟨u0,u1,u2,u3,u4,u5,u6⟩:=blk7 hR4
 have hbf:Below w.heap.size w w4:=hb0.grown hg4 hs (fun k hk=>by have:gZ=k:=Option.some.inj hk;omega)
 exact bodyPost_ret (v:=.tuple #[.agg recZ,.int .i64 4]) (by simp [results,Tryz.results35,go_sem,u0,u1,u2,u3,u4,u5,u6,recZ]) rfl ⟨rfl,hbf⟩
def PostHs (z:RecD) (code:Int) (w:World) (e:Ending) (w':World):Prop:=∃ q1 d1 q2 d2 q3 d3,e=.returned (.tuple #[.agg #[.string z.k,.int .i64 z.cl,.int .i64 z.sq,.slice q1 z.n d1,.bool z.gone,.slice q2 z.vs.length d2,.slice q3 z.ss.length d3],.int .i64 code])∧w'.ownsRow w.heap.size 175 2 (.slice q1 z.n d1) z.n (dotL z.ds)∧w'.ownsRow w.heap.size 5 1 (.slice q2 z.vs.length d2) z.vs.length (bL z.vs)∧w'.ownsRow w.heap.size 5 1 (.slice q3 z.ss.length d3) z.ss.length (bL z.ss)∧Below w.heap.size w w'
def sgR (F:Nat→Int) (r:RecD):RecD:=⟨r.k,r.cl,r.sq,r.n,r.ds,r.gone,r.vs,fL 64 (Sh.sigI F (tP r.k r.cl r.sq r.n r.ds r.gone r.vs))⟩
theorem sgR_ok {F:Nat→Int} {r:RecD} (h:r.ok):(sgR F r).ok:=⟨h.1,h.2.1,by show (fL 64 _).length≤100000;rw [fL_len];decide,h.2.2.2.1,fL_br (sig_byt _ _)⟩
def sgZ (m:Nat) (F:Nat→Int) (r:RecD):RecD:=if m=32 then (if shB r.k.size r.cl r.sq r.n r.ds r.gone r.vs.length then sgR F r else rec0) else rec0
def sgC (m:Nat) (r:RecD):Int:=if m=32 then (if shB r.k.size r.cl r.sq r.n r.ds r.gone r.vs.length then 0 else 4) else 2
theorem Seal_any (p:Option Addr) (m c:Nat) (F:Nat→Int) (hc:m≤c) (hF:Sc.Byt F) (r:RecD) (hok:r.ok) (p1:Option Addr) (c1:Nat) (p2:Option Addr) (c2:Nat) (p3:Option Addr) (c3:Nat) (w:World) (hX:BX [] w p m F) (hD:DotsL w p1 r.n r.ds) (hV:BytesL w p2 r.vs) (hSs:BytesL w p3 r.ss) (hS:ShP w) (hCv:CvP w) :
  Calls Tryz.prog 35 #[.slice p m c,recV r p1 c1 p2 c2 p3 c3] w (PostHs (sgZ m F r) (sgC m r) w):=by
 unfold sgZ sgC
 by_cases h32:m=32
 ·subst h32
  rw [if_pos rfl,if_pos rfl]
  cases h:shB r.k.size r.cl r.sq r.n r.ds r.gone r.vs.length with
  | true =>
   refine (Seal_ok p c F hc hF r hok p1 c1 p2 c2 p3 c3 h w hX hD hV hSs hS hCv).mono ?_
   rintro e w' ⟨q1,d1,q2,d2,g3,d3,rfl,o1,o2,lg,kS,hb⟩
   refine ⟨q1,d1,q2,d2,some ⟨g3,0,none⟩,d3,?_,o1,o2,?_,hb⟩
   ·show Ending.returned _=_
    rw [if_pos rfl,if_pos rfl,show (sgR F r).ss.length=64 from fL_len _ _]
    rfl
   rw [if_pos rfl,show (sgR F r).ss.length=64 from fL_len _ _]
   exact rowB_own kS lg
  | false =>
   refine (Seal_x2 p c F hc hF r.k r.cl r.sq p1 r.n c1 r.gone p2 r.vs.length c2 p3 r.ss.length c3 r.ds hok.1 h w hX hD hS hCv).mono ?_
   rintro e w' ⟨rfl,hb⟩
   exact ⟨none,0,none,0,none,0,rfl,World.ownsRow_nil _ _ _ 2,World.ownsRow_nil _ _ _ 1,World.ownsRow_nil _ _ _ 1,hb⟩
 rw [if_neg h32,if_neg h32]
 refine (Seal_x1 p m c h32 r.k r.cl r.sq p1 r.n c1 r.gone p2 r.vs.length c2 p3 r.ss.length c3 w).mono ?_
 rintro e w' ⟨rfl,hb⟩
 exact ⟨none,0,none,0,none,0,rfl,World.ownsRow_nil _ _ _ 2,World.ownsRow_nil _ _ _ 1,World.ownsRow_nil _ _ _ 1,hb⟩
end Go.Proofs.YtnopjabcdloepaaGreatDoor.Rc

namespace Go.Proofs.YtnopjabcdloepaaGreatDoor.Rc
open Go Go.RowKit
def recN (r:RecD):Nat:=1+r.n+(r.k.size+r.vs.length+r.ss.length) / 8
theorem quo8 (a:Nat):(Int.tdiv (a:Int) 8)=((a / 8:Nat):Int):=by
 rw [Int.tdiv_eq_ediv_of_nonneg (by omega)]
 omega
set_option maxRecDepth 20000 in
set_option maxHeartbeats 2000000 in
theorem recordOf_c (r:RecD) (p1:Option Addr) (c1:Nat) (p2:Option Addr) (c2:Nat) (p3:Option Addr) (c3:Nat) (hk:r.k.size+r.vs.length+r.ss.length+r.n≤1000000000000000) (w:World) :
  Calls Tryz.prog 34 #[recV r p1 c1 p2 c2 p3 c3] w (PostV (.int .i64 (recN r:Nat)) w):=by
 obtain ⟨k,cl,sq,n,ds,gone,vs,ss⟩:=r
 unfold recV recN
 dsimp only at hk ⊢
 generalize vs.length=V at *
 generalize ss.length=Z at *
 have hb:=Lib.hid hk
 go_enter Tryz.func34,Tryz.ntmps34
 go_wp2
 go_returns
 refine ⟨?_,(Below.refl _ _).alloc (Nat.le_refl _) _⟩
 show Ending.returned (Value.int .i64 (1+(n:Int)+((k.size:Int)+(V:Int)+(Z:Int)) / 8))=_
 rw [show 1+(n:Int)+((k.size:Int)+(V:Int)+(Z:Int)) / 8=((1+n+(k.size+V+Z) / 8:Nat):Int) by omega]
def recFit (r:RecD):Prop:=r.k.size+r.vs.length+r.ss.length+r.n≤1000000000000000
theorem recN_ok {r:RecD} (h:recN r≤1000) (h1:BR r.vs) (h2:BR r.ss):r.ok:=by
 unfold recN at h
 exact ⟨by omega,by omega,by omega,h1,h2⟩
theorem own_formG {w:World} {B m:Nat} {v:Value} {ds:List Int} (h:w.ownsRow B 175 2 v m (dotL ds)):∃ q cc,v=.slice q m cc∧DotsL w q m ds:=by
 have hl:ds.length=2*m:=by have:=h.1;rw [dotL_len] at this;omega
 rcases h.2 with ⟨rfl,rfl⟩ | ⟨g,cap,cur,rfl,h1,h2,h3,h4,h5,h6⟩
 ·exact ⟨none,0,rfl,hl,fun h=>by omega⟩
 refine ⟨some ⟨g,0,none⟩,cap,rfl,hl,fun _=>⟨g,0,rfl,(Array.getElem?_eq_some_iff.1 h2).1,fun j hj=>?_⟩⟩
 rw [Nat.zero_add,h.cellAt j (by omega)]
 have hj2:j<ds.length:=by omega
 simp [dotL,hj2]
theorem own_dotsG {w:World} {B m cc:Nat} {q:Option Addr} {ds:List Int} (h:w.ownsRow B 175 2 (.slice q m cc) m (dotL ds)):DotsL w q m ds:=by
 obtain ⟨q',cc',e,h2⟩:=own_formG h
 injection e with e1 e2 e3
 subst e1
 exact h2
theorem own_lG {w:World} {B n:Nat} {p:Option Addr} {m c:Nat} {xs:List Int} (h:w.ownsRow B 5 1 (.slice p m c) n (bL xs)):BytesL w p xs:=by
 obtain ⟨p',c',e,_,hx⟩:=own_pv h
 injection e with e1 e2 e3
 subst e1
 exact fun h0=>by obtain ⟨g,o,e,hg,-,hc⟩:=hx h0;exact ⟨g,o,e,hg,hc⟩
theorem recs_oneG {w:World} {g:Nat} {r:RecD} {p1:Option Addr} {c1:Nat} {p2:Option Addr} {c2:Nat} {p3:Option Addr} {c3:Nat} {S:List Nat} (h:Blk w g 45 #[.string r.k,.int .i64 r.cl,.int .i64 r.sq,.slice p1 r.n c1,.bool r.gone,.slice p2 r.vs.length c2,.slice p3 r.ss.length c3]) (hg:g ∉ S) (hr:RecC S w (recV r p1 c1 p2 c2 p3 c3) r):RecsC S w (some ⟨g,0,none⟩) [r]:=fun _=>⟨g,0,rfl,h.lt,hg,fun i x hx=>by
 match i,hx with
 | 0,hx =>
  obtain rfl:r=x:=by simpa using hx
  exact ⟨_,hr,fun j u hu=>by
   rw [show 0+0*7+j=j by omega,h.cell j]
   simpa [cellsV,recV] using hu⟩
 | i+1,hx=>simp at hx⟩
theorem own_capG {w:World} {B n:Nat} {p:Option Addr} {c:Nat} {xs:List Int} (h:w.ownsRow B 5 1 (.slice p n c) n (bL xs)):xs.length≤c:=by
 obtain ⟨p',c',e,h1,-⟩:=own_pv h
 injection e with e1 e2 e3
 omega
def gOw (cl:Int) (gk ck:Nat) (F:Nat→Int) (pre:ByteArray):GrV:=⟨cl,some ⟨gk,0,none⟩,ck,fL 32 (Sh.ptI (Sh.keyP F)),pre⟩
theorem sgR_right {F:Nat→Int} {r:RecD} (h:shB r.k.size r.cl r.sq r.n r.ds r.gone r.vs.length=true):rightR (sgR F r).k.size (sgR F r).cl (sgR F r).sq (sgR F r).n (sgR F r).ds (sgR F r).gone (sgR F r).vs.length (sgR F r).ss.length=true:=by
 unfold rightR
 rw [show (sgR F r).ss.length=64 from fL_len _ _,show shB (sgR F r).k.size (sgR F r).cl (sgR F r).sq (sgR F r).n (sgR F r).ds (sgR F r).gone (sgR F r).vs.length=true from h]
 rfl
theorem gow_right {cl:Int} (h1:1≤cl) (h8:cl≤8) (gk ck:Nat) (F:Nat→Int) (pre:ByteArray):rightG 0 [gOw cl gk ck F pre]=decide (¬ 64<pre.size):=by
 by_cases h:64<pre.size
 ·rw [decide_eq_false (by omega)]
  exact rightG_no (x:=gOw cl gk ck F pre) (fun k=>k.2.2.2 h)
 rw [decide_eq_true h]
 exact (rightG_yes (x:=gOw cl gk ck F pre) ⟨(show ¬ cl≤0 by omega),(show ¬ 8<cl by omega),fL_len _ _,h⟩).trans rfl
theorem fg_one_eq (x:GrV) (t:Int) (h:x.cl=t):fG [x] t=some x:=by unfold fG;rw [List.find?_cons_of_pos (by simpa using h)]
theorem fg_one_ne (x:GrV) (t:Int) (h:x.cl≠t):fG [x] t=none:=by unfold fG;rw [List.find?_cons_of_neg (by simpa using h)];rfl
theorem lkI_g (b:Bool) (c:Int):lkI true true b c=if b then c else 21:=by cases b <;> rfl
theorem may_own {F:Nat→Int} {r:RecD} (h:shB r.k.size r.cl r.sq r.n r.ds r.gone r.vs.length=true) (gk ck:Nat) (pre:ByteArray):mayR [gOw r.cl gk ck F pre] [sgR F r]=if decide (¬ 64<pre.size) then (if hpB r.k pre then 0 else 21) else 2:=by
 obtain ⟨-,⟨h1,h8,-,-⟩,-⟩:=shB_true h
 unfold mayR
 rw [gow_right h1 h8,firstR_one]
 unfold lkR
 rw [show fG [gOw r.cl gk ck F pre] (sgR F r).cl=some (gOw r.cl gk ck F pre) from fg_one_eq _ _ rfl,sgR_right h]
 have hck:ckR (gB ((some (gOw r.cl gk ck F pre)).getD gr0).pub) (sgR F r)=0:=by
  change ckR (gB (fL 32 (Sh.ptI (Sh.keyP F)))) (sgR F r)=0
  unfold ckR
  rw [sgR_right h,if_pos rfl,if_pos]
  exact Sh.ver_sig F (fun j hj=>fL_get 32 _ j hj) (fun j hj=>fL_get 64 _ j hj) rfl (fun _ _=>rfl)
 rw [hck]
 congr 1
theorem may_oth {F:Nat→Int} {r:RecD} (h:shB r.k.size r.cl r.sq r.n r.ds r.gone r.vs.length=true) {t:Int} (h1:1≤t) (h8:t≤8) (hne:t≠r.cl) (gk ck:Nat) (pre:ByteArray) (hp:¬ 64<pre.size):mayR [gOw t gk ck F pre] [sgR F r]=21:=by
 unfold mayR
 rw [gow_right h1 h8,decide_eq_true hp,if_pos rfl,firstR_one]
 unfold lkR
 rw [show fG [gOw t gk ck F pre] (sgR F r).cl=none from fg_one_ne _ _ hne,sgR_right h]
 rfl
theorem hp_no {k pre:ByteArray} (h:k.size<pre.size):hpB k pre=false:=by
 unfold hpB
 rw [← Lib.hasPrefix_of_take,← Lib.size_eq,← Lib.size_eq]
 simp
 omega
theorem hp_ex {k pre:ByteArray} (h:pre.size≤k.size):((k.extract 0 pre.size).toList==pre.toList)=hpB k pre:=by
 unfold hpB
 rw [← Lib.hasPrefix_of_take,← Lib.size_eq,← Lib.size_eq,Lib.extract_toList,Lib.toList_data]
 simp [h]
theorem gs_cells {w:World} {g:Nat} {x:GrV} (h:Blk w g 51 x.cs.toArray) (hX:BytesL w x.q x.pub):GsAt w (some ⟨g,0,none⟩) [x]:=gs_blk (zs:=#[]) (by simpa using h) hX
end Go.Proofs.YtnopjabcdloepaaGreatDoor.Rc

namespace Go.Proofs.YtnopjabcdloepaaGreatDoor.Rc
open Go Go.RowKit
set_option maxRecDepth 20000 in
set_option maxHeartbeats 8000000 in
theorem own_c (p:Option Addr) (m c:Nat) (F:Nat→Int) (hmc:m≤c) (hF:Sc.Byt F) (r:RecD) (s1:Option Addr) (e1:Nat) (s2:Option Addr) (e2:Nat) (s3:Option Addr) (e3:Nat) (pre:ByteArray) (t:Int) (hfit:recFit r) (hbr:BR r.vs∧BR r.ss) (w:World) (hX:BAt w p m F) (hD:DF [] w s1 r.n r.ds) (hV:BF [] w s2 r.vs) (hSs:BF [] w s3 r.ss) (hS:ShP w) (hCv:CvP w) :
  Calls Tryz.prog 5 #[.slice p m c,.agg #[.string r.k,.int .i64 r.cl,.int .i64 r.sq,.slice s1 r.n e1,.bool r.gone,.slice s2 r.vs.length e2,.slice s3 r.ss.length e3],.string pre,.int .i64 t] w (PostV (.bool true) w):=by
 have hB:=hS.lt
 have hXb:BX [] w p m F:=fun h0=>by
  obtain ⟨g,o,e,hl,hc⟩:=hX h0
  exact ⟨g,o,e,hl,by simp,hc⟩
 have haw:=Lib.hid (fun w1 (hb:Below w.heap.size w w1)=>awake10_c w1 (hS.below hb hB) (hCv.below hb hCv.lt))
 have hRO:=Lib.hid (fun w1=>recordOf_c r s1 e1 s2 e2 s3 e3 hfit w1)
 have hSl:=Lib.hid (fun (hok:r.ok) w1 (hb:Below w.heap.size w w1)=>Seal_any p m c F hmc hF r hok s1 e1 s2 e2 s3 e3 w1 (bx_below hXb hb) (hD.ext (.below hb)).d (hV.ext (.below hb)).b (hSs.ext (.below hb)).b (hS.below hb hB) (hCv.below hb hCv.lt))
 have hPub:=Lib.hid (fun (h32:m=32) w1 (hb:Below w.heap.size w w1)=>show Calls Tryz.prog 37 #[.slice p m c] w1 (PostBs 32 (Sh.ptI (Sh.keyP F)) w1) from by
  subst h32
  exact Public_c p c F hmc (fun j _=>hF j) w1 (bx_below hXb hb) (hS.below hb hB) (by have:=hb.size;omega) (hCv.below hb hCv.lt))
 have hM:=Lib.hid (fun (G:GrV) (hG:BR G.pub∧G.pub.length≤G.c) gg cg (z:RecD) (hok:z.ok) g w1 (hb:Below w.heap.size w w1) (hGs:GsAt w1 (some ⟨gg,0,none⟩) [G]) (hR:RecsC [] w1 (some ⟨g,0,none⟩) [z])=>show Calls Tryz.prog 38 #[.slice (some ⟨gg,0,none⟩) 1 cg,.slice (some ⟨g,0,none⟩) 1 1] w1 (PostV (.int .i64 (mayR [G] [z])) w1) from
  May_c (some ⟨gg,0,none⟩) 1 cg [G] rfl (by decide) (fun x hx=>by
   obtain rfl:x=G:=by simpa using hx
   exact hG) (some ⟨g,0,none⟩) 1 1 [z] rfl (by decide) (fun y hy=>by
   obtain rfl:y=z:=by simpa using hy
   exact hok) w1 hGs hR (hS.below hb hB) (hCv.below hb hCv.lt))
 unfold recV at hRO hSl
 replace hbr:=Lib.hid hbr
 clear hX hXb hD hV hSs hS hCv hB hmc hF
 go_enter Tryz.func5,Tryz.ntmps5
 go_wp2_with fail
 refine calls_at (fun W hW=>?_)
 have hb0:Below w.heap.size w W:=by rw [hW];go_grown
 obtain ⟨gM,hgM⟩:∃ g,g=w.heap.size:=⟨_,rfl⟩
 have kM:Blk W gM 45 #[.string r.k,.int .i64 r.cl,.int .i64 r.sq,.slice s1 r.n e1,.bool r.gone,.slice s2 r.vs.length e2,.slice s3 r.ss.length e3]:=by rw [hW,hgM];exact Blk.new _ _ _
 rw [← hgM]
 clear hW hgM
 refine (haw.out W hb0).mono ?_
 rintro e w1 ⟨rfl,hb⟩
 replace kM:=kM.below hb
 replace hb0:=hb0.trans (hb.mono hb0.size)
 clear haw hb
 by_cases hp:(100:Int)<(pre.size:Int)
 ·replace hb0:=Lib.hid hb0
  go_wp2_with fail
  go_returns
  exact ⟨rfl,hb0.out⟩
 obtain ⟨y0,y1,y2,y3,y4,y5,y6⟩:=blk7 kM
 have lM:=kM.lt
 obtain ⟨RN,hRN⟩:∃ n,n=recN r:=⟨_,rfl⟩
 rw [← hRN] at hRO
 replace hRN:=Lib.hid hRN
 go_wp2_with fail
 refine (hRO.out w1).mono ?_
 rintro e w2 ⟨rfl,hb⟩
 replace kM:=kM.below hb
 replace hb0:=hb0.trans (hb.mono hb0.size)
 clear hb hRO y0 y1 y2 y3 y4 y5 y6 lM
 by_cases hN:(1000:Int)<(RN:Int)
 ·replace hb0:=Lib.hid hb0
  go_wp2_with fail
  go_returns
  exact ⟨rfl,hb0.out⟩
 have hok:=recN_ok (r:=r) (by have:=hRN.out;omega) hbr.out.1 hbr.out.2
 replace hSl:=Lib.hid (hSl.out hok)
 obtain ⟨z,hz⟩:∃ z,z=sgZ m F r:=⟨_,rfl⟩
 obtain ⟨C,hC⟩:∃ C,C=sgC m r:=⟨_,rfl⟩
 rw [← hz,← hC] at hSl
 have hzC:(C=0∧m=32∧z=sgR F r∧shB r.k.size r.cl r.sq r.n r.ds r.gone r.vs.length=true)∨(C≠0∧z=rec0):=by
  rw [hz,hC]
  unfold sgZ sgC
  by_cases h32:m=32
  ·rw [if_pos h32,if_pos h32]
   cases h:shB r.k.size r.cl r.sq r.n r.ds r.gone r.vs.length with
   | true=>exact .inl ⟨if_pos rfl,h32,if_pos rfl,rfl⟩
   | false=>exact .inr ⟨by rw [if_neg (by decide)];decide,if_neg (by decide)⟩
  rw [if_neg h32,if_neg h32]
  exact .inr ⟨by decide,rfl⟩
 replace hzC:=Lib.hid hzC
 have hzo:z.ok:=by
  rcases hzC.out with ⟨_,_,h,_⟩ | ⟨_,h⟩
  ·rw [h];exact sgR_ok hok
  rw [h];exact ⟨by decide,by decide,by decide,(fun x hx=>by cases hx),(fun x hx=>by cases hx)⟩
 replace hzo:=Lib.hid hzo
 replace hok:=Lib.hid hok
 clear hz hC hRN
 obtain ⟨y0,y1,y2,y3,y4,y5,y6⟩:=blk7 kM
 have lM:=kM.lt
 go_wp2_with fail
 refine (hSl.out w2 hb0).mono ?_
 rintro e w3 ⟨q1,d1,q2,d2,q3,d3,rfl,oA,oB,oC,hb⟩
 replace kM:=kM.below hb
 replace hb0:=hb0.trans (hb.mono hb0.size)
 clear hb hSl y0 y1 y2 y3 y4 y5 y6 lM
 rcases hzC.out with ⟨rfl,rfl,hz,hsh⟩ | ⟨hC0,hz⟩
 ·have lM:=kM.lt
  have y1:=(blk7 kM).2.1
  have hsh':=shB_true hsh
  obtain ⟨-,⟨hc1,hc8,-,-⟩,-⟩:=hsh'
  replace hPub:=Lib.hid (hPub.out rfl)
  have kM3:=Lib.hid kM
  have hb3:=Lib.hid hb0
  have hs3:=Lib.hid hb0.size
  replace oA:=Lib.hid oA
  replace oB:=Lib.hid oB
  replace oC:=Lib.hid oC
  replace hz:=Lib.hid hz
  replace hsh:=Lib.hid hsh
  clear kM hb0 y1 lM
  go_upto_region 8 with fail
  refine at_world (fun W4 hW=>?_)
  have hb:Below w3.heap.size w3 W4:=by rw [hW];go_grown
  obtain ⟨gS,hgS⟩:∃ g,g=w3.heap.size:=⟨_,rfl⟩
  have kS:Blk W4 gS 45 #[.string z.k,.int .i64 z.cl,.int .i64 z.sq,.slice q1 z.n d1,.bool z.gone,.slice q2 z.vs.length d2,.slice q3 z.ss.length d3]:=by rw [hW,hgS];exact Blk.new _ _ _
  rw [← hgS]
  clear hW hgS
  have kM:=kM3.out.below hb
  have hb0:=hb3.out.trans (hb.mono hs3.out)
  have hs4:=Lib.hid hb0.size
  have oA4:=Lib.hid (below_kept oA.out hb)
  have oB4:=Lib.hid (below_kept oB.out hb)
  have oC4:=Lib.hid (below_kept oC.out hb)
  clear hb kM3 hb3 hs3 oA oB oC
  have y1:=(blk7 kM).2.1
  have lM:=kM.lt
  have hSS:=Lib.hid (fun w' (hb:Below W4.heap.size W4 w')=>(blk7 (kM.below hb)).2.1)
  have kM4:=Lib.hid kM
  have kS4:=Lib.hid kS
  have hb4:=Lib.hid hb0
  clear kM kS
  go_cut [11] from 36 to 42 (fun v wx=>∃ gG gk ck,v=.slice (some ⟨gG,0,none⟩) 1 1∧Blk wx gG 51 #[.int .i64 r.cl,.slice (some ⟨gk,0,none⟩) 32 ck,.string pre]∧RowB wx gk 32 ck (Sh.ptI (Sh.keyP F))∧Below W4.heap.size W4 wx∧gk≠gG∧W4.heap.size≤gG)
  case first =>
   go_region_with (first | (go_at_call 37;refine calls_at (fun V1 h1=>?_);have m1:Below W4.heap.size W4 V1:=(by rw [h1];go_grown);clear h1;refine (hPub.out V1 (hb0.trans (m1.mono hb0.size))).mono ?_;rintro e w5 ⟨gk,ck,rfl,lgk,kK,hbb⟩;have n1:=m1.trans (hbb.mono m1.size);have y1':=hSS.out _ n1;clear hbb m1))
   all_goals
    refine at_exit (fun W6 hW=>?_)
    have hb6:Below w5.heap.size w5 W6:=by rw [hW];go_grown
    obtain ⟨gG,hgG⟩:∃ g,g=w5.heap.size:=⟨_,rfl⟩
    have kG:Blk W6 gG 51 #[.int .i64 r.cl,.slice (some ⟨gk,0,none⟩) 32 ck,.string pre]:=by rw [hW,hgG];exact Blk.new _ _ _
    rw [← hgG]
    have hb46:=Lib.hid (n1.trans (hb6.mono n1.size))
    have ngk:=Lib.hid (show gk≠gG by have:=kK.lt;omega)
    have lgG:=Lib.hid (show W4.heap.size≤gG by have:=n1.size;omega)
    have kK6:=Lib.hid (kK.below hb6)
    replace kG:=Lib.hid kG
    clear hW hgG hb6 n1 y1 y1' hSS kM4 kS4 oA4 oB4 oC4 hb4 hs4 kK lM hb0 lgk
    go_wp2
    go_meet
    case rel=>exact ⟨gG,gk,ck,rfl,kG.out,kK6.out,hb46.out,ngk.out,lgG.out⟩
  case rest =>
   obtain ⟨gG,gk,ck,hv11,kG,kK6,hb46,ngk,lgG⟩:=hcut
   subst hv11
   obtain ⟨W6,hW6⟩:∃ W6,W6=wc:=⟨_,rfl⟩
   rw [← hW6] at kG kK6 hb46 ⊢
   clear hW6
   have kM6:=kM4.out.below hb46
   replace ngk:=Lib.hid ngk
   replace lgG:=Lib.hid lgG
   have kS6:=kS4.out.below hb46
   have oA6:=below_kept oA4.out hb46
   have oB6:=below_kept oB4.out hb46
   have oC6:=below_kept oC4.out hb46
   have hb06:=hb4.out.trans (hb46.mono hs4.out)
   replace hb46:=Lib.hid hb46
   clear y1 hSS lM hb0
   obtain ⟨BG,hBG⟩:∃ b,b=hpB r.k pre:=⟨_,rfl⟩
   have hwy:(r.k.size<pre.size∧BG=false)∨(pre.size≤r.k.size∧((r.k.extract 0 pre.size).toList==pre.toList)=BG):=by
    rcases Nat.lt_or_ge r.k.size pre.size with h | h
    ·exact .inl ⟨h,hBG.trans (hp_no h)⟩
    exact .inr ⟨h,(hp_ex h).trans hBG.symm⟩
   have hrc:RecC [] W6 (recV z q1 d1 q2 d2 q3 d3) z:=⟨q1,d1,q2,d2,q3,d3,rfl,⟨(own_dotsG oA6).1,RowF.of_row (own_dotsG oA6).2⟩,RowF.of_row (own_lG oB6),RowF.of_row (own_lG oC6),own_capG oB6,own_capG oC6⟩
   obtain ⟨FC,hFC⟩:∃ x,x=mayR [gOw r.cl gk ck F pre] [z]:=⟨_,rfl⟩
   have hFC2:=hFC
   rw [hz.out,may_own hsh.out,← hBG] at hFC2
   have hGs:GsAt W6 (some ⟨gG,0,none⟩) [gOw r.cl gk ck F pre]:=gs_cells (by simp only [GrV.cs,gOw,fL_len];exact kG) (rowB_l kK6)
   replace hBG:=Lib.hid hBG
   replace hFC:=Lib.hid hFC
   replace hFC2:=Lib.hid hFC2
   replace hGs:=Lib.hid hGs
   replace hrc:=Lib.hid hrc
   replace kG:=Lib.hid kG
   replace kK6:=Lib.hid kK6
   replace kS6:=Lib.hid kS6
   replace hb06:=Lib.hid hb06
   obtain ⟨x0,x1,x2,x3,x4,x5,x6⟩:=blk7 kM6
   have lM:=kM6.lt
   replace kM6:=Lib.hid kM6
   have hck:32≤ck:=kK6.out.cap
   replace hck:=Lib.hid hck
   go_upto_region 9 with fail
   go_cut [12] from 43 to 57 (fun v wx=>v=.bool BG∧wx=W6)
   case first =>
    rcases hwy with ⟨hlt,hbg⟩ | ⟨hge,he⟩
    ·have i1:¬ (pre.size:Int)≤(r.k.size:Int):=by omega
     replace hbg:=Lib.hid hbg
     go_wp2
     go_meet
     case rel=>exact ⟨by rw [hbg.out],rfl⟩
    have i1:(pre.size:Int)≤(r.k.size:Int):=by omega
    go_wp2
    go_meet
    case rel=>exact ⟨rfl,rfl⟩
   case rest =>
    obtain ⟨hv,hw⟩:=hcut
    subst hv hw
    clear hwy x0 x1 x2 x3 x4 x5 x6 lM
    obtain ⟨y0,y1,y2,y3,y4,y5,y6⟩:=blk7 kS6.out
    have lS:=kS6.out.lt
    go_wp2_with fail
    refine calls_at (fun W7 hW=>?_)
    have hb:Below wc.heap.size wc W7:=by rw [hW];go_grown
    have kO:Blk W7 wc.heap.size 45 #[.string z.k,.int .i64 z.cl,.int .i64 z.sq,.slice q1 z.n d1,.bool z.gone,.slice q2 z.vs.length d2,.slice q3 z.ss.length d3]:=by rw [hW];exact Blk.new _ _ _
    clear hW y0 y1 y2 y3 y4 y5 y6 lS
    have hb7:=hb06.out.trans (hb.mono hb06.out.size)
    have cM:=hM.out (gOw r.cl gk ck F pre) ⟨fL_br (key_byt _),by show (fL 32 _).length≤ck;rw [fL_len];exact hck.out⟩ gG 1 z hzo.out wc.heap.size W7 hb7 (hGs.out.below hb) (recs_oneG kO (by simp) (hrc.out.ext (.below hb)))
    rw [← hFC.out] at cM
    refine cM.mono ?_
    rintro e w8 ⟨rfl,hb8⟩
    have hb68:=hb.trans (hb8.mono hb.size)
    clear cM kO hb hb7 hb8
    go_wp2_with fail
    refine (gRight_c (some ⟨gG,0,none⟩) 1 1 [gOw r.cl gk ck F pre] rfl (by decide) w8 (hGs.out.below hb68)).mono ?_
    rintro e w9 ⟨rfl,hb9⟩
    have hb69:=hb68.trans (hb9.mono hb68.size)
    have hb0q:=Lib.hid (hb06.out.trans (hb69.mono hb06.out.size))
    rw [gow_right hc1 hc8]
    clear hb68 hb9
    by_cases h64:64<pre.size
    ·have i64:(64:Int)<(pre.size:Int):=by omega
     have eF:FC=2:=by rw [hFC2.out,if_neg (by simp [h64])]
     subst eF
     rw [decide_eq_false (by omega)]
     clear hb69 h64
     go_wp2_with fail
     go_returns
     exact ⟨rfl,hb0q.out⟩
    have eF:FC=if BG=true then 0 else 21:=by rw [hFC2.out,if_pos (by simp [h64])]
    rw [decide_eq_true h64]
    have h64':=Lib.hid h64
    have hb69':=Lib.hid hb69
    clear h64 hb69
    have hbw:(BG=true∧FC=0)∨(BG=false∧FC=21):=by
     cases BG
     ·exact .inr ⟨rfl,eF⟩
     exact .inl ⟨rfl,eF⟩
    clear eF
    rcases hbw with ⟨rfl,rfl⟩ | ⟨rfl,rfl⟩
    all_goals
     go_wp2_with fail
     refine (pick_c t 8 (by decide) (by decide) _).mono ?_
     rintro e w10 ⟨k,rfl,hk,rfl⟩
     have kG9:=kG.out.below hb69'.out
     have z0:=(blk3v kG9).1
     have f0:=kG9.frozen 0
     have lG:=kG9.lt
     have hwk:IntKind.i64.wrap (1+(k:Int))=1+(k:Int):=by rw [IntKind.wrap_i64];omega
     have hk8:(k:Int)<8:=by omega
     have hk0:(0:Int)≤(k:Int):=by omega
     have hset:=Lib.hid (kG9.set_ 0 (.int .i64 (1+(k:Int))))
     have hgr:=Lib.hid (wgrown_set w10 gG 0 (.int .i64 (1+(k:Int))))
     clear kG9
     go_upto_region 16 with fail
     refine at_world (fun W11 hW=>?_)
     have kG11:Blk W11 gG 51 #[.int .i64 (1+(k:Int)),.slice (some ⟨gk,0,none⟩) 32 ck,.string pre]:=by rw [hW];exact hset.out
     have hg11:w10.grownBy W11 (some gG):=by rw [hW];exact hgr.out
     clear hW hset hgr z0 f0 lG hwk
     have hb49:=hb46.out.trans (hb69'.out.mono hb46.out.size)
     have hb411:=hb49.grown hg11 hb49.size (fun kk hk=>by have:gG=kk:=Option.some.inj hk;have:=lgG.out;omega)
     have kK11:=((kK6.out.below hb69'.out).grown hg11 (fun e=>ngk.out (Option.some.inj e)))
     have kS11:=kS4.out.below hb411
     have kM11:=kM4.out.below hb411
     have hb011:=hb4.out.trans (hb411.mono hs4.out)
     have hGs':GsAt W11 (some ⟨gG,0,none⟩) [gOw (1+(k:Int)) gk ck F pre]:=gs_cells (by simp only [GrV.cs,gOw,fL_len];exact kG11) (rowB_l kK11)
     have oA11:=below_kept oA4.out hb411
     have oB11:=below_kept oB4.out hb411
     have oC11:=below_kept oC4.out hb411
     have hrc':RecC [] W11 (recV z q1 d1 q2 d2 q3 d3) z:=⟨q1,d1,q2,d2,q3,d3,rfl,⟨(own_dotsG oA11).1,RowF.of_row (own_dotsG oA11).2⟩,RowF.of_row (own_lG oB11),RowF.of_row (own_lG oC11),own_capG oB11,own_capG oC11⟩
     obtain ⟨FD,hFD⟩:∃ x,x=mayR [gOw (1+(k:Int)) gk ck F pre] [z]:=⟨_,rfl⟩
     have hFD2:1+(k:Int)≠r.cl→FD=21:=fun h=>by
      rw [hFD,hz.out]
      exact may_oth hsh.out (by omega) (by omega) h gk ck pre h64'.out
     replace hrc':=Lib.hid hrc'
     replace hGs':=Lib.hid hGs'
     clear oA11 oB11 oC11 hb49 hg11 kK11
     obtain ⟨y0,y1,y2,y3,y4,y5,y6⟩:=blk7 kS11
     have lS:=kS11.lt
     go_wp2_with fail
     refine calls_at (fun W12 hW=>?_)
     have hb:Below W11.heap.size W11 W12:=by rw [hW];go_grown
     have kO:Blk W12 W11.heap.size 45 #[.string z.k,.int .i64 z.cl,.int .i64 z.sq,.slice q1 z.n d1,.bool z.gone,.slice q2 z.vs.length d2,.slice q3 z.ss.length d3]:=by rw [hW];exact Blk.new _ _ _
     clear hW y0 y1 y2 y3 y4 y5 y6 lS
     have cM':=hM.out (gOw (1+(k:Int)) gk ck F pre) ⟨fL_br (key_byt _),by show (fL 32 _).length≤ck;rw [fL_len];exact hck.out⟩ gG 1 z hzo.out W11.heap.size W12 (hb011.trans (hb.mono hb011.size)) (hGs'.out.below hb) (recs_oneG kO (by simp) (hrc'.out.ext (.below hb)))
     rw [← hFD] at cM'
     refine cM'.mono ?_
     rintro e w13 ⟨rfl,hb13⟩
     have hbz:=hb.trans (hb13.mono hb.size)
     have z0:=(blk3v (kG11.below hbz)).1
     have x1:=(blk7 (kM11.below hbz)).2.1
     have lG:=(kG11.below hbz).lt
     have lM:=(kM11.below hbz).lt
     have hP:=Lib.hid (hb011.trans (hbz.mono hb011.size))
     replace hFD:=Lib.hid hFD
     clear cM' kO hb hb13 hbz kG11 kM11 kS11 hb411 hb011
     by_cases hq:1+(k:Int)=r.cl
     ·rw [hq] at z0
      clear hFD2 hq
      go_wp2_with fail
      go_region
      all_goals
       go_wp2
       go_returns
       exact ⟨rfl,by first | exact hP.out | exact hP.out.drew⟩
     have eD:=hFD2 hq
     subst eD
     have e1:((1+(k:Int))==r.cl)=false:=by simp [hq]
     clear hFD2
     go_wp2_with fail
     go_region
     all_goals
      go_wp2
      go_returns
      exact ⟨rfl,by first | exact hP.out | exact hP.out.drew⟩
 subst hz
 have bC:(C==0)=false:=by simp [hC0]
 have v1:=own_dotsG oA
 have v2:=own_lG oB
 have v3:=own_lG oC
 have cS:=Lib.hid (fun w4 (hb:Below w3.heap.size w3 w4)=>show Calls Tryz.prog 36 #[.agg #[.string rec0.k,.int .i64 rec0.cl,.int .i64 rec0.sq,.slice q1 rec0.n d1,.bool rec0.gone,.slice q2 rec0.vs.length d2,.slice q3 rec0.ss.length d3],.agg #[.string ⟨#[]⟩,.int .i64 0,.int .i64 0,.slice none 0 0,.bool false,.slice none 0 0,.slice none 0 0]] w4 (PostV (.bool true) w4) from
  (sameRec_c rec0.k 0 0 q1 0 d1 false q2 0 d2 q3 0 d3 ⟨#[]⟩ 0 0 none 0 0 false none 0 0 none 0 0 [] [] [] [] [] [] (by decide) (by decide) rfl (by decide) rfl (by decide) rfl (by decide) rfl (by decide) w4 (v1.below hb) (v2.below hb) (v3.below hb) ⟨rfl,fun h=>absurd h (by decide)⟩ (fun h=>absurd h (by decide)) (fun h=>absurd h (by decide))).mono (fun e w' k=>⟨by rw [k.1];simp [sameR,eqL,rec0],k.2⟩))
 replace hb0:=Lib.hid hb0
 clear oA oB oC v1 v2 v3 kM hC0
 go_wp2_with fail
 refine calls_at (fun W4 hW=>?_)
 have hb:Below w3.heap.size w3 W4:=by rw [hW];go_grown
 clear hW
 refine (cS.out W4 hb).mono ?_
 rintro e w5 ⟨rfl,hb5⟩
 have hP:=Lib.hid (hb0.out.trans ((hb.trans (hb5.mono hb.size)).mono hb0.out.size))
 clear hb hb5 cS hb0
 go_wp2_with fail
 go_returns
 exact ⟨rfl,hP.out⟩
end Go.Proofs.YtnopjabcdloepaaGreatDoor.Rc
