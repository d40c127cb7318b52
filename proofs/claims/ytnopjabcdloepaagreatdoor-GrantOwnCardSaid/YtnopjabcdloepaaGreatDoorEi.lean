import Derived.Test.YtnopjabcdloepaaGreatDoorEf
import Derived.Lib.BufferOwn
namespace Go.Proofs.YtnopjabcdloepaaGreatDoor
open Go.RowKit
def SumB (w:World) (g a b c d:Nat):Prop:=∃ x y z t:Fe.E,Blk w g 288 #[.int .u64 x.a0,.int .u64 x.a1,.int .u64 x.a2,.int .u64 x.a3,.int .u64 x.a4,.int .u64 y.a0,.int .u64 y.a1,.int .u64 y.a2,.int .u64 y.a3,.int .u64 y.a4,.int .u64 z.a0,.int .u64 z.a1,.int .u64 z.a2,.int .u64 z.a3,.int .u64 z.a4,.int .u64 t.a0,.int .u64 t.a1,.int .u64 t.a2,.int .u64 t.a3,.int .u64 t.a4]∧El x a∧El y b∧El z c∧El t d
theorem SumB.below {w w':World} {g a b c d:Nat} (h:SumB w g a b c d) (hb:Below w.heap.size w w'):SumB w' g a b c d:=by
 obtain ⟨x,y,z,t,hk,h⟩:=h
 exact ⟨x,y,z,t,hk.below hb,h⟩
theorem SumB.grown {w w':World} {g a b c d:Nat} {row:Option Nat} (h:SumB w g a b c d) (hb:w.grownBy w' row) (hg:some g≠row):SumB w' g a b c d:=by
 obtain ⟨x,y,z,t,hk,h⟩:=h
 exact ⟨x,y,z,t,hk.grown hb hg,h⟩
theorem SumB.lt {w:World} {g a b c d:Nat} (h:SumB w g a b c d):g<w.heap.size:=h.elim fun _ h=>h.elim fun _ h=>h.elim fun _ h=>h.elim fun _ h=>h.1.lt
def PostS (g a b c d:Nat) (w:World) (e:Ending) (w':World):Prop:=e=.returned (.tuple #[])∧SumB w' g a b c d∧w.grownBy w' (some g)
theorem own_grown {a w w':World} {g:Nat} (hb:Below a.heap.size a w) (hg:w.grownBy w' (some g)):a.grownBy w' (some g):=Lib.grownBy_trans (Lib.grownBy_below ⟨rfl,rfl,rfl,Nat.le_refl _,fun _ _ _=>rfl⟩ hb) hg
def ad1L (x1:Fe.E) (y1:Fe.E) (x2:Fe.E) (y2:Fe.E) (a:Nat) (b:Nat) (a2:Nat) (b2:Nat) (GS:Nat) (G3:Nat) (B0:Nat):List (Value→World→Prop):=[
 Eq1 (.pointer (some ⟨GS,0,none⟩)),
 Eq1 (.pointer (some ⟨GS,0,none⟩)),
 Eq1 (.pointer (some ⟨GS,0,none⟩)),
 Eq1 (.pointer (some ⟨GS,5,none⟩)),
 Eq1 (.agg #[.int .u64 y1.a0,.int .u64 y1.a1,.int .u64 y1.a2,.int .u64 y1.a3,.int .u64 y1.a4]),
 Eq1 (.pointer (some ⟨GS,0,none⟩)),
 Eq1 (.pointer (some ⟨GS,0,none⟩)),
 Eq1 (.pointer (some ⟨GS,0,none⟩)),
 Eq1 (.pointer (some ⟨GS,0,none⟩)),
 Eq1 (.agg #[.int .u64 x1.a0,.int .u64 x1.a1,.int .u64 x1.a2,.int .u64 x1.a3,.int .u64 x1.a4]),
 ElP ((b+(Fe.P-a)) % Fe.P),
 Eq1 (.pointer (some ⟨G3,5,none⟩)),
 Eq1 (.agg #[.int .u64 y2.a0,.int .u64 y2.a1,.int .u64 y2.a2,.int .u64 y2.a3,.int .u64 y2.a4]),
 Eq1 (.pointer (some ⟨G3,0,none⟩)),
 Eq1 (.agg #[.int .u64 x2.a0,.int .u64 x2.a1,.int .u64 x2.a2,.int .u64 x2.a3,.int .u64 x2.a4]),
 ElP ((b2+(Fe.P-a2)) % Fe.P),
 ElP (((b+(Fe.P-a)) % Fe.P)*((b2+(Fe.P-a2)) % Fe.P) % Fe.P),
 NewB B0 202 #[.int .u64 0,.int .u64 0,.int .u64 0,.int .u64 0,.int .u64 0]]
theorem ad1S (x1:Fe.E) (y1:Fe.E) (x2:Fe.E) (y2:Fe.E) (a:Nat) (b:Nat) (a2:Nat) (b2:Nat) (GS:Nat) (G3:Nat) (B0:Nat):∀ j x' q q',(ad1L x1 y1 x2 y2 a b a2 b2 GS G3 B0).getD j (fun _ _=>True) x' q→Below q.heap.size q q'→(ad1L x1 y1 x2 y2 a b a2 b2 GS G3 B0).getD j (fun _ _=>True) x' q':=by
 refine sta_all _ ?_
 simp only [ad1L,List.mem_cons,forall_eq_or_imp,List.not_mem_nil,false_implies,implies_true,and_true]
 exact ⟨sta_eq _,sta_eq _,sta_eq _,sta_eq _,sta_eq _,sta_eq _,sta_eq _,sta_eq _,sta_eq _,sta_eq _,sta_el _,sta_eq _,sta_eq _,sta_eq _,sta_eq _,sta_el _,sta_el _,sta_new _ _ _⟩
theorem ad1O (x1:Fe.E) (y1:Fe.E) (x2:Fe.E) (y2:Fe.E) (a:Nat) (b:Nat) (a2:Nat) (b2:Nat) (GS:Nat) (G3:Nat) (B0:Nat):∀ j x' q,(fun j=>j==17) j=true→(ad1L x1 y1 x2 y2 a b a2 b2 GS G3 B0).getD j (fun _ _=>True) x' q→∀ g,x'=.pointer (some ⟨g,0,none⟩)→g<q.heap.size:=by
 intro j x' q hj hv g e
 have hj':j=17:=by simpa only [Bool.or_eq_true,beq_iff_eq,or_assoc] using hj
 subst hj'
 all_goals exact new_lt hv e
def ad2L (x1:Fe.E) (y1:Fe.E) (x2:Fe.E) (y2:Fe.E) (a:Nat) (b:Nat) (a2:Nat) (b2:Nat) (GS:Nat) (G3:Nat) (B0:Nat):List (Value→World→Prop):=[
 Eq1 (.pointer (some ⟨GS,0,none⟩)),
 Eq1 (.pointer (some ⟨GS,0,none⟩)),
 Eq1 (.pointer (some ⟨GS,0,none⟩)),
 Eq1 (.pointer (some ⟨GS,5,none⟩)),
 Eq1 (.agg #[.int .u64 y1.a0,.int .u64 y1.a1,.int .u64 y1.a2,.int .u64 y1.a3,.int .u64 y1.a4]),
 Eq1 (.pointer (some ⟨GS,0,none⟩)),
 Eq1 (.pointer (some ⟨GS,0,none⟩)),
 Eq1 (.pointer (some ⟨GS,0,none⟩)),
 Eq1 (.pointer (some ⟨GS,0,none⟩)),
 Eq1 (.agg #[.int .u64 x1.a0,.int .u64 x1.a1,.int .u64 x1.a2,.int .u64 x1.a3,.int .u64 x1.a4]),
 ElP ((b+a) % Fe.P),
 Eq1 (.pointer (some ⟨G3,5,none⟩)),
 Eq1 (.agg #[.int .u64 y2.a0,.int .u64 y2.a1,.int .u64 y2.a2,.int .u64 y2.a3,.int .u64 y2.a4]),
 Eq1 (.pointer (some ⟨G3,0,none⟩)),
 Eq1 (.agg #[.int .u64 x2.a0,.int .u64 x2.a1,.int .u64 x2.a2,.int .u64 x2.a3,.int .u64 x2.a4]),
 ElP ((b2+a2) % Fe.P),
 ElP (((b+a) % Fe.P)*((b2+a2) % Fe.P) % Fe.P),
 NewB B0 202 #[.int .u64 0,.int .u64 0,.int .u64 0,.int .u64 0,.int .u64 0]]
theorem ad2S (x1:Fe.E) (y1:Fe.E) (x2:Fe.E) (y2:Fe.E) (a:Nat) (b:Nat) (a2:Nat) (b2:Nat) (GS:Nat) (G3:Nat) (B0:Nat):∀ j x' q q',(ad2L x1 y1 x2 y2 a b a2 b2 GS G3 B0).getD j (fun _ _=>True) x' q→Below q.heap.size q q'→(ad2L x1 y1 x2 y2 a b a2 b2 GS G3 B0).getD j (fun _ _=>True) x' q':=by
 refine sta_all _ ?_
 simp only [ad2L,List.mem_cons,forall_eq_or_imp,List.not_mem_nil,false_implies,implies_true,and_true]
 exact ⟨sta_eq _,sta_eq _,sta_eq _,sta_eq _,sta_eq _,sta_eq _,sta_eq _,sta_eq _,sta_eq _,sta_eq _,sta_el _,sta_eq _,sta_eq _,sta_eq _,sta_eq _,sta_el _,sta_el _,sta_new _ _ _⟩
theorem ad2O (x1:Fe.E) (y1:Fe.E) (x2:Fe.E) (y2:Fe.E) (a:Nat) (b:Nat) (a2:Nat) (b2:Nat) (GS:Nat) (G3:Nat) (B0:Nat):∀ j x' q,(fun j=>j==17) j=true→(ad2L x1 y1 x2 y2 a b a2 b2 GS G3 B0).getD j (fun _ _=>True) x' q→∀ g,x'=.pointer (some ⟨g,0,none⟩)→g<q.heap.size:=by
 intro j x' q hj hv g e
 have hj':j=17:=by simpa only [Bool.or_eq_true,beq_iff_eq,or_assoc] using hj
 subst hj'
 all_goals exact new_lt hv e
def ad3L (t1:Fe.E) (t2:Fe.E) (d:Nat) (d2:Nat) (GS:Nat) (G3:Nat) (B0:Nat):List (Value→World→Prop):=[
 Eq1 (.pointer (some ⟨GS,0,none⟩)),
 Eq1 (.pointer (some ⟨GS,0,none⟩)),
 Eq1 (.pointer (some ⟨GS,0,none⟩)),
 Eq1 (.pointer (some ⟨GS,15,none⟩)),
 Eq1 (.agg #[.int .u64 t1.a0,.int .u64 t1.a1,.int .u64 t1.a2,.int .u64 t1.a3,.int .u64 t1.a4]),
 Eq1 (.agg #[.int .u64 1859910466990425,.int .u64 932731440258426,.int .u64 1072319116312658,.int .u64 1815898335770999,.int .u64 633789495995903]),
 ElP (d*((Fe.dN+Fe.dN) % Fe.P) % Fe.P),
 Eq1 (.pointer (some ⟨G3,15,none⟩)),
 Eq1 (.agg #[.int .u64 t2.a0,.int .u64 t2.a1,.int .u64 t2.a2,.int .u64 t2.a3,.int .u64 t2.a4]),
 ElP ((d*((Fe.dN+Fe.dN) % Fe.P) % Fe.P)*d2 % Fe.P),
 NewB B0 202 #[.int .u64 0,.int .u64 0,.int .u64 0,.int .u64 0,.int .u64 0]]
theorem ad3S (t1:Fe.E) (t2:Fe.E) (d:Nat) (d2:Nat) (GS:Nat) (G3:Nat) (B0:Nat):∀ j x' q q',(ad3L t1 t2 d d2 GS G3 B0).getD j (fun _ _=>True) x' q→Below q.heap.size q q'→(ad3L t1 t2 d d2 GS G3 B0).getD j (fun _ _=>True) x' q':=by
 refine sta_all _ ?_
 simp only [ad3L,List.mem_cons,forall_eq_or_imp,List.not_mem_nil,false_implies,implies_true,and_true]
 exact ⟨sta_eq _,sta_eq _,sta_eq _,sta_eq _,sta_eq _,sta_eq _,sta_el _,sta_eq _,sta_eq _,sta_el _,sta_new _ _ _⟩
theorem ad3O (t1:Fe.E) (t2:Fe.E) (d:Nat) (d2:Nat) (GS:Nat) (G3:Nat) (B0:Nat):∀ j x' q,(fun j=>j==10) j=true→(ad3L t1 t2 d d2 GS G3 B0).getD j (fun _ _=>True) x' q→∀ g,x'=.pointer (some ⟨g,0,none⟩)→g<q.heap.size:=by
 intro j x' q hj hv g e
 have hj':j=10:=by simpa only [Bool.or_eq_true,beq_iff_eq,or_assoc] using hj
 subst hj'
 all_goals exact new_lt hv e
def ad4L (z1:Fe.E) (z2:Fe.E) (c:Nat) (c2:Nat) (GS:Nat) (G3:Nat) (B0:Nat):List (Value→World→Prop):=[
 Eq1 (.pointer (some ⟨GS,0,none⟩)),
 Eq1 (.pointer (some ⟨GS,0,none⟩)),
 Eq1 (.pointer (some ⟨GS,0,none⟩)),
 Eq1 (.pointer (some ⟨GS,10,none⟩)),
 Eq1 (.agg #[.int .u64 z1.a0,.int .u64 z1.a1,.int .u64 z1.a2,.int .u64 z1.a3,.int .u64 z1.a4]),
 Eq1 (.pointer (some ⟨G3,10,none⟩)),
 Eq1 (.agg #[.int .u64 z2.a0,.int .u64 z2.a1,.int .u64 z2.a2,.int .u64 z2.a3,.int .u64 z2.a4]),
 ElP (c*c2 % Fe.P),
 NewB B0 202 #[.int .u64 0,.int .u64 0,.int .u64 0,.int .u64 0,.int .u64 0]]
theorem ad4S (z1:Fe.E) (z2:Fe.E) (c:Nat) (c2:Nat) (GS:Nat) (G3:Nat) (B0:Nat):∀ j x' q q',(ad4L z1 z2 c c2 GS G3 B0).getD j (fun _ _=>True) x' q→Below q.heap.size q q'→(ad4L z1 z2 c c2 GS G3 B0).getD j (fun _ _=>True) x' q':=by
 refine sta_all _ ?_
 simp only [ad4L,List.mem_cons,forall_eq_or_imp,List.not_mem_nil,false_implies,implies_true,and_true]
 exact ⟨sta_eq _,sta_eq _,sta_eq _,sta_eq _,sta_eq _,sta_eq _,sta_eq _,sta_el _,sta_new _ _ _⟩
theorem ad4O (z1:Fe.E) (z2:Fe.E) (c:Nat) (c2:Nat) (GS:Nat) (G3:Nat) (B0:Nat):∀ j x' q,(fun j=>j==8) j=true→(ad4L z1 z2 c c2 GS G3 B0).getD j (fun _ _=>True) x' q→∀ g,x'=.pointer (some ⟨g,0,none⟩)→g<q.heap.size:=by
 intro j x' q hj hv g e
 have hj':j=8:=by simpa only [Bool.or_eq_true,beq_iff_eq,or_assoc] using hj
 subst hj'
 all_goals exact new_lt hv e
def ad6L (a:Nat) (b:Nat) (c:Nat) (d:Nat) (a2:Nat) (b2:Nat) (c2:Nat) (d2:Nat) (GS:Nat) (x24:Fe.E) (x41:Fe.E) (x51:Fe.E) (xd:Fe.E):List (Value→World→Prop):=[
 Eq1 (.pointer (some ⟨GS,0,none⟩)),
 Eq1 (.agg #[.int .u64 x41.a0,.int .u64 x41.a1,.int .u64 x41.a2,.int .u64 x41.a3,.int .u64 x41.a4]),
 Eq1 (.agg #[.int .u64 x24.a0,.int .u64 x24.a1,.int .u64 x24.a2,.int .u64 x24.a3,.int .u64 x24.a4]),
 ElP (((((b+a) % Fe.P)*((b2+a2) % Fe.P) % Fe.P)+(Fe.P-(((b+(Fe.P-a)) % Fe.P)*((b2+(Fe.P-a2)) % Fe.P) % Fe.P))) % Fe.P),
 Eq1 (.agg #[.int .u64 xd.a0,.int .u64 xd.a1,.int .u64 xd.a2,.int .u64 xd.a3,.int .u64 xd.a4]),
 Eq1 (.agg #[.int .u64 x51.a0,.int .u64 x51.a1,.int .u64 x51.a2,.int .u64 x51.a3,.int .u64 x51.a4]),
 ElP (((((c*c2 % Fe.P)+(c*c2 % Fe.P)) % Fe.P)+(Fe.P-((d*((Fe.dN+Fe.dN) % Fe.P) % Fe.P)*d2 % Fe.P))) % Fe.P),
 Eq1 (.agg #[.int .u64 xd.a0,.int .u64 xd.a1,.int .u64 xd.a2,.int .u64 xd.a3,.int .u64 xd.a4]),
 Eq1 (.agg #[.int .u64 x51.a0,.int .u64 x51.a1,.int .u64 x51.a2,.int .u64 x51.a3,.int .u64 x51.a4]),
 ElP (((((c*c2 % Fe.P)+(c*c2 % Fe.P)) % Fe.P)+((d*((Fe.dN+Fe.dN) % Fe.P) % Fe.P)*d2 % Fe.P)) % Fe.P),
 Eq1 (.agg #[.int .u64 x41.a0,.int .u64 x41.a1,.int .u64 x41.a2,.int .u64 x41.a3,.int .u64 x41.a4]),
 Eq1 (.agg #[.int .u64 x24.a0,.int .u64 x24.a1,.int .u64 x24.a2,.int .u64 x24.a3,.int .u64 x24.a4]),
 ElP (((((b+a) % Fe.P)*((b2+a2) % Fe.P) % Fe.P)+(((b+(Fe.P-a)) % Fe.P)*((b2+(Fe.P-a2)) % Fe.P) % Fe.P)) % Fe.P),
 PtP ((((((b+a) % Fe.P)*((b2+a2) % Fe.P) % Fe.P)+(Fe.P-(((b+(Fe.P-a)) % Fe.P)*((b2+(Fe.P-a2)) % Fe.P) % Fe.P))) % Fe.P)*(((((c*c2 % Fe.P)+(c*c2 % Fe.P)) % Fe.P)+(Fe.P-((d*((Fe.dN+Fe.dN) % Fe.P) % Fe.P)*d2 % Fe.P))) % Fe.P) % Fe.P) ((((((c*c2 % Fe.P)+(c*c2 % Fe.P)) % Fe.P)+((d*((Fe.dN+Fe.dN) % Fe.P) % Fe.P)*d2 % Fe.P)) % Fe.P)*(((((b+a) % Fe.P)*((b2+a2) % Fe.P) % Fe.P)+(((b+(Fe.P-a)) % Fe.P)*((b2+(Fe.P-a2)) % Fe.P) % Fe.P)) % Fe.P) % Fe.P) ((((((c*c2 % Fe.P)+(c*c2 % Fe.P)) % Fe.P)+(Fe.P-((d*((Fe.dN+Fe.dN) % Fe.P) % Fe.P)*d2 % Fe.P))) % Fe.P)*(((((c*c2 % Fe.P)+(c*c2 % Fe.P)) % Fe.P)+((d*((Fe.dN+Fe.dN) % Fe.P) % Fe.P)*d2 % Fe.P)) % Fe.P) % Fe.P) ((((((b+a) % Fe.P)*((b2+a2) % Fe.P) % Fe.P)+(Fe.P-(((b+(Fe.P-a)) % Fe.P)*((b2+(Fe.P-a2)) % Fe.P) % Fe.P))) % Fe.P)*(((((b+a) % Fe.P)*((b2+a2) % Fe.P) % Fe.P)+(((b+(Fe.P-a)) % Fe.P)*((b2+(Fe.P-a2)) % Fe.P) % Fe.P)) % Fe.P) % Fe.P),
 Eq1 (.pointer (some ⟨GS,0,none⟩)),
 Eq1 (.pointer (some ⟨GS,0,none⟩))]
theorem ad6S (a:Nat) (b:Nat) (c:Nat) (d:Nat) (a2:Nat) (b2:Nat) (c2:Nat) (d2:Nat) (GS:Nat) (x24:Fe.E) (x41:Fe.E) (x51:Fe.E) (xd:Fe.E):∀ j x' q q',(ad6L a b c d a2 b2 c2 d2 GS x24 x41 x51 xd).getD j (fun _ _=>True) x' q→Below q.heap.size q q'→(ad6L a b c d a2 b2 c2 d2 GS x24 x41 x51 xd).getD j (fun _ _=>True) x' q':=by
 refine sta_all _ ?_
 simp only [ad6L,List.mem_cons,forall_eq_or_imp,List.not_mem_nil,false_implies,implies_true,and_true]
 exact ⟨sta_eq _,sta_eq _,sta_eq _,sta_el _,sta_eq _,sta_eq _,sta_el _,sta_eq _,sta_eq _,sta_el _,sta_eq _,sta_eq _,sta_el _,sta_pt _ _ _ _,sta_eq _,sta_eq _⟩
def addN (a b c d a2 b2 c2 d2:Nat):Nat × Nat × Nat × Nat:=(((((((b+a) % Fe.P)*((b2+a2) % Fe.P) % Fe.P)+(Fe.P-(((b+(Fe.P-a)) % Fe.P)*((b2+(Fe.P-a2)) % Fe.P) % Fe.P))) % Fe.P)*(((((c*c2 % Fe.P)+(c*c2 % Fe.P)) % Fe.P)+(Fe.P-((d*((Fe.dN+Fe.dN) % Fe.P) % Fe.P)*d2 % Fe.P))) % Fe.P) % Fe.P),((((((c*c2 % Fe.P)+(c*c2 % Fe.P)) % Fe.P)+((d*((Fe.dN+Fe.dN) % Fe.P) % Fe.P)*d2 % Fe.P)) % Fe.P)*(((((b+a) % Fe.P)*((b2+a2) % Fe.P) % Fe.P)+(((b+(Fe.P-a)) % Fe.P)*((b2+(Fe.P-a2)) % Fe.P) % Fe.P)) % Fe.P) % Fe.P),((((((c*c2 % Fe.P)+(c*c2 % Fe.P)) % Fe.P)+(Fe.P-((d*((Fe.dN+Fe.dN) % Fe.P) % Fe.P)*d2 % Fe.P))) % Fe.P)*(((((c*c2 % Fe.P)+(c*c2 % Fe.P)) % Fe.P)+((d*((Fe.dN+Fe.dN) % Fe.P) % Fe.P)*d2 % Fe.P)) % Fe.P) % Fe.P),((((((b+a) % Fe.P)*((b2+a2) % Fe.P) % Fe.P)+(Fe.P-(((b+(Fe.P-a)) % Fe.P)*((b2+(Fe.P-a2)) % Fe.P) % Fe.P))) % Fe.P)*(((((b+a) % Fe.P)*((b2+a2) % Fe.P) % Fe.P)+(((b+(Fe.P-a)) % Fe.P)*((b2+(Fe.P-a2)) % Fe.P) % Fe.P)) % Fe.P) % Fe.P))
set_option maxRecDepth 20000 in
set_option maxHeartbeats 8000000 in
theorem sadd_c {x1 y1 z1 t1:Fe.E} {a b c d:Nat} (hx1:El x1 a) (hy1:El y1 b) (hz1:El z1 c) (ht1:El t1 d) {x2 y2 z2 t2:Fe.E} {a2 b2 c2 d2:Nat} (hx2:El x2 a2) (hy2:El y2 b2) (hz2:El z2 c2) (ht2:El t2 d2) (GS:Nat) (w:World) (kS:Blk w GS 288 #[.int .u64 x1.a0,.int .u64 x1.a1,.int .u64 x1.a2,.int .u64 x1.a3,.int .u64 x1.a4,.int .u64 y1.a0,.int .u64 y1.a1,.int .u64 y1.a2,.int .u64 y1.a3,.int .u64 y1.a4,.int .u64 z1.a0,.int .u64 z1.a1,.int .u64 z1.a2,.int .u64 z1.a3,.int .u64 z1.a4,.int .u64 t1.a0,.int .u64 t1.a1,.int .u64 t1.a2,.int .u64 t1.a3,.int .u64 t1.a4]) (hCv:CvP w) :
  Calls Tryz.prog 263 #[.pointer (some ⟨GS,0,none⟩),.agg #[.int .u64 x2.a0,.int .u64 x2.a1,.int .u64 x2.a2,.int .u64 x2.a3,.int .u64 x2.a4,.int .u64 y2.a0,.int .u64 y2.a1,.int .u64 y2.a2,.int .u64 y2.a3,.int .u64 y2.a4,.int .u64 z2.a0,.int .u64 z2.a1,.int .u64 z2.a2,.int .u64 z2.a3,.int .u64 z2.a4,.int .u64 t2.a0,.int .u64 t2.a1,.int .u64 t2.a2,.int .u64 t2.a3,.int .u64 t2.a4]] w (PostS GS (addN a b c d a2 b2 c2 d2).1 (addN a b c d a2 b2 c2 d2).2.1 (addN a b c d a2 b2 c2 d2).2.2.1 (addN a b c d a2 b2 c2 d2).2.2.2 w):=by
 go_enter Tryz.func263,Tryz.ntmps263
 go_wp2_with fail
 refine at_world (fun W0 hW=>?_)
 have k3:Blk W0 (w.heap.size) 204 #[.int .u64 x2.a0,.int .u64 x2.a1,.int .u64 x2.a2,.int .u64 x2.a3,.int .u64 x2.a4,.int .u64 y2.a0,.int .u64 y2.a1,.int .u64 y2.a2,.int .u64 y2.a3,.int .u64 y2.a4,.int .u64 z2.a0,.int .u64 z2.a1,.int .u64 z2.a2,.int .u64 z2.a3,.int .u64 z2.a4,.int .u64 t2.a0,.int .u64 t2.a1,.int .u64 t2.a2,.int .u64 t2.a3,.int .u64 t2.a4]:=by rw [hW];exact Blk.new _ _ _
 have hb0:Below w.heap.size w W0:=by rw [hW];go_grown
 clear hW
 obtain ⟨G3,hG3⟩:∃ G3,G3=w.heap.size:=⟨_,rfl⟩
 rw [← hG3] at k3 ⊢
 have lo_G3:w.heap.size≤G3:=by omega
 clear hG3
 have LC:=Lib.hid hCv.lt
 have n_GS_G3:GS≠G3:=by have:=kS.lt;omega
 replace kS:=kS.below hb0
 replace hCv:=hCv.below hb0 hCv.lt
 refine wp_region_grow2 18 (fun k=>Nat.beq k 4||(Nat.ble 8 k&&Nat.ble k 24)) _ [] (fun j x' q=>(ad1L x1 y1 x2 y2 a b a2 b2 GS G3 W0.heap.size).getD j (fun _ _=>True) x' q) (fun j=>j==17) (fun f=>#[.pointer (some ⟨GS,0,none⟩),.agg #[.int .u64 x2.a0,.int .u64 x2.a1,.int .u64 x2.a2,.int .u64 x2.a3,.int .u64 x2.a4,.int .u64 y2.a0,.int .u64 y2.a1,.int .u64 y2.a2,.int .u64 y2.a3,.int .u64 y2.a4,.int .u64 z2.a0,.int .u64 z2.a1,.int .u64 z2.a2,.int .u64 z2.a3,.int .u64 z2.a4,.int .u64 t2.a0,.int .u64 t2.a1,.int .u64 t2.a2,.int .u64 t2.a3,.int .u64 t2.a4],undef,.pointer (some ⟨G3,0,none⟩),f 4,undef,undef,undef,f 8,f 9,f 10,f 11,f 12,f 13,f 14,f 15,f 16,f 17,f 18,f 19,f 20,f 21,f 22,f 23,f 24,undef,undef,undef,undef,undef,undef,undef,undef,undef,undef,undef,undef,undef,undef,undef,undef,undef,undef,undef,undef,undef,undef,undef,undef,undef,undef,undef,undef,undef,undef,undef,undef,undef,undef,undef,undef,undef,undef,undef,undef,undef,undef,undef,undef,undef,undef,undef,undef,undef,undef,undef,undef,undef,undef]) (fun f=>rfl) (by kernel_rfl) (by kernel_rfl) (by kernel_rfl) (by kernel_rfl) (by kernel_rfl) (ad1S _ _ _ _ _ _ _ _ _ _ _) (ad1O _ _ _ _ _ _ _ _ _ _ _) ?_ ?_
 ·refine steps2_cons ?_ ?_
  ·intro f w1 hb hd Q hK
   clear hd
   have hK:=Lib.hid hK
   go_wp2
   exact hK.out _ _ rfl (.refl _ _) nof
  refine steps2_cons ?_ ?_
  ·intro f w1 hb hd Q hK
   have e8:f 8=.pointer (some ⟨GS,0,none⟩):=hd.1 rfl
   clear hd
   simp only [e8] at hK
   have hK:=Lib.hid hK
   go_wp2
   exact hK.out _ _ rfl (.refl _ _) nof
  refine steps2_cons ?_ ?_
  ·intro f w1 hb hd Q hK
   have e9:f 9=.pointer (some ⟨GS,0,none⟩):=hd.1 rfl
   clear hd
   simp only [e9] at hK
   have hK:=Lib.hid hK
   go_wp2
   exact hK.out _ _ rfl (.refl _ _) nof
  refine steps2_cons ?_ ?_
  ·intro f w1 hb hd Q hK
   have e10:f 10=.pointer (some ⟨GS,0,none⟩):=hd.1 rfl
   clear hd
   simp only [e10] at hK
   have hK:=Lib.hid hK
   go_wp2
   exact hK.out _ _ rfl (.refl _ _) nof
  refine steps2_cons ?_ ?_
  ·intro f w1 hb hd Q hK
   have e11:f 11=.pointer (some ⟨GS,5,none⟩):=hd.1 rfl
   clear hd
   simp only [e11] at hK
   have hK:=Lib.hid hK
   have c0:w1.cell? ⟨GS,5,none⟩=some (.int .u64 y1.a0):=(kS.below hb).cell 5
   have c1:w1.cell? ⟨GS,6,none⟩=some (.int .u64 y1.a1):=(kS.below hb).cell 6
   have c2:w1.cell? ⟨GS,7,none⟩=some (.int .u64 y1.a2):=(kS.below hb).cell 7
   have c3:w1.cell? ⟨GS,8,none⟩=some (.int .u64 y1.a3):=(kS.below hb).cell 8
   have c4:w1.cell? ⟨GS,9,none⟩=some (.int .u64 y1.a4):=(kS.below hb).cell 9
   go_wp2
   exact hK.out _ _ rfl (.refl _ _) nof
  refine steps2_cons ?_ ?_
  ·intro f w1 hb hd Q hK
   clear hd
   have hK:=Lib.hid hK
   go_wp2
   exact hK.out _ _ rfl (.refl _ _) nof
  refine steps2_cons ?_ ?_
  ·intro f w1 hb hd Q hK
   have e13:f 13=.pointer (some ⟨GS,0,none⟩):=hd.1 rfl
   clear hd
   simp only [e13] at hK
   have hK:=Lib.hid hK
   go_wp2
   exact hK.out _ _ rfl (.refl _ _) nof
  refine steps2_cons ?_ ?_
  ·intro f w1 hb hd Q hK
   have e14:f 14=.pointer (some ⟨GS,0,none⟩):=hd.1 rfl
   clear hd
   simp only [e14] at hK
   have hK:=Lib.hid hK
   go_wp2
   exact hK.out _ _ rfl (.refl _ _) nof
  refine steps2_cons ?_ ?_
  ·intro f w1 hb hd Q hK
   have e15:f 15=.pointer (some ⟨GS,0,none⟩):=hd.1 rfl
   clear hd
   simp only [e15] at hK
   have hK:=Lib.hid hK
   go_wp2
   exact hK.out _ _ rfl (.refl _ _) nof
  refine steps2_cons ?_ ?_
  ·intro f w1 hb hd Q hK
   have e16:f 16=.pointer (some ⟨GS,0,none⟩):=hd.1 rfl
   clear hd
   simp only [e16] at hK
   have hK:=Lib.hid hK
   have c0:w1.cell? ⟨GS,0,none⟩=some (.int .u64 x1.a0):=(kS.below hb).cell 0
   have c1:w1.cell? ⟨GS,1,none⟩=some (.int .u64 x1.a1):=(kS.below hb).cell 1
   have c2:w1.cell? ⟨GS,2,none⟩=some (.int .u64 x1.a2):=(kS.below hb).cell 2
   have c3:w1.cell? ⟨GS,3,none⟩=some (.int .u64 x1.a3):=(kS.below hb).cell 3
   have c4:w1.cell? ⟨GS,4,none⟩=some (.int .u64 x1.a4):=(kS.below hb).cell 4
   go_wp2
   exact hK.out _ _ rfl (.refl _ _) nof
  refine steps2_cons ?_ ?_
  ·intro f w1 hb hd Q hK
   have e12:f 12=.agg #[.int .u64 y1.a0,.int .u64 y1.a1,.int .u64 y1.a2,.int .u64 y1.a3,.int .u64 y1.a4]:=hd.1 rfl
   have e17:f 17=.agg #[.int .u64 x1.a0,.int .u64 x1.a1,.int .u64 x1.a2,.int .u64 x1.a3,.int .u64 x1.a4]:=hd.2.1 rfl
   clear hd
   simp only [e12,e17] at hK
   have hK:=Lib.hid hK
   go_wp2_with fail
   refine (fSub hy1 hx1 _).mono ?_
   rintro e w2 ⟨x,rfl,hx,hb2⟩
   go_wp2
   exact hK.out _ _ ⟨x,rfl,hx⟩ hb2 nof
  refine steps2_cons ?_ ?_
  ·intro f w1 hb hd Q hK
   clear hd
   have hK:=Lib.hid hK
   go_wp2
   exact hK.out _ _ rfl (.refl _ _) nof
  refine steps2_cons ?_ ?_
  ·intro f w1 hb hd Q hK
   have e19:f 19=.pointer (some ⟨G3,5,none⟩):=hd.1 rfl
   clear hd
   simp only [e19] at hK
   have hK:=Lib.hid hK
   have c0:w1.cell? ⟨G3,5,none⟩=some (.int .u64 y2.a0):=(k3.below hb).cell 5
   have c1:w1.cell? ⟨G3,6,none⟩=some (.int .u64 y2.a1):=(k3.below hb).cell 6
   have c2:w1.cell? ⟨G3,7,none⟩=some (.int .u64 y2.a2):=(k3.below hb).cell 7
   have c3:w1.cell? ⟨G3,8,none⟩=some (.int .u64 y2.a3):=(k3.below hb).cell 8
   have c4:w1.cell? ⟨G3,9,none⟩=some (.int .u64 y2.a4):=(k3.below hb).cell 9
   go_wp2
   exact hK.out _ _ rfl (.refl _ _) nof
  refine steps2_cons ?_ ?_
  ·intro f w1 hb hd Q hK
   clear hd
   have hK:=Lib.hid hK
   go_wp2
   exact hK.out _ _ rfl (.refl _ _) nof
  refine steps2_cons ?_ ?_
  ·intro f w1 hb hd Q hK
   have e21:f 21=.pointer (some ⟨G3,0,none⟩):=hd.1 rfl
   clear hd
   simp only [e21] at hK
   have hK:=Lib.hid hK
   have c0:w1.cell? ⟨G3,0,none⟩=some (.int .u64 x2.a0):=(k3.below hb).cell 0
   have c1:w1.cell? ⟨G3,1,none⟩=some (.int .u64 x2.a1):=(k3.below hb).cell 1
   have c2:w1.cell? ⟨G3,2,none⟩=some (.int .u64 x2.a2):=(k3.below hb).cell 2
   have c3:w1.cell? ⟨G3,3,none⟩=some (.int .u64 x2.a3):=(k3.below hb).cell 3
   have c4:w1.cell? ⟨G3,4,none⟩=some (.int .u64 x2.a4):=(k3.below hb).cell 4
   go_wp2
   exact hK.out _ _ rfl (.refl _ _) nof
  refine steps2_cons ?_ ?_
  ·intro f w1 hb hd Q hK
   have e20:f 20=.agg #[.int .u64 y2.a0,.int .u64 y2.a1,.int .u64 y2.a2,.int .u64 y2.a3,.int .u64 y2.a4]:=hd.1 rfl
   have e22:f 22=.agg #[.int .u64 x2.a0,.int .u64 x2.a1,.int .u64 x2.a2,.int .u64 x2.a3,.int .u64 x2.a4]:=hd.2.1 rfl
   clear hd
   simp only [e20,e22] at hK
   have hK:=Lib.hid hK
   go_wp2_with fail
   refine (fSub hy2 hx2 _).mono ?_
   rintro e w2 ⟨x,rfl,hx,hb2⟩
   go_wp2
   exact hK.out _ _ ⟨x,rfl,hx⟩ hb2 nof
  refine steps2_cons ?_ ?_
  ·intro f w1 hb hd Q hK
   obtain ⟨x18,e18,h18⟩:=(hd.1 rfl:ElP ((b+(Fe.P-a)) % Fe.P) (f 18) w1)
   obtain ⟨x23,e23,h23⟩:=(hd.2.1 rfl:ElP ((b2+(Fe.P-a2)) % Fe.P) (f 23) w1)
   clear hd
   simp only [e18,e23] at hK
   have hK:=Lib.hid hK
   go_wp2_with fail
   refine (fMul h18 h23 _).mono ?_
   rintro e w2 ⟨x,rfl,hx,hb2⟩
   go_wp2
   exact hK.out _ _ ⟨x,rfl,hx⟩ hb2 nof
  refine steps2_cons ?_ ?_
  ·intro f w1 hb hd Q hK
   clear hd
   have hK:=Lib.hid hK
   have hsz:=hb.size
   go_wp2
   exact hK.out _ _ ⟨_,rfl,hsz,Blk.new _ _ _⟩ ((Below.refl _ _).alloc (Nat.le_refl _) _) (fun _=>⟨_,rfl,Nat.le_refl _⟩)
  trivial
 intro ff1 yw1 hb hf hne
 obtain ⟨g4,d4,lo4,bk4⟩:NewB W0.heap.size 202 #[.int .u64 0,.int .u64 0,.int .u64 0,.int .u64 0,.int .u64 0] (ff1 4) yw1:=hf 17 _ _ (by decide) rfl rfl
 obtain ⟨x24,d24,h24⟩:ElP (((b+(Fe.P-a)) % Fe.P)*((b2+(Fe.P-a2)) % Fe.P) % Fe.P) (ff1 24) yw1:=hf 16 _ _ (by decide) rfl rfl
 clear hf
 have LS:=hb0.size
 clear hne
 have n_GS_g4:GS≠g4:=by have:=kS.lt;omega
 have n_G3_g4:G3≠g4:=by have:=k3.lt;omega
 have l_g4:w.heap.size≤g4:=by omega
 clear LS lo4
 simp only [d4,d24]
 clear d4 d24
 replace kS:=kS.below hb
 replace k3:=k3.below hb
 replace hCv:=hCv.below hb hCv.lt
 replace hb0:=hb0.trans (hb.mono hb0.size)
 clear hb
 (refine stEl rfl rfl rfl rfl bk4 rfl ?_;intro w2 nk hgr hsz;clear bk4;have k4:=nk;clear nk;replace kS:=kS.grown hgr (fun h=>n_GS_g4 (by injection h));replace k3:=k3.grown hgr (fun h=>n_G3_g4 (by injection h));replace hCv:=hCv.grown hgr (by have:=LC.out;have:=l_g4;omega);replace hb0:=hb0.grown hgr hb0.size (fun k hk=>by injection hk with hk;have:=l_g4;omega);clear hgr hsz)
 refine wpList_nil ?_
 go_wp2
 refine wp_region_grow2 18 (fun k=>Nat.beq k 5||(Nat.ble 25 k&&Nat.ble k 41)) _ [] (fun j x' q=>(ad2L x1 y1 x2 y2 a b a2 b2 GS G3 w2.heap.size).getD j (fun _ _=>True) x' q) (fun j=>j==17) (fun f=>#[.pointer (some ⟨GS,0,none⟩),.agg #[.int .u64 x2.a0,.int .u64 x2.a1,.int .u64 x2.a2,.int .u64 x2.a3,.int .u64 x2.a4,.int .u64 y2.a0,.int .u64 y2.a1,.int .u64 y2.a2,.int .u64 y2.a3,.int .u64 y2.a4,.int .u64 z2.a0,.int .u64 z2.a1,.int .u64 z2.a2,.int .u64 z2.a3,.int .u64 z2.a4,.int .u64 t2.a0,.int .u64 t2.a1,.int .u64 t2.a2,.int .u64 t2.a3,.int .u64 t2.a4],undef,.pointer (some ⟨G3,0,none⟩),.pointer (some ⟨g4,0,none⟩),f 5,undef,undef,ff1 8,ff1 9,ff1 10,ff1 11,ff1 12,ff1 13,ff1 14,ff1 15,ff1 16,ff1 17,ff1 18,ff1 19,ff1 20,ff1 21,ff1 22,ff1 23,.agg #[.int .u64 x24.a0,.int .u64 x24.a1,.int .u64 x24.a2,.int .u64 x24.a3,.int .u64 x24.a4],f 25,f 26,f 27,f 28,f 29,f 30,f 31,f 32,f 33,f 34,f 35,f 36,f 37,f 38,f 39,f 40,f 41,undef,undef,undef,undef,undef,undef,undef,undef,undef,undef,undef,undef,undef,undef,undef,undef,undef,undef,undef,undef,undef,undef,undef,undef,undef,undef,undef,undef,undef,undef,undef,undef,undef,undef,undef,undef,undef]) (fun f=>rfl) (by kernel_rfl) (by kernel_rfl) (by kernel_rfl) (by kernel_rfl) (by kernel_rfl) (ad2S _ _ _ _ _ _ _ _ _ _ _) (ad2O _ _ _ _ _ _ _ _ _ _ _) ?_ ?_
 ·refine steps2_cons ?_ ?_
  ·intro f w1 hb hd Q hK
   clear hd
   have hK:=Lib.hid hK
   go_wp2
   exact hK.out _ _ rfl (.refl _ _) nof
  refine steps2_cons ?_ ?_
  ·intro f w1 hb hd Q hK
   have e25:f 25=.pointer (some ⟨GS,0,none⟩):=hd.1 rfl
   clear hd
   simp only [e25] at hK
   have hK:=Lib.hid hK
   go_wp2
   exact hK.out _ _ rfl (.refl _ _) nof
  refine steps2_cons ?_ ?_
  ·intro f w1 hb hd Q hK
   have e26:f 26=.pointer (some ⟨GS,0,none⟩):=hd.1 rfl
   clear hd
   simp only [e26] at hK
   have hK:=Lib.hid hK
   go_wp2
   exact hK.out _ _ rfl (.refl _ _) nof
  refine steps2_cons ?_ ?_
  ·intro f w1 hb hd Q hK
   have e27:f 27=.pointer (some ⟨GS,0,none⟩):=hd.1 rfl
   clear hd
   simp only [e27] at hK
   have hK:=Lib.hid hK
   go_wp2
   exact hK.out _ _ rfl (.refl _ _) nof
  refine steps2_cons ?_ ?_
  ·intro f w1 hb hd Q hK
   have e28:f 28=.pointer (some ⟨GS,5,none⟩):=hd.1 rfl
   clear hd
   simp only [e28] at hK
   have hK:=Lib.hid hK
   have c0:w1.cell? ⟨GS,5,none⟩=some (.int .u64 y1.a0):=(kS.below hb).cell 5
   have c1:w1.cell? ⟨GS,6,none⟩=some (.int .u64 y1.a1):=(kS.below hb).cell 6
   have c2:w1.cell? ⟨GS,7,none⟩=some (.int .u64 y1.a2):=(kS.below hb).cell 7
   have c3:w1.cell? ⟨GS,8,none⟩=some (.int .u64 y1.a3):=(kS.below hb).cell 8
   have c4:w1.cell? ⟨GS,9,none⟩=some (.int .u64 y1.a4):=(kS.below hb).cell 9
   go_wp2
   exact hK.out _ _ rfl (.refl _ _) nof
  refine steps2_cons ?_ ?_
  ·intro f w1 hb hd Q hK
   clear hd
   have hK:=Lib.hid hK
   go_wp2
   exact hK.out _ _ rfl (.refl _ _) nof
  refine steps2_cons ?_ ?_
  ·intro f w1 hb hd Q hK
   have e30:f 30=.pointer (some ⟨GS,0,none⟩):=hd.1 rfl
   clear hd
   simp only [e30] at hK
   have hK:=Lib.hid hK
   go_wp2
   exact hK.out _ _ rfl (.refl _ _) nof
  refine steps2_cons ?_ ?_
  ·intro f w1 hb hd Q hK
   have e31:f 31=.pointer (some ⟨GS,0,none⟩):=hd.1 rfl
   clear hd
   simp only [e31] at hK
   have hK:=Lib.hid hK
   go_wp2
   exact hK.out _ _ rfl (.refl _ _) nof
  refine steps2_cons ?_ ?_
  ·intro f w1 hb hd Q hK
   have e32:f 32=.pointer (some ⟨GS,0,none⟩):=hd.1 rfl
   clear hd
   simp only [e32] at hK
   have hK:=Lib.hid hK
   go_wp2
   exact hK.out _ _ rfl (.refl _ _) nof
  refine steps2_cons ?_ ?_
  ·intro f w1 hb hd Q hK
   have e33:f 33=.pointer (some ⟨GS,0,none⟩):=hd.1 rfl
   clear hd
   simp only [e33] at hK
   have hK:=Lib.hid hK
   have c0:w1.cell? ⟨GS,0,none⟩=some (.int .u64 x1.a0):=(kS.below hb).cell 0
   have c1:w1.cell? ⟨GS,1,none⟩=some (.int .u64 x1.a1):=(kS.below hb).cell 1
   have c2:w1.cell? ⟨GS,2,none⟩=some (.int .u64 x1.a2):=(kS.below hb).cell 2
   have c3:w1.cell? ⟨GS,3,none⟩=some (.int .u64 x1.a3):=(kS.below hb).cell 3
   have c4:w1.cell? ⟨GS,4,none⟩=some (.int .u64 x1.a4):=(kS.below hb).cell 4
   go_wp2
   exact hK.out _ _ rfl (.refl _ _) nof
  refine steps2_cons ?_ ?_
  ·intro f w1 hb hd Q hK
   have e29:f 29=.agg #[.int .u64 y1.a0,.int .u64 y1.a1,.int .u64 y1.a2,.int .u64 y1.a3,.int .u64 y1.a4]:=hd.1 rfl
   have e34:f 34=.agg #[.int .u64 x1.a0,.int .u64 x1.a1,.int .u64 x1.a2,.int .u64 x1.a3,.int .u64 x1.a4]:=hd.2.1 rfl
   clear hd
   simp only [e29,e34] at hK
   have hK:=Lib.hid hK
   go_wp2_with fail
   refine (fAdd hy1 hx1 _).mono ?_
   rintro e w2 ⟨x,rfl,hx,hb2⟩
   go_wp2
   exact hK.out _ _ ⟨x,rfl,hx⟩ hb2 nof
  refine steps2_cons ?_ ?_
  ·intro f w1 hb hd Q hK
   clear hd
   have hK:=Lib.hid hK
   go_wp2
   exact hK.out _ _ rfl (.refl _ _) nof
  refine steps2_cons ?_ ?_
  ·intro f w1 hb hd Q hK
   have e36:f 36=.pointer (some ⟨G3,5,none⟩):=hd.1 rfl
   clear hd
   simp only [e36] at hK
   have hK:=Lib.hid hK
   have c0:w1.cell? ⟨G3,5,none⟩=some (.int .u64 y2.a0):=(k3.below hb).cell 5
   have c1:w1.cell? ⟨G3,6,none⟩=some (.int .u64 y2.a1):=(k3.below hb).cell 6
   have c2:w1.cell? ⟨G3,7,none⟩=some (.int .u64 y2.a2):=(k3.below hb).cell 7
   have c3:w1.cell? ⟨G3,8,none⟩=some (.int .u64 y2.a3):=(k3.below hb).cell 8
   have c4:w1.cell? ⟨G3,9,none⟩=some (.int .u64 y2.a4):=(k3.below hb).cell 9
   go_wp2
   exact hK.out _ _ rfl (.refl _ _) nof
  refine steps2_cons ?_ ?_
  ·intro f w1 hb hd Q hK
   clear hd
   have hK:=Lib.hid hK
   go_wp2
   exact hK.out _ _ rfl (.refl _ _) nof
  refine steps2_cons ?_ ?_
  ·intro f w1 hb hd Q hK
   have e38:f 38=.pointer (some ⟨G3,0,none⟩):=hd.1 rfl
   clear hd
   simp only [e38] at hK
   have hK:=Lib.hid hK
   have c0:w1.cell? ⟨G3,0,none⟩=some (.int .u64 x2.a0):=(k3.below hb).cell 0
   have c1:w1.cell? ⟨G3,1,none⟩=some (.int .u64 x2.a1):=(k3.below hb).cell 1
   have c2:w1.cell? ⟨G3,2,none⟩=some (.int .u64 x2.a2):=(k3.below hb).cell 2
   have c3:w1.cell? ⟨G3,3,none⟩=some (.int .u64 x2.a3):=(k3.below hb).cell 3
   have c4:w1.cell? ⟨G3,4,none⟩=some (.int .u64 x2.a4):=(k3.below hb).cell 4
   go_wp2
   exact hK.out _ _ rfl (.refl _ _) nof
  refine steps2_cons ?_ ?_
  ·intro f w1 hb hd Q hK
   have e37:f 37=.agg #[.int .u64 y2.a0,.int .u64 y2.a1,.int .u64 y2.a2,.int .u64 y2.a3,.int .u64 y2.a4]:=hd.1 rfl
   have e39:f 39=.agg #[.int .u64 x2.a0,.int .u64 x2.a1,.int .u64 x2.a2,.int .u64 x2.a3,.int .u64 x2.a4]:=hd.2.1 rfl
   clear hd
   simp only [e37,e39] at hK
   have hK:=Lib.hid hK
   go_wp2_with fail
   refine (fAdd hy2 hx2 _).mono ?_
   rintro e w2 ⟨x,rfl,hx,hb2⟩
   go_wp2
   exact hK.out _ _ ⟨x,rfl,hx⟩ hb2 nof
  refine steps2_cons ?_ ?_
  ·intro f w1 hb hd Q hK
   obtain ⟨x35,e35,h35⟩:=(hd.1 rfl:ElP ((b+a) % Fe.P) (f 35) w1)
   obtain ⟨x40,e40,h40⟩:=(hd.2.1 rfl:ElP ((b2+a2) % Fe.P) (f 40) w1)
   clear hd
   simp only [e35,e40] at hK
   have hK:=Lib.hid hK
   go_wp2_with fail
   refine (fMul h35 h40 _).mono ?_
   rintro e w2 ⟨x,rfl,hx,hb2⟩
   go_wp2
   exact hK.out _ _ ⟨x,rfl,hx⟩ hb2 nof
  refine steps2_cons ?_ ?_
  ·intro f w1 hb hd Q hK
   clear hd
   have hK:=Lib.hid hK
   have hsz:=hb.size
   go_wp2
   exact hK.out _ _ ⟨_,rfl,hsz,Blk.new _ _ _⟩ ((Below.refl _ _).alloc (Nat.le_refl _) _) (fun _=>⟨_,rfl,Nat.le_refl _⟩)
  trivial
 intro ff2 yw2 hb hf hne
 obtain ⟨g5,d5,lo5,bk5⟩:NewB w2.heap.size 202 #[.int .u64 0,.int .u64 0,.int .u64 0,.int .u64 0,.int .u64 0] (ff2 5) yw2:=hf 17 _ _ (by decide) rfl rfl
 obtain ⟨x41,d41,h41⟩:ElP (((b+a) % Fe.P)*((b2+a2) % Fe.P) % Fe.P) (ff2 41) yw2:=hf 16 _ _ (by decide) rfl rfl
 clear hf
 have LS:=hb0.size
 clear hne
 have n_GS_g5:GS≠g5:=by have:=kS.lt;omega
 have n_G3_g5:G3≠g5:=by have:=k3.lt;omega
 have n_g4_g5:g4≠g5:=by have:=k4.lt;omega
 have l_g5:w.heap.size≤g5:=by omega
 clear LS lo5
 simp only [d5,d41]
 clear d5 d41
 replace kS:=kS.below hb
 replace k3:=k3.below hb
 replace k4:=k4.below hb
 replace hCv:=hCv.below hb hCv.lt
 replace hb0:=hb0.trans (hb.mono hb0.size)
 clear hb
 (refine stEl rfl rfl rfl rfl bk5 rfl ?_;intro w3 nk hgr hsz;clear bk5;have k5:=nk;clear nk;replace kS:=kS.grown hgr (fun h=>n_GS_g5 (by injection h));replace k3:=k3.grown hgr (fun h=>n_G3_g5 (by injection h));replace k4:=k4.grown hgr (fun h=>n_g4_g5 (by injection h));replace hCv:=hCv.grown hgr (by have:=LC.out;have:=l_g5;omega);replace hb0:=hb0.grown hgr hb0.size (fun k hk=>by injection hk with hk;have:=l_g5;omega);clear hgr hsz)
 refine wpList_nil ?_
 go_wp2
 refine wp_region_grow2 11 (fun k=>Nat.beq k 6||(Nat.ble 42 k&&Nat.ble k 51)) _ [] (fun j x' q=>(ad3L t1 t2 d d2 GS G3 w3.heap.size).getD j (fun _ _=>True) x' q) (fun j=>j==10) (fun f=>#[.pointer (some ⟨GS,0,none⟩),.agg #[.int .u64 x2.a0,.int .u64 x2.a1,.int .u64 x2.a2,.int .u64 x2.a3,.int .u64 x2.a4,.int .u64 y2.a0,.int .u64 y2.a1,.int .u64 y2.a2,.int .u64 y2.a3,.int .u64 y2.a4,.int .u64 z2.a0,.int .u64 z2.a1,.int .u64 z2.a2,.int .u64 z2.a3,.int .u64 z2.a4,.int .u64 t2.a0,.int .u64 t2.a1,.int .u64 t2.a2,.int .u64 t2.a3,.int .u64 t2.a4],undef,.pointer (some ⟨G3,0,none⟩),.pointer (some ⟨g4,0,none⟩),.pointer (some ⟨g5,0,none⟩),f 6,undef,ff1 8,ff1 9,ff1 10,ff1 11,ff1 12,ff1 13,ff1 14,ff1 15,ff1 16,ff1 17,ff1 18,ff1 19,ff1 20,ff1 21,ff1 22,ff1 23,.agg #[.int .u64 x24.a0,.int .u64 x24.a1,.int .u64 x24.a2,.int .u64 x24.a3,.int .u64 x24.a4],ff2 25,ff2 26,ff2 27,ff2 28,ff2 29,ff2 30,ff2 31,ff2 32,ff2 33,ff2 34,ff2 35,ff2 36,ff2 37,ff2 38,ff2 39,ff2 40,.agg #[.int .u64 x41.a0,.int .u64 x41.a1,.int .u64 x41.a2,.int .u64 x41.a3,.int .u64 x41.a4],f 42,f 43,f 44,f 45,f 46,f 47,f 48,f 49,f 50,f 51,undef,undef,undef,undef,undef,undef,undef,undef,undef,undef,undef,undef,undef,undef,undef,undef,undef,undef,undef,undef,undef,undef,undef,undef,undef,undef,undef]) (fun f=>rfl) (by kernel_rfl) (by kernel_rfl) (by kernel_rfl) (by kernel_rfl) (by kernel_rfl) (ad3S _ _ _ _ _ _ _) (ad3O _ _ _ _ _ _ _) ?_ ?_
 ·refine steps2_cons ?_ ?_
  ·intro f w1 hb hd Q hK
   clear hd
   have hK:=Lib.hid hK
   go_wp2
   exact hK.out _ _ rfl (.refl _ _) nof
  refine steps2_cons ?_ ?_
  ·intro f w1 hb hd Q hK
   have e42:f 42=.pointer (some ⟨GS,0,none⟩):=hd.1 rfl
   clear hd
   simp only [e42] at hK
   have hK:=Lib.hid hK
   go_wp2
   exact hK.out _ _ rfl (.refl _ _) nof
  refine steps2_cons ?_ ?_
  ·intro f w1 hb hd Q hK
   have e43:f 43=.pointer (some ⟨GS,0,none⟩):=hd.1 rfl
   clear hd
   simp only [e43] at hK
   have hK:=Lib.hid hK
   go_wp2
   exact hK.out _ _ rfl (.refl _ _) nof
  refine steps2_cons ?_ ?_
  ·intro f w1 hb hd Q hK
   have e44:f 44=.pointer (some ⟨GS,0,none⟩):=hd.1 rfl
   clear hd
   simp only [e44] at hK
   have hK:=Lib.hid hK
   go_wp2
   exact hK.out _ _ rfl (.refl _ _) nof
  refine steps2_cons ?_ ?_
  ·intro f w1 hb hd Q hK
   have e45:f 45=.pointer (some ⟨GS,15,none⟩):=hd.1 rfl
   clear hd
   simp only [e45] at hK
   have hK:=Lib.hid hK
   have c0:w1.cell? ⟨GS,15,none⟩=some (.int .u64 t1.a0):=(kS.below hb).cell 15
   have c1:w1.cell? ⟨GS,16,none⟩=some (.int .u64 t1.a1):=(kS.below hb).cell 16
   have c2:w1.cell? ⟨GS,17,none⟩=some (.int .u64 t1.a2):=(kS.below hb).cell 17
   have c3:w1.cell? ⟨GS,18,none⟩=some (.int .u64 t1.a3):=(kS.below hb).cell 18
   have c4:w1.cell? ⟨GS,19,none⟩=some (.int .u64 t1.a4):=(kS.below hb).cell 19
   go_wp2
   exact hK.out _ _ rfl (.refl _ _) nof
  refine steps2_cons ?_ ?_
  ·intro f w1 hb hd Q hK
   clear hd
   have hK:=Lib.hid hK
   obtain ⟨c0,c1,c2,c3,c4⟩:=(hCv.below hb hCv.lt).at1
   go_wp2
   exact hK.out _ _ rfl (.refl _ _) nof
  refine steps2_cons ?_ ?_
  ·intro f w1 hb hd Q hK
   have e46:f 46=.agg #[.int .u64 t1.a0,.int .u64 t1.a1,.int .u64 t1.a2,.int .u64 t1.a3,.int .u64 t1.a4]:=hd.1 rfl
   have e47:f 47=.agg #[.int .u64 1859910466990425,.int .u64 932731440258426,.int .u64 1072319116312658,.int .u64 1815898335770999,.int .u64 633789495995903]:=hd.2.1 rfl
   clear hd
   simp only [e46,e47] at hK
   have hK:=Lib.hid hK
   go_wp2_with fail
   refine (fMul ht1 el_c2 _).mono ?_
   rintro e w2 ⟨x,rfl,hx,hb2⟩
   go_wp2
   exact hK.out _ _ ⟨x,rfl,hx⟩ hb2 nof
  refine steps2_cons ?_ ?_
  ·intro f w1 hb hd Q hK
   clear hd
   have hK:=Lib.hid hK
   go_wp2
   exact hK.out _ _ rfl (.refl _ _) nof
  refine steps2_cons ?_ ?_
  ·intro f w1 hb hd Q hK
   have e49:f 49=.pointer (some ⟨G3,15,none⟩):=hd.1 rfl
   clear hd
   simp only [e49] at hK
   have hK:=Lib.hid hK
   have c0:w1.cell? ⟨G3,15,none⟩=some (.int .u64 t2.a0):=(k3.below hb).cell 15
   have c1:w1.cell? ⟨G3,16,none⟩=some (.int .u64 t2.a1):=(k3.below hb).cell 16
   have c2:w1.cell? ⟨G3,17,none⟩=some (.int .u64 t2.a2):=(k3.below hb).cell 17
   have c3:w1.cell? ⟨G3,18,none⟩=some (.int .u64 t2.a3):=(k3.below hb).cell 18
   have c4:w1.cell? ⟨G3,19,none⟩=some (.int .u64 t2.a4):=(k3.below hb).cell 19
   go_wp2
   exact hK.out _ _ rfl (.refl _ _) nof
  refine steps2_cons ?_ ?_
  ·intro f w1 hb hd Q hK
   obtain ⟨x48,e48,h48⟩:=(hd.1 rfl:ElP (d*((Fe.dN+Fe.dN) % Fe.P) % Fe.P) (f 48) w1)
   have e50:f 50=.agg #[.int .u64 t2.a0,.int .u64 t2.a1,.int .u64 t2.a2,.int .u64 t2.a3,.int .u64 t2.a4]:=hd.2.1 rfl
   clear hd
   simp only [e48,e50] at hK
   have hK:=Lib.hid hK
   go_wp2_with fail
   refine (fMul h48 ht2 _).mono ?_
   rintro e w2 ⟨x,rfl,hx,hb2⟩
   go_wp2
   exact hK.out _ _ ⟨x,rfl,hx⟩ hb2 nof
  refine steps2_cons ?_ ?_
  ·intro f w1 hb hd Q hK
   clear hd
   have hK:=Lib.hid hK
   have hsz:=hb.size
   go_wp2
   exact hK.out _ _ ⟨_,rfl,hsz,Blk.new _ _ _⟩ ((Below.refl _ _).alloc (Nat.le_refl _) _) (fun _=>⟨_,rfl,Nat.le_refl _⟩)
  trivial
 intro ff3 yw3 hb hf hne
 obtain ⟨g6,d6,lo6,bk6⟩:NewB w3.heap.size 202 #[.int .u64 0,.int .u64 0,.int .u64 0,.int .u64 0,.int .u64 0] (ff3 6) yw3:=hf 10 _ _ (by decide) rfl rfl
 obtain ⟨x51,d51,h51⟩:ElP ((d*((Fe.dN+Fe.dN) % Fe.P) % Fe.P)*d2 % Fe.P) (ff3 51) yw3:=hf 9 _ _ (by decide) rfl rfl
 clear hf
 have LS:=hb0.size
 clear hne
 have n_GS_g6:GS≠g6:=by have:=kS.lt;omega
 have n_G3_g6:G3≠g6:=by have:=k3.lt;omega
 have n_g4_g6:g4≠g6:=by have:=k4.lt;omega
 have n_g5_g6:g5≠g6:=by have:=k5.lt;omega
 have l_g6:w.heap.size≤g6:=by omega
 clear LS lo6
 simp only [d6,d51]
 clear d6 d51
 replace kS:=kS.below hb
 replace k3:=k3.below hb
 replace k4:=k4.below hb
 replace k5:=k5.below hb
 replace hCv:=hCv.below hb hCv.lt
 replace hb0:=hb0.trans (hb.mono hb0.size)
 clear hb
 (refine stEl rfl rfl rfl rfl bk6 rfl ?_;intro w4 nk hgr hsz;clear bk6;have k6:=nk;clear nk;replace kS:=kS.grown hgr (fun h=>n_GS_g6 (by injection h));replace k3:=k3.grown hgr (fun h=>n_G3_g6 (by injection h));replace k4:=k4.grown hgr (fun h=>n_g4_g6 (by injection h));replace k5:=k5.grown hgr (fun h=>n_g5_g6 (by injection h));replace hCv:=hCv.grown hgr (by have:=LC.out;have:=l_g6;omega);replace hb0:=hb0.grown hgr hb0.size (fun k hk=>by injection hk with hk;have:=l_g6;omega);clear hgr hsz)
 refine wpList_nil ?_
 go_wp2
 refine wp_region_grow2 9 (fun k=>Nat.beq k 7||(Nat.ble 52 k&&Nat.ble k 59)) _ [] (fun j x' q=>(ad4L z1 z2 c c2 GS G3 w4.heap.size).getD j (fun _ _=>True) x' q) (fun j=>j==8) (fun f=>#[.pointer (some ⟨GS,0,none⟩),.agg #[.int .u64 x2.a0,.int .u64 x2.a1,.int .u64 x2.a2,.int .u64 x2.a3,.int .u64 x2.a4,.int .u64 y2.a0,.int .u64 y2.a1,.int .u64 y2.a2,.int .u64 y2.a3,.int .u64 y2.a4,.int .u64 z2.a0,.int .u64 z2.a1,.int .u64 z2.a2,.int .u64 z2.a3,.int .u64 z2.a4,.int .u64 t2.a0,.int .u64 t2.a1,.int .u64 t2.a2,.int .u64 t2.a3,.int .u64 t2.a4],undef,.pointer (some ⟨G3,0,none⟩),.pointer (some ⟨g4,0,none⟩),.pointer (some ⟨g5,0,none⟩),.pointer (some ⟨g6,0,none⟩),f 7,ff1 8,ff1 9,ff1 10,ff1 11,ff1 12,ff1 13,ff1 14,ff1 15,ff1 16,ff1 17,ff1 18,ff1 19,ff1 20,ff1 21,ff1 22,ff1 23,.agg #[.int .u64 x24.a0,.int .u64 x24.a1,.int .u64 x24.a2,.int .u64 x24.a3,.int .u64 x24.a4],ff2 25,ff2 26,ff2 27,ff2 28,ff2 29,ff2 30,ff2 31,ff2 32,ff2 33,ff2 34,ff2 35,ff2 36,ff2 37,ff2 38,ff2 39,ff2 40,.agg #[.int .u64 x41.a0,.int .u64 x41.a1,.int .u64 x41.a2,.int .u64 x41.a3,.int .u64 x41.a4],ff3 42,ff3 43,ff3 44,ff3 45,ff3 46,ff3 47,ff3 48,ff3 49,ff3 50,.agg #[.int .u64 x51.a0,.int .u64 x51.a1,.int .u64 x51.a2,.int .u64 x51.a3,.int .u64 x51.a4],f 52,f 53,f 54,f 55,f 56,f 57,f 58,f 59,undef,undef,undef,undef,undef,undef,undef,undef,undef,undef,undef,undef,undef,undef,undef,undef,undef,undef,undef]) (fun f=>rfl) (by kernel_rfl) (by kernel_rfl) (by kernel_rfl) (by kernel_rfl) (by kernel_rfl) (ad4S _ _ _ _ _ _ _) (ad4O _ _ _ _ _ _ _) ?_ ?_
 ·refine steps2_cons ?_ ?_
  ·intro f w1 hb hd Q hK
   clear hd
   have hK:=Lib.hid hK
   go_wp2
   exact hK.out _ _ rfl (.refl _ _) nof
  refine steps2_cons ?_ ?_
  ·intro f w1 hb hd Q hK
   have e52:f 52=.pointer (some ⟨GS,0,none⟩):=hd.1 rfl
   clear hd
   simp only [e52] at hK
   have hK:=Lib.hid hK
   go_wp2
   exact hK.out _ _ rfl (.refl _ _) nof
  refine steps2_cons ?_ ?_
  ·intro f w1 hb hd Q hK
   have e53:f 53=.pointer (some ⟨GS,0,none⟩):=hd.1 rfl
   clear hd
   simp only [e53] at hK
   have hK:=Lib.hid hK
   go_wp2
   exact hK.out _ _ rfl (.refl _ _) nof
  refine steps2_cons ?_ ?_
  ·intro f w1 hb hd Q hK
   have e54:f 54=.pointer (some ⟨GS,0,none⟩):=hd.1 rfl
   clear hd
   simp only [e54] at hK
   have hK:=Lib.hid hK
   go_wp2
   exact hK.out _ _ rfl (.refl _ _) nof
  refine steps2_cons ?_ ?_
  ·intro f w1 hb hd Q hK
   have e55:f 55=.pointer (some ⟨GS,10,none⟩):=hd.1 rfl
   clear hd
   simp only [e55] at hK
   have hK:=Lib.hid hK
   have c0:w1.cell? ⟨GS,10,none⟩=some (.int .u64 z1.a0):=(kS.below hb).cell 10
   have c1:w1.cell? ⟨GS,11,none⟩=some (.int .u64 z1.a1):=(kS.below hb).cell 11
   have c2:w1.cell? ⟨GS,12,none⟩=some (.int .u64 z1.a2):=(kS.below hb).cell 12
   have c3:w1.cell? ⟨GS,13,none⟩=some (.int .u64 z1.a3):=(kS.below hb).cell 13
   have c4:w1.cell? ⟨GS,14,none⟩=some (.int .u64 z1.a4):=(kS.below hb).cell 14
   go_wp2
   exact hK.out _ _ rfl (.refl _ _) nof
  refine steps2_cons ?_ ?_
  ·intro f w1 hb hd Q hK
   clear hd
   have hK:=Lib.hid hK
   go_wp2
   exact hK.out _ _ rfl (.refl _ _) nof
  refine steps2_cons ?_ ?_
  ·intro f w1 hb hd Q hK
   have e57:f 57=.pointer (some ⟨G3,10,none⟩):=hd.1 rfl
   clear hd
   simp only [e57] at hK
   have hK:=Lib.hid hK
   have c0:w1.cell? ⟨G3,10,none⟩=some (.int .u64 z2.a0):=(k3.below hb).cell 10
   have c1:w1.cell? ⟨G3,11,none⟩=some (.int .u64 z2.a1):=(k3.below hb).cell 11
   have c2:w1.cell? ⟨G3,12,none⟩=some (.int .u64 z2.a2):=(k3.below hb).cell 12
   have c3:w1.cell? ⟨G3,13,none⟩=some (.int .u64 z2.a3):=(k3.below hb).cell 13
   have c4:w1.cell? ⟨G3,14,none⟩=some (.int .u64 z2.a4):=(k3.below hb).cell 14
   go_wp2
   exact hK.out _ _ rfl (.refl _ _) nof
  refine steps2_cons ?_ ?_
  ·intro f w1 hb hd Q hK
   have e56:f 56=.agg #[.int .u64 z1.a0,.int .u64 z1.a1,.int .u64 z1.a2,.int .u64 z1.a3,.int .u64 z1.a4]:=hd.1 rfl
   have e58:f 58=.agg #[.int .u64 z2.a0,.int .u64 z2.a1,.int .u64 z2.a2,.int .u64 z2.a3,.int .u64 z2.a4]:=hd.2.1 rfl
   clear hd
   simp only [e56,e58] at hK
   have hK:=Lib.hid hK
   go_wp2_with fail
   refine (fMul hz1 hz2 _).mono ?_
   rintro e w2 ⟨x,rfl,hx,hb2⟩
   go_wp2
   exact hK.out _ _ ⟨x,rfl,hx⟩ hb2 nof
  refine steps2_cons ?_ ?_
  ·intro f w1 hb hd Q hK
   clear hd
   have hK:=Lib.hid hK
   have hsz:=hb.size
   go_wp2
   exact hK.out _ _ ⟨_,rfl,hsz,Blk.new _ _ _⟩ ((Below.refl _ _).alloc (Nat.le_refl _) _) (fun _=>⟨_,rfl,Nat.le_refl _⟩)
  trivial
 intro ff4 yw4 hb hf hne
 obtain ⟨g7,d7,lo7,bk7⟩:NewB w4.heap.size 202 #[.int .u64 0,.int .u64 0,.int .u64 0,.int .u64 0,.int .u64 0] (ff4 7) yw4:=hf 8 _ _ (by decide) rfl rfl
 obtain ⟨x59,d59,h59⟩:ElP (c*c2 % Fe.P) (ff4 59) yw4:=hf 7 _ _ (by decide) rfl rfl
 clear hf
 have LS:=hb0.size
 clear hne
 have n_GS_g7:GS≠g7:=by have:=kS.lt;omega
 have n_G3_g7:G3≠g7:=by have:=k3.lt;omega
 have n_g4_g7:g4≠g7:=by have:=k4.lt;omega
 have n_g5_g7:g5≠g7:=by have:=k5.lt;omega
 have n_g6_g7:g6≠g7:=by have:=k6.lt;omega
 have l_g7:w.heap.size≤g7:=by omega
 clear LS lo7
 simp only [d7,d59]
 clear d7 d59
 replace kS:=kS.below hb
 replace k3:=k3.below hb
 replace k4:=k4.below hb
 replace k5:=k5.below hb
 replace k6:=k6.below hb
 replace hCv:=hCv.below hb hCv.lt
 replace hb0:=hb0.trans (hb.mono hb0.size)
 clear hb
 (refine stEl rfl rfl rfl rfl bk7 rfl ?_;intro w5 nk hgr hsz;clear bk7;have k7:=nk;clear nk;replace kS:=kS.grown hgr (fun h=>n_GS_g7 (by injection h));replace k3:=k3.grown hgr (fun h=>n_G3_g7 (by injection h));replace k4:=k4.grown hgr (fun h=>n_g4_g7 (by injection h));replace k5:=k5.grown hgr (fun h=>n_g5_g7 (by injection h));replace k6:=k6.grown hgr (fun h=>n_g6_g7 (by injection h));replace hCv:=hCv.grown hgr (by have:=LC.out;have:=l_g7;omega);replace hb0:=hb0.grown hgr hb0.size (fun k hk=>by injection hk with hk;have:=l_g7;omega);clear hgr hsz)
 refine wpList_nil ?_
 have q0:w5.cell? ⟨g7,0,none⟩=some (.int .u64 x59.a0):=k7.cell 0
 have q1:w5.cell? ⟨g7,1,none⟩=some (.int .u64 x59.a1):=k7.cell 1
 have q2:w5.cell? ⟨g7,2,none⟩=some (.int .u64 x59.a2):=k7.cell 2
 have q3:w5.cell? ⟨g7,3,none⟩=some (.int .u64 x59.a3):=k7.cell 3
 have q4:w5.cell? ⟨g7,4,none⟩=some (.int .u64 x59.a4):=k7.cell 4
 have hlt7:=k7.lt
 go_wp2_with fail
 refine (fAdd h59 h59 _).mono ?_
 rintro e w6 ⟨xd,rfl,hxd,hb⟩
 clear q0 q1 q2 q3 q4 hlt7
 replace kS:=kS.below hb
 replace k3:=k3.below hb
 replace k4:=k4.below hb
 replace k5:=k5.below hb
 replace k6:=k6.below hb
 replace k7:=k7.below hb
 replace hCv:=hCv.below hb hCv.lt
 replace hb0:=hb0.trans (hb.mono hb0.size)
 clear hb
 go_wp2_with (refine stEl rfl rfl rfl rfl k7 rfl ?_;intro w7 nk hgr hsz;clear k7;have m7:=nk;clear nk;replace kS:=kS.grown hgr (fun h=>n_GS_g7 (by injection h));replace k3:=k3.grown hgr (fun h=>n_G3_g7 (by injection h));replace k4:=k4.grown hgr (fun h=>n_g4_g7 (by injection h));replace k5:=k5.grown hgr (fun h=>n_g5_g7 (by injection h));replace k6:=k6.grown hgr (fun h=>n_g6_g7 (by injection h));replace hCv:=hCv.grown hgr (by have:=LC.out;have:=l_g7;omega);replace hb0:=hb0.grown hgr hb0.size (fun k hk=>by injection hk with hk;have:=l_g7;omega);clear hgr hsz)
 refine wp_region_grow2 16 (fun k=>(Nat.ble 63 k&&Nat.ble k 78)) _ [] (fun j x' q=>(ad6L a b c d a2 b2 c2 d2 GS x24 x41 x51 xd).getD j (fun _ _=>True) x' q) (fun _=>false) (fun f=>#[.pointer (some ⟨GS,0,none⟩),.agg #[.int .u64 x2.a0,.int .u64 x2.a1,.int .u64 x2.a2,.int .u64 x2.a3,.int .u64 x2.a4,.int .u64 y2.a0,.int .u64 y2.a1,.int .u64 y2.a2,.int .u64 y2.a3,.int .u64 y2.a4,.int .u64 z2.a0,.int .u64 z2.a1,.int .u64 z2.a2,.int .u64 z2.a3,.int .u64 z2.a4,.int .u64 t2.a0,.int .u64 t2.a1,.int .u64 t2.a2,.int .u64 t2.a3,.int .u64 t2.a4],undef,.pointer (some ⟨G3,0,none⟩),.pointer (some ⟨g4,0,none⟩),.pointer (some ⟨g5,0,none⟩),.pointer (some ⟨g6,0,none⟩),.pointer (some ⟨g7,0,none⟩),ff1 8,ff1 9,ff1 10,ff1 11,ff1 12,ff1 13,ff1 14,ff1 15,ff1 16,ff1 17,ff1 18,ff1 19,ff1 20,ff1 21,ff1 22,ff1 23,.agg #[.int .u64 x24.a0,.int .u64 x24.a1,.int .u64 x24.a2,.int .u64 x24.a3,.int .u64 x24.a4],ff2 25,ff2 26,ff2 27,ff2 28,ff2 29,ff2 30,ff2 31,ff2 32,ff2 33,ff2 34,ff2 35,ff2 36,ff2 37,ff2 38,ff2 39,ff2 40,.agg #[.int .u64 x41.a0,.int .u64 x41.a1,.int .u64 x41.a2,.int .u64 x41.a3,.int .u64 x41.a4],ff3 42,ff3 43,ff3 44,ff3 45,ff3 46,ff3 47,ff3 48,ff3 49,ff3 50,.agg #[.int .u64 x51.a0,.int .u64 x51.a1,.int .u64 x51.a2,.int .u64 x51.a3,.int .u64 x51.a4],ff4 52,ff4 53,ff4 54,ff4 55,ff4 56,ff4 57,ff4 58,.agg #[.int .u64 x59.a0,.int .u64 x59.a1,.int .u64 x59.a2,.int .u64 x59.a3,.int .u64 x59.a4],.agg #[.int .u64 x59.a0,.int .u64 x59.a1,.int .u64 x59.a2,.int .u64 x59.a3,.int .u64 x59.a4],.agg #[.int .u64 x59.a0,.int .u64 x59.a1,.int .u64 x59.a2,.int .u64 x59.a3,.int .u64 x59.a4],.agg #[.int .u64 xd.a0,.int .u64 xd.a1,.int .u64 xd.a2,.int .u64 xd.a3,.int .u64 xd.a4],f 63,f 64,f 65,f 66,f 67,f 68,f 69,f 70,f 71,f 72,f 73,f 74,f 75,f 76,f 77,f 78]) (fun f=>rfl) (by kernel_rfl) (by kernel_rfl) (by kernel_rfl) (by kernel_rfl) (by kernel_rfl) (ad6S _ _ _ _ _ _ _ _ _ _ _ _ _) (fun _ _ _ h=>by cases h) ?_ ?_
 ·refine steps2_cons ?_ ?_
  ·intro f w1 hb hd Q hK
   clear hd
   have hK:=Lib.hid hK
   go_wp2
   exact hK.out _ _ rfl (.refl _ _) nof
  refine steps2_cons ?_ ?_
  ·intro f w1 hb hd Q hK
   clear hd
   have hK:=Lib.hid hK
   have c0:w1.cell? ⟨g5,0,none⟩=some (.int .u64 x41.a0):=(k5.below hb).cell 0
   have c1:w1.cell? ⟨g5,1,none⟩=some (.int .u64 x41.a1):=(k5.below hb).cell 1
   have c2:w1.cell? ⟨g5,2,none⟩=some (.int .u64 x41.a2):=(k5.below hb).cell 2
   have c3:w1.cell? ⟨g5,3,none⟩=some (.int .u64 x41.a3):=(k5.below hb).cell 3
   have c4:w1.cell? ⟨g5,4,none⟩=some (.int .u64 x41.a4):=(k5.below hb).cell 4
   go_wp2
   exact hK.out _ _ rfl (.refl _ _) nof
  refine steps2_cons ?_ ?_
  ·intro f w1 hb hd Q hK
   clear hd
   have hK:=Lib.hid hK
   have c0:w1.cell? ⟨g4,0,none⟩=some (.int .u64 x24.a0):=(k4.below hb).cell 0
   have c1:w1.cell? ⟨g4,1,none⟩=some (.int .u64 x24.a1):=(k4.below hb).cell 1
   have c2:w1.cell? ⟨g4,2,none⟩=some (.int .u64 x24.a2):=(k4.below hb).cell 2
   have c3:w1.cell? ⟨g4,3,none⟩=some (.int .u64 x24.a3):=(k4.below hb).cell 3
   have c4:w1.cell? ⟨g4,4,none⟩=some (.int .u64 x24.a4):=(k4.below hb).cell 4
   go_wp2
   exact hK.out _ _ rfl (.refl _ _) nof
  refine steps2_cons ?_ ?_
  ·intro f w1 hb hd Q hK
   have e64:f 64=.agg #[.int .u64 x41.a0,.int .u64 x41.a1,.int .u64 x41.a2,.int .u64 x41.a3,.int .u64 x41.a4]:=hd.1 rfl
   have e65:f 65=.agg #[.int .u64 x24.a0,.int .u64 x24.a1,.int .u64 x24.a2,.int .u64 x24.a3,.int .u64 x24.a4]:=hd.2.1 rfl
   clear hd
   simp only [e64,e65] at hK
   have hK:=Lib.hid hK
   go_wp2_with fail
   refine (fSub h41 h24 _).mono ?_
   rintro e w2 ⟨x,rfl,hx,hb2⟩
   go_wp2
   exact hK.out _ _ ⟨x,rfl,hx⟩ hb2 nof
  refine steps2_cons ?_ ?_
  ·intro f w1 hb hd Q hK
   clear hd
   have hK:=Lib.hid hK
   have c0:w1.cell? ⟨g7,0,none⟩=some (.int .u64 xd.a0):=(m7.below hb).cell 0
   have c1:w1.cell? ⟨g7,1,none⟩=some (.int .u64 xd.a1):=(m7.below hb).cell 1
   have c2:w1.cell? ⟨g7,2,none⟩=some (.int .u64 xd.a2):=(m7.below hb).cell 2
   have c3:w1.cell? ⟨g7,3,none⟩=some (.int .u64 xd.a3):=(m7.below hb).cell 3
   have c4:w1.cell? ⟨g7,4,none⟩=some (.int .u64 xd.a4):=(m7.below hb).cell 4
   go_wp2
   exact hK.out _ _ rfl (.refl _ _) nof
  refine steps2_cons ?_ ?_
  ·intro f w1 hb hd Q hK
   clear hd
   have hK:=Lib.hid hK
   have c0:w1.cell? ⟨g6,0,none⟩=some (.int .u64 x51.a0):=(k6.below hb).cell 0
   have c1:w1.cell? ⟨g6,1,none⟩=some (.int .u64 x51.a1):=(k6.below hb).cell 1
   have c2:w1.cell? ⟨g6,2,none⟩=some (.int .u64 x51.a2):=(k6.below hb).cell 2
   have c3:w1.cell? ⟨g6,3,none⟩=some (.int .u64 x51.a3):=(k6.below hb).cell 3
   have c4:w1.cell? ⟨g6,4,none⟩=some (.int .u64 x51.a4):=(k6.below hb).cell 4
   go_wp2
   exact hK.out _ _ rfl (.refl _ _) nof
  refine steps2_cons ?_ ?_
  ·intro f w1 hb hd Q hK
   have e67:f 67=.agg #[.int .u64 xd.a0,.int .u64 xd.a1,.int .u64 xd.a2,.int .u64 xd.a3,.int .u64 xd.a4]:=hd.1 rfl
   have e68:f 68=.agg #[.int .u64 x51.a0,.int .u64 x51.a1,.int .u64 x51.a2,.int .u64 x51.a3,.int .u64 x51.a4]:=hd.2.1 rfl
   clear hd
   simp only [e67,e68] at hK
   have hK:=Lib.hid hK
   go_wp2_with fail
   refine (fSub hxd h51 _).mono ?_
   rintro e w2 ⟨x,rfl,hx,hb2⟩
   go_wp2
   exact hK.out _ _ ⟨x,rfl,hx⟩ hb2 nof
  refine steps2_cons ?_ ?_
  ·intro f w1 hb hd Q hK
   clear hd
   have hK:=Lib.hid hK
   have c0:w1.cell? ⟨g7,0,none⟩=some (.int .u64 xd.a0):=(m7.below hb).cell 0
   have c1:w1.cell? ⟨g7,1,none⟩=some (.int .u64 xd.a1):=(m7.below hb).cell 1
   have c2:w1.cell? ⟨g7,2,none⟩=some (.int .u64 xd.a2):=(m7.below hb).cell 2
   have c3:w1.cell? ⟨g7,3,none⟩=some (.int .u64 xd.a3):=(m7.below hb).cell 3
   have c4:w1.cell? ⟨g7,4,none⟩=some (.int .u64 xd.a4):=(m7.below hb).cell 4
   go_wp2
   exact hK.out _ _ rfl (.refl _ _) nof
  refine steps2_cons ?_ ?_
  ·intro f w1 hb hd Q hK
   clear hd
   have hK:=Lib.hid hK
   have c0:w1.cell? ⟨g6,0,none⟩=some (.int .u64 x51.a0):=(k6.below hb).cell 0
   have c1:w1.cell? ⟨g6,1,none⟩=some (.int .u64 x51.a1):=(k6.below hb).cell 1
   have c2:w1.cell? ⟨g6,2,none⟩=some (.int .u64 x51.a2):=(k6.below hb).cell 2
   have c3:w1.cell? ⟨g6,3,none⟩=some (.int .u64 x51.a3):=(k6.below hb).cell 3
   have c4:w1.cell? ⟨g6,4,none⟩=some (.int .u64 x51.a4):=(k6.below hb).cell 4
   go_wp2
   exact hK.out _ _ rfl (.refl _ _) nof
  refine steps2_cons ?_ ?_
  ·intro f w1 hb hd Q hK
   have e70:f 70=.agg #[.int .u64 xd.a0,.int .u64 xd.a1,.int .u64 xd.a2,.int .u64 xd.a3,.int .u64 xd.a4]:=hd.1 rfl
   have e71:f 71=.agg #[.int .u64 x51.a0,.int .u64 x51.a1,.int .u64 x51.a2,.int .u64 x51.a3,.int .u64 x51.a4]:=hd.2.1 rfl
   clear hd
   simp only [e70,e71] at hK
   have hK:=Lib.hid hK
   go_wp2_with fail
   refine (fAdd hxd h51 _).mono ?_
   rintro e w2 ⟨x,rfl,hx,hb2⟩
   go_wp2
   exact hK.out _ _ ⟨x,rfl,hx⟩ hb2 nof
  refine steps2_cons ?_ ?_
  ·intro f w1 hb hd Q hK
   clear hd
   have hK:=Lib.hid hK
   have c0:w1.cell? ⟨g5,0,none⟩=some (.int .u64 x41.a0):=(k5.below hb).cell 0
   have c1:w1.cell? ⟨g5,1,none⟩=some (.int .u64 x41.a1):=(k5.below hb).cell 1
   have c2:w1.cell? ⟨g5,2,none⟩=some (.int .u64 x41.a2):=(k5.below hb).cell 2
   have c3:w1.cell? ⟨g5,3,none⟩=some (.int .u64 x41.a3):=(k5.below hb).cell 3
   have c4:w1.cell? ⟨g5,4,none⟩=some (.int .u64 x41.a4):=(k5.below hb).cell 4
   go_wp2
   exact hK.out _ _ rfl (.refl _ _) nof
  refine steps2_cons ?_ ?_
  ·intro f w1 hb hd Q hK
   clear hd
   have hK:=Lib.hid hK
   have c0:w1.cell? ⟨g4,0,none⟩=some (.int .u64 x24.a0):=(k4.below hb).cell 0
   have c1:w1.cell? ⟨g4,1,none⟩=some (.int .u64 x24.a1):=(k4.below hb).cell 1
   have c2:w1.cell? ⟨g4,2,none⟩=some (.int .u64 x24.a2):=(k4.below hb).cell 2
   have c3:w1.cell? ⟨g4,3,none⟩=some (.int .u64 x24.a3):=(k4.below hb).cell 3
   have c4:w1.cell? ⟨g4,4,none⟩=some (.int .u64 x24.a4):=(k4.below hb).cell 4
   go_wp2
   exact hK.out _ _ rfl (.refl _ _) nof
  refine steps2_cons ?_ ?_
  ·intro f w1 hb hd Q hK
   have e73:f 73=.agg #[.int .u64 x41.a0,.int .u64 x41.a1,.int .u64 x41.a2,.int .u64 x41.a3,.int .u64 x41.a4]:=hd.1 rfl
   have e74:f 74=.agg #[.int .u64 x24.a0,.int .u64 x24.a1,.int .u64 x24.a2,.int .u64 x24.a3,.int .u64 x24.a4]:=hd.2.1 rfl
   clear hd
   simp only [e73,e74] at hK
   have hK:=Lib.hid hK
   go_wp2_with fail
   refine (fAdd h41 h24 _).mono ?_
   rintro e w2 ⟨x,rfl,hx,hb2⟩
   go_wp2
   exact hK.out _ _ ⟨x,rfl,hx⟩ hb2 nof
  refine steps2_cons ?_ ?_
  ·intro f w1 hb hd Q hK
   obtain ⟨x66,e66,h66⟩:=(hd.1 rfl:ElP (((((b+a) % Fe.P)*((b2+a2) % Fe.P) % Fe.P)+(Fe.P-(((b+(Fe.P-a)) % Fe.P)*((b2+(Fe.P-a2)) % Fe.P) % Fe.P))) % Fe.P) (f 66) w1)
   obtain ⟨x69,e69,h69⟩:=(hd.2.1 rfl:ElP (((((c*c2 % Fe.P)+(c*c2 % Fe.P)) % Fe.P)+(Fe.P-((d*((Fe.dN+Fe.dN) % Fe.P) % Fe.P)*d2 % Fe.P))) % Fe.P) (f 69) w1)
   obtain ⟨x72,e72,h72⟩:=(hd.2.2.1 rfl:ElP (((((c*c2 % Fe.P)+(c*c2 % Fe.P)) % Fe.P)+((d*((Fe.dN+Fe.dN) % Fe.P) % Fe.P)*d2 % Fe.P)) % Fe.P) (f 72) w1)
   obtain ⟨x75,e75,h75⟩:=(hd.2.2.2.1 rfl:ElP (((((b+a) % Fe.P)*((b2+a2) % Fe.P) % Fe.P)+(((b+(Fe.P-a)) % Fe.P)*((b2+(Fe.P-a2)) % Fe.P) % Fe.P)) % Fe.P) (f 75) w1)
   clear hd
   simp only [e66,e69,e72,e75] at hK
   have hK:=Lib.hid hK
   go_wp2_with fail
   refine (four_c h66 h69 h72 h75 _).mono ?_
   rintro e w2 ⟨x,y,z,t,rfl,hx,hy,hz,ht,hb2⟩
   go_wp2
   exact hK.out _ _ ⟨x,y,z,t,rfl,hx,hy,hz,ht⟩ hb2 nof
  refine steps2_cons ?_ ?_
  ·intro f w1 hb hd Q hK
   have e63:f 63=.pointer (some ⟨GS,0,none⟩):=hd.1 rfl
   clear hd
   simp only [e63] at hK
   have hK:=Lib.hid hK
   go_wp2
   exact hK.out _ _ rfl (.refl _ _) nof
  refine steps2_cons ?_ ?_
  ·intro f w1 hb hd Q hK
   have e77:f 77=.pointer (some ⟨GS,0,none⟩):=hd.1 rfl
   clear hd
   simp only [e77] at hK
   have hK:=Lib.hid hK
   go_wp2
   exact hK.out _ _ rfl (.refl _ _) nof
  trivial
 intro ff6 yw6 hb hf hne
 obtain ⟨p76,q76,r76,s76,d76,hp76,hq76,hr76,hs76⟩:PtP ((((((b+a) % Fe.P)*((b2+a2) % Fe.P) % Fe.P)+(Fe.P-(((b+(Fe.P-a)) % Fe.P)*((b2+(Fe.P-a2)) % Fe.P) % Fe.P))) % Fe.P)*(((((c*c2 % Fe.P)+(c*c2 % Fe.P)) % Fe.P)+(Fe.P-((d*((Fe.dN+Fe.dN) % Fe.P) % Fe.P)*d2 % Fe.P))) % Fe.P) % Fe.P) ((((((c*c2 % Fe.P)+(c*c2 % Fe.P)) % Fe.P)+((d*((Fe.dN+Fe.dN) % Fe.P) % Fe.P)*d2 % Fe.P)) % Fe.P)*(((((b+a) % Fe.P)*((b2+a2) % Fe.P) % Fe.P)+(((b+(Fe.P-a)) % Fe.P)*((b2+(Fe.P-a2)) % Fe.P) % Fe.P)) % Fe.P) % Fe.P) ((((((c*c2 % Fe.P)+(c*c2 % Fe.P)) % Fe.P)+(Fe.P-((d*((Fe.dN+Fe.dN) % Fe.P) % Fe.P)*d2 % Fe.P))) % Fe.P)*(((((c*c2 % Fe.P)+(c*c2 % Fe.P)) % Fe.P)+((d*((Fe.dN+Fe.dN) % Fe.P) % Fe.P)*d2 % Fe.P)) % Fe.P) % Fe.P) ((((((b+a) % Fe.P)*((b2+a2) % Fe.P) % Fe.P)+(Fe.P-(((b+(Fe.P-a)) % Fe.P)*((b2+(Fe.P-a2)) % Fe.P) % Fe.P))) % Fe.P)*(((((b+a) % Fe.P)*((b2+a2) % Fe.P) % Fe.P)+(((b+(Fe.P-a)) % Fe.P)*((b2+(Fe.P-a2)) % Fe.P) % Fe.P)) % Fe.P) % Fe.P) (ff6 76) yw6:=hf 13 _ _ (by decide) rfl rfl
 have d78:ff6 78=.pointer (some ⟨GS,0,none⟩):=hf 15 _ _ (by decide) rfl rfl
 clear hf hne
 simp only [d76,d78]
 clear d76 d78
 replace kS:=kS.below hb
 replace hb0:=hb0.trans (hb.mono hb0.size)
 refine stPt rfl rfl rfl rfl kS rfl rfl (by kernel_rfl) ?_
 intro w8 k8 hgr hsz
 refine wpList_nil ?_
 go_wp2
 go_returns
 exact ⟨rfl,⟨_,_,_,_,k8,hp76,hq76,hr76,hs76⟩,own_grown hb0 hgr⟩
def db0L (x1:Fe.E) (y1:Fe.E) (z1:Fe.E) (a:Nat) (b:Nat) (c:Nat) (GS:Nat) (B0:Nat):List (Value→World→Prop):=[
 Eq1 (.pointer (some ⟨GS,0,none⟩)),
 Eq1 (.pointer (some ⟨GS,0,none⟩)),
 Eq1 (.pointer (some ⟨GS,0,none⟩)),
 Eq1 (.pointer (some ⟨GS,0,none⟩)),
 Eq1 (.agg #[.int .u64 x1.a0,.int .u64 x1.a1,.int .u64 x1.a2,.int .u64 x1.a3,.int .u64 x1.a4]),
 ElP (a*a % Fe.P),
 Eq1 (.pointer (some ⟨GS,0,none⟩)),
 Eq1 (.pointer (some ⟨GS,0,none⟩)),
 Eq1 (.pointer (some ⟨GS,0,none⟩)),
 Eq1 (.pointer (some ⟨GS,5,none⟩)),
 Eq1 (.agg #[.int .u64 y1.a0,.int .u64 y1.a1,.int .u64 y1.a2,.int .u64 y1.a3,.int .u64 y1.a4]),
 ElP (b*b % Fe.P),
 Eq1 (.pointer (some ⟨GS,0,none⟩)),
 Eq1 (.pointer (some ⟨GS,0,none⟩)),
 Eq1 (.pointer (some ⟨GS,0,none⟩)),
 Eq1 (.pointer (some ⟨GS,10,none⟩)),
 Eq1 (.agg #[.int .u64 z1.a0,.int .u64 z1.a1,.int .u64 z1.a2,.int .u64 z1.a3,.int .u64 z1.a4]),
 ElP (c*c % Fe.P),
 NewB B0 202 #[.int .u64 0,.int .u64 0,.int .u64 0,.int .u64 0,.int .u64 0],
 NewB B0 202 #[.int .u64 0,.int .u64 0,.int .u64 0,.int .u64 0,.int .u64 0],
 NewB B0 202 #[.int .u64 0,.int .u64 0,.int .u64 0,.int .u64 0,.int .u64 0]]
theorem db0S (x1:Fe.E) (y1:Fe.E) (z1:Fe.E) (a:Nat) (b:Nat) (c:Nat) (GS:Nat) (B0:Nat):∀ j x' q q',(db0L x1 y1 z1 a b c GS B0).getD j (fun _ _=>True) x' q→Below q.heap.size q q'→(db0L x1 y1 z1 a b c GS B0).getD j (fun _ _=>True) x' q':=by
 refine sta_all _ ?_
 simp only [db0L,List.mem_cons,forall_eq_or_imp,List.not_mem_nil,false_implies,implies_true,and_true]
 exact ⟨sta_eq _,sta_eq _,sta_eq _,sta_eq _,sta_eq _,sta_el _,sta_eq _,sta_eq _,sta_eq _,sta_eq _,sta_eq _,sta_el _,sta_eq _,sta_eq _,sta_eq _,sta_eq _,sta_eq _,sta_el _,sta_new _ _ _,sta_new _ _ _,sta_new _ _ _⟩
theorem db0O (x1:Fe.E) (y1:Fe.E) (z1:Fe.E) (a:Nat) (b:Nat) (c:Nat) (GS:Nat) (B0:Nat):∀ j x' q,(fun j=>j==18||j==19||j==20) j=true→(db0L x1 y1 z1 a b c GS B0).getD j (fun _ _=>True) x' q→∀ g,x'=.pointer (some ⟨g,0,none⟩)→g<q.heap.size:=by
 intro j x' q hj hv g e
 have hj':j=18∨j=19∨j=20:=by simpa only [Bool.or_eq_true,beq_iff_eq,or_assoc] using hj
 rcases hj' with rfl | rfl | rfl
 all_goals exact new_lt hv e
def db2L (x1:Fe.E) (y1:Fe.E) (a:Nat) (b:Nat) (GS:Nat) (x12:Fe.E) (x18:Fe.E) (B0:Nat):List (Value→World→Prop):=[
 Eq1 (.pointer (some ⟨GS,0,none⟩)),
 Eq1 (.pointer (some ⟨GS,0,none⟩)),
 Eq1 (.pointer (some ⟨GS,0,none⟩)),
 Eq1 (.pointer (some ⟨GS,0,none⟩)),
 Eq1 (.agg #[.int .u64 x1.a0,.int .u64 x1.a1,.int .u64 x1.a2,.int .u64 x1.a3,.int .u64 x1.a4]),
 Eq1 (.pointer (some ⟨GS,0,none⟩)),
 Eq1 (.pointer (some ⟨GS,0,none⟩)),
 Eq1 (.pointer (some ⟨GS,0,none⟩)),
 Eq1 (.pointer (some ⟨GS,5,none⟩)),
 Eq1 (.agg #[.int .u64 y1.a0,.int .u64 y1.a1,.int .u64 y1.a2,.int .u64 y1.a3,.int .u64 y1.a4]),
 ElP ((a+b) % Fe.P),
 ElP (((a+b) % Fe.P)*((a+b) % Fe.P) % Fe.P),
 Eq1 (.agg #[.int .u64 x12.a0,.int .u64 x12.a1,.int .u64 x12.a2,.int .u64 x12.a3,.int .u64 x12.a4]),
 Eq1 (.agg #[.int .u64 x18.a0,.int .u64 x18.a1,.int .u64 x18.a2,.int .u64 x18.a3,.int .u64 x18.a4]),
 ElP (((a*a % Fe.P)+(b*b % Fe.P)) % Fe.P),
 ElP (((((a+b) % Fe.P)*((a+b) % Fe.P) % Fe.P)+(Fe.P-(((a*a % Fe.P)+(b*b % Fe.P)) % Fe.P))) % Fe.P),
 NewB B0 202 #[.int .u64 0,.int .u64 0,.int .u64 0,.int .u64 0,.int .u64 0]]
theorem db2S (x1:Fe.E) (y1:Fe.E) (a:Nat) (b:Nat) (GS:Nat) (x12:Fe.E) (x18:Fe.E) (B0:Nat):∀ j x' q q',(db2L x1 y1 a b GS x12 x18 B0).getD j (fun _ _=>True) x' q→Below q.heap.size q q'→(db2L x1 y1 a b GS x12 x18 B0).getD j (fun _ _=>True) x' q':=by
 refine sta_all _ ?_
 simp only [db2L,List.mem_cons,forall_eq_or_imp,List.not_mem_nil,false_implies,implies_true,and_true]
 exact ⟨sta_eq _,sta_eq _,sta_eq _,sta_eq _,sta_eq _,sta_eq _,sta_eq _,sta_eq _,sta_eq _,sta_eq _,sta_el _,sta_el _,sta_eq _,sta_eq _,sta_el _,sta_el _,sta_new _ _ _⟩
theorem db2O (x1:Fe.E) (y1:Fe.E) (a:Nat) (b:Nat) (GS:Nat) (x12:Fe.E) (x18:Fe.E) (B0:Nat):∀ j x' q,(fun j=>j==16) j=true→(db2L x1 y1 a b GS x12 x18 B0).getD j (fun _ _=>True) x' q→∀ g,x'=.pointer (some ⟨g,0,none⟩)→g<q.heap.size:=by
 intro j x' q hj hv g e
 have hj':j=16:=by simpa only [Bool.or_eq_true,beq_iff_eq,or_assoc] using hj
 subst hj'
 all_goals exact new_lt hv e
def db4L (a:Nat) (b:Nat) (c:Nat) (GS:Nat) (xd:Fe.E) (x12:Fe.E) (x18:Fe.E) (x43:Fe.E) (xg:Fe.E):List (Value→World→Prop):=[
 Eq1 (.pointer (some ⟨GS,0,none⟩)),
 Eq1 (.agg #[.int .u64 x43.a0,.int .u64 x43.a1,.int .u64 x43.a2,.int .u64 x43.a3,.int .u64 x43.a4]),
 Eq1 (.agg #[.int .u64 xg.a0,.int .u64 xg.a1,.int .u64 xg.a2,.int .u64 xg.a3,.int .u64 xg.a4]),
 Eq1 (.agg #[.int .u64 xd.a0,.int .u64 xd.a1,.int .u64 xd.a2,.int .u64 xd.a3,.int .u64 xd.a4]),
 ElP (((((b*b % Fe.P)+(Fe.P-(a*a % Fe.P))) % Fe.P)+(Fe.P-(((c*c % Fe.P)+(c*c % Fe.P)) % Fe.P))) % Fe.P),
 Eq1 (.agg #[.int .u64 xg.a0,.int .u64 xg.a1,.int .u64 xg.a2,.int .u64 xg.a3,.int .u64 xg.a4]),
 Eq1 (.agg #[.int .u64 x12.a0,.int .u64 x12.a1,.int .u64 x12.a2,.int .u64 x12.a3,.int .u64 x12.a4]),
 Eq1 (.agg #[.int .u64 x18.a0,.int .u64 x18.a1,.int .u64 x18.a2,.int .u64 x18.a3,.int .u64 x18.a4]),
 ElP (((a*a % Fe.P)+(b*b % Fe.P)) % Fe.P),
 ElP ((Fe.P-(((a*a % Fe.P)+(b*b % Fe.P)) % Fe.P)) % Fe.P),
 PtP ((((((a+b) % Fe.P)*((a+b) % Fe.P) % Fe.P)+(Fe.P-(((a*a % Fe.P)+(b*b % Fe.P)) % Fe.P))) % Fe.P)*(((((b*b % Fe.P)+(Fe.P-(a*a % Fe.P))) % Fe.P)+(Fe.P-(((c*c % Fe.P)+(c*c % Fe.P)) % Fe.P))) % Fe.P) % Fe.P) ((((b*b % Fe.P)+(Fe.P-(a*a % Fe.P))) % Fe.P)*((Fe.P-(((a*a % Fe.P)+(b*b % Fe.P)) % Fe.P)) % Fe.P) % Fe.P) ((((((b*b % Fe.P)+(Fe.P-(a*a % Fe.P))) % Fe.P)+(Fe.P-(((c*c % Fe.P)+(c*c % Fe.P)) % Fe.P))) % Fe.P)*(((b*b % Fe.P)+(Fe.P-(a*a % Fe.P))) % Fe.P) % Fe.P) ((((((a+b) % Fe.P)*((a+b) % Fe.P) % Fe.P)+(Fe.P-(((a*a % Fe.P)+(b*b % Fe.P)) % Fe.P))) % Fe.P)*((Fe.P-(((a*a % Fe.P)+(b*b % Fe.P)) % Fe.P)) % Fe.P) % Fe.P),
 Eq1 (.pointer (some ⟨GS,0,none⟩)),
 Eq1 (.pointer (some ⟨GS,0,none⟩))]
theorem db4S (a:Nat) (b:Nat) (c:Nat) (GS:Nat) (xd:Fe.E) (x12:Fe.E) (x18:Fe.E) (x43:Fe.E) (xg:Fe.E):∀ j x' q q',(db4L a b c GS xd x12 x18 x43 xg).getD j (fun _ _=>True) x' q→Below q.heap.size q q'→(db4L a b c GS xd x12 x18 x43 xg).getD j (fun _ _=>True) x' q':=by
 refine sta_all _ ?_
 simp only [db4L,List.mem_cons,forall_eq_or_imp,List.not_mem_nil,false_implies,implies_true,and_true]
 exact ⟨sta_eq _,sta_eq _,sta_eq _,sta_eq _,sta_el _,sta_eq _,sta_eq _,sta_eq _,sta_el _,sta_el _,sta_pt _ _ _ _,sta_eq _,sta_eq _⟩
def dblN (a b c:Nat):Nat × Nat × Nat × Nat:=(((((((a+b) % Fe.P)*((a+b) % Fe.P) % Fe.P)+(Fe.P-(((a*a % Fe.P)+(b*b % Fe.P)) % Fe.P))) % Fe.P)*(((((b*b % Fe.P)+(Fe.P-(a*a % Fe.P))) % Fe.P)+(Fe.P-(((c*c % Fe.P)+(c*c % Fe.P)) % Fe.P))) % Fe.P) % Fe.P),((((b*b % Fe.P)+(Fe.P-(a*a % Fe.P))) % Fe.P)*((Fe.P-(((a*a % Fe.P)+(b*b % Fe.P)) % Fe.P)) % Fe.P) % Fe.P),((((((b*b % Fe.P)+(Fe.P-(a*a % Fe.P))) % Fe.P)+(Fe.P-(((c*c % Fe.P)+(c*c % Fe.P)) % Fe.P))) % Fe.P)*(((b*b % Fe.P)+(Fe.P-(a*a % Fe.P))) % Fe.P) % Fe.P),((((((a+b) % Fe.P)*((a+b) % Fe.P) % Fe.P)+(Fe.P-(((a*a % Fe.P)+(b*b % Fe.P)) % Fe.P))) % Fe.P)*((Fe.P-(((a*a % Fe.P)+(b*b % Fe.P)) % Fe.P)) % Fe.P) % Fe.P))
set_option maxRecDepth 20000 in
set_option maxHeartbeats 8000000 in
theorem sdbl_c {x1 y1 z1 t1:Fe.E} {a b c:Nat} (hx1:El x1 a) (hy1:El y1 b) (hz1:El z1 c) (GS:Nat) (w:World) (kS:Blk w GS 288 #[.int .u64 x1.a0,.int .u64 x1.a1,.int .u64 x1.a2,.int .u64 x1.a3,.int .u64 x1.a4,.int .u64 y1.a0,.int .u64 y1.a1,.int .u64 y1.a2,.int .u64 y1.a3,.int .u64 y1.a4,.int .u64 z1.a0,.int .u64 z1.a1,.int .u64 z1.a2,.int .u64 z1.a3,.int .u64 z1.a4,.int .u64 t1.a0,.int .u64 t1.a1,.int .u64 t1.a2,.int .u64 t1.a3,.int .u64 t1.a4]) :
  Calls Tryz.prog 262 #[.pointer (some ⟨GS,0,none⟩)] w (PostS GS (dblN a b c).1 (dblN a b c).2.1 (dblN a b c).2.2.1 (dblN a b c).2.2.2 w):=by
 go_enter Tryz.func262,Tryz.ntmps262
 go_wp2
 have hb0:=Below.refl w.heap.size w
 refine wp_region_grow2 21 (fun k=>(Nat.ble 2 k&&Nat.ble k 4)||(Nat.ble 7 k&&Nat.ble k 24)) _ [] (fun j x' q=>(db0L x1 y1 z1 a b c GS w.heap.size).getD j (fun _ _=>True) x' q) (fun j=>j==18||j==19||j==20) (fun f=>#[.pointer (some ⟨GS,0,none⟩),undef,f 2,f 3,f 4,undef,undef,f 7,f 8,f 9,f 10,f 11,f 12,f 13,f 14,f 15,f 16,f 17,f 18,f 19,f 20,f 21,f 22,f 23,f 24,undef,undef,undef,undef,undef,undef,undef,undef,undef,undef,undef,undef,undef,undef,undef,undef,undef,undef,undef,undef,undef,undef,undef,undef,undef,undef,undef,undef,undef,undef,undef,undef,undef,undef,undef]) (fun f=>rfl) (by kernel_rfl) (by kernel_rfl) (by kernel_rfl) (by kernel_rfl) (by kernel_rfl) (db0S _ _ _ _ _ _ _ _) (db0O _ _ _ _ _ _ _ _) ?_ ?_
 ·refine steps2_cons ?_ ?_
  ·intro f w1 hb hd Q hK
   clear hd
   have hK:=Lib.hid hK
   go_wp2
   exact hK.out _ _ rfl (.refl _ _) nof
  refine steps2_cons ?_ ?_
  ·intro f w1 hb hd Q hK
   have e7:f 7=.pointer (some ⟨GS,0,none⟩):=hd.1 rfl
   clear hd
   simp only [e7] at hK
   have hK:=Lib.hid hK
   go_wp2
   exact hK.out _ _ rfl (.refl _ _) nof
  refine steps2_cons ?_ ?_
  ·intro f w1 hb hd Q hK
   have e8:f 8=.pointer (some ⟨GS,0,none⟩):=hd.1 rfl
   clear hd
   simp only [e8] at hK
   have hK:=Lib.hid hK
   go_wp2
   exact hK.out _ _ rfl (.refl _ _) nof
  refine steps2_cons ?_ ?_
  ·intro f w1 hb hd Q hK
   have e9:f 9=.pointer (some ⟨GS,0,none⟩):=hd.1 rfl
   clear hd
   simp only [e9] at hK
   have hK:=Lib.hid hK
   go_wp2
   exact hK.out _ _ rfl (.refl _ _) nof
  refine steps2_cons ?_ ?_
  ·intro f w1 hb hd Q hK
   have e10:f 10=.pointer (some ⟨GS,0,none⟩):=hd.1 rfl
   clear hd
   simp only [e10] at hK
   have hK:=Lib.hid hK
   have c0:w1.cell? ⟨GS,0,none⟩=some (.int .u64 x1.a0):=(kS.below hb).cell 0
   have c1:w1.cell? ⟨GS,1,none⟩=some (.int .u64 x1.a1):=(kS.below hb).cell 1
   have c2:w1.cell? ⟨GS,2,none⟩=some (.int .u64 x1.a2):=(kS.below hb).cell 2
   have c3:w1.cell? ⟨GS,3,none⟩=some (.int .u64 x1.a3):=(kS.below hb).cell 3
   have c4:w1.cell? ⟨GS,4,none⟩=some (.int .u64 x1.a4):=(kS.below hb).cell 4
   go_wp2
   exact hK.out _ _ rfl (.refl _ _) nof
  refine steps2_cons ?_ ?_
  ·intro f w1 hb hd Q hK
   have e11:f 11=.agg #[.int .u64 x1.a0,.int .u64 x1.a1,.int .u64 x1.a2,.int .u64 x1.a3,.int .u64 x1.a4]:=hd.1 rfl
   clear hd
   simp only [e11] at hK
   have hK:=Lib.hid hK
   go_wp2_with fail
   refine (fSquare hx1 _).mono ?_
   rintro e w2 ⟨x,rfl,hx,hb2⟩
   go_wp2
   exact hK.out _ _ ⟨x,rfl,hx⟩ hb2 nof
  refine steps2_cons ?_ ?_
  ·intro f w1 hb hd Q hK
   clear hd
   have hK:=Lib.hid hK
   go_wp2
   exact hK.out _ _ rfl (.refl _ _) nof
  refine steps2_cons ?_ ?_
  ·intro f w1 hb hd Q hK
   have e13:f 13=.pointer (some ⟨GS,0,none⟩):=hd.1 rfl
   clear hd
   simp only [e13] at hK
   have hK:=Lib.hid hK
   go_wp2
   exact hK.out _ _ rfl (.refl _ _) nof
  refine steps2_cons ?_ ?_
  ·intro f w1 hb hd Q hK
   have e14:f 14=.pointer (some ⟨GS,0,none⟩):=hd.1 rfl
   clear hd
   simp only [e14] at hK
   have hK:=Lib.hid hK
   go_wp2
   exact hK.out _ _ rfl (.refl _ _) nof
  refine steps2_cons ?_ ?_
  ·intro f w1 hb hd Q hK
   have e15:f 15=.pointer (some ⟨GS,0,none⟩):=hd.1 rfl
   clear hd
   simp only [e15] at hK
   have hK:=Lib.hid hK
   go_wp2
   exact hK.out _ _ rfl (.refl _ _) nof
  refine steps2_cons ?_ ?_
  ·intro f w1 hb hd Q hK
   have e16:f 16=.pointer (some ⟨GS,5,none⟩):=hd.1 rfl
   clear hd
   simp only [e16] at hK
   have hK:=Lib.hid hK
   have c0:w1.cell? ⟨GS,5,none⟩=some (.int .u64 y1.a0):=(kS.below hb).cell 5
   have c1:w1.cell? ⟨GS,6,none⟩=some (.int .u64 y1.a1):=(kS.below hb).cell 6
   have c2:w1.cell? ⟨GS,7,none⟩=some (.int .u64 y1.a2):=(kS.below hb).cell 7
   have c3:w1.cell? ⟨GS,8,none⟩=some (.int .u64 y1.a3):=(kS.below hb).cell 8
   have c4:w1.cell? ⟨GS,9,none⟩=some (.int .u64 y1.a4):=(kS.below hb).cell 9
   go_wp2
   exact hK.out _ _ rfl (.refl _ _) nof
  refine steps2_cons ?_ ?_
  ·intro f w1 hb hd Q hK
   have e17:f 17=.agg #[.int .u64 y1.a0,.int .u64 y1.a1,.int .u64 y1.a2,.int .u64 y1.a3,.int .u64 y1.a4]:=hd.1 rfl
   clear hd
   simp only [e17] at hK
   have hK:=Lib.hid hK
   go_wp2_with fail
   refine (fSquare hy1 _).mono ?_
   rintro e w2 ⟨x,rfl,hx,hb2⟩
   go_wp2
   exact hK.out _ _ ⟨x,rfl,hx⟩ hb2 nof
  refine steps2_cons ?_ ?_
  ·intro f w1 hb hd Q hK
   clear hd
   have hK:=Lib.hid hK
   go_wp2
   exact hK.out _ _ rfl (.refl _ _) nof
  refine steps2_cons ?_ ?_
  ·intro f w1 hb hd Q hK
   have e19:f 19=.pointer (some ⟨GS,0,none⟩):=hd.1 rfl
   clear hd
   simp only [e19] at hK
   have hK:=Lib.hid hK
   go_wp2
   exact hK.out _ _ rfl (.refl _ _) nof
  refine steps2_cons ?_ ?_
  ·intro f w1 hb hd Q hK
   have e20:f 20=.pointer (some ⟨GS,0,none⟩):=hd.1 rfl
   clear hd
   simp only [e20] at hK
   have hK:=Lib.hid hK
   go_wp2
   exact hK.out _ _ rfl (.refl _ _) nof
  refine steps2_cons ?_ ?_
  ·intro f w1 hb hd Q hK
   have e21:f 21=.pointer (some ⟨GS,0,none⟩):=hd.1 rfl
   clear hd
   simp only [e21] at hK
   have hK:=Lib.hid hK
   go_wp2
   exact hK.out _ _ rfl (.refl _ _) nof
  refine steps2_cons ?_ ?_
  ·intro f w1 hb hd Q hK
   have e22:f 22=.pointer (some ⟨GS,10,none⟩):=hd.1 rfl
   clear hd
   simp only [e22] at hK
   have hK:=Lib.hid hK
   have c0:w1.cell? ⟨GS,10,none⟩=some (.int .u64 z1.a0):=(kS.below hb).cell 10
   have c1:w1.cell? ⟨GS,11,none⟩=some (.int .u64 z1.a1):=(kS.below hb).cell 11
   have c2:w1.cell? ⟨GS,12,none⟩=some (.int .u64 z1.a2):=(kS.below hb).cell 12
   have c3:w1.cell? ⟨GS,13,none⟩=some (.int .u64 z1.a3):=(kS.below hb).cell 13
   have c4:w1.cell? ⟨GS,14,none⟩=some (.int .u64 z1.a4):=(kS.below hb).cell 14
   go_wp2
   exact hK.out _ _ rfl (.refl _ _) nof
  refine steps2_cons ?_ ?_
  ·intro f w1 hb hd Q hK
   have e23:f 23=.agg #[.int .u64 z1.a0,.int .u64 z1.a1,.int .u64 z1.a2,.int .u64 z1.a3,.int .u64 z1.a4]:=hd.1 rfl
   clear hd
   simp only [e23] at hK
   have hK:=Lib.hid hK
   go_wp2_with fail
   refine (fSquare hz1 _).mono ?_
   rintro e w2 ⟨x,rfl,hx,hb2⟩
   go_wp2
   exact hK.out _ _ ⟨x,rfl,hx⟩ hb2 nof
  refine steps2_cons ?_ ?_
  ·intro f w1 hb hd Q hK
   clear hd
   have hK:=Lib.hid hK
   have hsz:=hb.size
   go_wp2
   exact hK.out _ _ ⟨_,rfl,hsz,Blk.new _ _ _⟩ ((Below.refl _ _).alloc (Nat.le_refl _) _) (fun _=>⟨_,rfl,Nat.le_refl _⟩)
  refine steps2_cons ?_ ?_
  ·intro f w1 hb hd Q hK
   clear hd
   have hK:=Lib.hid hK
   have hsz:=hb.size
   go_wp2
   exact hK.out _ _ ⟨_,rfl,hsz,Blk.new _ _ _⟩ ((Below.refl _ _).alloc (Nat.le_refl _) _) (fun _=>⟨_,rfl,Nat.le_refl _⟩)
  refine steps2_cons ?_ ?_
  ·intro f w1 hb hd Q hK
   clear hd
   have hK:=Lib.hid hK
   have hsz:=hb.size
   go_wp2
   exact hK.out _ _ ⟨_,rfl,hsz,Blk.new _ _ _⟩ ((Below.refl _ _).alloc (Nat.le_refl _) _) (fun _=>⟨_,rfl,Nat.le_refl _⟩)
  trivial
 intro ff0 yw0 hb hf hne
 obtain ⟨g2,d2,lo2,bk2⟩:NewB w.heap.size 202 #[.int .u64 0,.int .u64 0,.int .u64 0,.int .u64 0,.int .u64 0] (ff0 2) yw0:=hf 18 _ _ (by decide) rfl rfl
 obtain ⟨g3,d3,lo3,bk3⟩:NewB w.heap.size 202 #[.int .u64 0,.int .u64 0,.int .u64 0,.int .u64 0,.int .u64 0] (ff0 3) yw0:=hf 19 _ _ (by decide) rfl rfl
 obtain ⟨g4,d4,lo4,bk4⟩:NewB w.heap.size 202 #[.int .u64 0,.int .u64 0,.int .u64 0,.int .u64 0,.int .u64 0] (ff0 4) yw0:=hf 20 _ _ (by decide) rfl rfl
 obtain ⟨x12,d12,h12⟩:ElP (a*a % Fe.P) (ff0 12) yw0:=hf 5 _ _ (by decide) rfl rfl
 obtain ⟨x18,d18,h18⟩:ElP (b*b % Fe.P) (ff0 18) yw0:=hf 11 _ _ (by decide) rfl rfl
 obtain ⟨x24,d24,h24⟩:ElP (c*c % Fe.P) (ff0 24) yw0:=hf 17 _ _ (by decide) rfl rfl
 clear hf
 have LS:=hb0.size
 have n_g2_g3:g2≠g3:=by
  have:=hne 18 19 _ _ _ _ (by decide) (by decide) (by decide) rfl rfl rfl rfl rfl rfl
  rw [d2,d3] at this
  exact fun h=>this (by rw [h])
 have n_g2_g4:g2≠g4:=by
  have:=hne 18 20 _ _ _ _ (by decide) (by decide) (by decide) rfl rfl rfl rfl rfl rfl
  rw [d2,d4] at this
  exact fun h=>this (by rw [h])
 have n_g3_g4:g3≠g4:=by
  have:=hne 19 20 _ _ _ _ (by decide) (by decide) (by decide) rfl rfl rfl rfl rfl rfl
  rw [d3,d4] at this
  exact fun h=>this (by rw [h])
 clear hne
 have n_GS_g2:GS≠g2:=by have:=kS.lt;omega
 have l_g2:w.heap.size≤g2:=by omega
 have n_GS_g3:GS≠g3:=by have:=kS.lt;omega
 have l_g3:w.heap.size≤g3:=by omega
 have n_GS_g4:GS≠g4:=by have:=kS.lt;omega
 have l_g4:w.heap.size≤g4:=by omega
 clear LS lo2 lo3 lo4
 simp only [d2,d3,d4,d12,d18,d24]
 clear d2 d3 d4 d12 d18 d24
 replace kS:=kS.below hb
 replace hb0:=hb0.trans (hb.mono hb0.size)
 clear hb
 (refine stEl rfl rfl rfl rfl bk2 rfl ?_;intro w1 nk hgr hsz;clear bk2;have k2:=nk;clear nk;replace kS:=kS.grown hgr (fun h=>n_GS_g2 (by injection h));replace bk3:=bk3.grown hgr (fun h=>n_g2_g3.symm (by injection h));replace bk4:=bk4.grown hgr (fun h=>n_g2_g4.symm (by injection h));replace hb0:=hb0.grown hgr hb0.size (fun k hk=>by injection hk with hk;have:=l_g2;omega);clear hgr hsz)
 (refine stEl rfl rfl rfl rfl bk3 rfl ?_;intro w2 nk hgr hsz;clear bk3;have k3:=nk;clear nk;replace kS:=kS.grown hgr (fun h=>n_GS_g3 (by injection h));replace k2:=k2.grown hgr (fun h=>n_g2_g3 (by injection h));replace bk4:=bk4.grown hgr (fun h=>n_g3_g4.symm (by injection h));replace hb0:=hb0.grown hgr hb0.size (fun k hk=>by injection hk with hk;have:=l_g3;omega);clear hgr hsz)
 (refine stEl rfl rfl rfl rfl bk4 rfl ?_;intro w3 nk hgr hsz;clear bk4;have k4:=nk;clear nk;replace kS:=kS.grown hgr (fun h=>n_GS_g4 (by injection h));replace k2:=k2.grown hgr (fun h=>n_g2_g4 (by injection h));replace k3:=k3.grown hgr (fun h=>n_g3_g4 (by injection h));replace hb0:=hb0.grown hgr hb0.size (fun k hk=>by injection hk with hk;have:=l_g4;omega);clear hgr hsz)
 refine wpList_nil ?_
 have q0:w3.cell? ⟨g4,0,none⟩=some (.int .u64 x24.a0):=k4.cell 0
 have q1:w3.cell? ⟨g4,1,none⟩=some (.int .u64 x24.a1):=k4.cell 1
 have q2:w3.cell? ⟨g4,2,none⟩=some (.int .u64 x24.a2):=k4.cell 2
 have q3:w3.cell? ⟨g4,3,none⟩=some (.int .u64 x24.a3):=k4.cell 3
 have q4:w3.cell? ⟨g4,4,none⟩=some (.int .u64 x24.a4):=k4.cell 4
 have hlt4:=k4.lt
 go_wp2_with fail
 refine (fAdd h24 h24 _).mono ?_
 rintro e w4 ⟨xd,rfl,hxd,hb⟩
 clear q0 q1 q2 q3 q4 hlt4
 replace kS:=kS.below hb
 replace k2:=k2.below hb
 replace k3:=k3.below hb
 replace k4:=k4.below hb
 replace hb0:=hb0.trans (hb.mono hb0.size)
 clear hb
 go_wp2_with (refine stEl rfl rfl rfl rfl k4 rfl ?_;intro w5 nk hgr hsz;clear k4;have m4:=nk;clear nk;replace kS:=kS.grown hgr (fun h=>n_GS_g4 (by injection h));replace k2:=k2.grown hgr (fun h=>n_g2_g4 (by injection h));replace k3:=k3.grown hgr (fun h=>n_g3_g4 (by injection h));replace hb0:=hb0.grown hgr hb0.size (fun k hk=>by injection hk with hk;have:=l_g4;omega);clear hgr hsz)
 refine wp_region_grow2 17 (fun k=>Nat.beq k 5||(Nat.ble 28 k&&Nat.ble k 43)) _ [] (fun j x' q=>(db2L x1 y1 a b GS x12 x18 w5.heap.size).getD j (fun _ _=>True) x' q) (fun j=>j==16) (fun f=>#[.pointer (some ⟨GS,0,none⟩),undef,.pointer (some ⟨g2,0,none⟩),.pointer (some ⟨g3,0,none⟩),.pointer (some ⟨g4,0,none⟩),f 5,undef,ff0 7,ff0 8,ff0 9,ff0 10,ff0 11,.agg #[.int .u64 x12.a0,.int .u64 x12.a1,.int .u64 x12.a2,.int .u64 x12.a3,.int .u64 x12.a4],ff0 13,ff0 14,ff0 15,ff0 16,ff0 17,.agg #[.int .u64 x18.a0,.int .u64 x18.a1,.int .u64 x18.a2,.int .u64 x18.a3,.int .u64 x18.a4],ff0 19,ff0 20,ff0 21,ff0 22,ff0 23,.agg #[.int .u64 x24.a0,.int .u64 x24.a1,.int .u64 x24.a2,.int .u64 x24.a3,.int .u64 x24.a4],.agg #[.int .u64 x24.a0,.int .u64 x24.a1,.int .u64 x24.a2,.int .u64 x24.a3,.int .u64 x24.a4],.agg #[.int .u64 x24.a0,.int .u64 x24.a1,.int .u64 x24.a2,.int .u64 x24.a3,.int .u64 x24.a4],.agg #[.int .u64 xd.a0,.int .u64 xd.a1,.int .u64 xd.a2,.int .u64 xd.a3,.int .u64 xd.a4],f 28,f 29,f 30,f 31,f 32,f 33,f 34,f 35,f 36,f 37,f 38,f 39,f 40,f 41,f 42,f 43,undef,undef,undef,undef,undef,undef,undef,undef,undef,undef,undef,undef,undef,undef,undef,undef]) (fun f=>rfl) (by kernel_rfl) (by kernel_rfl) (by kernel_rfl) (by kernel_rfl) (by kernel_rfl) (db2S _ _ _ _ _ _ _ _) (db2O _ _ _ _ _ _ _ _) ?_ ?_
 ·refine steps2_cons ?_ ?_
  ·intro f w1 hb hd Q hK
   clear hd
   have hK:=Lib.hid hK
   go_wp2
   exact hK.out _ _ rfl (.refl _ _) nof
  refine steps2_cons ?_ ?_
  ·intro f w1 hb hd Q hK
   have e28:f 28=.pointer (some ⟨GS,0,none⟩):=hd.1 rfl
   clear hd
   simp only [e28] at hK
   have hK:=Lib.hid hK
   go_wp2
   exact hK.out _ _ rfl (.refl _ _) nof
  refine steps2_cons ?_ ?_
  ·intro f w1 hb hd Q hK
   have e29:f 29=.pointer (some ⟨GS,0,none⟩):=hd.1 rfl
   clear hd
   simp only [e29] at hK
   have hK:=Lib.hid hK
   go_wp2
   exact hK.out _ _ rfl (.refl _ _) nof
  refine steps2_cons ?_ ?_
  ·intro f w1 hb hd Q hK
   have e30:f 30=.pointer (some ⟨GS,0,none⟩):=hd.1 rfl
   clear hd
   simp only [e30] at hK
   have hK:=Lib.hid hK
   go_wp2
   exact hK.out _ _ rfl (.refl _ _) nof
  refine steps2_cons ?_ ?_
  ·intro f w1 hb hd Q hK
   have e31:f 31=.pointer (some ⟨GS,0,none⟩):=hd.1 rfl
   clear hd
   simp only [e31] at hK
   have hK:=Lib.hid hK
   have c0:w1.cell? ⟨GS,0,none⟩=some (.int .u64 x1.a0):=(kS.below hb).cell 0
   have c1:w1.cell? ⟨GS,1,none⟩=some (.int .u64 x1.a1):=(kS.below hb).cell 1
   have c2:w1.cell? ⟨GS,2,none⟩=some (.int .u64 x1.a2):=(kS.below hb).cell 2
   have c3:w1.cell? ⟨GS,3,none⟩=some (.int .u64 x1.a3):=(kS.below hb).cell 3
   have c4:w1.cell? ⟨GS,4,none⟩=some (.int .u64 x1.a4):=(kS.below hb).cell 4
   go_wp2
   exact hK.out _ _ rfl (.refl _ _) nof
  refine steps2_cons ?_ ?_
  ·intro f w1 hb hd Q hK
   clear hd
   have hK:=Lib.hid hK
   go_wp2
   exact hK.out _ _ rfl (.refl _ _) nof
  refine steps2_cons ?_ ?_
  ·intro f w1 hb hd Q hK
   have e33:f 33=.pointer (some ⟨GS,0,none⟩):=hd.1 rfl
   clear hd
   simp only [e33] at hK
   have hK:=Lib.hid hK
   go_wp2
   exact hK.out _ _ rfl (.refl _ _) nof
  refine steps2_cons ?_ ?_
  ·intro f w1 hb hd Q hK
   have e34:f 34=.pointer (some ⟨GS,0,none⟩):=hd.1 rfl
   clear hd
   simp only [e34] at hK
   have hK:=Lib.hid hK
   go_wp2
   exact hK.out _ _ rfl (.refl _ _) nof
  refine steps2_cons ?_ ?_
  ·intro f w1 hb hd Q hK
   have e35:f 35=.pointer (some ⟨GS,0,none⟩):=hd.1 rfl
   clear hd
   simp only [e35] at hK
   have hK:=Lib.hid hK
   go_wp2
   exact hK.out _ _ rfl (.refl _ _) nof
  refine steps2_cons ?_ ?_
  ·intro f w1 hb hd Q hK
   have e36:f 36=.pointer (some ⟨GS,5,none⟩):=hd.1 rfl
   clear hd
   simp only [e36] at hK
   have hK:=Lib.hid hK
   have c0:w1.cell? ⟨GS,5,none⟩=some (.int .u64 y1.a0):=(kS.below hb).cell 5
   have c1:w1.cell? ⟨GS,6,none⟩=some (.int .u64 y1.a1):=(kS.below hb).cell 6
   have c2:w1.cell? ⟨GS,7,none⟩=some (.int .u64 y1.a2):=(kS.below hb).cell 7
   have c3:w1.cell? ⟨GS,8,none⟩=some (.int .u64 y1.a3):=(kS.below hb).cell 8
   have c4:w1.cell? ⟨GS,9,none⟩=some (.int .u64 y1.a4):=(kS.below hb).cell 9
   go_wp2
   exact hK.out _ _ rfl (.refl _ _) nof
  refine steps2_cons ?_ ?_
  ·intro f w1 hb hd Q hK
   have e32:f 32=.agg #[.int .u64 x1.a0,.int .u64 x1.a1,.int .u64 x1.a2,.int .u64 x1.a3,.int .u64 x1.a4]:=hd.1 rfl
   have e37:f 37=.agg #[.int .u64 y1.a0,.int .u64 y1.a1,.int .u64 y1.a2,.int .u64 y1.a3,.int .u64 y1.a4]:=hd.2.1 rfl
   clear hd
   simp only [e32,e37] at hK
   have hK:=Lib.hid hK
   go_wp2_with fail
   refine (fAdd hx1 hy1 _).mono ?_
   rintro e w2 ⟨x,rfl,hx,hb2⟩
   go_wp2
   exact hK.out _ _ ⟨x,rfl,hx⟩ hb2 nof
  refine steps2_cons ?_ ?_
  ·intro f w1 hb hd Q hK
   obtain ⟨x38,e38,h38⟩:=(hd.1 rfl:ElP ((a+b) % Fe.P) (f 38) w1)
   clear hd
   simp only [e38] at hK
   have hK:=Lib.hid hK
   go_wp2_with fail
   refine (fSquare h38 _).mono ?_
   rintro e w2 ⟨x,rfl,hx,hb2⟩
   go_wp2
   exact hK.out _ _ ⟨x,rfl,hx⟩ hb2 nof
  refine steps2_cons ?_ ?_
  ·intro f w1 hb hd Q hK
   clear hd
   have hK:=Lib.hid hK
   have c0:w1.cell? ⟨g2,0,none⟩=some (.int .u64 x12.a0):=(k2.below hb).cell 0
   have c1:w1.cell? ⟨g2,1,none⟩=some (.int .u64 x12.a1):=(k2.below hb).cell 1
   have c2:w1.cell? ⟨g2,2,none⟩=some (.int .u64 x12.a2):=(k2.below hb).cell 2
   have c3:w1.cell? ⟨g2,3,none⟩=some (.int .u64 x12.a3):=(k2.below hb).cell 3
   have c4:w1.cell? ⟨g2,4,none⟩=some (.int .u64 x12.a4):=(k2.below hb).cell 4
   go_wp2
   exact hK.out _ _ rfl (.refl _ _) nof
  refine steps2_cons ?_ ?_
  ·intro f w1 hb hd Q hK
   clear hd
   have hK:=Lib.hid hK
   have c0:w1.cell? ⟨g3,0,none⟩=some (.int .u64 x18.a0):=(k3.below hb).cell 0
   have c1:w1.cell? ⟨g3,1,none⟩=some (.int .u64 x18.a1):=(k3.below hb).cell 1
   have c2:w1.cell? ⟨g3,2,none⟩=some (.int .u64 x18.a2):=(k3.below hb).cell 2
   have c3:w1.cell? ⟨g3,3,none⟩=some (.int .u64 x18.a3):=(k3.below hb).cell 3
   have c4:w1.cell? ⟨g3,4,none⟩=some (.int .u64 x18.a4):=(k3.below hb).cell 4
   go_wp2
   exact hK.out _ _ rfl (.refl _ _) nof
  refine steps2_cons ?_ ?_
  ·intro f w1 hb hd Q hK
   have e40:f 40=.agg #[.int .u64 x12.a0,.int .u64 x12.a1,.int .u64 x12.a2,.int .u64 x12.a3,.int .u64 x12.a4]:=hd.1 rfl
   have e41:f 41=.agg #[.int .u64 x18.a0,.int .u64 x18.a1,.int .u64 x18.a2,.int .u64 x18.a3,.int .u64 x18.a4]:=hd.2.1 rfl
   clear hd
   simp only [e40,e41] at hK
   have hK:=Lib.hid hK
   go_wp2_with fail
   refine (fAdd h12 h18 _).mono ?_
   rintro e w2 ⟨x,rfl,hx,hb2⟩
   go_wp2
   exact hK.out _ _ ⟨x,rfl,hx⟩ hb2 nof
  refine steps2_cons ?_ ?_
  ·intro f w1 hb hd Q hK
   obtain ⟨x39,e39,h39⟩:=(hd.1 rfl:ElP (((a+b) % Fe.P)*((a+b) % Fe.P) % Fe.P) (f 39) w1)
   obtain ⟨x42,e42,h42⟩:=(hd.2.1 rfl:ElP (((a*a % Fe.P)+(b*b % Fe.P)) % Fe.P) (f 42) w1)
   clear hd
   simp only [e39,e42] at hK
   have hK:=Lib.hid hK
   go_wp2_with fail
   refine (fSub h39 h42 _).mono ?_
   rintro e w2 ⟨x,rfl,hx,hb2⟩
   go_wp2
   exact hK.out _ _ ⟨x,rfl,hx⟩ hb2 nof
  refine steps2_cons ?_ ?_
  ·intro f w1 hb hd Q hK
   clear hd
   have hK:=Lib.hid hK
   have hsz:=hb.size
   go_wp2
   exact hK.out _ _ ⟨_,rfl,hsz,Blk.new _ _ _⟩ ((Below.refl _ _).alloc (Nat.le_refl _) _) (fun _=>⟨_,rfl,Nat.le_refl _⟩)
  trivial
 intro ff2 yw2 hb hf hne
 obtain ⟨g5,d5,lo5,bk5⟩:NewB w5.heap.size 202 #[.int .u64 0,.int .u64 0,.int .u64 0,.int .u64 0,.int .u64 0] (ff2 5) yw2:=hf 16 _ _ (by decide) rfl rfl
 obtain ⟨x43,d43,h43⟩:ElP (((((a+b) % Fe.P)*((a+b) % Fe.P) % Fe.P)+(Fe.P-(((a*a % Fe.P)+(b*b % Fe.P)) % Fe.P))) % Fe.P) (ff2 43) yw2:=hf 15 _ _ (by decide) rfl rfl
 clear hf
 have LS:=hb0.size
 clear hne
 have n_GS_g5:GS≠g5:=by have:=kS.lt;omega
 have n_g2_g5:g2≠g5:=by have:=k2.lt;omega
 have n_g3_g5:g3≠g5:=by have:=k3.lt;omega
 have n_g4_g5:g4≠g5:=by have:=m4.lt;omega
 have l_g5:w.heap.size≤g5:=by omega
 clear LS lo5
 simp only [d5,d43]
 clear d5 d43
 replace kS:=kS.below hb
 replace k2:=k2.below hb
 replace k3:=k3.below hb
 replace m4:=m4.below hb
 replace hb0:=hb0.trans (hb.mono hb0.size)
 clear hb
 (refine stEl rfl rfl rfl rfl bk5 rfl ?_;intro w6 nk hgr hsz;clear bk5;have k5:=nk;clear nk;replace kS:=kS.grown hgr (fun h=>n_GS_g5 (by injection h));replace k2:=k2.grown hgr (fun h=>n_g2_g5 (by injection h));replace k3:=k3.grown hgr (fun h=>n_g3_g5 (by injection h));replace m4:=m4.grown hgr (fun h=>n_g4_g5 (by injection h));replace hb0:=hb0.grown hgr hb0.size (fun k hk=>by injection hk with hk;have:=l_g5;omega);clear hgr hsz)
 refine wpList_nil ?_
 have q0:w6.cell? ⟨g3,0,none⟩=some (.int .u64 x18.a0):=k3.cell 0
 have q1:w6.cell? ⟨g3,1,none⟩=some (.int .u64 x18.a1):=k3.cell 1
 have q2:w6.cell? ⟨g3,2,none⟩=some (.int .u64 x18.a2):=k3.cell 2
 have q3:w6.cell? ⟨g3,3,none⟩=some (.int .u64 x18.a3):=k3.cell 3
 have q4:w6.cell? ⟨g3,4,none⟩=some (.int .u64 x18.a4):=k3.cell 4
 have p0:w6.cell? ⟨g2,0,none⟩=some (.int .u64 x12.a0):=k2.cell 0
 have p1:w6.cell? ⟨g2,1,none⟩=some (.int .u64 x12.a1):=k2.cell 1
 have p2:w6.cell? ⟨g2,2,none⟩=some (.int .u64 x12.a2):=k2.cell 2
 have p3:w6.cell? ⟨g2,3,none⟩=some (.int .u64 x12.a3):=k2.cell 3
 have p4:w6.cell? ⟨g2,4,none⟩=some (.int .u64 x12.a4):=k2.cell 4
 have hlt3:=k3.lt
 have hlt2:=k2.lt
 go_wp2_with fail
 refine (fSub h18 h12 _).mono ?_
 rintro e w7 ⟨xg,rfl,hxg,hb⟩
 clear q0 q1 q2 q3 q4 p0 p1 p2 p3 p4 hlt3 hlt2
 replace kS:=kS.below hb
 replace k2:=k2.below hb
 replace k3:=k3.below hb
 replace m4:=m4.below hb
 replace k5:=k5.below hb
 replace hb0:=hb0.trans (hb.mono hb0.size)
 clear hb
 go_wp2_with fail
 refine at_world (fun w8 hW=>?_)
 have k6:Blk w8 w7.heap.size 202 #[.int .u64 xg.a0,.int .u64 xg.a1,.int .u64 xg.a2,.int .u64 xg.a3,.int .u64 xg.a4]:=by rw [hW];exact Blk.new _ _ _
 have hb:Below w7.heap.size w7 w8:=by rw [hW];exact (Below.refl _ _).alloc (Nat.le_refl _) _
 clear hW
 obtain ⟨g6,hG6⟩:∃ g6,g6=w7.heap.size:=⟨_,rfl⟩
 rw [← hG6] at k6 ⊢
 clear hG6
 replace kS:=kS.below hb
 replace k2:=k2.below hb
 replace k3:=k3.below hb
 replace m4:=m4.below hb
 replace k5:=k5.below hb
 replace hb0:=hb0.trans (hb.mono hb0.size)
 clear hb
 refine wp_region_grow2 13 (fun k=>(Nat.ble 47 k&&Nat.ble k 59)) _ [] (fun j x' q=>(db4L a b c GS xd x12 x18 x43 xg).getD j (fun _ _=>True) x' q) (fun _=>false) (fun f=>#[.pointer (some ⟨GS,0,none⟩),undef,.pointer (some ⟨g2,0,none⟩),.pointer (some ⟨g3,0,none⟩),.pointer (some ⟨g4,0,none⟩),.pointer (some ⟨g5,0,none⟩),.pointer (some ⟨g6,0,none⟩),ff0 7,ff0 8,ff0 9,ff0 10,ff0 11,.agg #[.int .u64 x12.a0,.int .u64 x12.a1,.int .u64 x12.a2,.int .u64 x12.a3,.int .u64 x12.a4],ff0 13,ff0 14,ff0 15,ff0 16,ff0 17,.agg #[.int .u64 x18.a0,.int .u64 x18.a1,.int .u64 x18.a2,.int .u64 x18.a3,.int .u64 x18.a4],ff0 19,ff0 20,ff0 21,ff0 22,ff0 23,.agg #[.int .u64 x24.a0,.int .u64 x24.a1,.int .u64 x24.a2,.int .u64 x24.a3,.int .u64 x24.a4],.agg #[.int .u64 x24.a0,.int .u64 x24.a1,.int .u64 x24.a2,.int .u64 x24.a3,.int .u64 x24.a4],.agg #[.int .u64 x24.a0,.int .u64 x24.a1,.int .u64 x24.a2,.int .u64 x24.a3,.int .u64 x24.a4],.agg #[.int .u64 xd.a0,.int .u64 xd.a1,.int .u64 xd.a2,.int .u64 xd.a3,.int .u64 xd.a4],ff2 28,ff2 29,ff2 30,ff2 31,ff2 32,ff2 33,ff2 34,ff2 35,ff2 36,ff2 37,ff2 38,ff2 39,ff2 40,ff2 41,ff2 42,.agg #[.int .u64 x43.a0,.int .u64 x43.a1,.int .u64 x43.a2,.int .u64 x43.a3,.int .u64 x43.a4],.agg #[.int .u64 x18.a0,.int .u64 x18.a1,.int .u64 x18.a2,.int .u64 x18.a3,.int .u64 x18.a4],.agg #[.int .u64 x12.a0,.int .u64 x12.a1,.int .u64 x12.a2,.int .u64 x12.a3,.int .u64 x12.a4],.agg #[.int .u64 xg.a0,.int .u64 xg.a1,.int .u64 xg.a2,.int .u64 xg.a3,.int .u64 xg.a4],f 47,f 48,f 49,f 50,f 51,f 52,f 53,f 54,f 55,f 56,f 57,f 58,f 59]) (fun f=>rfl) (by kernel_rfl) (by kernel_rfl) (by kernel_rfl) (by kernel_rfl) (by kernel_rfl) (db4S _ _ _ _ _ _ _ _ _) (fun _ _ _ h=>by cases h) ?_ ?_
 ·refine steps2_cons ?_ ?_
  ·intro f w1 hb hd Q hK
   clear hd
   have hK:=Lib.hid hK
   go_wp2
   exact hK.out _ _ rfl (.refl _ _) nof
  refine steps2_cons ?_ ?_
  ·intro f w1 hb hd Q hK
   clear hd
   have hK:=Lib.hid hK
   have c0:w1.cell? ⟨g5,0,none⟩=some (.int .u64 x43.a0):=(k5.below hb).cell 0
   have c1:w1.cell? ⟨g5,1,none⟩=some (.int .u64 x43.a1):=(k5.below hb).cell 1
   have c2:w1.cell? ⟨g5,2,none⟩=some (.int .u64 x43.a2):=(k5.below hb).cell 2
   have c3:w1.cell? ⟨g5,3,none⟩=some (.int .u64 x43.a3):=(k5.below hb).cell 3
   have c4:w1.cell? ⟨g5,4,none⟩=some (.int .u64 x43.a4):=(k5.below hb).cell 4
   go_wp2
   exact hK.out _ _ rfl (.refl _ _) nof
  refine steps2_cons ?_ ?_
  ·intro f w1 hb hd Q hK
   clear hd
   have hK:=Lib.hid hK
   have c0:w1.cell? ⟨g6,0,none⟩=some (.int .u64 xg.a0):=(k6.below hb).cell 0
   have c1:w1.cell? ⟨g6,1,none⟩=some (.int .u64 xg.a1):=(k6.below hb).cell 1
   have c2:w1.cell? ⟨g6,2,none⟩=some (.int .u64 xg.a2):=(k6.below hb).cell 2
   have c3:w1.cell? ⟨g6,3,none⟩=some (.int .u64 xg.a3):=(k6.below hb).cell 3
   have c4:w1.cell? ⟨g6,4,none⟩=some (.int .u64 xg.a4):=(k6.below hb).cell 4
   go_wp2
   exact hK.out _ _ rfl (.refl _ _) nof
  refine steps2_cons ?_ ?_
  ·intro f w1 hb hd Q hK
   clear hd
   have hK:=Lib.hid hK
   have c0:w1.cell? ⟨g4,0,none⟩=some (.int .u64 xd.a0):=(m4.below hb).cell 0
   have c1:w1.cell? ⟨g4,1,none⟩=some (.int .u64 xd.a1):=(m4.below hb).cell 1
   have c2:w1.cell? ⟨g4,2,none⟩=some (.int .u64 xd.a2):=(m4.below hb).cell 2
   have c3:w1.cell? ⟨g4,3,none⟩=some (.int .u64 xd.a3):=(m4.below hb).cell 3
   have c4:w1.cell? ⟨g4,4,none⟩=some (.int .u64 xd.a4):=(m4.below hb).cell 4
   go_wp2
   exact hK.out _ _ rfl (.refl _ _) nof
  refine steps2_cons ?_ ?_
  ·intro f w1 hb hd Q hK
   have e49:f 49=.agg #[.int .u64 xg.a0,.int .u64 xg.a1,.int .u64 xg.a2,.int .u64 xg.a3,.int .u64 xg.a4]:=hd.1 rfl
   have e50:f 50=.agg #[.int .u64 xd.a0,.int .u64 xd.a1,.int .u64 xd.a2,.int .u64 xd.a3,.int .u64 xd.a4]:=hd.2.1 rfl
   clear hd
   simp only [e49,e50] at hK
   have hK:=Lib.hid hK
   go_wp2_with fail
   refine (fSub hxg hxd _).mono ?_
   rintro e w2 ⟨x,rfl,hx,hb2⟩
   go_wp2
   exact hK.out _ _ ⟨x,rfl,hx⟩ hb2 nof
  refine steps2_cons ?_ ?_
  ·intro f w1 hb hd Q hK
   clear hd
   have hK:=Lib.hid hK
   have c0:w1.cell? ⟨g6,0,none⟩=some (.int .u64 xg.a0):=(k6.below hb).cell 0
   have c1:w1.cell? ⟨g6,1,none⟩=some (.int .u64 xg.a1):=(k6.below hb).cell 1
   have c2:w1.cell? ⟨g6,2,none⟩=some (.int .u64 xg.a2):=(k6.below hb).cell 2
   have c3:w1.cell? ⟨g6,3,none⟩=some (.int .u64 xg.a3):=(k6.below hb).cell 3
   have c4:w1.cell? ⟨g6,4,none⟩=some (.int .u64 xg.a4):=(k6.below hb).cell 4
   go_wp2
   exact hK.out _ _ rfl (.refl _ _) nof
  refine steps2_cons ?_ ?_
  ·intro f w1 hb hd Q hK
   clear hd
   have hK:=Lib.hid hK
   have c0:w1.cell? ⟨g2,0,none⟩=some (.int .u64 x12.a0):=(k2.below hb).cell 0
   have c1:w1.cell? ⟨g2,1,none⟩=some (.int .u64 x12.a1):=(k2.below hb).cell 1
   have c2:w1.cell? ⟨g2,2,none⟩=some (.int .u64 x12.a2):=(k2.below hb).cell 2
   have c3:w1.cell? ⟨g2,3,none⟩=some (.int .u64 x12.a3):=(k2.below hb).cell 3
   have c4:w1.cell? ⟨g2,4,none⟩=some (.int .u64 x12.a4):=(k2.below hb).cell 4
   go_wp2
   exact hK.out _ _ rfl (.refl _ _) nof
  refine steps2_cons ?_ ?_
  ·intro f w1 hb hd Q hK
   clear hd
   have hK:=Lib.hid hK
   have c0:w1.cell? ⟨g3,0,none⟩=some (.int .u64 x18.a0):=(k3.below hb).cell 0
   have c1:w1.cell? ⟨g3,1,none⟩=some (.int .u64 x18.a1):=(k3.below hb).cell 1
   have c2:w1.cell? ⟨g3,2,none⟩=some (.int .u64 x18.a2):=(k3.below hb).cell 2
   have c3:w1.cell? ⟨g3,3,none⟩=some (.int .u64 x18.a3):=(k3.below hb).cell 3
   have c4:w1.cell? ⟨g3,4,none⟩=some (.int .u64 x18.a4):=(k3.below hb).cell 4
   go_wp2
   exact hK.out _ _ rfl (.refl _ _) nof
  refine steps2_cons ?_ ?_
  ·intro f w1 hb hd Q hK
   have e53:f 53=.agg #[.int .u64 x12.a0,.int .u64 x12.a1,.int .u64 x12.a2,.int .u64 x12.a3,.int .u64 x12.a4]:=hd.1 rfl
   have e54:f 54=.agg #[.int .u64 x18.a0,.int .u64 x18.a1,.int .u64 x18.a2,.int .u64 x18.a3,.int .u64 x18.a4]:=hd.2.1 rfl
   clear hd
   simp only [e53,e54] at hK
   have hK:=Lib.hid hK
   go_wp2_with fail
   refine (fAdd h12 h18 _).mono ?_
   rintro e w2 ⟨x,rfl,hx,hb2⟩
   go_wp2
   exact hK.out _ _ ⟨x,rfl,hx⟩ hb2 nof
  refine steps2_cons ?_ ?_
  ·intro f w1 hb hd Q hK
   obtain ⟨x55,e55,h55⟩:=(hd.1 rfl:ElP (((a*a % Fe.P)+(b*b % Fe.P)) % Fe.P) (f 55) w1)
   clear hd
   simp only [e55] at hK
   have hK:=Lib.hid hK
   go_wp2_with fail
   refine (fNeg h55 _).mono ?_
   rintro e w2 ⟨x,rfl,hx,hb2⟩
   go_wp2
   exact hK.out _ _ ⟨x,rfl,hx⟩ hb2 nof
  refine steps2_cons ?_ ?_
  ·intro f w1 hb hd Q hK
   have e48:f 48=.agg #[.int .u64 x43.a0,.int .u64 x43.a1,.int .u64 x43.a2,.int .u64 x43.a3,.int .u64 x43.a4]:=hd.1 rfl
   obtain ⟨x51,e51,h51⟩:=(hd.2.1 rfl:ElP (((((b*b % Fe.P)+(Fe.P-(a*a % Fe.P))) % Fe.P)+(Fe.P-(((c*c % Fe.P)+(c*c % Fe.P)) % Fe.P))) % Fe.P) (f 51) w1)
   have e52:f 52=.agg #[.int .u64 xg.a0,.int .u64 xg.a1,.int .u64 xg.a2,.int .u64 xg.a3,.int .u64 xg.a4]:=hd.2.2.1 rfl
   obtain ⟨x56,e56,h56⟩:=(hd.2.2.2.1 rfl:ElP ((Fe.P-(((a*a % Fe.P)+(b*b % Fe.P)) % Fe.P)) % Fe.P) (f 56) w1)
   clear hd
   simp only [e48,e51,e52,e56] at hK
   have hK:=Lib.hid hK
   go_wp2_with fail
   refine (four_c h43 h51 hxg h56 _).mono ?_
   rintro e w2 ⟨x,y,z,t,rfl,hx,hy,hz,ht,hb2⟩
   go_wp2
   exact hK.out _ _ ⟨x,y,z,t,rfl,hx,hy,hz,ht⟩ hb2 nof
  refine steps2_cons ?_ ?_
  ·intro f w1 hb hd Q hK
   have e47:f 47=.pointer (some ⟨GS,0,none⟩):=hd.1 rfl
   clear hd
   simp only [e47] at hK
   have hK:=Lib.hid hK
   go_wp2
   exact hK.out _ _ rfl (.refl _ _) nof
  refine steps2_cons ?_ ?_
  ·intro f w1 hb hd Q hK
   have e58:f 58=.pointer (some ⟨GS,0,none⟩):=hd.1 rfl
   clear hd
   simp only [e58] at hK
   have hK:=Lib.hid hK
   go_wp2
   exact hK.out _ _ rfl (.refl _ _) nof
  trivial
 intro ff4 yw4 hb hf hne
 obtain ⟨p57,q57,r57,s57,d57,hp57,hq57,hr57,hs57⟩:PtP ((((((a+b) % Fe.P)*((a+b) % Fe.P) % Fe.P)+(Fe.P-(((a*a % Fe.P)+(b*b % Fe.P)) % Fe.P))) % Fe.P)*(((((b*b % Fe.P)+(Fe.P-(a*a % Fe.P))) % Fe.P)+(Fe.P-(((c*c % Fe.P)+(c*c % Fe.P)) % Fe.P))) % Fe.P) % Fe.P) ((((b*b % Fe.P)+(Fe.P-(a*a % Fe.P))) % Fe.P)*((Fe.P-(((a*a % Fe.P)+(b*b % Fe.P)) % Fe.P)) % Fe.P) % Fe.P) ((((((b*b % Fe.P)+(Fe.P-(a*a % Fe.P))) % Fe.P)+(Fe.P-(((c*c % Fe.P)+(c*c % Fe.P)) % Fe.P))) % Fe.P)*(((b*b % Fe.P)+(Fe.P-(a*a % Fe.P))) % Fe.P) % Fe.P) ((((((a+b) % Fe.P)*((a+b) % Fe.P) % Fe.P)+(Fe.P-(((a*a % Fe.P)+(b*b % Fe.P)) % Fe.P))) % Fe.P)*((Fe.P-(((a*a % Fe.P)+(b*b % Fe.P)) % Fe.P)) % Fe.P) % Fe.P) (ff4 57) yw4:=hf 10 _ _ (by decide) rfl rfl
 have d59:ff4 59=.pointer (some ⟨GS,0,none⟩):=hf 12 _ _ (by decide) rfl rfl
 clear hf hne
 simp only [d57,d59]
 clear d57 d59
 replace kS:=kS.below hb
 replace hb0:=hb0.trans (hb.mono hb0.size)
 refine stPt rfl rfl rfl rfl kS rfl rfl (by kernel_rfl) ?_
 intro w9 k9 hgr hsz
 refine wpList_nil ?_
 go_wp2
 go_returns
 exact ⟨rfl,⟨_,_,_,_,k9,hp57,hq57,hr57,hs57⟩,own_grown hb0 hgr⟩
end Go.Proofs.YtnopjabcdloepaaGreatDoor
