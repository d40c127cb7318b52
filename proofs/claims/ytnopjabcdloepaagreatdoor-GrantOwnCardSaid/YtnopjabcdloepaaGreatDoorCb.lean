import Derived.Test.YtnopjabcdloepaaGreatDoorCa
import Derived.Test.YtnopjabcdloepaaGreatDoorZd
import Derived.Deep.QuietTactic
import Derived.BigQuiet
import Derived.Deep.MidRow
namespace Sh
open Go Go.Proofs.YtnopjabcdloepaaGreatDoor
def ivL:List Int:=[7640891576956012808,13503953896175478587,4354685564936845355,11912009170470909681,5840696475078001361,11170449401992604703,2270897969802886507,6620516959819538809]
def kL:List Int:=[4794697086780616226,8158064640168781261,13096744586834688815,16840607885511220156,4131703408338449720,6480981068601479193,10538285296894168987,12329834152419229976,15566598209576043074,1334009975649890238,2608012711638119052,6128411473006802146,8268148722764581231,9286055187155687089,11230858885718282805,13951009754708518548,16472876342353939154,17275323862435702243,1135362057144423861,2597628984639134821,3308224258029322869,5365058923640841347,6679025012923562964,8573033837759648693,10970295158949994411,12119686244451234320,12683024718118986047,13788192230050041572,14330467153632333762,15395433587784984357,489312712824947311,1452737877330783856,2861767655752347644,3322285676063803686,5560940570517711597,5996557281743188959,7280758554555802590,8532644243296465576,9350256976987008742,10552545826968843579,11727347734174303076,12113106623233404929,14000437183269869457,14369950271660146224,15101387698204529176,15463397548674623760,17586052441742319658,1182934255886127544,1847814050463011016,2177327727835720531,2830643537854262169,3796741975233480872,4115178125766777443,5681478168544905931,6601373596472566643,7507060721942968483,8399075790359081724,8693463985226723168,9568029438360202098,10144078919501101548,10430055236837252648,11840083180663258601,13761210420658862357,14299343276471374635,14566680578165727644,15097957966210449927,16922976911328602910,17689382322260857208,500013540394364858,748580250866718886,1242879168328830382,1977374033974150939,2944078676154940804,3659926193048069267,4368137639120453308,4836135668995329356,5532061633213252278,6448918945643986474,6902733635092675308,7801388544844847127]
def ivI (i:Nat):Int:=ivL.getD i 0
def kI (i:Nat):Int:=kL.getD i 0
def wordI (b:Nat→Int) (t:Nat):Nat→Int
 | 0=>0
 | i+1=>bits .or .u64 (IntKind.u64.wrap (wordI b t i*256)) (b (8*t+i))
def nxtI (F:Nat→Int) (t:Nat):Int:=IntKind.u64.wrap (IntKind.u64.wrap (IntKind.u64.wrap (smlI (F (t-2)) 19 61 6+F (t-7))+smlI (F (t-15)) 1 8 7)+F (t-16))
def updI (F:Nat→Int) (t:Nat) (x:Int):Nat→Int:=fun j=>if j=t then x else F j
def schI (b:Nat→Int):Nat→(Nat→Int)
 | 0=>fun _=>0
 | t+1=>updI (schI b t) t (if t<16 then wordI b t 8 else nxtI (schI b t) t)
theorem schI_zero (b:Nat→Int):∀ t j,t≤j→schI b t j=0
 | 0,_,_=>rfl
 | t+1,j,h=>by
  show updI (schI b t) t _ j=0
  unfold updI
  rw [if_neg (by omega),schI_zero b t j (by omega)]
def notI (x:Int):Int:=bits .xor .u64 18446744073709551615 x
def oneI (V:Nat→Int) (k x:Int):Int:=IntKind.u64.wrap (IntKind.u64.wrap (IntKind.u64.wrap (IntKind.u64.wrap (V 7+mixI (V 4) 14 18 41)+bits .xor .u64 (bits .and .u64 (V 4) (V 5)) (bits .and .u64 (notI (V 4)) (V 6)))+k)+x)
def twoI (V:Nat→Int):Int:=IntKind.u64.wrap (mixI (V 0) 28 34 39+bits .xor .u64 (bits .xor .u64 (bits .and .u64 (V 0) (V 1)) (bits .and .u64 (V 0) (V 2))) (bits .and .u64 (V 1) (V 2)))
def rndI (V:Nat→Int) (k x:Int):Nat→Int:=fun j=>if j=0 then IntKind.u64.wrap (oneI V k x+twoI V) else if j=4 then IntKind.u64.wrap (V 3+oneI V k x) else V (j-1)
def rndsI (V S:Nat→Int):Nat→(Nat→Int)
 | 0=>V
 | t+1=>rndI (rndsI V S t) (kI t) (S t)
def blkI (V b:Nat→Int):Nat→Int:=fun j=>IntKind.u64.wrap (V j+rndsI V (schI b 80) 80 j)
end Sh
namespace Go.Proofs.YtnopjabcdloepaaGreatDoor
open Go.RowKit
def wA (n:Nat) (F:Nat→Int):Array Value:=(uL n F).toArray
theorem wA_size (n:Nat) (F:Nat→Int):(wA n F).size=n:=by simp [wA,uL]
theorem wA_get (n:Nat) (F:Nat→Int) (j:Nat) (h:j<n):(wA n F)[j]?=some (.int .u64 (F j)):=by simp [wA,uL,h]
theorem wA_one (n:Nat) (F:Nat→Int):(wA n F).all (·.oneCell')=true:=by
 rw [Array.all_eq_true]
 intro i hi
 have hi':i<n:=by rw [wA_size] at hi;exact hi
 have:=wA_get n F i hi'
 rw [Array.getElem?_eq_getElem hi] at this
 rw [Option.some.inj this]
 rfl
theorem wA_set (n:Nat) (F:Nat→Int) (j:Nat) (x:Int):((wA n F).setIfInBounds j (.int .u64 x))=wA n (Sh.updI F j x):=by
 apply Array.ext_getElem?
 intro i
 simp only [wA,List.setIfInBounds_toArray,List.getElem?_toArray,List.getElem?_set,uL,List.length_map,List.length_range,List.getElem?_map,Sh.updI]
 by_cases e:j=i
 ·subst e
  by_cases h:j<n
  ·simp [h]
  simp [h]
 rw [if_neg e]
 by_cases h:i<n
 ·simp [h,Ne.symm e]
 simp [h]
theorem wA_congr {n:Nat} {F F':Nat→Int} (he:∀ i,i<n→F i=F' i):wA n F=wA n F':=by
 unfold wA
 rw [show uL n F=uL n F' from List.map_congr_left fun i hi=>by rw [he i (List.mem_range.1 hi)]]
theorem wcell {w:World} {g n:Nat} {ty:TypeId} {F:Nat→Int} (h:Blk w g ty (wA n F)) (j:Nat) (hj:j<n):w.cell? ⟨g,j,none⟩=some (.int .u64 (F j)):=by rw [h.cell j,wA_get n F j hj]
theorem wset {w:World} {g n:Nat} {ty:TypeId} {F:Nat→Int} (h:Blk w g ty (wA n F)) (j:Nat) (x:Int):Blk (w.setCell ⟨g,j,none⟩ (.int .u64 x)) g ty (wA n (Sh.updI F j x)):=by
 have h2:=h.set_ j (.int .u64 x)
 rw [wA_set] at h2
 exact h2
def hC (V:Nat→Int) (sv:Value) (N:Int):Array Value:=wA 8 V++#[sv,.int .u64 N,.bool true]
theorem hC_get (V:Nat→Int) (sv:Value) (N:Int) (j:Nat) (h:j<8):(hC V sv N)[j]?=some (.int .u64 (V j)):=by
 unfold hC
 rw [Array.getElem?_append_left (by rw [wA_size];exact h),wA_get 8 V j h]
theorem hC_set (V:Nat→Int) (sv:Value) (N:Int) (j:Nat) (h:j<8) (x:Int):(hC V sv N).setIfInBounds j (.int .u64 x)=hC (Sh.updI V j x) sv N:=by
 unfold hC
 rw [← wA_set]
 apply Array.ext_getElem?
 intro i
 rw [Array.getElem?_setIfInBounds]
 by_cases e:j=i
 ·subst e
  rw [if_pos rfl,if_pos (by simp [wA_size];omega),Array.getElem?_append_left (by simp [wA_size];exact h),Array.getElem?_setIfInBounds,if_pos rfl,if_pos (by rw [wA_size];exact h)]
 rw [if_neg e]
 by_cases h8:i<8
 ·rw [Array.getElem?_append_left (by rw [wA_size];exact h8),Array.getElem?_append_left (by simp [wA_size];exact h8),Array.getElem?_setIfInBounds,if_neg e]
 rw [Array.getElem?_append_right (by rw [wA_size];omega),Array.getElem?_append_right (by simp [wA_size];omega)]
 simp [wA_size]
theorem hcell {w:World} {g:Nat} {ty:TypeId} {V:Nat→Int} {sv:Value} {N:Int} (h:Blk w g ty (hC V sv N)) (j:Nat) (hj:j<8):w.cell? ⟨g,j,none⟩=some (.int .u64 (V j)):=by rw [h.cell j,hC_get V sv N j hj]
theorem hset {w:World} {g:Nat} {ty:TypeId} {V:Nat→Int} {sv:Value} {N:Int} (h:Blk w g ty (hC V sv N)) (j:Nat) (hj:j<8) (x:Int):Blk (w.setCell ⟨g,j,none⟩ (.int .u64 x)) g ty (hC (Sh.updI V j x) sv N):=by
 have h2:=h.set_ j (.int .u64 x)
 rw [hC_set V sv N j hj] at h2
 exact h2
structure ShP (w:World):Prop where
 lt:3<w.heap.size
 iv:∀ i,i<8→w.cell? ⟨1,i,none⟩=some (.int .u64 (Sh.ivI i))
 k:∀ i,i<80→w.cell? ⟨3,i,none⟩=some (.int .u64 (Sh.kI i))
theorem ShP.below {w w':World} {B:Nat} (h:ShP w) (hb:Below B w w') (hB:3<B):ShP w' :=
 ⟨Nat.lt_of_lt_of_le h.lt hb.size,fun i hi=>(hb.cell (p:=⟨1,i,none⟩) (by show 1<B;omega)).trans (h.iv i hi),fun i hi=>(hb.cell (p:=⟨3,i,none⟩) (by show 3<B;omega)).trans (h.k i hi)⟩
theorem words_under:Tryz.prog.underlying 378=some (.array 8 200):=by kernel_rfl
theorem a80_under:Tryz.prog.underlying 418=some (.array 80 200):=by kernel_rfl
theorem words_size:(Tryz.prog.info? 378).map (·.size)=some 8:=by kernel_rfl
theorem a80_size:(Tryz.prog.info? 418).map (·.size)=some 80:=by kernel_rfl
theorem index80 (F:Nat→Int) (t:Nat) (h:t<80) (w:World):(Instr.index 418 (.agg (wA 80 F)) (.int .i64 (t:Int))).run Tryz.prog w=.ok (.int .u64 (F t)) w:=by
 have hs:∀ w,(sizeOf 200).run Tryz.prog w=.ok 1 w:=by
  intro w
  have:=u64_size
  cases hq:Tryz.prog.info? 200 with
  | none=>simp [hq] at this
  | some i=>simp [hq] at this;simp [sizeOf,typeInfo,hq,this]
 have hag:∀ w,(isAgg 200).run Tryz.prog w=.ok false w:=by
  intro w
  simp [isAgg,run_underlying u64_under]
 have hg:=wA_get 80 F t h
 simp [Instr.index,asIntOf,run_underlying a80_under,hs,part,hag,hg,h]
section
variable {ops:Array Oper} {rest:List Oper} {o:Oper} {a:Act} {w:World} {Q:Exit→Act→World→Prop}
theorem ld8 (hgd:o.guard=none) {x:Operand} (ho:o.op=.load 378 x) {g:Nat} (hx:a.eval x=.pointer (some ⟨g,0,none⟩)) {V:Nat→Int} (hc:∀ j,j<8→w.cell? ⟨g,j,none⟩=some (.int .u64 (V j))) (h:wpList Tryz.prog ops Q rest (a.put o.dst (.agg (wA 8 V))) w):wpList Tryz.prog ops Q (o::rest) a w :=
 wpList_load_mid hgd 378 x ho g 0 hx (wA 8 V).toList _ (fun j v hv=>by
  have hj:j<8:=by have:=(List.getElem?_eq_some_iff.1 hv).1;simpa [wA_size] using this
  rw [Nat.zero_add,hc j hj,← wA_get 8 V j hj,← Array.getElem?_toList]
  exact hv) words_under rfl (by rw [words_size];simp [wA_size]) (by simpa using h)
theorem ld80 (hgd:o.guard=none) {x:Operand} (ho:o.op=.load 418 x) {g:Nat} {ty:TypeId} (hx:a.eval x=.pointer (some ⟨g,0,none⟩)) {F:Nat→Int} (hg:Blk w g ty (wA 80 F)) (h:wpList Tryz.prog ops Q rest (a.put o.dst (.agg (wA 80 F))) w):wpList Tryz.prog ops Q (o::rest) a w :=
 wpList_load_row hgd 418 x ho g hx ty (wA 80 F) (0,0) _ hg a80_under rfl (by rw [a80_size,wA_size]) h
theorem st8 (hgd:o.guard=none) {x y:Operand} (ho:o.op=.store 378 x y) {g:Nat} {ty:TypeId} {V:Nat→Int} {old:Array Value} (hx:a.eval x=.pointer (some ⟨g,0,none⟩)) (hy:a.eval y=.agg (wA 8 V)) (hg:Blk w g ty old) (hs:old.size=8)
  (h:∀ w',Blk w' g ty (wA 8 V)→w.grownBy w' (some g)→w'.heap.size=w.heap.size→wpList Tryz.prog ops Q rest (a.put o.dst undef) w'):wpList Tryz.prog ops Q (o::rest) a w :=
 wpList_store_blk hgd 378 x y ho g ty old (wA 8 V) hx hy hg (by rw [hs,wA_size]) (by rw [words_size,wA_size]) (wA_one 8 V) h
end
theorem run_cpW (w:World) (ty:TypeId) (U:Nat→Int) {g:Nat} {t:TypeId} (hg:Blk w g t (wA 8 U)) :
  (Builtin.copy_ #[272,272] ty #[.slice (some ⟨g,1,none⟩) 7 7,.slice (some ⟨g,0,none⟩) 7 8]).run Tryz.prog w=.ok (.int .i64 7) (w.setRow g (wA 8 (fun j=>if j=0 then U 0 else U (j-1)))):=by
 have hr:=run_copy_row (P:=Tryz.prog) w 272 272 ty 200 g 1 7 7 ⟨g,0,none⟩ 7 8 (wA 8 U) t (uL 7 U) (by kernel_rfl) u64_size hg rfl (fun j v hv=>by
  have hj:j<7:=by have:=(List.getElem?_eq_some_iff.1 hv).1;simpa [uL] using this
  rw [add_o,Nat.zero_add,wcell hg j (by omega)]
  rw [show (uL 7 U)[j]?=some (.int .u64 (U j)) by simp [uL,hj]] at hv
  exact hv) (by rw [wA_size];simp [uL]) (fun v hv=>by
   obtain ⟨j,_,rfl⟩:=List.mem_map.1 hv
   rfl)
 exact hr
theorem b2g {w w':World} {g:Nat} (hb:Below w.heap.size w w'):w.grownBy w' (some g):=⟨hb.os,hb.tape,hb.output,hb.size,fun k hk _=>hb.block k hk⟩
theorem grown_setRowd (w:World) (g:Nat) (cs:Array Value):w.grownBy (w.drew.setRow g cs) (some g) :=
 have h:=grown_setRow w.drew g cs
 ⟨h.os,h.tape,h.output,h.size,h.block⟩
theorem zero80:Tryz.zeroCells418=wA 80 (fun _=>0):=by kernel_rfl
theorem Below.drewN' (B:Nat) (w:World) (n:Nat):Below B w (w.drewN n):=⟨rfl,rfl,rfl,Nat.le_refl _,fun _ _=>rfl⟩
def PostB (gH:Nat) (V b:Nat→Int) (sv:Value) (N:Int) (w:World) (e:Ending) (w':World):Prop:=e=.returned (.tuple #[])∧Blk w' gH 380 (hC (Sh.blkI V b) sv N)∧w.grownBy w' (some gH)
def scL (F:Nat→Int) (t GM:Nat):List (Value→World→Prop):=[
 Eq1 (.int .i64 (t:Int)),
 Eq1 (.int .i64 (t:Int)),
 Eq1 (.int .i64 ((t:Int)-2)),
 Eq1 (.pointer (some ⟨GM,t-2,none⟩)),
 Eq1 (.int .u64 (F (t-2))),
 Eq1 (.int .u64 (Sh.smlI (F (t-2)) 19 61 6)),
 Eq1 (.int .i64 (t:Int)),
 Eq1 (.int .i64 ((t:Int)-7)),
 Eq1 (.pointer (some ⟨GM,t-7,none⟩)),
 Eq1 (.int .u64 (F (t-7))),
 Eq1 (.int .u64 (IntKind.u64.wrap ((Sh.smlI (F (t-2)) 19 61 6)+F (t-7)))),
 Eq1 (.int .i64 (t:Int)),
 Eq1 (.int .i64 ((t:Int)-15)),
 Eq1 (.pointer (some ⟨GM,t-15,none⟩)),
 Eq1 (.int .u64 (F (t-15))),
 Eq1 (.int .u64 (Sh.smlI (F (t-15)) 1 8 7)),
 Eq1 (.int .u64 (IntKind.u64.wrap ((IntKind.u64.wrap ((Sh.smlI (F (t-2)) 19 61 6)+F (t-7)))+(Sh.smlI (F (t-15)) 1 8 7)))),
 Eq1 (.int .i64 (t:Int)),
 Eq1 (.int .i64 ((t:Int)-16)),
 Eq1 (.pointer (some ⟨GM,t-16,none⟩)),
 Eq1 (.int .u64 (F (t-16))),
 Eq1 (.int .u64 (IntKind.u64.wrap ((IntKind.u64.wrap ((IntKind.u64.wrap ((Sh.smlI (F (t-2)) 19 61 6)+F (t-7)))+(Sh.smlI (F (t-15)) 1 8 7)))+F (t-16)))),
 Eq1 (.pointer (some ⟨GM,t,none⟩))]
theorem scS (F:Nat→Int) (t GM:Nat):∀ j x' q q',(scL F t GM).getD j (fun _ _=>True) x' q→Below q.heap.size q q'→(scL F t GM).getD j (fun _ _=>True) x' q':=by
 refine sta_all _ ?_
 simp only [scL,List.mem_cons,forall_eq_or_imp,List.not_mem_nil,false_implies,implies_true,and_true]
 exact ⟨sta_eq _,sta_eq _,sta_eq _,sta_eq _,sta_eq _,sta_eq _,sta_eq _,sta_eq _,sta_eq _,sta_eq _,sta_eq _,sta_eq _,sta_eq _,sta_eq _,sta_eq _,sta_eq _,sta_eq _,sta_eq _,sta_eq _,sta_eq _,sta_eq _,sta_eq _,sta_eq _⟩
def r17L (U:Nat→Int) (t GV:Nat) (sx:Int):List (Value→World→Prop):=[
 Eq1 (.pointer (some ⟨GV,7,none⟩)),
 Eq1 (.int .u64 (U 7)),
 Eq1 (.int .u64 (U 4)),
 Eq1 (.int .u64 (Sh.mixI (U 4) 14 18 41)),
 Eq1 (.int .u64 (IntKind.u64.wrap (U 7+(Sh.mixI (U 4) 14 18 41)))),
 Eq1 (.int .u64 (U 4)),
 Eq1 (.pointer (some ⟨GV,5,none⟩)),
 Eq1 (.int .u64 (U 5)),
 Eq1 (.int .u64 (bits .and .u64 (U 4) (U 5))),
 Eq1 (.int .u64 (U 4)),
 Eq1 (.int .u64 (Sh.notI (U 4))),
 Eq1 (.pointer (some ⟨GV,6,none⟩)),
 Eq1 (.int .u64 (U 6)),
 Eq1 (.int .u64 (bits .and .u64 (Sh.notI (U 4)) (U 6))),
 Eq1 (.int .u64 (bits .xor .u64 (bits .and .u64 (U 4) (U 5)) (bits .and .u64 (Sh.notI (U 4)) (U 6)))),
 Eq1 (.int .u64 (IntKind.u64.wrap ((IntKind.u64.wrap (U 7+(Sh.mixI (U 4) 14 18 41)))+(bits .xor .u64 (bits .and .u64 (U 4) (U 5)) (bits .and .u64 (Sh.notI (U 4)) (U 6)))))),
 Eq1 (.int .i64 (t:Int)),
 Eq1 (.pointer (some ⟨3,t,none⟩)),
 Eq1 (.int .u64 (Sh.kI t)),
 Eq1 (.int .u64 (IntKind.u64.wrap ((IntKind.u64.wrap ((IntKind.u64.wrap (U 7+(Sh.mixI (U 4) 14 18 41)))+(bits .xor .u64 (bits .and .u64 (U 4) (U 5)) (bits .and .u64 (Sh.notI (U 4)) (U 6)))))+Sh.kI t))),
 Eq1 (.int .u64 sx),
 Eq1 (.int .u64 (Sh.oneI U (Sh.kI t) sx))]
theorem r17S (U:Nat→Int) (t GV:Nat) (sx:Int):∀ j x' q q',(r17L U t GV sx).getD j (fun _ _=>True) x' q→Below q.heap.size q q'→(r17L U t GV sx).getD j (fun _ _=>True) x' q':=by
 refine sta_all _ ?_
 simp only [r17L,List.mem_cons,forall_eq_or_imp,List.not_mem_nil,false_implies,implies_true,and_true]
 exact ⟨sta_eq _,sta_eq _,sta_eq _,sta_eq _,sta_eq _,sta_eq _,sta_eq _,sta_eq _,sta_eq _,sta_eq _,sta_eq _,sta_eq _,sta_eq _,sta_eq _,sta_eq _,sta_eq _,sta_eq _,sta_eq _,sta_eq _,sta_eq _,sta_eq _,sta_eq _⟩
def r18L (U:Nat→Int) (GV:Nat):List (Value→World→Prop):=[
 Eq1 (.int .u64 (U 0)),
 Eq1 (.int .u64 (Sh.mixI (U 0) 28 34 39)),
 Eq1 (.int .u64 (U 0)),
 Eq1 (.pointer (some ⟨GV,1,none⟩)),
 Eq1 (.int .u64 (U 1)),
 Eq1 (.int .u64 (bits .and .u64 (U 0) (U 1))),
 Eq1 (.int .u64 (U 0)),
 Eq1 (.pointer (some ⟨GV,2,none⟩)),
 Eq1 (.int .u64 (U 2)),
 Eq1 (.int .u64 (bits .and .u64 (U 0) (U 2))),
 Eq1 (.int .u64 (bits .xor .u64 (bits .and .u64 (U 0) (U 1)) (bits .and .u64 (U 0) (U 2)))),
 Eq1 (.pointer (some ⟨GV,1,none⟩)),
 Eq1 (.int .u64 (U 1)),
 Eq1 (.pointer (some ⟨GV,2,none⟩)),
 Eq1 (.int .u64 (U 2)),
 Eq1 (.int .u64 (bits .and .u64 (U 1) (U 2))),
 Eq1 (.int .u64 (bits .xor .u64 (bits .xor .u64 (bits .and .u64 (U 0) (U 1)) (bits .and .u64 (U 0) (U 2))) (bits .and .u64 (U 1) (U 2)))),
 Eq1 (.int .u64 (Sh.twoI U))]
theorem r18S (U:Nat→Int) (GV:Nat):∀ j x' q q',(r18L U GV).getD j (fun _ _=>True) x' q→Below q.heap.size q q'→(r18L U GV).getD j (fun _ _=>True) x' q':=by
 refine sta_all _ ?_
 simp only [r18L,List.mem_cons,forall_eq_or_imp,List.not_mem_nil,false_implies,implies_true,and_true]
 exact ⟨sta_eq _,sta_eq _,sta_eq _,sta_eq _,sta_eq _,sta_eq _,sta_eq _,sta_eq _,sta_eq _,sta_eq _,sta_eq _,sta_eq _,sta_eq _,sta_eq _,sta_eq _,sta_eq _,sta_eq _,sta_eq _⟩
set_option maxRecDepth 100000 in
set_option maxHeartbeats 4000000 in
theorem block_c (gH:Nat) (V:Nat→Int) (sv:Value) (N:Int) (g o c:Nat) (b:Nat→Int) (w:World) (hH:Blk w gH 380 (hC V sv N)) (hg:g<w.heap.size) (hc128:128≤c) (hr:∀ j,0≤b j∧b j<256) (hc:∀ j,j<128→w.cell? ⟨g,o+j,none⟩=some (.int .u8 (b j))) (hS:ShP w):Calls Tryz.prog 316 #[.pointer (some ⟨gH,0,none⟩),.slice (some ⟨g,o,none⟩) 128 c] w (PostB gH V b sv N w):=by
 have hcc:=Lib.hid (fun W hb=>rd_cell (W:=W) hg hc hb)
 replace hH:=Lib.hid hH
 replace hS:=Lib.hid hS
 replace hr:=Lib.hid hr
 clear hc hg
 go_enter Tryz.func316,Tryz.ntmps316
 go_wp2_with fail
 refine at_world (fun W0 hW=>?_)
 have hM:Blk W0 w.heap.size 418 (wA 80 (Sh.schI b 0)):=by rw [hW,zero80];exact Blk.new _ _ _
 have hb0:Below w.heap.size w W0:=by rw [hW];exact (Below.refl _ _).alloc (Nat.le_refl _) _
 clear hW
 obtain ⟨GM,hGM⟩:∃ GM,GM=w.heap.size:=⟨_,rfl⟩
 rw [← hGM] at hM ⊢
 have loM:w.heap.size≤GM:=by omega
 clear hGM
 have hS1:∀ x W,Calls Tryz.prog 349 #[.int .u64 x,.int .i64 19,.int .i64 61,.int .i64 6] W (PostV (.int .u64 (Sh.smlI x 19 61 6)) W):=fun x W=>(sml_c x 19 61 6 (by decide) (by decide) (by decide) W).mono fun _ _ h=>⟨h.1,h.2.elim fun n h=>by rw [h];exact Below.drewN' _ _ n⟩
 have hS2:∀ x W,Calls Tryz.prog 349 #[.int .u64 x,.int .i64 1,.int .i64 8,.int .i64 7] W (PostV (.int .u64 (Sh.smlI x 1 8 7)) W):=fun x W=>(sml_c x 1 8 7 (by decide) (by decide) (by decide) W).mono fun _ _ h=>⟨h.1,h.2.elim fun n h=>by rw [h];exact Below.drewN' _ _ n⟩
 replace hS1:=Lib.hid hS1
 replace hS2:=Lib.hid hS2
 go_loopw [16] (fun t wr=>∃ i:Nat,i≤80∧t=.int .i64 i∧Blk wr GM 418 (wA 80 (Sh.schI b i))∧Below w.heap.size w wr) (fun t _=>(80-intOf t).toNat)
 case atStart=>exact ⟨0,by omega,rfl,hM,hb0⟩
 case round =>
  clear hM hb0
  obtain ⟨t,ht,he,hM,hb0⟩:=hrel
  subst he
  by_cases h80:t=80
  ·subst h80
   rw [show ((80:Nat):Int)=80 from rfl]
   generalize hSd:Sh.schI b 80=S at *
   replace hSd:=Lib.hid hSd
   have hH1:=hH.out.below hb0
   have hHc:=fun j hj=>hcell hH1 j hj
   have ltM:=hM.lt
   have ltH:=hH.out.lt
   have lw:=hb0.size
   go_wp2_with (first | (refine ld8 rfl rfl rfl hHc ?_) | (refine st8 rfl rfl rfl rfl (Blk.new _ _ _) rfl ?_;intro W1 hV1 hgr hsz;have hbW:Below wr.heap.size wr W1:=((Below.refl _ _).alloc (Nat.le_refl _) _).grown hgr (by simp) (fun k hk=>by injection hk with hk;omega);have hM1:=hM.below hbW;have hH2:=hH1.below hbW;have hb1:=hb0.trans (hbW.mono lw);clear hgr hsz hbW hHc hM hH1 hb0) | (refine ld80 rfl rfl rfl hM1 ?_))
   obtain ⟨GV,hGV⟩:∃ G,G=wr.heap.size:=⟨_,rfl⟩
   rw [← hGV] at hV1 ⊢
   have nVH:gH≠GV:=by omega
   have loV:w.heap.size≤GV:=by omega
   clear hGV lw ltH ltM hM1
   replace hH2:=Lib.hid hH2
   replace hV1:=Lib.hid hV1
   replace hb1:=Lib.hid hb1
   have hX1:∀ x W,Calls Tryz.prog 350 #[.int .u64 x,.int .i64 14,.int .i64 18,.int .i64 41] W (PostV (.int .u64 (Sh.mixI x 14 18 41)) W):=fun x W=>(mix_c x 14 18 41 (by decide) (by decide) (by decide) W).mono fun _ _ h=>⟨h.1,by rw [← h.2];exact Below.refl _ _⟩
   have hX2:∀ x W,Calls Tryz.prog 350 #[.int .u64 x,.int .i64 28,.int .i64 34,.int .i64 39] W (PostV (.int .u64 (Sh.mixI x 28 34 39)) W):=fun x W=>(mix_c x 28 34 39 (by decide) (by decide) (by decide) W).mono fun _ _ h=>⟨h.1,by rw [← h.2];exact Below.refl _ _⟩
   replace hX1:=Lib.hid hX1
   replace hX2:=Lib.hid hX2
   have lt3:=hS.out.lt
   go_loopw [71] (fun q wr=>∃ t:Nat,t≤80∧q=.int .i64 t∧Blk wr GV 378 (wA 8 (Sh.rndsI V S t))∧Blk wr gH 380 (hC V sv N)∧Below w.heap.size w wr) (fun q _=>(80-intOf q).toNat)
   case atStart=>exact ⟨0,by omega,rfl,hV1.out,hH2.out,hb1.out⟩
   case round =>
    clear hV1 hH2 hb1
    obtain ⟨t,ht,he,hV1,hH2,hb1⟩:=hrel
    subst he
    by_cases h80:t=80
    ·subst h80
     rw [show ((80:Nat):Int)=80 from rfl]
     obtain ⟨E,hE⟩:∃ E,E=Sh.rndsI V S 80:=⟨_,rfl⟩
     have hbk:Sh.blkI V b=fun j=>IntKind.u64.wrap (V j+E j):=by funext j;show IntKind.u64.wrap (V j+Sh.rndsI V (Sh.schI b 80) 80 j)=_;rw [hSd.out,hE]
     rw [← hE] at hV1
     replace hbk:=Lib.hid hbk
     have hg0:w.grownBy wr (some gH):=b2g hb1
     have hH3:Blk wr gH 380 (hC (fun j=>if j<0 then IntKind.u64.wrap (V j+E j) else V j) sv N):=hH2
     clear hE hb1 hH2 hX1 hX2
     go_wp2
     go_loopw [132] (fun q wr=>∃ i:Nat,i≤8∧q=.int .i64 i∧Blk wr GV 378 (wA 8 E)∧Blk wr gH 380 (hC (fun j=>if j<i then IntKind.u64.wrap (V j+E j) else V j) sv N)∧w.grownBy wr (some gH)) (fun q _=>(8-intOf q).toNat)
     case atStart=>exact ⟨0,by omega,rfl,hV1,hH3,hg0⟩
     case round =>
      clear hV1 hH3 hg0
      obtain ⟨i,hi,he,hV1,hH3,hg0⟩:=hrel
      subst he
      by_cases h8:i=8
      ·subst h8
       rw [show ((8:Nat):Int)=8 from rfl]
       have hP:PostB gH V b sv N w (.returned (.tuple #[])) wr:=⟨rfl,by
        rw [hbk.out]
        have e:hC (fun j=>if j<8 then IntKind.u64.wrap (V j+E j) else V j) sv N=hC (fun j=>IntKind.u64.wrap (V j+E j)) sv N:=by unfold hC;rw [wA_congr (fun j hj=>if_pos hj)]
        rw [← e]
        exact hH3,hg0⟩
       replace hP:=Lib.hid hP
       clear hV1 hH3 hg0
       go_wp2
       go_returns
       exact hP.out
      have hi0:(0:Int)≤(i:Int):=by omega
      have hi1:(i:Int)<8:=by omega
      have x1:=hcell hH3 i (by omega)
      rw [if_neg (by omega)] at x1
      have x2:=wcell hV1 i (by omega)
      have fH:=fun j=>hH3.frozen j
      have hH4:=Lib.hid (show Blk (wr.setCell ⟨gH,i,none⟩ (.int .u64 (IntKind.u64.wrap (V i+E i)))) gH 380 (hC (fun j=>if j<i+1 then IntKind.u64.wrap (V j+E j) else V j) sv N) by
       have h:=hset hH3 i (by omega) (IntKind.u64.wrap (V i+E i))
       have e:hC (Sh.updI (fun j=>if j<i then IntKind.u64.wrap (V j+E j) else V j) i (IntKind.u64.wrap (V i+E i))) sv N=hC (fun j=>if j<i+1 then IntKind.u64.wrap (V j+E j) else V j) sv N:=by
        unfold hC
        rw [wA_congr (fun j hj=>?_)]
        unfold Sh.updI
        by_cases e:j=i
        ·subst e;rw [if_pos rfl,if_pos (by omega)]
        rw [if_neg e]
        dsimp only
        by_cases h:j<i
        ·rw [if_pos h,if_pos (by omega)]
        rw [if_neg h,if_neg (by omega)]
       rw [← e]
       exact h)
      have hV4:=Lib.hid (hV1.far (p:=⟨gH,i,none⟩) (fun e=>nVH e.symm) (.int .u64 (IntKind.u64.wrap (V i+E i))))
      have hg4:=Lib.hid (grown_celld hg0 i (.int .u64 (IntKind.u64.wrap (V i+E i))))
      clear hV1 hH3 hg0
      go_wp2
      go_region
      clear x1 x2 fH
      obtain ⟨W9,hW⟩:∃ w',w'=(wr.setCell ⟨gH,i,none⟩ (.int .u64 (IntKind.u64.wrap (V i+E i)))).drew:=⟨_,rfl⟩
      rw [← hW]
      have hV5:Blk W9 GV 378 (wA 8 E):=by rw [hW];exact hV4.out
      have hH5:Blk W9 gH 380 (hC (fun j=>if j<i+1 then IntKind.u64.wrap (V j+E j) else V j) sv N):=by rw [hW];exact hH4.out
      have hg5:w.grownBy W9 (some gH):=by rw [hW];exact hg4.out
      clear hW hV4 hH4 hg4
      go_wp2
      exact ⟨⟨i+1,by omega,by simp,hV5,hH5,hg5⟩,by simp [intOf];omega⟩
    have ht0:(0:Int)≤(t:Int):=by omega
    have ht1:(t:Int)<80:=by omega
    have hix:=index80 S t (by omega)
    obtain ⟨U,hU⟩:∃ U,U=Sh.rndsI V S t:=⟨_,rfl⟩
    have hrn:Sh.rndsI V S (t+1)=Sh.rndI U (Sh.kI t) (S t):=by rw [hU];rfl
    rw [← hU] at hV1
    replace hrn:=Lib.hid hrn
    clear hU
    have x0:=wcell hV1 0 (by decide)
    have x4:=wcell hV1 4 (by decide)
    generalize hst:S t=sx at *
    replace hst:=Lib.hid hst
    replace hH2:=Lib.hid hH2
    replace hb1:=Lib.hid hb1
    go_wp2
    go_region
    go_wp2_with fail
    clear x0 x4 hix
    refine at_world (fun W2 hW=>?_)
    have hV2:Blk W2 GV 378 (wA 8 U):=by rw [hW];exact hV1
    have hb2:=Lib.hid (show Below wr.heap.size wr W2 by rw [hW];exact (Below.refl _ _).drew)
    have hS2:=Lib.hid (hS.out.below (hb1.out.trans (hb2.out.mono hb1.out.size)) lt3)
    clear hW hV1
    have ltV:=hV2.lt
    have lt3':=hS2.out.lt
    have y1:=wcell hV2 1 (by decide)
    have y2:=wcell hV2 2 (by decide)
    have y5:=wcell hV2 5 (by decide)
    have y6:=wcell hV2 6 (by decide)
    have y7:=wcell hV2 7 (by decide)
    have yk:=hS2.out.k t (by omega)
    refine wp_region_grow2 22 (fun k=>(Nat.ble 79 k&&Nat.ble k 100)) _ [] (fun j x' q=>(r17L U t GV sx).getD j (fun _ _=>True) x' q) (fun _=>false) (fun f=>#[_,_,_,_,_,_,_,_,.pointer (some ⟨GV,0,none⟩),.int .i64 (t:Int),.int .u64 sx,.int .u64 (U 0),.int .u64 (U 4),_,_,_,_,_,_,_,_,_,_,_,_,_,_,_,_,_,_,_,_,_,_,_,_,_,_,_,_,_,_,_,_,_,_,_,_,_,_,_,_,_,_,_,_,_,_,_,_,_,_,_,_,_,_,_,_,_,_,_,_,_,_,_,_,_,_,f 79,f 80,f 81,f 82,f 83,f 84,f 85,f 86,f 87,f 88,f 89,f 90,f 91,f 92,f 93,f 94,f 95,f 96,f 97,f 98,f 99,f 100,_,_,_,_,_,_,_,_,_,_,_,_,_,_,_,_,_,_,_,_,_,_,_,_,_,_,_,_,_,_,_,_,_,_,_,_,_,_,_,_,_,_,_,_,_,_]) (fun f=>rfl) (by kernel_rfl) (by kernel_rfl) (by kernel_rfl) (by kernel_rfl) (by kernel_rfl) (r17S _ _ _ _) (fun _ _ _ h=>by cases h) ?_ ?_
    ·refine steps2_cons ?_ ?_
     ·as_aux_lemma =>
      intro f w1 hb hd Q hK
      clear hd
      have hK:=Lib.hid hK
      go_wp2
      exact hK.out _ _ rfl (.refl _ _) nof
     refine steps2_cons ?_ ?_
     ·as_aux_lemma =>
      intro f w1 hb hd Q hK
      have e79:f 79=.pointer (some ⟨GV,7,none⟩):=hd.1 rfl
      clear hd
      simp only [e79] at hK
      have hK:=Lib.hid hK
      have c0:=(hb.cell (p:=⟨GV,7,none⟩) ltV).trans y7
      go_wp2
      exact hK.out _ _ rfl (.refl _ _) nof
     refine steps2_cons ?_ ?_
     ·as_aux_lemma =>
      intro f w1 hb hd Q hK
      clear hd
      have hK:=Lib.hid hK
      go_wp2
      exact hK.out _ _ rfl (.refl _ _) nof
     refine steps2_cons ?_ ?_
     ·as_aux_lemma =>
      intro f w1 hb hd Q hK
      have e81:f 81=.int .u64 (U 4):=hd.1 rfl
      clear hd
      simp only [e81] at hK
      have hK:=Lib.hid hK
      go_wp2_with fail
      refine (hX1.out _ _).mono ?_
      rintro e w2 ⟨rfl,hb2⟩
      go_wp2
      exact hK.out _ _ rfl hb2 nof
     refine steps2_cons ?_ ?_
     ·as_aux_lemma =>
      intro f w1 hb hd Q hK
      have e80:f 80=.int .u64 (U 7):=hd.1 rfl
      have e82:f 82=.int .u64 (Sh.mixI (U 4) 14 18 41):=hd.2.1 rfl
      clear hd
      simp only [e80,e82] at hK
      have hK:=Lib.hid hK
      go_wp2
      exact hK.out _ _ rfl (.refl _ _) nof
     refine steps2_cons ?_ ?_
     ·as_aux_lemma =>
      intro f w1 hb hd Q hK
      clear hd
      have hK:=Lib.hid hK
      go_wp2
      exact hK.out _ _ rfl (.refl _ _) nof
     refine steps2_cons ?_ ?_
     ·as_aux_lemma =>
      intro f w1 hb hd Q hK
      clear hd
      have hK:=Lib.hid hK
      go_wp2
      exact hK.out _ _ rfl (.refl _ _) nof
     refine steps2_cons ?_ ?_
     ·as_aux_lemma =>
      intro f w1 hb hd Q hK
      have e85:f 85=.pointer (some ⟨GV,5,none⟩):=hd.1 rfl
      clear hd
      simp only [e85] at hK
      have hK:=Lib.hid hK
      have c0:=(hb.cell (p:=⟨GV,5,none⟩) ltV).trans y5
      go_wp2
      exact hK.out _ _ rfl (.refl _ _) nof
     refine steps2_cons ?_ ?_
     ·as_aux_lemma =>
      intro f w1 hb hd Q hK
      have e84:f 84=.int .u64 (U 4):=hd.1 rfl
      have e86:f 86=.int .u64 (U 5):=hd.2.1 rfl
      clear hd
      simp only [e84,e86] at hK
      have hK:=Lib.hid hK
      go_wp2
      exact hK.out _ _ rfl (.refl _ _) nof
     refine steps2_cons ?_ ?_
     ·as_aux_lemma =>
      intro f w1 hb hd Q hK
      clear hd
      have hK:=Lib.hid hK
      go_wp2
      exact hK.out _ _ rfl (.refl _ _) nof
     refine steps2_cons ?_ ?_
     ·as_aux_lemma =>
      intro f w1 hb hd Q hK
      have e88:f 88=.int .u64 (U 4):=hd.1 rfl
      clear hd
      simp only [e88] at hK
      have hK:=Lib.hid hK
      go_wp2
      exact hK.out _ _ rfl (.refl _ _) nof
     refine steps2_cons ?_ ?_
     ·as_aux_lemma =>
      intro f w1 hb hd Q hK
      clear hd
      have hK:=Lib.hid hK
      go_wp2
      exact hK.out _ _ rfl (.refl _ _) nof
     refine steps2_cons ?_ ?_
     ·as_aux_lemma =>
      intro f w1 hb hd Q hK
      have e90:f 90=.pointer (some ⟨GV,6,none⟩):=hd.1 rfl
      clear hd
      simp only [e90] at hK
      have hK:=Lib.hid hK
      have c0:=(hb.cell (p:=⟨GV,6,none⟩) ltV).trans y6
      go_wp2
      exact hK.out _ _ rfl (.refl _ _) nof
     refine steps2_cons ?_ ?_
     ·as_aux_lemma =>
      intro f w1 hb hd Q hK
      have e89:f 89=.int .u64 (Sh.notI (U 4)):=hd.1 rfl
      have e91:f 91=.int .u64 (U 6):=hd.2.1 rfl
      clear hd
      simp only [e89,e91] at hK
      have hK:=Lib.hid hK
      go_wp2
      exact hK.out _ _ rfl (.refl _ _) nof
     refine steps2_cons ?_ ?_
     ·as_aux_lemma =>
      intro f w1 hb hd Q hK
      have e87:f 87=.int .u64 (bits .and .u64 (U 4) (U 5)):=hd.1 rfl
      have e92:f 92=.int .u64 (bits .and .u64 (Sh.notI (U 4)) (U 6)):=hd.2.1 rfl
      clear hd
      simp only [e87,e92] at hK
      have hK:=Lib.hid hK
      go_wp2
      exact hK.out _ _ rfl (.refl _ _) nof
     refine steps2_cons ?_ ?_
     ·as_aux_lemma =>
      intro f w1 hb hd Q hK
      have e83:f 83=.int .u64 (IntKind.u64.wrap (U 7+(Sh.mixI (U 4) 14 18 41))):=hd.1 rfl
      have e93:f 93=.int .u64 (bits .xor .u64 (bits .and .u64 (U 4) (U 5)) (bits .and .u64 (Sh.notI (U 4)) (U 6))):=hd.2.1 rfl
      clear hd
      simp only [e83,e93] at hK
      have hK:=Lib.hid hK
      go_wp2
      exact hK.out _ _ rfl (.refl _ _) nof
     refine steps2_cons ?_ ?_
     ·as_aux_lemma =>
      intro f w1 hb hd Q hK
      clear hd
      have hK:=Lib.hid hK
      go_wp2
      exact hK.out _ _ rfl (.refl _ _) nof
     refine steps2_cons ?_ ?_
     ·as_aux_lemma =>
      intro f w1 hb hd Q hK
      have e95:f 95=.int .i64 (t:Int):=hd.1 rfl
      clear hd
      simp only [e95] at hK
      have hK:=Lib.hid hK
      go_wp2
      exact hK.out _ _ rfl (.refl _ _) nof
     refine steps2_cons ?_ ?_
     ·as_aux_lemma =>
      intro f w1 hb hd Q hK
      have e96:f 96=.pointer (some ⟨3,t,none⟩):=hd.1 rfl
      clear hd
      simp only [e96] at hK
      have hK:=Lib.hid hK
      have c0:=(hb.cell (p:=⟨3,t,none⟩) lt3').trans yk
      go_wp2
      exact hK.out _ _ rfl (.refl _ _) nof
     refine steps2_cons ?_ ?_
     ·as_aux_lemma =>
      intro f w1 hb hd Q hK
      have e94:f 94=.int .u64 (IntKind.u64.wrap ((IntKind.u64.wrap (U 7+(Sh.mixI (U 4) 14 18 41)))+(bits .xor .u64 (bits .and .u64 (U 4) (U 5)) (bits .and .u64 (Sh.notI (U 4)) (U 6))))):=hd.1 rfl
      have e97:f 97=.int .u64 (Sh.kI t):=hd.2.1 rfl
      clear hd
      simp only [e94,e97] at hK
      have hK:=Lib.hid hK
      go_wp2
      exact hK.out _ _ rfl (.refl _ _) nof
     refine steps2_cons ?_ ?_
     ·as_aux_lemma =>
      intro f w1 hb hd Q hK
      clear hd
      have hK:=Lib.hid hK
      go_wp2
      exact hK.out _ _ rfl (.refl _ _) nof
     refine steps2_cons ?_ ?_
     ·as_aux_lemma =>
      intro f w1 hb hd Q hK
      have e98:f 98=.int .u64 (IntKind.u64.wrap ((IntKind.u64.wrap ((IntKind.u64.wrap (U 7+(Sh.mixI (U 4) 14 18 41)))+(bits .xor .u64 (bits .and .u64 (U 4) (U 5)) (bits .and .u64 (Sh.notI (U 4)) (U 6)))))+Sh.kI t)):=hd.1 rfl
      have e99:f 99=.int .u64 sx:=hd.2.1 rfl
      clear hd
      simp only [e98,e99] at hK
      have hK:=Lib.hid hK
      go_wp2
      exact hK.out _ _ rfl (.refl _ _) nof
     trivial
    intro f7 w3 hb hf hne
    have d100:f7 100=.int .u64 (Sh.oneI U (Sh.kI t) sx):=hf 21 _ _ (by decide) rfl rfl
    clear hf hne
    have hb3:=Lib.hid (hb2.out.trans (hb.mono hb2.out.size))
    have hV3:=Lib.hid (hV2.below hb)
    clear hb hb2 hV2 y1 y2 y5 y6 y7 yk hS2
    simp only [d100]
    clear d100
    go_wp2_with fail
    refine at_world (fun W4 hW=>?_)
    have hV4:Blk W4 GV 378 (wA 8 U):=by rw [hW];exact hV3.out
    have hb4:=Lib.hid (show Below wr.heap.size wr W4 by rw [hW];exact hb3.out)
    clear hW hV3 hb3 lt3' ltV
    have ltV:=hV4.lt
    have y1:=wcell hV4 1 (by decide)
    have y2:=wcell hV4 2 (by decide)
    refine wp_region_grow2 18 (fun k=>(Nat.ble 101 k&&Nat.ble k 118)) _ [] (fun j x' q=>(r18L U GV).getD j (fun _ _=>True) x' q) (fun _=>false) (fun f=>#[_,_,_,_,_,_,_,_,.pointer (some ⟨GV,0,none⟩),.int .i64 (t:Int),.int .u64 sx,.int .u64 (U 0),.int .u64 (U 4),.int .u64 (Sh.oneI U (Sh.kI t) sx),_,_,_,_,_,_,_,_,_,_,_,_,_,_,_,_,_,_,_,_,_,_,_,_,_,_,_,_,_,_,_,_,_,_,_,_,_,_,_,_,_,_,_,_,_,_,_,_,_,_,_,_,_,_,_,_,_,_,_,_,_,_,_,_,_,_,_,_,_,_,_,_,_,_,_,_,_,_,_,_,_,_,_,_,_,_,_,f 101,f 102,f 103,f 104,f 105,f 106,f 107,f 108,f 109,f 110,f 111,f 112,f 113,f 114,f 115,f 116,f 117,f 118,_,_,_,_,_,_,_,_,_,_,_,_,_,_,_,_,_,_,_,_,_,_,_,_,_,_,_,_]) (fun f=>rfl) (by kernel_rfl) (by kernel_rfl) (by kernel_rfl) (by kernel_rfl) (by kernel_rfl) (r18S _ _) (fun _ _ _ h=>by cases h) ?_ ?_
    ·refine steps2_cons ?_ ?_
     ·as_aux_lemma =>
      intro f w1 hb hd Q hK
      clear hd
      have hK:=Lib.hid hK
      go_wp2
      exact hK.out _ _ rfl (.refl _ _) nof
     refine steps2_cons ?_ ?_
     ·as_aux_lemma =>
      intro f w1 hb hd Q hK
      have e101:f 101=.int .u64 (U 0):=hd.1 rfl
      clear hd
      simp only [e101] at hK
      have hK:=Lib.hid hK
      go_wp2_with fail
      refine (hX2.out _ _).mono ?_
      rintro e w2 ⟨rfl,hb2⟩
      go_wp2
      exact hK.out _ _ rfl hb2 nof
     refine steps2_cons ?_ ?_
     ·as_aux_lemma =>
      intro f w1 hb hd Q hK
      clear hd
      have hK:=Lib.hid hK
      go_wp2
      exact hK.out _ _ rfl (.refl _ _) nof
     refine steps2_cons ?_ ?_
     ·as_aux_lemma =>
      intro f w1 hb hd Q hK
      clear hd
      have hK:=Lib.hid hK
      go_wp2
      exact hK.out _ _ rfl (.refl _ _) nof
     refine steps2_cons ?_ ?_
     ·as_aux_lemma =>
      intro f w1 hb hd Q hK
      have e104:f 104=.pointer (some ⟨GV,1,none⟩):=hd.1 rfl
      clear hd
      simp only [e104] at hK
      have hK:=Lib.hid hK
      have c0:=(hb.cell (p:=⟨GV,1,none⟩) ltV).trans y1
      go_wp2
      exact hK.out _ _ rfl (.refl _ _) nof
     refine steps2_cons ?_ ?_
     ·as_aux_lemma =>
      intro f w1 hb hd Q hK
      have e103:f 103=.int .u64 (U 0):=hd.1 rfl
      have e105:f 105=.int .u64 (U 1):=hd.2.1 rfl
      clear hd
      simp only [e103,e105] at hK
      have hK:=Lib.hid hK
      go_wp2
      exact hK.out _ _ rfl (.refl _ _) nof
     refine steps2_cons ?_ ?_
     ·as_aux_lemma =>
      intro f w1 hb hd Q hK
      clear hd
      have hK:=Lib.hid hK
      go_wp2
      exact hK.out _ _ rfl (.refl _ _) nof
     refine steps2_cons ?_ ?_
     ·as_aux_lemma =>
      intro f w1 hb hd Q hK
      clear hd
      have hK:=Lib.hid hK
      go_wp2
      exact hK.out _ _ rfl (.refl _ _) nof
     refine steps2_cons ?_ ?_
     ·as_aux_lemma =>
      intro f w1 hb hd Q hK
      have e108:f 108=.pointer (some ⟨GV,2,none⟩):=hd.1 rfl
      clear hd
      simp only [e108] at hK
      have hK:=Lib.hid hK
      have c0:=(hb.cell (p:=⟨GV,2,none⟩) ltV).trans y2
      go_wp2
      exact hK.out _ _ rfl (.refl _ _) nof
     refine steps2_cons ?_ ?_
     ·as_aux_lemma =>
      intro f w1 hb hd Q hK
      have e107:f 107=.int .u64 (U 0):=hd.1 rfl
      have e109:f 109=.int .u64 (U 2):=hd.2.1 rfl
      clear hd
      simp only [e107,e109] at hK
      have hK:=Lib.hid hK
      go_wp2
      exact hK.out _ _ rfl (.refl _ _) nof
     refine steps2_cons ?_ ?_
     ·as_aux_lemma =>
      intro f w1 hb hd Q hK
      have e106:f 106=.int .u64 (bits .and .u64 (U 0) (U 1)):=hd.1 rfl
      have e110:f 110=.int .u64 (bits .and .u64 (U 0) (U 2)):=hd.2.1 rfl
      clear hd
      simp only [e106,e110] at hK
      have hK:=Lib.hid hK
      go_wp2
      exact hK.out _ _ rfl (.refl _ _) nof
     refine steps2_cons ?_ ?_
     ·as_aux_lemma =>
      intro f w1 hb hd Q hK
      clear hd
      have hK:=Lib.hid hK
      go_wp2
      exact hK.out _ _ rfl (.refl _ _) nof
     refine steps2_cons ?_ ?_
     ·as_aux_lemma =>
      intro f w1 hb hd Q hK
      have e112:f 112=.pointer (some ⟨GV,1,none⟩):=hd.1 rfl
      clear hd
      simp only [e112] at hK
      have hK:=Lib.hid hK
      have c0:=(hb.cell (p:=⟨GV,1,none⟩) ltV).trans y1
      go_wp2
      exact hK.out _ _ rfl (.refl _ _) nof
     refine steps2_cons ?_ ?_
     ·as_aux_lemma =>
      intro f w1 hb hd Q hK
      clear hd
      have hK:=Lib.hid hK
      go_wp2
      exact hK.out _ _ rfl (.refl _ _) nof
     refine steps2_cons ?_ ?_
     ·as_aux_lemma =>
      intro f w1 hb hd Q hK
      have e114:f 114=.pointer (some ⟨GV,2,none⟩):=hd.1 rfl
      clear hd
      simp only [e114] at hK
      have hK:=Lib.hid hK
      have c0:=(hb.cell (p:=⟨GV,2,none⟩) ltV).trans y2
      go_wp2
      exact hK.out _ _ rfl (.refl _ _) nof
     refine steps2_cons ?_ ?_
     ·as_aux_lemma =>
      intro f w1 hb hd Q hK
      have e113:f 113=.int .u64 (U 1):=hd.1 rfl
      have e115:f 115=.int .u64 (U 2):=hd.2.1 rfl
      clear hd
      simp only [e113,e115] at hK
      have hK:=Lib.hid hK
      go_wp2
      exact hK.out _ _ rfl (.refl _ _) nof
     refine steps2_cons ?_ ?_
     ·as_aux_lemma =>
      intro f w1 hb hd Q hK
      have e111:f 111=.int .u64 (bits .xor .u64 (bits .and .u64 (U 0) (U 1)) (bits .and .u64 (U 0) (U 2))):=hd.1 rfl
      have e116:f 116=.int .u64 (bits .and .u64 (U 1) (U 2)):=hd.2.1 rfl
      clear hd
      simp only [e111,e116] at hK
      have hK:=Lib.hid hK
      go_wp2
      exact hK.out _ _ rfl (.refl _ _) nof
     refine steps2_cons ?_ ?_
     ·as_aux_lemma =>
      intro f w1 hb hd Q hK
      have e102:f 102=.int .u64 (Sh.mixI (U 0) 28 34 39):=hd.1 rfl
      have e117:f 117=.int .u64 (bits .xor .u64 (bits .xor .u64 (bits .and .u64 (U 0) (U 1)) (bits .and .u64 (U 0) (U 2))) (bits .and .u64 (U 1) (U 2))):=hd.2.1 rfl
      clear hd
      simp only [e102,e117] at hK
      have hK:=Lib.hid hK
      go_wp2
      exact hK.out _ _ rfl (.refl _ _) nof
     trivial
    intro f8 w5 hb hf hne
    have d118:f8 118=.int .u64 (Sh.twoI U):=hf 17 _ _ (by decide) rfl rfl
    clear hf hne
    have hb5:=Lib.hid (hb4.out.trans (hb.mono hb4.out.size))
    have hV5:=Lib.hid (hV4.below hb)
    clear hb hb4 hV4 y1 y2 ltV
    simp only [d118]
    clear d118
    have hcp:=run_cpW w5.drew 3 U (show Blk w5.drew GV 378 (wA 8 U) from hV5.out)
    go_wp2_with fail
    go_region
    clear hcp
    obtain ⟨W6,hW⟩:∃ w',w'=w5.drew.setRow GV (wA 8 (fun j=>if j=0 then U 0 else U (j-1))):=⟨_,rfl⟩
    rw [← hW]
    have hV6:Blk W6 GV 378 (wA 8 (fun j=>if j=0 then U 0 else U (j-1))):=by rw [hW];exact setRow_heap w5.drew GV _ _ _ _ hV5.out
    have hg6:wr.grownBy W6 (some GV):=by rw [hW];exact Lib.grownBy_trans (b2g hb5.out) (grown_setRowd w5 GV _)
    clear hW hV5 hb5
    have z4:=wcell hV6 4 (by decide)
    have z0:=wcell hV6 0 (by decide)
    simp only [Nat.reduceSub,if_false,if_true,show ¬ (4:Nat)=0 by decide] at z4 z0
    have fV:=fun j=>hV6.frozen j
    have hVn:=wset (wset hV6 0 (IntKind.u64.wrap (Sh.oneI U (Sh.kI t) sx+Sh.twoI U))) 4 (IntKind.u64.wrap (U 3+Sh.oneI U (Sh.kI t) sx))
    rw [wA_congr (F':=Sh.rndI U (Sh.kI t) sx) (fun j hj=>by
     unfold Sh.rndI Sh.updI
     by_cases e4:j=4
     ·subst e4;rfl
     rw [if_neg e4]
     by_cases e0:j=0
     ·rw [if_pos e0,if_pos e0]
     rw [if_neg e0,if_neg e0,if_neg e4];dsimp only;rw [if_neg e0])] at hVn
    have hgn:=grown_cell (grown_cell hg6 0 (.int .u64 (IntKind.u64.wrap (Sh.oneI U (Sh.kI t) sx+Sh.twoI U)))) 4 (.int .u64 (IntKind.u64.wrap (U 3+Sh.oneI U (Sh.kI t) sx)))
    replace hVn:=Lib.hid hVn
    replace hgn:=Lib.hid hgn
    clear hV6 hg6
    go_wp2
    exact ⟨⟨t+1,by omega,by simp,by rw [hrn.out];exact hVn.out,hH2.out.grown hgn.out (fun e=>nVH (by injection e)),(hb1.out.grown hgn.out hb1.out.size (fun k e=>by injection e with e;omega))⟩,by simp [intOf];omega⟩
  have ht0:(0:Int)≤(t:Int):=by omega
  have ht1:(t:Int)<80:=by omega
  by_cases h16:t<16
  ·have ht2:(t:Int)<16:=by omega
   have hs1:IntKind.i64.wrap (8*(t:Int))=8*(t:Int):=IntWalk.i64_in _ (by omega)
   have hcx:¬ (c=8*t):=by omega
   have hc8:(8*(t:Int))+8≤(c:Int):=by omega
   have hlen:8*t+8-8*t=8:=by omega
   have hM0:=Lib.hid (show Blk wr GM 418 (wA 80 (Sh.updI (Sh.schI b t) t (Sh.wordI b t 0))) by
    rw [← wA_congr (F:=Sh.schI b t) (fun i _=>?_)]
    ·exact hM
    unfold Sh.updI
    by_cases e:i=t
    ·subst e;rw [if_pos rfl,Sh.schI_zero b i i (Nat.le_refl _)];rfl
    rw [if_neg e])
   clear hM
   go_wp2_with fail
   clear hlen
   go_loopw [29] (fun q wr=>∃ i:Nat,i≤8∧q=.int .i64 i∧Blk wr GM 418 (wA 80 (Sh.updI (Sh.schI b t) t (Sh.wordI b t i)))∧Below w.heap.size w wr) (fun q _=>(8-intOf q).toNat)
   case atStart=>exact ⟨0,by omega,rfl,hM0.out,hb0⟩
   case round =>
    clear hM0 hb0
    obtain ⟨i,hi,he,hM,hb0⟩:=hrel
    subst he
    by_cases h8:i=8
    ·subst h8
     rw [show ((8:Nat):Int)=8 from rfl]
     have hM2:=Lib.hid (show Blk _ GM 418 (wA 80 (Sh.schI b (t+1))) by
      show Blk _ GM _ (wA 80 (Sh.updI (Sh.schI b t) t (if t<16 then Sh.wordI b t 8 else Sh.nxtI (Sh.schI b t) t)))
      rw [if_pos h16]
      exact hM)
     clear hM
     go_wp2
     exact ⟨⟨t+1,by omega,by simp,hM2.out,hb0⟩,by simp [intOf];omega⟩
    have hi0:(0:Int)≤(i:Int):=by omega
    have hi1:(i:Int)<8:=by omega
    have x1:=hcc.out _ hb0 (8*t+i) (by omega)
    rw [← Nat.add_assoc] at x1
    have x2:=wcell hM t (by omega)
    have e0:Sh.updI (Sh.schI b t) t (Sh.wordI b t i) t=Sh.wordI b t i:=by unfold Sh.updI;rw [if_pos rfl]
    rw [e0] at x2
    have fM:=fun j=>hM.frozen j
    have hM2:=wset hM t (Sh.wordI b t (i+1))
    rw [show Sh.updI (Sh.updI (Sh.schI b t) t (Sh.wordI b t i)) t (Sh.wordI b t (i+1))=Sh.updI (Sh.schI b t) t (Sh.wordI b t (i+1)) from funext fun j=>by unfold Sh.updI;by_cases e:j=t;(rw [if_pos e,if_pos e]);rw [if_neg e,if_neg e,if_neg e]] at hM2
    have hb2:=hb0.setCell (p:=⟨GM,t,none⟩) loM (.int .u64 (Sh.wordI b t (i+1)))
    replace hM2:=Lib.hid hM2
    replace hb2:=Lib.hid hb2
    have hw:bits .or .u64 (IntKind.u64.wrap (Sh.wordI b t i*256)) (b (8*t+i))=Sh.wordI b t (i+1):=rfl
    have hby:IntKind.u64.wrap (b (8*t+i))=b (8*t+i):=u64_small (hr.out _).1 (by have:=(hr.out (8*t+i)).2;omega)
    clear hM hb0 e0
    go_wp2
    exact ⟨⟨i+1,by omega,by simp,hM2.out,hb2.out⟩,by simp [intOf];omega⟩
  have ht2:(16:Int)≤(t:Int):=by omega
  have htl:¬ (t:Int)<16:=by omega
  have ltM:=hM.lt
  have y1:=wcell hM (t-2) (by omega)
  have y2:=wcell hM (t-7) (by omega)
  have y3:=wcell hM (t-15) (by omega)
  have y4:=wcell hM (t-16) (by omega)
  have fM:=fun j=>hM.frozen j
  have hsc:∀ W x,Blk W GM 418 (wA 80 (Sh.updI (Sh.schI b t) t x))→x=Sh.nxtI (Sh.schI b t) t→Blk W GM 418 (wA 80 (Sh.schI b (t+1))):=fun W x h e=>by
   show Blk _ GM _ (wA 80 (Sh.updI (Sh.schI b t) t (if t<16 then Sh.wordI b t 8 else Sh.nxtI (Sh.schI b t) t)))
   rw [if_neg h16,← e]
   exact h
  have hnx:IntKind.u64.wrap (IntKind.u64.wrap (IntKind.u64.wrap (Sh.smlI (Sh.schI b t (t-2)) 19 61 6+Sh.schI b t (t-7))+Sh.smlI (Sh.schI b t (t-15)) 1 8 7)+Sh.schI b t (t-16))=Sh.nxtI (Sh.schI b t) t:=rfl
  have hMh:=Lib.hid hM
  have hbh:=Lib.hid hb0
  replace hsc:=Lib.hid hsc
  replace hnx:=Lib.hid hnx
  clear hM hb0
  have a2:IntKind.i64.wrap ((t:Int)-2)=(t:Int)-2:=IntWalk.i64_in _ (by omega)
  have b2:(0:Int)≤(t:Int)-2:=by omega
  have c2:(t:Int)-2<80:=by omega
  have d2:((t:Int)-2).toNat=t-2:=by omega
  have a7:IntKind.i64.wrap ((t:Int)-7)=(t:Int)-7:=IntWalk.i64_in _ (by omega)
  have b7:(0:Int)≤(t:Int)-7:=by omega
  have c7:(t:Int)-7<80:=by omega
  have d7:((t:Int)-7).toNat=t-7:=by omega
  have a15:IntKind.i64.wrap ((t:Int)-15)=(t:Int)-15:=IntWalk.i64_in _ (by omega)
  have b15:(0:Int)≤(t:Int)-15:=by omega
  have c15:(t:Int)-15<80:=by omega
  have d15:((t:Int)-15).toNat=t-15:=by omega
  have a16:IntKind.i64.wrap ((t:Int)-16)=(t:Int)-16:=IntWalk.i64_in _ (by omega)
  have b16:(0:Int)≤(t:Int)-16:=by omega
  have c16:(t:Int)-16<80:=by omega
  have d16:((t:Int)-16).toNat=t-16:=by omega
  generalize Sh.schI b t=F at *
  go_wp2_with fail
  have hb1:=Below.refl wr.heap.size wr
  refine wp_region_grow2 23 (fun k=>(Nat.ble 43 k&&Nat.ble k 65)) _ [] (fun j x' q=>(scL F t GM).getD j (fun _ _=>True) x' q) (fun _=>false) (fun f=>#[_,_,_,_,.pointer (some ⟨GM,0,none⟩),.int .i64 (t:Int),_,_,_,_,_,_,_,_,_,_,_,_,_,_,_,_,_,_,_,_,_,_,_,_,_,_,_,_,_,_,_,_,_,_,_,_,_,f 43,f 44,f 45,f 46,f 47,f 48,f 49,f 50,f 51,f 52,f 53,f 54,f 55,f 56,f 57,f 58,f 59,f 60,f 61,f 62,f 63,f 64,f 65,_,_,_,_,_,_,_,_,_,_,_,_,_,_,_,_,_,_,_,_,_,_,_,_,_,_,_,_,_,_,_,_,_,_,_,_,_,_,_,_,_,_,_,_,_,_,_,_,_,_,_,_,_,_,_,_,_,_,_,_,_,_,_,_,_,_,_,_,_,_,_,_,_,_,_,_,_,_,_,_,_]) (fun f=>rfl) (by kernel_rfl) (by kernel_rfl) (by kernel_rfl) (by kernel_rfl) (by kernel_rfl) (scS _ _ _) (fun _ _ _ h=>by cases h) ?_ ?_
  ·refine steps2_cons ?_ ?_
   ·as_aux_lemma =>
    intro f w1 hb hd Q hK
    clear hd
    have hK:=Lib.hid hK
    go_wp2
    exact hK.out _ _ rfl (.refl _ _) nof
   refine steps2_cons ?_ ?_
   ·as_aux_lemma =>
    intro f w1 hb hd Q hK
    clear hd
    have hK:=Lib.hid hK
    go_wp2
    exact hK.out _ _ rfl (.refl _ _) nof
   refine steps2_cons ?_ ?_
   ·as_aux_lemma =>
    intro f w1 hb hd Q hK
    have e44:f 44=.int .i64 (t:Int):=hd.1 rfl
    clear hd
    simp only [e44] at hK
    have hK:=Lib.hid hK
    go_wp2
    exact hK.out _ _ rfl (.refl _ _) nof
   refine steps2_cons ?_ ?_
   ·as_aux_lemma =>
    intro f w1 hb hd Q hK
    have e45:f 45=.int .i64 ((t:Int)-2):=hd.1 rfl
    clear hd
    simp only [e45] at hK
    have hK:=Lib.hid hK
    go_wp2
    exact hK.out _ _ rfl (.refl _ _) nof
   refine steps2_cons ?_ ?_
   ·as_aux_lemma =>
    intro f w1 hb hd Q hK
    have e46:f 46=.pointer (some ⟨GM,t-2,none⟩):=hd.1 rfl
    clear hd
    simp only [e46] at hK
    have hK:=Lib.hid hK
    have c0:=(hb.cell (p:=⟨GM,t-2,none⟩) ltM).trans y1
    go_wp2
    exact hK.out _ _ rfl (.refl _ _) nof
   refine steps2_cons ?_ ?_
   ·as_aux_lemma =>
    intro f w1 hb hd Q hK
    have e47:f 47=.int .u64 (F (t-2)):=hd.1 rfl
    clear hd
    simp only [e47] at hK
    have hK:=Lib.hid hK
    go_wp2_with fail
    refine (hS1.out _ _).mono ?_
    rintro e w2 ⟨rfl,hb2⟩
    go_wp2
    exact hK.out _ _ rfl hb2 nof
   refine steps2_cons ?_ ?_
   ·as_aux_lemma =>
    intro f w1 hb hd Q hK
    clear hd
    have hK:=Lib.hid hK
    go_wp2
    exact hK.out _ _ rfl (.refl _ _) nof
   refine steps2_cons ?_ ?_
   ·as_aux_lemma =>
    intro f w1 hb hd Q hK
    have e49:f 49=.int .i64 (t:Int):=hd.1 rfl
    clear hd
    simp only [e49] at hK
    have hK:=Lib.hid hK
    go_wp2
    exact hK.out _ _ rfl (.refl _ _) nof
   refine steps2_cons ?_ ?_
   ·as_aux_lemma =>
    intro f w1 hb hd Q hK
    have e50:f 50=.int .i64 ((t:Int)-7):=hd.1 rfl
    clear hd
    simp only [e50] at hK
    have hK:=Lib.hid hK
    go_wp2
    exact hK.out _ _ rfl (.refl _ _) nof
   refine steps2_cons ?_ ?_
   ·as_aux_lemma =>
    intro f w1 hb hd Q hK
    have e51:f 51=.pointer (some ⟨GM,t-7,none⟩):=hd.1 rfl
    clear hd
    simp only [e51] at hK
    have hK:=Lib.hid hK
    have c0:=(hb.cell (p:=⟨GM,t-7,none⟩) ltM).trans y2
    go_wp2
    exact hK.out _ _ rfl (.refl _ _) nof
   refine steps2_cons ?_ ?_
   ·as_aux_lemma =>
    intro f w1 hb hd Q hK
    have e48:f 48=.int .u64 (Sh.smlI (F (t-2)) 19 61 6):=hd.1 rfl
    have e52:f 52=.int .u64 (F (t-7)):=hd.2.1 rfl
    clear hd
    simp only [e48,e52] at hK
    have hK:=Lib.hid hK
    go_wp2
    exact hK.out _ _ rfl (.refl _ _) nof
   refine steps2_cons ?_ ?_
   ·as_aux_lemma =>
    intro f w1 hb hd Q hK
    clear hd
    have hK:=Lib.hid hK
    go_wp2
    exact hK.out _ _ rfl (.refl _ _) nof
   refine steps2_cons ?_ ?_
   ·as_aux_lemma =>
    intro f w1 hb hd Q hK
    have e54:f 54=.int .i64 (t:Int):=hd.1 rfl
    clear hd
    simp only [e54] at hK
    have hK:=Lib.hid hK
    go_wp2
    exact hK.out _ _ rfl (.refl _ _) nof
   refine steps2_cons ?_ ?_
   ·as_aux_lemma =>
    intro f w1 hb hd Q hK
    have e55:f 55=.int .i64 ((t:Int)-15):=hd.1 rfl
    clear hd
    simp only [e55] at hK
    have hK:=Lib.hid hK
    go_wp2
    exact hK.out _ _ rfl (.refl _ _) nof
   refine steps2_cons ?_ ?_
   ·as_aux_lemma =>
    intro f w1 hb hd Q hK
    have e56:f 56=.pointer (some ⟨GM,t-15,none⟩):=hd.1 rfl
    clear hd
    simp only [e56] at hK
    have hK:=Lib.hid hK
    have c0:=(hb.cell (p:=⟨GM,t-15,none⟩) ltM).trans y3
    go_wp2
    exact hK.out _ _ rfl (.refl _ _) nof
   refine steps2_cons ?_ ?_
   ·as_aux_lemma =>
    intro f w1 hb hd Q hK
    have e57:f 57=.int .u64 (F (t-15)):=hd.1 rfl
    clear hd
    simp only [e57] at hK
    have hK:=Lib.hid hK
    go_wp2_with fail
    refine (hS2.out _ _).mono ?_
    rintro e w2 ⟨rfl,hb2⟩
    go_wp2
    exact hK.out _ _ rfl hb2 nof
   refine steps2_cons ?_ ?_
   ·as_aux_lemma =>
    intro f w1 hb hd Q hK
    have e53:f 53=.int .u64 (IntKind.u64.wrap ((Sh.smlI (F (t-2)) 19 61 6)+F (t-7))):=hd.1 rfl
    have e58:f 58=.int .u64 (Sh.smlI (F (t-15)) 1 8 7):=hd.2.1 rfl
    clear hd
    simp only [e53,e58] at hK
    have hK:=Lib.hid hK
    go_wp2
    exact hK.out _ _ rfl (.refl _ _) nof
   refine steps2_cons ?_ ?_
   ·as_aux_lemma =>
    intro f w1 hb hd Q hK
    clear hd
    have hK:=Lib.hid hK
    go_wp2
    exact hK.out _ _ rfl (.refl _ _) nof
   refine steps2_cons ?_ ?_
   ·as_aux_lemma =>
    intro f w1 hb hd Q hK
    have e60:f 60=.int .i64 (t:Int):=hd.1 rfl
    clear hd
    simp only [e60] at hK
    have hK:=Lib.hid hK
    go_wp2
    exact hK.out _ _ rfl (.refl _ _) nof
   refine steps2_cons ?_ ?_
   ·as_aux_lemma =>
    intro f w1 hb hd Q hK
    have e61:f 61=.int .i64 ((t:Int)-16):=hd.1 rfl
    clear hd
    simp only [e61] at hK
    have hK:=Lib.hid hK
    go_wp2
    exact hK.out _ _ rfl (.refl _ _) nof
   refine steps2_cons ?_ ?_
   ·as_aux_lemma =>
    intro f w1 hb hd Q hK
    have e62:f 62=.pointer (some ⟨GM,t-16,none⟩):=hd.1 rfl
    clear hd
    simp only [e62] at hK
    have hK:=Lib.hid hK
    have c0:=(hb.cell (p:=⟨GM,t-16,none⟩) ltM).trans y4
    go_wp2
    exact hK.out _ _ rfl (.refl _ _) nof
   refine steps2_cons ?_ ?_
   ·as_aux_lemma =>
    intro f w1 hb hd Q hK
    have e59:f 59=.int .u64 (IntKind.u64.wrap ((IntKind.u64.wrap ((Sh.smlI (F (t-2)) 19 61 6)+F (t-7)))+(Sh.smlI (F (t-15)) 1 8 7))):=hd.1 rfl
    have e63:f 63=.int .u64 (F (t-16)):=hd.2.1 rfl
    clear hd
    simp only [e59,e63] at hK
    have hK:=Lib.hid hK
    go_wp2
    exact hK.out _ _ rfl (.refl _ _) nof
   refine steps2_cons ?_ ?_
   ·as_aux_lemma =>
    intro f w1 hb hd Q hK
    have e43:f 43=.int .i64 (t:Int):=hd.1 rfl
    clear hd
    simp only [e43] at hK
    have hK:=Lib.hid hK
    go_wp2
    exact hK.out _ _ rfl (.refl _ _) nof
   trivial
  intro f w1 hb hf hne
  have d64:f 64=.int .u64 (IntKind.u64.wrap ((IntKind.u64.wrap ((IntKind.u64.wrap ((Sh.smlI (F (t-2)) 19 61 6)+F (t-7)))+(Sh.smlI (F (t-15)) 1 8 7)))+F (t-16))):=hf 21 _ _ (by decide) rfl rfl
  have d65:f 65=.pointer (some ⟨GM,t,none⟩):=hf 22 _ _ (by decide) rfl rfl
  clear hf hne
  have hM1:=hMh.out.below hb
  have y0:=wcell hM1 t (by omega)
  have fM:=fun j=>hM1.frozen j
  have hM2:=Lib.hid (hsc.out _ _ (wset hM1 t (IntKind.u64.wrap ((IntKind.u64.wrap ((IntKind.u64.wrap ((Sh.smlI (F (t-2)) 19 61 6)+F (t-7)))+(Sh.smlI (F (t-15)) 1 8 7)))+F (t-16)))) hnx.out)
  have hb2:=Lib.hid ((hbh.out.trans (hb.mono hbh.out.size)).setCell (p:=⟨GM,t,none⟩) loM (.int .u64 (IntKind.u64.wrap ((IntKind.u64.wrap ((IntKind.u64.wrap ((Sh.smlI (F (t-2)) 19 61 6)+F (t-7)))+(Sh.smlI (F (t-15)) 1 8 7)))+F (t-16)))))
  clear hM1 hMh hbh hb
  simp only [d64,d65]
  go_wp2
  exact ⟨⟨t+1,by omega,by simp,hM2.out,hb2.out⟩,by simp [intOf];omega⟩
end Go.Proofs.YtnopjabcdloepaaGreatDoor
