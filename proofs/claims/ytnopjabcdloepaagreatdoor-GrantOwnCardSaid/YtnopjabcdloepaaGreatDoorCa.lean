import Derived.Test.YtnopjabcdloepaaGreatDoorYh
namespace Sh
open Go Go.Proofs.YtnopjabcdloepaaGreatDoor
def rotI (x:Int) (a:Nat):Int:=bits .or .u64 (IntKind.u64.wrap (x*2 ^ (64-a))) (x / 2 ^ (64-(64-a)))
def mixI (x:Int) (a b c:Nat):Int:=bits .xor .u64 (bits .xor .u64 (rotI x a) (rotI x b)) (rotI x c)
def smlI (x:Int) (a b s:Nat):Int:=bits .xor .u64 (bits .xor .u64 (rotI x a) (rotI x b)) (x / 2 ^ s)
end Sh
namespace Go.Proofs.YtnopjabcdloepaaGreatDoor
open Go.RowKit
theorem and63:∀ a:Fin 64,1≤a.val→bits .and .u64 (IntKind.u64.wrap (-(a.val:Int))) 63=((64-a.val:Nat):Int):=by decide +kernel
set_option maxRecDepth 20000 in
set_option maxHeartbeats 2000000 in
theorem rot_c (x:Int) (a:Nat) (h1:1≤a) (h2:a≤63) (w:World):Calls Tryz.prog 365 #[.int .u64 x,.int .i64 (-(a:Int))] w fun e w'=>e=.returned (.int .u64 (Sh.rotI x a))∧w=w':=by
 have h3:=and63 ⟨a,by omega⟩ h1
 dsimp only at h3
 obtain ⟨s,hs⟩:∃ s,64-a=s:=⟨_,rfl⟩
 unfold Sh.rotI
 rw [hs] at h3 ⊢
 have hs0:(0:Int)≤(s:Int):=by omega
 have hs1:(s:Int)≤63:=by omega
 clear hs h1 h2
 go_enter Tryz.func365,Tryz.ntmps365
 go_wp2
 go_returns
 exact ⟨rfl,rfl⟩
set_option maxRecDepth 20000 in
set_option maxHeartbeats 2000000 in
theorem mix_c (x:Int) (a b c:Nat) (ha:1≤a∧a≤63) (hb:1≤b∧b≤63) (hc:1≤c∧c≤63) (w:World):Calls Tryz.prog 350 #[.int .u64 x,.int .i64 a,.int .i64 b,.int .i64 c] w fun e w'=>e=.returned (.int .u64 (Sh.mixI x a b c))∧w=w':=by
 have r1:=Lib.hid (rot_c x a ha.1 ha.2)
 have r2:=Lib.hid (rot_c x b hb.1 hb.2)
 have r3:=Lib.hid (rot_c x c hc.1 hc.2)
 obtain ⟨a0,a1⟩:=ha
 obtain ⟨b0,b1⟩:=hb
 obtain ⟨c0,c1⟩:=hc
 have q1:(0:Int)≤(a:Int)∧(a:Int)≤63:=by omega
 have q2:(0:Int)≤(b:Int)∧(b:Int)≤63:=by omega
 have q3:(0:Int)≤(c:Int)∧(c:Int)≤63:=by omega
 obtain ⟨q11,q12⟩:=q1
 obtain ⟨q21,q22⟩:=q2
 obtain ⟨q31,q32⟩:=q3
 unfold Sh.mixI
 generalize Sh.rotI x a=A at *
 generalize Sh.rotI x b=B at *
 generalize Sh.rotI x c=C at *
 go_enter Tryz.func350,Tryz.ntmps350
 go_wp2_with fail
 refine (r1.out _).mono ?_
 rintro e w1 ⟨rfl,rfl⟩
 go_wp2_with fail
 refine (r2.out _).mono ?_
 rintro e w1 ⟨rfl,rfl⟩
 go_wp2_with fail
 refine (r3.out _).mono ?_
 rintro e w1 ⟨rfl,rfl⟩
 go_wp2
 go_returns
 exact ⟨rfl,rfl⟩
set_option maxRecDepth 20000 in
set_option maxHeartbeats 2000000 in
theorem sml_c (x:Int) (a b c:Nat) (ha:1≤a∧a≤63) (hb:1≤b∧b≤63) (hc:1≤c∧c≤63) (w:World):Calls Tryz.prog 349 #[.int .u64 x,.int .i64 a,.int .i64 b,.int .i64 c] w fun e w'=>e=.returned (.int .u64 (Sh.smlI x a b c))∧∃ n,w'=w.drewN n:=by
 obtain ⟨a0,a1⟩:=ha
 obtain ⟨b0,b1⟩:=hb
 obtain ⟨c0,c1⟩:=hc
 have q1:(0:Int)≤(a:Int)∧(a:Int)≤63:=by omega
 have q2:(0:Int)≤(b:Int)∧(b:Int)≤63:=by omega
 have q3:(0:Int)≤(c:Int)∧(c:Int)≤63:=by omega
 obtain ⟨q11,q12⟩:=q1
 obtain ⟨q21,q22⟩:=q2
 obtain ⟨q31,q32⟩:=q3
 unfold Sh.smlI
 go_enter Tryz.func349,Tryz.ntmps349
 go_wp2
 have r1:=Lib.hid (rot_c x a a0 a1)
 have r2:=Lib.hid (rot_c x b b0 b1)
 go_quiet ((first | (with_reducible exact Calls.quiet_of_same ((r1.out _).mono fun _ _ h=>⟨h.1,h.2.symm⟩)) | (with_reducible exact Calls.quiet_of_same ((r2.out _).mono fun _ _ h=>⟨h.1,h.2.symm⟩))))
 go_wp2
 go_returns
 exact ⟨rfl,nq,rfl⟩
end Go.Proofs.YtnopjabcdloepaaGreatDoor
