/- Records and roots as data; memory that a ghost turns and memory that stays. -/
import Derived.Test.YtdgaoljobpneaaaJi
import Derived.Test.YtdgaoljobpneaaaDm
import Derived.Lib.ConvBytes
import Derived.Laws.BytesArg
namespace Go.Proofs.Ytdgaoljobpneaaa
open Go.RowKit
/-- w' is w but for the blocks S and new ones; S' are of S or new -/
structure Ext (S : List Nat) (w : World) (S' : List Nat) (w' : World) : Prop where
  os : w'.os = w.os
  tape : w'.tape = w.tape
  output : w'.output = w.output
  size : w.heap.size ≤ w'.heap.size
  block : ∀ k, k < w.heap.size → k ∉ S → w'.heap[k]? = w.heap[k]?
  sub : ∀ k, k ∈ S' → k ∈ S ∨ w.heap.size ≤ k
theorem Ext.of {S S' : List Nat} {w w' : World} (hb : Below w.heap.size w w') (hS : ∀ k, k ∈ S' → k ∈ S) : Ext S w S' w' := ⟨hb.os, hb.tape, hb.output, hb.size, fun k hk _ => hb.block k hk, fun k hk => .inl (hS k hk)⟩
theorem Ext.below {S : List Nat} {w w' : World} (hb : Below w.heap.size w w') : Ext S w S w' := .of hb fun _ h => h
theorem Ext.refl (S : List Nat) (w : World) : Ext S w S w := .below (Below.refl _ _)
theorem Ext.trans {S S' S'' : List Nat} {w w' w'' : World} (h : Ext S w S' w') (k : Ext S' w' S'' w'') : Ext S w S'' w'' :=
  ⟨k.os.trans h.os, k.tape.trans h.tape, k.output.trans h.output, Nat.le_trans h.size k.size, fun j hj hS => (k.block j (Nat.lt_of_lt_of_le hj h.size) (fun hs => (h.sub j hs).elim hS (fun h2 => by omega))).trans (h.block j hj hS),
    fun j hj => (k.sub j hj).elim (fun h2 => h.sub j h2) (fun h2 => .inr (Nat.le_trans h.size h2))⟩
theorem Ext.old {S S' : List Nat} {w w' : World} {B : Nat} (h : Ext S w S' w') (hB : B ≤ w.heap.size) (hS : ∀ k, k ∈ S → B ≤ k) : Below B w w' := ⟨h.os, h.tape, h.output, h.size, fun k hk => h.block k (by omega) (fun hs => by have := hS k hs; omega)⟩
theorem Ext.sub_ge {S S' : List Nat} {w w' : World} {B : Nat} (h : Ext S w S' w') (hB : B ≤ w.heap.size) (hS : ∀ k, k ∈ S → B ≤ k) : ∀ k, k ∈ S' → B ≤ k := fun k hk => (h.sub k hk).elim (hS k) (fun h2 => by omega)
/-- a block out of S stays, and stays out -/
theorem Ext.at {S S' : List Nat} {w w' : World} (h : Ext S w S' w') {g : Nat} (hg : g < w.heap.size) (hS : g ∉ S) : w'.heap[g]? = w.heap[g]? ∧ g ∉ S' ∧ g < w'.heap.size :=
  ⟨h.block g hg hS, fun hs => (h.sub g hs).elim hS (fun h2 => by omega), Nat.lt_of_lt_of_le hg h.size⟩
/-- cells that lie out of S -/
def RowF (S : List Nat) (w : World) (p : Option Addr) (m : Nat) (f : Nat → Value) : Prop := 0 < m → ∃ g o, p = some ⟨g, o, none⟩ ∧ g < w.heap.size ∧ g ∉ S ∧ ∀ j, j < m → w.cell? ⟨g, o + j, none⟩ = some (f j)
theorem RowF.row {S : List Nat} {w : World} {p : Option Addr} {m : Nat} {f : Nat → Value} (h : RowF S w p m f) : RowAt w p m f := fun hm => by
  obtain ⟨g, o, e, hg, _, hc⟩ := h hm
  exact ⟨g, o, e, hg, hc⟩
theorem RowF.ext {S S' : List Nat} {w w' : World} {p : Option Addr} {m : Nat} {f : Nat → Value} (h : RowF S w p m f) (hb : Ext S w S' w') : RowF S' w' p m f := fun hm => by
  obtain ⟨g, o, e, hg, hS, hc⟩ := h hm
  obtain ⟨h1, h2, h3⟩ := hb.at hg hS
  exact ⟨g, o, e, h3, h2, fun j hj => (World.cell?_of_block (w := w) (a := ⟨g, o + j, none⟩) h1).trans (hc j hj)⟩
theorem RowF.of_row {w : World} {p : Option Addr} {m : Nat} {f : Nat → Value} (h : RowAt w p m f) : RowF [] w p m f := fun hm => by
  obtain ⟨g, o, e, hg, hc⟩ := h hm
  exact ⟨g, o, e, hg, by simp, hc⟩
theorem RowF.low {S : List Nat} {w : World} {p : Option Addr} {m : Nat} {f : Nat → Value} {B : Nat} (h : RowAt w p m f) (hS : ∀ k, k ∈ S → B ≤ k) (hp : ∀ ad, p = some ad → ad.block < B) : RowF S w p m f := fun hm => by
  obtain ⟨g, o, e, hg, hc⟩ := h hm
  exact ⟨g, o, e, hg, fun hs => by have := hS g hs; have h3 : g < B := hp _ e; omega, hc⟩
def BF (S : List Nat) (w : World) (p : Option Addr) (xs : List Int) : Prop := RowF S w p xs.length (fun j => .int .u8 (xs.getD j 0))
def DF (S : List Nat) (w : World) (p : Option Addr) (n : Nat) (ds : List Int) : Prop := ds.length = 2 * n ∧ RowF S w p (2 * n) (fun j => .int .i64 (ds.getD j 0))
theorem BF.b {S : List Nat} {w : World} {p : Option Addr} {xs : List Int} (h : BF S w p xs) : BytesL w p xs := RowF.row h
theorem DF.d {S : List Nat} {w : World} {p : Option Addr} {n : Nat} {ds : List Int} (h : DF S w p n ds) : DotsL w p n ds := ⟨h.1, RowF.row h.2⟩
theorem BF.ext {S S' : List Nat} {w w' : World} {p : Option Addr} {xs : List Int} (h : BF S w p xs) (hb : Ext S w S' w') : BF S' w' p xs := RowF.ext h hb
theorem DF.ext {S S' : List Nat} {w w' : World} {p : Option Addr} {n : Nat} {ds : List Int} (h : DF S w p n ds) (hb : Ext S w S' w') : DF S' w' p n ds := ⟨h.1, RowF.ext h.2 hb⟩
/-- numbers of bytes -/
def BR (xs : List Int) : Prop := ∀ x ∈ xs, 0 ≤ x ∧ x < 256
structure RecD where
  k : ByteArray
  cl : Int
  sq : Int
  n : Nat
  ds : List Int
  gone : Bool
  vs : List Int
  ss : List Int
structure RootD where
  r : Int
  h : Int
  q : Int
  sum : List Int
  sig : List Int
/-- what is read of a record is in bounds -/
def RecD.ok (r : RecD) : Prop := r.n ≤ 100000 ∧ r.vs.length ≤ 100000 ∧ r.ss.length ≤ 100000 ∧ BR r.vs ∧ BR r.ss
def RootD.ok (r : RootD) : Prop := r.sum.length ≤ 100000 ∧ r.sig.length ≤ 100000 ∧ BR r.sum ∧ BR r.sig
def recV (r : RecD) (p1 : Option Addr) (c1 : Nat) (p2 : Option Addr) (c2 : Nat) (p3 : Option Addr) (c3 : Nat) : Value := .agg #[.string r.k, .int .i64 r.cl, .int .i64 r.sq, .slice p1 r.n c1, .bool r.gone, .slice p2 r.vs.length c2, .slice p3 r.ss.length c3]
def rootV (r : RootD) (p1 : Option Addr) (c1 : Nat) (p2 : Option Addr) (c2 : Nat) : Value := .agg #[.int .i64 r.r, .int .i64 r.h, .int .i64 r.q, .slice p1 r.sum.length c1, .slice p2 r.sig.length c2]
/-- a record that lies out of S -/
def RecF (S : List Nat) (w : World) (v : Value) (r : RecD) : Prop := ∃ p1 c1 p2 c2 p3 c3, v = recV r p1 c1 p2 c2 p3 c3 ∧ DF S w p1 r.n r.ds ∧ BF S w p2 r.vs ∧ BF S w p3 r.ss
def RootF (S : List Nat) (w : World) (v : Value) (r : RootD) : Prop := ∃ p1 c1 p2 c2, v = rootV r p1 c1 p2 c2 ∧ BF S w p1 r.sum ∧ BF S w p2 r.sig
theorem RecF.ext {S S' : List Nat} {w w' : World} {v : Value} {r : RecD} (h : RecF S w v r) (hb : Ext S w S' w') : RecF S' w' v r := by
  obtain ⟨p1, c1, p2, c2, p3, c3, e, h1, h2, h3⟩ := h
  exact ⟨p1, c1, p2, c2, p3, c3, e, h1.ext hb, h2.ext hb, h3.ext hb⟩
theorem RootF.ext {S S' : List Nat} {w w' : World} {v : Value} {r : RootD} (h : RootF S w v r) (hb : Ext S w S' w') : RootF S' w' v r := by
  obtain ⟨p1, c1, p2, c2, e, h1, h2⟩ := h
  exact ⟨p1, c1, p2, c2, e, h1.ext hb, h2.ext hb⟩
/-- the one block of a slice -/
def ob (p : Option Addr) : List Nat := match p with | none => [] | some a => [a.block]
/-- a record whose rows are of one's own, in the blocks bl -/
def RecO (B : Nat) (w : World) (v : Value) (r : RecD) (bl : List Nat) : Prop := ∃ p1 c1 p2 c2 p3 c3, v = recV r p1 c1 p2 c2 p3 c3 ∧ w.ownsRow B 86 2 (.slice p1 r.n c1) r.n (dotL r.ds) ∧ w.ownsRow B 5 1 (.slice p2 r.vs.length c2) r.vs.length (bL r.vs) ∧ w.ownsRow B 5 1 (.slice p3 r.ss.length c3) r.ss.length (bL r.ss) ∧ bl = ob p1 ++ ob p2 ++ ob p3
def RootO (B : Nat) (w : World) (v : Value) (r : RootD) (bl : List Nat) : Prop := ∃ p1 c1 p2 c2, v = rootV r p1 c1 p2 c2 ∧ w.ownsRow B 5 1 (.slice p1 r.sum.length c1) r.sum.length (bL r.sum) ∧ w.ownsRow B 5 1 (.slice p2 r.sig.length c2) r.sig.length (bL r.sig) ∧ bl = ob p1 ++ ob p2
theorem own_ext {S S' : List Nat} {w w' : World} {B : Nat} {e : TypeId} {size : Nat} {v : Value} {n : Nat} {xs : List Value} (h : w.ownsRow B e size v n xs) (hb : Ext S w S' w') (hS : ∀ g, v.ownBlock = some g → g ∉ S) : w'.ownsRow B e size v n xs := by
  refine ⟨h.1, h.2.imp id ?_⟩
  rintro ⟨g, cap, cur, rfl, h1, h2, h3⟩
  exact ⟨g, cap, cur, rfl, h1, (hb.block g (Array.getElem?_eq_some_iff.1 h2).1 (hS g rfl)).trans h2, h3⟩
theorem own_ob {w : World} {B : Nat} {e : TypeId} {size : Nat} {p : Option Addr} {m c n : Nat} {xs : List Value} (h : w.ownsRow B e size (.slice p m c) n xs) : ∀ g, g ∈ ob p → B ≤ g ∧ g < w.heap.size := by
  intro g hg
  rcases h.2 with ⟨e, _⟩ | ⟨g', cap, cur, e, h1, h2, h3⟩
  · injection e with e; subst e; simp [ob] at hg
  · injection e with e
    subst e
    have : g = g' := by simpa [ob] using hg
    subst this
    exact ⟨h1, (Array.getElem?_eq_some_iff.1 h2).1⟩
theorem ob_own {p : Option Addr} {m c g : Nat} (h : (Value.slice p m c).ownBlock = some g) : g ∈ ob p := by
  cases p with
  | none => simp [Value.ownBlock] at h
  | some a => simpa [ob, Value.ownBlock, eq_comm] using h
theorem own_BF {S : List Nat} {w : World} {B : Nat} {p : Option Addr} {c : Nat} {xs : List Int} (h : w.ownsRow B 5 1 (.slice p xs.length c) xs.length (bL xs)) (hS : ∀ g, g ∈ ob p → g ∉ S) : BF S w p xs := by
  rcases h.2 with ⟨e, e2⟩ | ⟨g, cap, cur, e, h1, h2, h3, h4, h5, h6⟩
  · exact fun hm => absurd hm (by omega)
  · injection e with e _ e3
    subst e e3
    refine fun _ => ⟨g, 0, rfl, (Array.getElem?_eq_some_iff.1 h2).1, hS g (by simp [ob]), fun j hj => ?_⟩
    rw [Nat.zero_add, h.cellAt j (by omega)]
    simp [bL, hj]
theorem own_DF {S : List Nat} {w : World} {B : Nat} {p : Option Addr} {n c : Nat} {ds : List Int} (h : w.ownsRow B 86 2 (.slice p n c) n (dotL ds)) (hS : ∀ g, g ∈ ob p → g ∉ S) : DF S w p n ds := by
  have hl : ds.length = 2 * n := by have := h.1; rw [dotL_len] at this; omega
  rcases h.2 with ⟨e, e2⟩ | ⟨g, cap, cur, e, h1, h2, h3, h4, h5, h6⟩
  · exact ⟨hl, fun hm => absurd hm (by omega)⟩
  · injection e with e _ e3
    subst e e3
    refine ⟨hl, fun _ => ⟨g, 0, rfl, (Array.getElem?_eq_some_iff.1 h2).1, hS g (by simp [ob]), fun j hj => ?_⟩⟩
    rw [Nat.zero_add, h.cellAt j (by omega)]
    have hj2 : j < ds.length := by omega
    simp [dotL, hj2]
theorem RecO.f {B : Nat} {w : World} {v : Value} {r : RecD} {bl S : List Nat} (h : RecO B w v r bl) (hS : ∀ g, g ∈ bl → g ∉ S) : RecF S w v r := by
  obtain ⟨p1, c1, p2, c2, p3, c3, e, h1, h2, h3, e2⟩ := h
  subst e2
  exact ⟨p1, c1, p2, c2, p3, c3, e, own_DF h1 (fun g hg => hS g (by simp [hg])), own_BF h2 (fun g hg => hS g (by simp [hg])), own_BF h3 (fun g hg => hS g (by simp [hg]))⟩
theorem RootO.f {B : Nat} {w : World} {v : Value} {r : RootD} {bl S : List Nat} (h : RootO B w v r bl) (hS : ∀ g, g ∈ bl → g ∉ S) : RootF S w v r := by
  obtain ⟨p1, c1, p2, c2, e, h1, h2, e2⟩ := h
  subst e2
  exact ⟨p1, c1, p2, c2, e, own_BF h1 (fun g hg => hS g (by simp [hg])), own_BF h2 (fun g hg => hS g (by simp [hg]))⟩
theorem RecO.range {B : Nat} {w : World} {v : Value} {r : RecD} {bl : List Nat} (h : RecO B w v r bl) : ∀ g, g ∈ bl → B ≤ g ∧ g < w.heap.size := by
  obtain ⟨p1, c1, p2, c2, p3, c3, e, h1, h2, h3, e2⟩ := h
  subst e2
  intro g hg
  simp only [List.mem_append] at hg
  rcases hg with (hg | hg) | hg
  · exact own_ob h1 g hg
  · exact own_ob h2 g hg
  · exact own_ob h3 g hg
theorem RootO.range {B : Nat} {w : World} {v : Value} {r : RootD} {bl : List Nat} (h : RootO B w v r bl) : ∀ g, g ∈ bl → B ≤ g ∧ g < w.heap.size := by
  obtain ⟨p1, c1, p2, c2, e, h1, h2, e2⟩ := h
  subst e2
  intro g hg
  simp only [List.mem_append] at hg
  rcases hg with hg | hg
  · exact own_ob h1 g hg
  · exact own_ob h2 g hg
theorem RecO.ext {B : Nat} {w w' : World} {v : Value} {r : RecD} {bl S S' : List Nat} (h : RecO B w v r bl) (hb : Ext S w S' w') (hS : ∀ g, g ∈ bl → g ∉ S) : RecO B w' v r bl := by
  obtain ⟨p1, c1, p2, c2, p3, c3, e, h1, h2, h3, e2⟩ := h
  subst e2
  exact ⟨p1, c1, p2, c2, p3, c3, e, own_ext h1 hb (fun g hg => hS g (by simp [ob_own hg])), own_ext h2 hb (fun g hg => hS g (by simp [ob_own hg])), own_ext h3 hb (fun g hg => hS g (by simp [ob_own hg])), rfl⟩
theorem RootO.ext {B : Nat} {w w' : World} {v : Value} {r : RootD} {bl S S' : List Nat} (h : RootO B w v r bl) (hb : Ext S w S' w') (hS : ∀ g, g ∈ bl → g ∉ S) : RootO B w' v r bl := by
  obtain ⟨p1, c1, p2, c2, e, h1, h2, e2⟩ := h
  subst e2
  exact ⟨p1, c1, p2, c2, e, own_ext h1 hb (fun g hg => hS g (by simp [ob_own hg])), own_ext h2 hb (fun g hg => hS g (by simp [ob_own hg])), rfl⟩
theorem RecO.mono {B B' : Nat} {w : World} {v : Value} {r : RecD} {bl : List Nat} (h : RecO B w v r bl) (hB : B' ≤ B) : RecO B' w v r bl := by
  obtain ⟨p1, c1, p2, c2, p3, c3, e, h1, h2, h3, e2⟩ := h
  exact ⟨p1, c1, p2, c2, p3, c3, e, own_mono h1 hB, own_mono h2 hB, own_mono h3 hB, e2⟩
theorem RootO.mono {B B' : Nat} {w : World} {v : Value} {r : RootD} {bl : List Nat} (h : RootO B w v r bl) (hB : B' ≤ B) : RootO B' w v r bl := by
  obtain ⟨p1, c1, p2, c2, e, h1, h2, e2⟩ := h
  exact ⟨p1, c1, p2, c2, e, own_mono h1 hB, own_mono h2 hB, e2⟩
end Go.Proofs.Ytdgaoljobpneaaa
