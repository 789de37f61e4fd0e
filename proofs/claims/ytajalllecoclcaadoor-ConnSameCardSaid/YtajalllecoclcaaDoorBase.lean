/- What a call may change: 'Chg S w w'': blocks of w outside the list S are as they were; blocks may have come. 'Has w b cs T': block b is just this row of cells. -/
import Derived.WalkKit
import Derived.Lib.Hide
import Derived.Deep.Draws
namespace Go.Proofs.YtajalllecoclcaaDoor
open Go.RowKit

/-- a byte as a value -/
def vB (c : UInt8) : Value := .int .u8 (c.toNat : Int)

structure Chg (S : List Nat) (w w' : World) : Prop where
  os : w'.os = w.os
  tape : w'.tape = w.tape
  output : w'.output = w.output
  size : w.heap.size ≤ w'.heap.size
  block : ∀ k, k < w.heap.size → k ∉ S → w'.heap[k]? = w.heap[k]?

theorem Chg.refl (S : List Nat) (w : World) : Chg S w w := ⟨rfl, rfl, rfl, Nat.le_refl _, fun _ _ _ => rfl⟩
theorem Chg.trans {S : List Nat} {a b c : World} (h : Chg S a b) (k : Chg S b c) : Chg S a c :=
  ⟨k.os.trans h.os, k.tape.trans h.tape, k.output.trans h.output, Nat.le_trans h.size k.size,
   fun i hi hn => (k.block i (Nat.lt_of_lt_of_le hi h.size) hn).trans (h.block i hi hn)⟩
theorem Chg.mono {S T : List Nat} {a b : World} (h : Chg S a b) (hs : ∀ k, k < a.heap.size → k ∈ S → k ∈ T) : Chg T a b :=
  ⟨h.os, h.tape, h.output, h.size, fun i hi hn => h.block i hi (fun hm => hn (hs i hi hm))⟩
theorem Chg.drew {S : List Nat} {a b : World} (h : Chg S a b) : Chg S a b.drew := ⟨h.os, h.tape, h.output, h.size, h.block⟩
theorem Chg.drewN {S : List Nat} {a b : World} (h : Chg S a b) (n : Nat) : Chg S a (b.drewN n) := ⟨h.os, h.tape, h.output, h.size, h.block⟩
theorem Chg.alloc {S : List Nat} {a b : World} (h : Chg S a b) (o : Obj) : Chg S a (b.alloc o) :=
  ⟨h.os, h.tape, h.output, by rw [World.size_alloc]; exact Nat.le_succ_of_le h.size,
   fun i hi hn => (Go.heap_alloc_old b o (Nat.lt_of_lt_of_le hi h.size)).trans (h.block i hi hn)⟩
theorem Chg.setCell {S : List Nat} {a b : World} (h : Chg S a b) (p : Addr) (v : Value) (hp : p.block ∈ S ∨ a.heap.size ≤ p.block) : Chg S a (b.setCell p v) :=
  ⟨h.os, h.tape, h.output, by rw [World.size_setCell]; exact h.size,
   fun i hi hn => (heap_setCell_other b p i v (fun e => by
      rcases hp with hp | hp
      · exact hn (e ▸ hp)
      · omega)).trans (h.block i hi hn)⟩
theorem Chg.below {w w' : World} {S : List Nat} (h : Chg S w w') {B : Nat} (hB : B ≤ w.heap.size) (hS : ∀ k ∈ S, B ≤ k) : Below B w w' :=
  ⟨h.os, h.tape, h.output, h.size, fun k hk => h.block k (Nat.lt_of_lt_of_le hk hB) (fun hm => absurd (hS k hm) (by omega))⟩
theorem below_chg {w w' : World} (h : Below w.heap.size w w') (S : List Nat) : Chg S w w' :=
  ⟨h.os, h.tape, h.output, h.size, fun k hk _ => h.block k hk⟩
theorem below_of_chg {B : Nat} {w w1 w2 : World} {S : List Nat} (h : Below B w w1) (hB : B ≤ w1.heap.size) (k : Chg S w1 w2) (hS : ∀ k ∈ S, B ≤ k) : Below B w w2 :=
  h.trans (k.below hB hS)

/-- block b is just this row of cells, not frozen -/
def Has (w : World) (b : Nat) (cs : Array Value) (T : TypeId) : Prop := w.heap[b]? = some (.cells cs T (0, 0))
theorem Has.cell {w : World} {b : Nat} {cs : Array Value} {T : TypeId} (h : Has w b cs T) (i : Nat) : w.cell? ⟨b, i, none⟩ = cs[i]? := cell_of_row w b i cs T _ h
theorem Has.free {w : World} {b : Nat} {cs : Array Value} {T : TypeId} (h : Has w b cs T) (i : Nat) : w.frozen? ⟨b, i, none⟩ = false := frozen_of_row w b i cs T h
theorem Has.lt {w : World} {b : Nat} {cs : Array Value} {T : TypeId} (h : Has w b cs T) : b < w.heap.size := by
  unfold Has at h
  exact (Array.getElem?_eq_some_iff.1 h).1
theorem Has.chg {w w' : World} {b : Nat} {cs : Array Value} {T : TypeId} {S : List Nat} (h : Has w b cs T) (k : Chg S w w') (hb : b ∉ S) : Has w' b cs T := (k.block b h.lt hb).trans h
theorem Has.below {w w' : World} {b B : Nat} {cs : Array Value} {T : TypeId} (h : Has w b cs T) (k : Below B w w') (hb : b < B) : Has w' b cs T := (k.block b hb).trans h
theorem Has.setCell {w : World} {b : Nat} {cs : Array Value} {T : TypeId} (h : Has w b cs T) (i : Nat) (v : Value) : Has (w.setCell ⟨b, i, none⟩ v) b (cs.setIfInBounds i v) T := heap_setCell_same w b i cs T v h
theorem Has.setCell_other {w : World} {b : Nat} {cs : Array Value} {T : TypeId} (h : Has w b cs T) (p : Addr) (v : Value) (hp : b ≠ p.block) : Has (w.setCell p v) b cs T := (heap_setCell_other w p b v hp).trans h
theorem Has.alloc {w : World} {b : Nat} {cs : Array Value} {T : TypeId} (h : Has w b cs T) (o : Obj) : Has (w.alloc o) b cs T := (Go.heap_alloc_old w o h.lt).trans h
theorem Has.drew {w : World} {b : Nat} {cs : Array Value} {T : TypeId} (h : Has w b cs T) : Has w.drew b cs T := h
theorem Has.drewN {w : World} {b : Nat} {cs : Array Value} {T : TypeId} (h : Has w b cs T) (n : Nat) : Has (w.drewN n) b cs T := h
theorem Has.new (w : World) (cs : Array Value) (T : TypeId) : Has (w.alloc (.cells cs T)) w.heap.size cs T := heap_alloc_new w _

/-- contracts turned round -/
theorem Calls.flip {P : Program} {f : FuncId} {args : Array Value} {w : World} {v : Value} (h : Calls P f args w fun e w' => e = .returned v ∧ w = w') :
    Calls P f args w fun e w' => e = .returned v ∧ w' = w := h.mono fun _ _ ⟨a, b⟩ => ⟨a, b.symm⟩
theorem Calls.flipN {P : Program} {f : FuncId} {args : Array Value} {w : World} {v : Value} (h : Calls P f args w fun e w' => e = .returned v ∧ w = w') :
    Calls P f args w fun e w' => e = .returned v ∧ ∃ n, w' = w.drewN n := h.mono fun _ _ ⟨a, b⟩ => ⟨a, 0, b.symm⟩
theorem ret_int {k : IntKind} {a b : Int} (h : a = b) : Ending.returned (.int k a) = .returned (.int k b) := by rw [h]
end Go.Proofs.YtajalllecoclcaaDoor
