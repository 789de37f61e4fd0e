/- Plain mathematics of tallies. No program in sight. -/
import Derived.Test.YtcogndjfalomjaaDoorStMath
import Derived.Test.YtcogndjfalomjaaDoorRowIn
namespace Go.Proofs.YtcogndjfalomjaaDoor
open Go Go.RowKit
namespace St
structure Ans where
  t : Int
  j : Int
  d : ByteArray
  e : Int
structure Tal where
  ready : Int
  chunks : Int
  done : Int
  failed : Int
  refused : Int
  told : Int
  bytes : Int
  busy : Int
def tz : Tal := ⟨0, 0, 0, 0, 0, 0, 0, 0⟩
def step (T : Tal) (a : Ans) : Tal :=
  if a.t = 65 then ⟨T.ready + 1, T.chunks, T.done, T.failed, T.refused, T.told, T.bytes, T.busy⟩
  else if a.t = 66 then ⟨T.ready, T.chunks + 1, T.done, T.failed, T.refused, T.told, wrap64 (T.bytes + a.d.size), T.busy⟩
  else if a.t = 67 then ⟨T.ready, T.chunks, T.done + 1, T.failed, T.refused, T.told, T.bytes, T.busy⟩
  else if a.t = 68 then ⟨T.ready, T.chunks, T.done, T.failed + 1, T.refused, T.told, T.bytes, T.busy⟩
  else if a.t = 69 then ⟨T.ready, T.chunks, T.done, T.failed, T.refused + 1, T.told, T.bytes, if a.e = 34 then T.busy + 1 else T.busy⟩
  else if a.t = 70 then ⟨T.ready, T.chunks, T.done, T.failed, T.refused, T.told + 1, T.bytes, T.busy⟩
  else T
def count (l : List Ans) : Tal := l.foldl step tz
theorem count_take (l : List Ans) (k : Nat) (h : k < l.length) : count (l.take (k + 1)) = step (count (l.take k)) l[k] := by
  unfold count
  rw [List.take_add_one, List.getElem?_eq_getElem h, List.foldl_append]
  rfl
theorem count_all (l : List Ans) (k : Nat) (h : l.length ≤ k) : count (l.take k) = count l := by rw [List.take_of_length_le h]
/-- all counters lie between 0 and k, and the bytes are a number of 64 bits -/
structure Sm (T : Tal) (k : Int) : Prop where
  r : 0 ≤ T.ready ∧ T.ready ≤ k
  c : 0 ≤ T.chunks ∧ T.chunks ≤ k
  d : 0 ≤ T.done ∧ T.done ≤ k
  f : 0 ≤ T.failed ∧ T.failed ≤ k
  u : 0 ≤ T.refused ∧ T.refused ≤ k
  o : 0 ≤ T.told ∧ T.told ≤ k
  b : -9223372036854775808 ≤ T.bytes ∧ T.bytes ≤ 9223372036854775807
  y : 0 ≤ T.busy ∧ T.busy ≤ k
theorem wrap_in (x : Int) : -9223372036854775808 ≤ wrap64 x ∧ wrap64 x ≤ 9223372036854775807 := by unfold wrap64; omega
theorem step_sm {T : Tal} {k : Int} (h : Sm T k) (a : Ans) : Sm (step T a) (k + 1) := by
  obtain ⟨⟨_, _⟩, ⟨_, _⟩, ⟨_, _⟩, ⟨_, _⟩, ⟨_, _⟩, ⟨_, _⟩, ⟨_, _⟩, ⟨_, _⟩⟩ := h
  have := wrap_in (T.bytes + a.d.size)
  unfold step
  repeat' split
  all_goals
    constructor <;> (try simp only) <;> omega
theorem count_sm (l : List Ans) (k : Nat) (h : k ≤ l.length) : Sm (count (l.take k)) (k : Int) := by
  induction k with
  | zero =>
    have : Sm tz 0 := by constructor <;> decide
    exact this
  | succ k ih =>
    rw [count_take l k (by omega)]
    have := step_sm (ih (by omega)) l[k]
    rw [show ((k + 1 : Nat) : Int) = (k : Int) + 1 by omega]
    exact this
/-- both tallies, number by number -/
def add (T U : Tal) : Tal := ⟨T.ready + U.ready, T.chunks + U.chunks, T.done + U.done, T.failed + U.failed, T.refused + U.refused, T.told + U.told, wrap64 (T.bytes + U.bytes), T.busy + U.busy⟩
theorem step_add (T U : Tal) (a : Ans) : step (add T U) a = add T (step U a) := by
  have e : wrap64 (wrap64 (T.bytes + U.bytes) + a.d.size) = wrap64 (T.bytes + wrap64 (U.bytes + a.d.size)) := by unfold wrap64; omega
  unfold step
  repeat' split
  all_goals simp only [add, e, Int.add_assoc]
theorem foldl_add (T : Tal) : ∀ (l : List Ans) (U : Tal), l.foldl step (add T U) = add T (l.foldl step U)
  | [], _ => rfl
  | a :: l, U => by rw [List.foldl_cons, List.foldl_cons, step_add, foldl_add T l]
theorem count_app (a b : List Ans) : count (a ++ b) = add (count a) (count b) := by
  unfold count
  rw [List.foldl_append]
  have h := foldl_add (a.foldl step tz) b tz
  have hs := (count_sm a a.length (Nat.le_refl _)).b
  rw [count_all a _ (Nat.le_refl _)] at hs
  have e : add (a.foldl step tz) tz = a.foldl step tz := by
    unfold count at hs
    generalize a.foldl step tz = T at *
    obtain ⟨_, _, _, _, _, _, b, _⟩ := T
    simp only at hs
    have : wrap64 b = b := by unfold wrap64; omega
    simp [add, tz, this]
  rw [e] at h
  exact h
end St
/-- an answer's cells, and a tally's -/
def ancells (a : St.Ans) : List Value := [.int .i64 a.t, .int .i64 a.j, .string a.d, .int .i64 a.e]
def tlcells (T : St.Tal) : Array Value := #[.int .i64 T.ready, .int .i64 T.chunks, .int .i64 T.done, .int .i64 T.failed, .int .i64 T.refused, .int .i64 T.told, .int .i64 T.bytes, .int .i64 T.busy]
theorem ancells_len (l : List St.Ans) : (l.flatMap ancells).length = l.length * 4 := by
  induction l with
  | nil => rfl
  | cons f fs ih => simp [ancells, ih]; omega
/-- where an answer of a row lies -/
theorem RowS.ans {w : World} {a : Option Addr} {len cap : Nat} {l : List St.Ans} (h : RowS w 4 a len cap (l.flatMap ancells)) (k : Nat) (hk : k < len) (hl : l.length = len) :
    ∃ b off, a = some ⟨b, off, none⟩ ∧ b < w.heap.size ∧ w.cell? ⟨b, off + k * 4, none⟩ = some (.int .i64 (l[k]'(by omega)).t) ∧ w.cell? ⟨b, off + k * 4 + 1, none⟩ = some (.int .i64 (l[k]'(by omega)).j) ∧
      w.cell? ⟨b, off + k * 4 + 2, none⟩ = some (.string (l[k]'(by omega)).d) ∧ w.cell? ⟨b, off + k * 4 + 3, none⟩ = some (.int .i64 (l[k]'(by omega)).e) := by
  obtain ⟨b, off, ha, hb, hc⟩ := h.at k hk
  have g : ∀ j, j < 4 → (l.flatMap ancells).getD (k * 4 + j) undef = (ancells (l[k]'(by omega))).getD j undef := fun j hj => flat_get ancells 4 (fun _ => rfl) l k j (by omega) hj
  refine ⟨b, off, ha, hb, ?_, ?_, ?_, ?_⟩
  · have := hc 0 (by decide); rw [g 0 (by decide)] at this; exact this
  · have := hc 1 (by decide); rw [g 1 (by decide)] at this; rw [Nat.add_assoc]; exact this
  · have := hc 2 (by decide); rw [g 2 (by decide)] at this; rw [Nat.add_assoc]; exact this
  · have := hc 3 (by decide); rw [g 3 (by decide)] at this; rw [Nat.add_assoc]; exact this
theorem RowS.ans' {w : World} {a : Option Addr} {len cap : Nat} {l : List St.Ans} (h : RowS w 4 a len cap (l.flatMap ancells)) (k : Nat) (hk : k < len) (hl : k < l.length) :
    ∃ b off, a = some ⟨b, off, none⟩ ∧ b < w.heap.size ∧ w.cell? ⟨b, off + k * 4, none⟩ = some (.int .i64 l[k].t) ∧ w.cell? ⟨b, off + k * 4 + 1, none⟩ = some (.int .i64 l[k].j) ∧
      w.cell? ⟨b, off + k * 4 + 2, none⟩ = some (.string l[k].d) ∧ w.cell? ⟨b, off + k * 4 + 3, none⟩ = some (.int .i64 l[k].e) := by
  have e : l.length = len := by
    have := h.length
    rw [ancells_len] at this
    omega
  exact h.ans k hk e
end Go.Proofs.YtcogndjfalomjaaDoor
