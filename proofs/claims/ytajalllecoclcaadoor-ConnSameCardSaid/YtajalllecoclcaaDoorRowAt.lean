/- 'RowAt w a len cap vs': what a walk is told of a slice (a, len, cap) of one-cell elements: its elements read as vs. And: append of one element to a slice of the call's own. -/
import Derived.Test.YtajalllecoclcaaDoorBase
import Derived.ProofKit
import Derived.OpenShut
import Derived.SliceStrings
import Derived.Deep.AppendLies
import Derived.Maps.AppendAt
namespace Go.Proofs.YtajalllecoclcaaDoor
open Go.RowKit Go.ChangeShapes Go.WideShapes

structure RowAt (w : World) (a : Option Addr) (len cap : Nat) (vs : List Value) : Prop where
  le : len ≤ cap
  max : cap ≤ maxLen
  length : vs.length = len
  nil : a = none → len = 0 ∧ cap = 0
  cells : ∀ x, a = some x → 0 < len → ∃ b off, x = ⟨b, off, none⟩ ∧ ∀ i, i < len → w.cell? ⟨b, off + i, none⟩ = some (vs.getD i undef)

/-- either it is empty, or it leads to cells -/
theorem RowAt.cases {w : World} {a : Option Addr} {len cap : Nat} {vs : List Value} (h : RowAt w a len cap vs) :
    (len = 0 ∧ vs = []) ∨ ∃ b off, a = some ⟨b, off, none⟩ ∧ 0 < len ∧ b < w.heap.size ∧ ∀ i, i < len → w.cell? ⟨b, off + i, none⟩ = some (vs.getD i undef) := by
  by_cases hl : len = 0
  · left; exact ⟨hl, List.eq_nil_of_length_eq_zero (h.length.trans hl)⟩
  · right
    cases ha : a with
    | none => exact absurd (h.nil ha).1 hl
    | some x =>
      obtain ⟨b, off, rfl, hc⟩ := h.cells x ha (by omega)
      exact ⟨b, off, rfl, by omega, by have := Go.block_lt_of_cell (hc 0 (by omega)); simpa using this, hc⟩
/-- where element i lies -/
theorem RowAt.at {w : World} {a : Option Addr} {len cap : Nat} {vs : List Value} (h : RowAt w a len cap vs) (i : Nat) (hi : i < len) :
    ∃ b off, a = some ⟨b, off, none⟩ ∧ w.cell? ⟨b, off + i, none⟩ = some (vs.getD i undef) := by
  rcases h.cases with ⟨h0, _⟩ | ⟨b, off, ha, _, _, hc⟩
  · omega
  · exact ⟨b, off, ha, hc i hi⟩
theorem RowAt.chg {w w' : World} {a : Option Addr} {len cap : Nat} {vs : List Value} {S : List Nat} (h : RowAt w a len cap vs) (k : Chg S w w') (hS : ∀ x, a = some x → x.block ∉ S) : RowAt w' a len cap vs :=
  ⟨h.le, h.max, h.length, h.nil, fun x hx hl => by
    obtain ⟨b, off, rfl, hc⟩ := h.cells x hx hl
    refine ⟨b, off, rfl, fun i hi => ?_⟩
    have hb : b < w.heap.size := Go.block_lt_of_cell (hc 0 hl)
    rw [World.cell?_of_block (w := w) (w' := w') (a := ⟨b, off + i, none⟩) (k.block b hb (by simpa using hS _ hx))]
    exact hc i hi⟩
theorem RowAt.below {w w' : World} {a : Option Addr} {len cap : Nat} {vs : List Value} {B : Nat} (h : RowAt w a len cap vs) (k : Below B w w') (hB : ∀ x, a = some x → x.block < B) : RowAt w' a len cap vs :=
  ⟨h.le, h.max, h.length, h.nil, fun x hx hl => by
    obtain ⟨b, off, rfl, hc⟩ := h.cells x hx hl
    refine ⟨b, off, rfl, fun i hi => ?_⟩
    rw [k.cell (p := ⟨b, off + i, none⟩) (by simpa using hB _ hx)]
    exact hc i hi⟩
/-- a call changes nothing that was there: a row that was there stays -/
theorem RowAt.keep {w w' : World} {a : Option Addr} {len cap : Nat} {vs : List Value} (h : RowAt w a len cap vs) (k : Below w.heap.size w w') : RowAt w' a len cap vs :=
  ⟨h.le, h.max, h.length, h.nil, fun x hx hl => by
    obtain ⟨b, off, rfl, hc⟩ := h.cells x hx hl
    refine ⟨b, off, rfl, fun i hi => ?_⟩
    have hb : b < w.heap.size := Go.block_lt_of_cell (hc 0 hl)
    rw [k.cell (p := ⟨b, off + i, none⟩) (by simpa using hb)]
    exact hc i hi⟩

section
variable {H : Type} {enc : TypeId × Value → H} {P : Program} {w : World} {base : Nat} {spare : Nat → Bool} {held : Bool}
theorem add_spot {x : Addr} {v : Value} (h : w.cell? (x.add 0) = some v) : x = ⟨x.block, x.off, none⟩ := by
  have : x.add 0 = x := by simp [Addr.add]
  rw [this] at h
  have := World.cell?_spot h
  cases x; simp_all
theorem add_plain (b off i : Nat) : (⟨b, off, none⟩ : Addr).add i = ⟨b, off + i, none⟩ := by unfold Addr.add; split <;> simp_all
theorem rowAt_ints {t e : TypeId} {k : IntKind} {a : Option Addr} {len cap : Nat} {x : DataW H × List MemPlace} (ht : P.underlying t = some (.slice e)) (he : P.underlying e = some (.int k)) (hc : P.cellsOf e = 1)
    {fuel : Nat} (h : DataW.trod enc P w base spare held fuel t (Value.slice a len cap).cells.toList = some x) :
    ∃ zs : List Int, RowAt w a len cap (zs.map (Value.int k)) ∧ ∀ n ∈ zs, (Lit.int k n).wf = true := by
  rcases open_ints ht he hc h with ⟨hcs, _⟩ | ⟨y, l, c, zs, hcs, _, hl, hm, hz, _, hcell, hwz⟩
  · simp [Value.cells] at hcs
    obtain ⟨rfl, rfl, rfl⟩ := hcs
    exact ⟨[], ⟨Nat.le_refl _, by unfold maxLen; omega, rfl, (fun _ => ⟨rfl, rfl⟩), (fun y hy => nomatch hy)⟩, fun n hn => nomatch hn⟩
  · simp [Value.cells] at hcs
    obtain ⟨rfl, rfl, rfl⟩ := hcs
    have hlz : len ≤ zs.length := by rw [hz]; split <;> omega
    refine ⟨zs.take len, ⟨hl, hm, by simp; omega, (fun h => nomatch h), fun y' hy' hl0 => ?_⟩, fun n hn => hwz n (List.mem_of_mem_take hn)⟩
    cases hy'
    have h0 := add_spot (hcell 0 (by omega))
    refine ⟨y.block, y.off, h0, fun i hi => ?_⟩
    have h1 := hcell i (by omega)
    rw [h0, add_plain] at h1
    rw [h1]
    simp [hi, show i < zs.length by omega]
theorem rowAt_strs {t e : TypeId} {a : Option Addr} {len cap : Nat} {x : DataW H × List MemPlace} (ht : P.underlying t = some (.slice e)) (he : P.underlying e = some .string) (hc : P.cellsOf e = 1)
    {fuel : Nat} (h : DataW.trod enc P w base spare held fuel t (Value.slice a len cap).cells.toList = some x) :
    ∃ ss : List ByteArray, RowAt w a len cap (ss.map Value.string) ∧ ∀ s ∈ ss, s.size ≤ maxLen := by
  rcases open_strings ht he hc h with ⟨hcs, _⟩ | ⟨y, l, c, ss, hcs, _, hl, hm, hz, _, hcell, hws⟩
  · simp [Value.cells] at hcs
    obtain ⟨rfl, rfl, rfl⟩ := hcs
    exact ⟨[], ⟨Nat.le_refl _, by unfold maxLen; omega, rfl, (fun _ => ⟨rfl, rfl⟩), (fun y hy => nomatch hy)⟩, fun n hn => nomatch hn⟩
  · simp [Value.cells] at hcs
    obtain ⟨rfl, rfl, rfl⟩ := hcs
    have hlz : len ≤ ss.length := by rw [hz]; split <;> omega
    refine ⟨ss.take len, ⟨hl, hm, by simp; omega, (fun h => nomatch h), fun y' hy' hl0 => ?_⟩, fun n hn => hws n (List.mem_of_mem_take hn)⟩
    cases hy'
    have h0 := add_spot (hcell 0 (by omega))
    refine ⟨y.block, y.off, h0, fun i hi => ?_⟩
    have h1 := hcell i (by omega)
    rw [h0, add_plain] at h1
    rw [h1]
    simp [hi, show i < ss.length by omega]
end

theorem chg_grown {w w' : World} {row : Option Nat} (h : w.grownBy w' row) : Chg row.toList w w' :=
  ⟨h.os, h.tape, h.output, h.size, fun k hk hn => h.block k hk (fun e => hn (by rw [← e]; simp))⟩

/-- 'out = append(out, x)', out nil or the call's own, x of one cell: the walk has just laid x in a block of its own. -/
theorem append1 {P : Program} {T E : TypeId} {z : Value} {bytes : Nat} (hT : P.underlying T = some (.slice E)) (hinfo : (P.info? E).map (fun i => (i.zero, i.size, i.bytes)) = some (some z, 1, bytes)) (hz : z.cells.size = 1)
    {ops : Array Oper} {rest : List Oper} {o : Oper} {a : Act} {Q : Exit → Act → World → Prop} {w : World} (hgd : o.guard = none) (s x : Operand)
    (ho : o.op = .call { callee := .builtin .append, args := #[s, x], argTypes := #[T, T] })
    (B n : Nat) (v : Value) (xs : List Value) (hs : a.eval s = v) (hown : w.ownsRow B E 1 v n xs) (u : Value) (hu : u.oneCell' = true) (hx : a.eval x = .slice (some ⟨w.heap.size, 0, none⟩) 1 1)
    (hn : n + 1 ≤ maxLen) (hbytes : (n + 1) * bytes ≤ 140737488355328) (hB : B ≤ w.heap.size)
    (h : ∀ g cap w', w'.ownsRow B E 1 (.slice (some ⟨g, 0, none⟩) (n + 1) cap) (n + 1) (xs ++ [u]) → Chg v.ownBlock.toList w w' → Below B w w' → B ≤ g → g < w'.heap.size → (v.ownBlock = some g ∨ w.heap.size < g) →
      wpList P ops Q rest (a.put o.dst (.slice (some ⟨g, 0, none⟩) (n + 1) cap)) w') :
    wpList P ops Q (o :: rest) a (w.alloc (.cells #[u] E)) := by
  obtain ⟨i0, hi, hz0, hz1, hz2⟩ := info_parts hinfo
  refine wpList_append_lies _ hgd s x T ho B E i0 z 1 bytes hT hi hz0 hz1 hz2 hz (by decide) v n xs hs (hown.alloc _) ⟨w.heap.size, 0, none⟩ 1 1 [u] hx rfl (cell_one_new _ _ _)
    (by intro y hy; simp at hy; subst hy; exact hu) (by decide) hn hbytes (by simp; omega) (w.heap.size + 1) (by simp) ?_
  intro g cap w' h1 h2 h3 h4
  have hc := (Chg.refl v.ownBlock.toList w).alloc (.cells #[u] E)
  have hc2 := hc.trans (chg_grown h2)
  have hlt : ∀ k, v.ownBlock = some k → B ≤ k := fun k hk => (hown.lt k hk).1
  have hge : B ≤ g := by
    rcases h3 with h3 | h3
    · exact hlt g h3
    · omega
  exact h g cap w' h1 hc2 (hc2.below hB (fun k hk => by
    cases hv : v.ownBlock with
    | none => rw [hv] at hk; cases hk
    | some k' => rw [hv] at hk; simp at hk; subst hk; exact hlt k hv)) hge h4 (h3.imp id (by omega))
/-- what the call's own slice reads as -/
theorem rowAt_owns {w : World} {B : Nat} {E : TypeId} {v : Value} {n : Nat} {xs : List Value} (h : w.ownsRow B E 1 v n xs) : ∃ a cap, v = .slice a n cap ∧ RowAt w a n cap xs ∧ ∀ x, a = some x → B ≤ x.block ∧ x.block < w.heap.size := by
  obtain ⟨hl, h⟩ := h
  rcases h with ⟨rfl, rfl⟩ | ⟨g, cap, cur, rfl, hB, hg, hn, hm, hs, ht⟩
  · exact ⟨none, 0, rfl, ⟨Nat.le_refl _, by unfold maxLen; omega, by simpa using hl, (fun _ => ⟨rfl, rfl⟩), (fun y hy => nomatch hy)⟩, (fun y hy => nomatch hy)⟩
  · refine ⟨some ⟨g, 0, none⟩, cap, rfl, ⟨hn, hm, by simpa using hl, (fun h => nomatch h), fun x hx _ => ?_⟩, fun x hx => ?_⟩
    · cases hx
      refine ⟨g, 0, rfl, fun i hi => ?_⟩
      rw [Nat.zero_add, cell_of_row _ _ _ _ _ _ hg, ← ht]
      have hi2 : i < cur.size := by omega
      rw [Array.getElem?_eq_getElem hi2]
      have : (cur.toList.take (n * 1)).getD i undef = cur[i] := by
        rw [List.getD_eq_getElem?_getD, List.getElem?_take, if_pos (by omega), List.getElem?_eq_getElem (by simpa using hi2)]
        simp
      rw [this]
    · cases hx
      exact ⟨hB, (Array.getElem?_eq_some_iff.1 hg).1⟩

section
variable {H : Type} {enc : TypeId × Value → H} {P : Program} {w : World}
/-- an array of integers, by value -/
theorem arr_ints {base : Nat} {spare : Nat → Bool} {held : Bool} {r : Reach} {b0 : Nat} {t e : TypeId} {k : IntKind} {n : Nat} {v : Value} {d : DataW H} {ps : List MemPlace} (ht : P.underlying t = some (.array n e)) (he : P.underlying e = some (.int k)) (hc : P.cellsOf e = 1)
    (hct : P.cellsOf t = n) (hok : Value.okWide P w r b0 t v) (h : DataW.Trod enc P w base spare held t v d ps) :
    ∃ zs : List Int, v = .agg (zs.map (Value.int k)).toArray ∧ zs.length = n ∧ ∀ z ∈ zs, (Lit.int k z).wf = true := by
  unfold Value.okWide at hok
  rw [ht] at hok
  obtain ⟨cs, rfl, hsz, _⟩ := hok
  obtain ⟨fuel, hf⟩ := h
  obtain ⟨xs, m, _, _, _, hxl, hx⟩ := DataW.trod_array ht hf
  have key : ∀ i, i < n → ∃ z, cs.toList[i]? = some (Value.int k z) ∧ (Lit.int k z).wf = true := fun i hi => by
    have h1 := hx i hi
    rw [List.getElem?_eq_getElem (by omega), hc, Nat.mul_one] at h1
    obtain ⟨z, hz, _, hw⟩ := DataW.trod_int he h1
    refine ⟨z, ?_, hw⟩
    have h2 := congrArg (·[0]?) hz
    simpa [Value.cells] using h2
  refine ⟨cs.toList.map fun | .int _ z => z | _ => 0, ?_, by simp; omega, ?_⟩
  · have : cs.toList = (cs.toList.map fun | .int _ z => z | _ => 0).map (Value.int k) := by
      apply List.ext_getElem?
      intro i
      by_cases hi : i < n
      · obtain ⟨z, hz, _⟩ := key i hi
        simp only [List.getElem?_map, hz, Option.map_some]
      · rw [List.getElem?_eq_none (by simp; omega), List.getElem?_eq_none (by simp; omega)]
    rw [← this]
  · intro z hz
    obtain ⟨v, hv, rfl⟩ := List.mem_map.1 hz
    obtain ⟨i, hi⟩ := List.mem_iff_getElem?.1 hv
    have hin : i < n := by
      have := (List.getElem?_eq_some_iff.1 hi).1
      simp at this; omega
    obtain ⟨z', hz', hw⟩ := key i hin
    rw [hi] at hz'; cases hz'
    exact hw
end

theorem ownsRow_keep {w w' : World} {B : Nat} {E : TypeId} {k : Nat} {v : Value} {n : Nat} {xs : List Value} (h : w.ownsRow B E k v n xs) (hb : Below w.heap.size w w') : w'.ownsRow B E k v n xs := by
  refine h.kept (row := none) ⟨hb.os, hb.tape, hb.output, hb.size, fun i hi _ => hb.block i hi⟩ ?_
  cases hv : v.ownBlock with
  | none => exact .inl rfl
  | some g => exact .inr (fun e => nomatch e)
theorem ownsRow_chg {w w' : World} {B : Nat} {E : TypeId} {k : Nat} {v : Value} {n : Nat} {xs : List Value} {S : List Nat} (h : w.ownsRow B E k v n xs) (hb : Chg S w w') (hS : ∀ g, v.ownBlock = some g → g ∉ S) : w'.ownsRow B E k v n xs := by
  obtain ⟨hl, h⟩ := h
  refine ⟨hl, ?_⟩
  rcases h with ⟨rfl, rfl⟩ | ⟨g, cap, cur, rfl, hB, hg, hn, hm, hs, ht⟩
  · exact .inl ⟨rfl, rfl⟩
  · exact .inr ⟨g, cap, cur, rfl, hB, (hb.block g (Array.getElem?_eq_some_iff.1 hg).1 (hS g rfl)).trans hg, hn, hm, hs, ht⟩
/-- 'string(b)', b a row of bytes -/
theorem convert_row {P : Program} {w : World} {src e dst : TypeId} (hs : P.underlying src = some (.slice e)) (he : P.underlying e = some (.int .u8)) (hd : P.underlying dst = some .string) {a : Option Addr} {len cap : Nat} {bs : List UInt8} (h : RowAt w a len cap (bs.map vB)) :
    (convert src dst (.slice a len cap)).run P w = .ok (.string ⟨bs.toArray⟩) w := by
  have hl : bs.length = len := by simpa using h.length
  cases ha : a with
  | none =>
    obtain ⟨h0, h1⟩ := h.nil ha
    have : bs = [] := List.eq_nil_of_length_eq_zero (hl.trans h0)
    subst this
    rw [run_convert_bytes_nil (P := P) w src e hs he len cap dst hd]
    rfl
  | some x =>
    by_cases h0 : len = 0
    · have : bs = [] := List.eq_nil_of_length_eq_zero (hl.trans h0)
      subst this
      subst h0
      rw [run_convert_bytes_string w src dst e _ 0 cap hs he hd, run_bytesToString w x 0 cap [] (by simp [loadCells, loadCellsFrom])]
      rfl
    · obtain ⟨b, off, hx, hc⟩ := h.cells x ha (by omega)
      subst hx
      have := run_convert_bytes_arg (P := P) w src e hs he b off len cap (bs.map fun c => (c.toNat : Int)) (by simpa using hl) (fun i hi => by
        rw [hc i hi]
        have : i < bs.length := by omega
        simp [vB, this]) dst hd
      rw [this]
      congr 2
      simp [strOfNums, Function.comp_def]
end Go.Proofs.YtajalllecoclcaaDoor
