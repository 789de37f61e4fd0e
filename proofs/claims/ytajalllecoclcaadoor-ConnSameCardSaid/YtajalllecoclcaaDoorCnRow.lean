/- Connections in memory: the rows of acts, the map of marks, the connection itself. -/
import Derived.Test.YtajalllecoclcaaDoorCnMath
import Derived.Test.YtajalllecoclcaaDoorTnRow
import Derived.Test.YtajalllecoclcaaDoorTokWalk1
import Derived.Maps.OwnSet
namespace Go.Proofs.YtajalllecoclcaaDoor
open Go.RowKit Go.ChangeShapes Go.WideShapes Go.Deep
set_option linter.unusedVariables false

/-- an act as a value, in the program and in the reference -/
def actV (x : Cn.Act) : Value := .agg #[.int .i64 x.what, .int .i64 x.job, .int .i64 x.ten, .int .i64 x.kind, .int .i64 x.lev, .int .i64 x.n, .string x.txt, .int .i64 x.err]
def accells (x : Cn.Act) : List Value := [.int .i64 x.what, .int .i64 x.job, .int .i64 x.ten, .int .i64 x.kind, .int .i64 x.lev, .int .i64 x.n, .string x.txt, .int .i64 x.err]
def cfcells (f : Fr.Frm) : List Value := [.int .i64 f.t, .int .i64 f.j, .string f.d]
theorem accells_one (l : List Cn.Act) : ∀ y ∈ l.flatMap accells, y.oneCell' = true := by
  intro y hy
  rw [List.mem_flatMap] at hy
  obtain ⟨x, _, hx⟩ := hy
  simp only [accells, List.mem_cons, List.not_mem_nil, or_false] at hx
  rcases hx with rfl | rfl | rfl | rfl | rfl | rfl | rfl | rfl <;> rfl
/-- where an act of a row lies -/
theorem RowS.act {w : World} {a : Option Addr} {len cap : Nat} {l : List Cn.Act} (h : RowS w 8 a len cap (l.flatMap accells)) (k : Nat) (hk : k < len) (hkl : k < l.length) :
    ∃ b off, a = some ⟨b, off, none⟩ ∧ b < w.heap.size ∧ w.cell? ⟨b, off + k * 8, none⟩ = some (.int .i64 l[k].what) ∧ w.cell? ⟨b, off + k * 8 + 1, none⟩ = some (.int .i64 l[k].job) ∧
      w.cell? ⟨b, off + k * 8 + 2, none⟩ = some (.int .i64 l[k].ten) ∧ w.cell? ⟨b, off + k * 8 + 3, none⟩ = some (.int .i64 l[k].kind) ∧ w.cell? ⟨b, off + k * 8 + 4, none⟩ = some (.int .i64 l[k].lev) ∧
      w.cell? ⟨b, off + k * 8 + 5, none⟩ = some (.int .i64 l[k].n) ∧ w.cell? ⟨b, off + k * 8 + 6, none⟩ = some (.string l[k].txt) ∧ w.cell? ⟨b, off + k * 8 + 7, none⟩ = some (.int .i64 l[k].err) := by
  obtain ⟨b, off, ha, hb, hc⟩ := h.at k hk
  have g : ∀ j, j < 8 → (l.flatMap accells).getD (k * 8 + j) undef = (accells l[k]).getD j undef := fun j hj => flat_get accells 8 (fun _ => rfl) l k j hkl hj
  refine ⟨b, off, ha, hb, ?_, ?_, ?_, ?_, ?_, ?_, ?_, ?_⟩
  · have := hc 0 (by decide); rw [g 0 (by decide)] at this; exact this
  · have := hc 1 (by decide); rw [g 1 (by decide)] at this; rw [Nat.add_assoc]; exact this
  · have := hc 2 (by decide); rw [g 2 (by decide)] at this; rw [Nat.add_assoc]; exact this
  · have := hc 3 (by decide); rw [g 3 (by decide)] at this; rw [Nat.add_assoc]; exact this
  · have := hc 4 (by decide); rw [g 4 (by decide)] at this; rw [Nat.add_assoc]; exact this
  · have := hc 5 (by decide); rw [g 5 (by decide)] at this; rw [Nat.add_assoc]; exact this
  · have := hc 6 (by decide); rw [g 6 (by decide)] at this; rw [Nat.add_assoc]; exact this
  · have := hc 7 (by decide); rw [g 7 (by decide)] at this; rw [Nat.add_assoc]; exact this
/-- where a frame of a row lies -/
theorem RowS.frm {w : World} {a : Option Addr} {len cap : Nat} {l : List Fr.Frm} (h : RowS w 3 a len cap (l.flatMap cfcells)) (k : Nat) (hk : k < len) (hkl : k < l.length) :
    ∃ b off, a = some ⟨b, off, none⟩ ∧ b < w.heap.size ∧ w.cell? ⟨b, off + k * 3, none⟩ = some (.int .i64 l[k].t) ∧ w.cell? ⟨b, off + k * 3 + 1, none⟩ = some (.int .i64 l[k].j) ∧ w.cell? ⟨b, off + k * 3 + 2, none⟩ = some (.string l[k].d) := by
  obtain ⟨b, off, ha, hb, hc⟩ := h.at k hk
  have g : ∀ j, j < 3 → (l.flatMap cfcells).getD (k * 3 + j) undef = (cfcells l[k]).getD j undef := fun j hj => flat_get cfcells 3 (fun _ => rfl) l k j hkl hj
  refine ⟨b, off, ha, hb, ?_, ?_, ?_⟩
  · have := hc 0 (by decide); rw [g 0 (by decide)] at this; exact this
  · have := hc 1 (by decide); rw [g 1 (by decide)] at this; rw [Nat.add_assoc]; exact this
  · have := hc 2 (by decide); rw [g 2 (by decide)] at this; rw [Nat.add_assoc]; exact this
/-- a whole number of 64 bits -/
def I64 (j : Int) : Prop := (Lit.int .i64 j).wf = true
section
variable {H : Type} {enc : TypeId × Value → H} {w : World} {base : Nat} {spare : Nat → Bool} {held : Bool}
theorem frm_in {a : Option Addr} {len cap : Nat} {d : DataW H} {q : List MemPlace} (h0 : DataW.Trod enc Tryd.prog w base spare held 22 (Value.slice a len cap) d q) :
    ∃ l : List Fr.Frm, l.length = len ∧ RowS w 3 a len cap (l.flatMap cfcells) ∧ ∀ x ∈ l, I64 x.j ∧ x.d.size ≤ maxLen := by
  obtain ⟨fuel, h⟩ := h0
  obtain ⟨vs, hr, hg⟩ := rowS_in [FK.i .i64, FK.i .i64, FK.s] Tryd.underlying22 Tryd.underlying42 (by kernel_rfl) (by kernel_rfl) (fun j k hk => by
    match j, hk with
    | 0, hk => cases hk; exact ⟨_, rfl, Tryd.underlying3⟩
    | 1, hk => cases hk; exact ⟨_, rfl, Tryd.underlying3⟩
    | 2, hk => cases hk; exact ⟨_, rfl, Tryd.underlying9⟩) (by decide) h
  have hr' : RowS w 3 a len cap vs := hr
  obtain ⟨l, h1, h2, h3⟩ := rows_of cfcells (fun x => I64 x.j ∧ x.d.size ≤ maxLen) 3 (fun _ => rfl) len vs hr'.length (fun i hi => by
    obtain ⟨c0, hc0, _⟩ := hg i hi 0 _ rfl
    obtain ⟨c1, hc1, hz1⟩ := hg i hi 1 _ rfl
    obtain ⟨c2, hc2, hz2⟩ := hg i hi 2 _ rfl
    refine ⟨⟨c0, c1, c2⟩, ⟨hz1, hz2⟩, fun j hj => ?_⟩
    match j, hj with
    | 0, _ => exact hc0
    | 1, _ => exact hc1
    | 2, _ => exact hc2)
  subst h2
  exact ⟨l, h1, hr', h3⟩
end
/-! the map of marks -/
theorem law_int : Maps.Keyed Tryd.prog 3 := Maps.int_keyed Tryd.underlying3
theorem zero_mark (w : World) : (zeroValue 83).run Tryd.prog w = .ok (.int .i64 0) w := by kernel_rfl
theorem ownsMap_tight {H : Type} {P : Program} {k : TypeId} {R : Value → Option (DataW H × List MemPlace)} {w : World} {b n : Nat} {D : DataW H} (h : w.ownsMap P k R b n D) : w.ownsMap P k R b (Maps.size D) D := by
  obtain ⟨es, clock, hb, F, hs, rfl⟩ := h
  refine ⟨es, clock, hb, F, ?_, rfl⟩
  rw [Maps.size_eq, length_sorted]
  simp
structure MapD (w : World) (m : Nat) (L : List Cn.Act) (D : DataW Nat) : Prop where
  own : w.ownsMap Tryd.prog 3 (plainElem Tryd.prog 83) m (Cn.opened L) D
  key : ∀ j, I64 j → D.atKey (.int .i64 j) (.lit (.int .i64 0)) = .lit (.int .i64 (Cn.mark L j))
  has : ∀ j, I64 j → Maps.has D (.int .i64 j) = Cn.had L 3 j
  size : Maps.size D = Cn.opened L
def MapAt (w : World) (m : Nat) (L : List Cn.Act) : Prop := ∃ D, MapD w m L D
theorem MapAt.lt {w : World} {m : Nat} {L : List Cn.Act} (h : MapAt w m L) : m < w.heap.size := by
  obtain ⟨D, h⟩ := h
  exact h.own.lt
theorem MapAt.chg {w w' : World} {m : Nat} {L : List Cn.Act} {S : List Nat} (h : MapAt w m L) (k : Chg S w w') (hm : m ∉ S) : MapAt w' m L := by
  obtain ⟨D, h⟩ := h
  obtain ⟨es, clock, hb, r⟩ := h.own
  exact ⟨D, ⟨es, clock, (k.block m (Array.getElem?_eq_some_iff.1 hb).1 hm).trans hb, r⟩, h.key, h.has, h.size⟩
theorem MapAt.same {w : World} {m : Nat} {L L' : List Cn.Act} (h : MapAt w m L) (h1 : ∀ j, Cn.mark L' j = Cn.mark L j) (h3 : ∀ j, Cn.had L' 3 j = Cn.had L 3 j) (ho : Cn.opened L' = Cn.opened L) : MapAt w m L' := by
  obtain ⟨D, h⟩ := h
  exact ⟨D, ho.symm ▸ h.own, fun j hj => by rw [h1]; exact h.key j hj, fun j hj => by rw [h3]; exact h.has j hj, by rw [ho]; exact h.size⟩
theorem MapAt.look {w : World} {m : Nat} {L : List Cn.Act} (h : MapAt w m L) (j : Int) (hj : I64 j) : (Instr.lookup 65 (.map (some m)) (.int .i64 j) false).run Tryd.prog w = .ok (.int .i64 (Cn.mark L j)) w := by
  obtain ⟨D, h⟩ := h
  obtain ⟨c, hrun, hat, _⟩ := h.own.lookup_int law_int Tryd.underlying65 Tryd.underlying83 (zero_mark _) (Maps.keyOf_int_mk Tryd.underlying3 hj)
  rw [h.key j hj] at hat
  simp only [DataW.lit.injEq, Lit.int.injEq, true_and] at hat
  rw [hat]
  exact hrun
theorem MapAt.len {w : World} {m : Nat} {L : List Cn.Act} (h : MapAt w m L) (ty : TypeId) : (Builtin.len_ #[65] ty #[.map (some m)]).run Tryd.prog w = .ok (.int .i64 (Cn.opened L)) w := by
  obtain ⟨D, h⟩ := h
  rw [h.own.len Tryd.underlying65 ty, h.size]
theorem MapAt.made (w : World) : MapAt (w.alloc (.map #[] 0)) w.heap.size [] := by
  refine ⟨.map [], World.ownsMap_made _ _ _ _, fun j hj => ?_, fun j hj => ?_, rfl⟩
  · rfl
  · rfl
/-- m[j] = v: where a list of acts L' is known of which this is the mark -/
theorem MapAt.store {w : World} {m : Nat} {L L' : List Cn.Act} (h : MapAt w m L) (j v : Int) (hj : I64 j) (hv : I64 v) (hn : Cn.opened L < maxLen)
    (h3 : Cn.had L' 3 j = true) (hm : Cn.mark L' j = v) (ho : ∀ i, i ≠ j → Cn.mark L' i = Cn.mark L i ∧ Cn.had L' 3 i = Cn.had L 3 i) (hs : Cn.opened L' = if Cn.had L 3 j = true then Cn.opened L else Cn.opened L + 1) :
    ∃ w', (Instr.mapUpdate 65 (.map (some m)) (.int .i64 j) (.int .i64 v)).run Tryd.prog w = .ok () w' ∧ MapAt w' m L' ∧ Chg [m] w w' := by
  obtain ⟨D, h⟩ := h
  have hkey := Maps.keyOf_int_mk Tryd.underlying3 hj
  obtain ⟨w', hrun, hown, hgr⟩ := h.own.update law_int Tryd.underlying65 hn hkey (plainElem_int Tryd.underlying83 hv)
  have hlit : ∀ i, WideAt.IsKeyLit (.int .i64 i) := fun i => by constructor
  have hsz : Maps.size (D.put (.int .i64 j) (.lit (.int .i64 v))) = Cn.opened L' := by
    rw [Maps.size_put (h.own.tidy law_int), h.has j hj, h.size, hs]
  refine ⟨w', hrun, ⟨D.put (.int .i64 j) (.lit (.int .i64 v)), hsz ▸ ownsMap_tight hown, fun i hi => ?_, fun i hi => ?_, hsz⟩, chg_grown hgr⟩
  · by_cases e : i = j
    · subst e
      rw [Maps.atKey_put_same h.own.isMap (hlit _), hm]
    · rw [Maps.atKey_put_other (by intro he; cases he; exact e rfl), h.key i hi, (ho i e).1]
  · by_cases e : i = j
    · subst e
      rw [Maps.has_put_same h.own.isMap (hlit _), h3]
    · rw [Maps.has_put_other (by intro he; cases he; exact e rfl), h.has i hi, (ho i e).2]
theorem wpList_mark (w : World) {ops : Array Oper} {rest : List Oper} {o : Oper} {a : Act} {Q : Exit → Act → World → Prop} (hg : o.guard = none) (mo x v : Operand) (hop : o.op = Op.mapUpdate 65 mo x v)
    (m : Nat) (L L' : List Cn.Act) (j c : Int) (hm : a.eval mo = .map (some m)) (hx : a.eval x = .int .i64 j) (hv : a.eval v = .int .i64 c) (h : MapAt w m L) (hj : I64 j) (hc : I64 c) (hn : Cn.opened L < maxLen)
    (h3 : Cn.had L' 3 j = true) (hmk : Cn.mark L' j = c) (ho : ∀ i, i ≠ j → Cn.mark L' i = Cn.mark L i ∧ Cn.had L' 3 i = Cn.had L 3 i) (hs : Cn.opened L' = if Cn.had L 3 j = true then Cn.opened L else Cn.opened L + 1)
    (hK : ∀ w', MapAt w' m L' → Chg [m] w w' → wpList Tryd.prog ops Q rest (a.put o.dst undef) w') : wpList Tryd.prog ops Q (o :: rest) a w := by
  refine wpList_plain hg fun K' hK' => ?_
  obtain ⟨w', hrun, r1, r2⟩ := h.store j c hj hc hn h3 hmk ho hs
  unfold Oper.wp
  simp [execOp, hop, hm, hx, hv, hrun, Result.andThen]
  exact hK' _ _ (hK w' r1 r2)
/-! a connection -/
structure ConnAt (w : World) (b m : Nat) (a : Option Addr) (cap : Nat) (l : List Tn.Ten) (L : List Cn.Act) : Prop where
  cells : Has w b #[.slice a l.length cap, .int .i64 (Cn.tenant L), .map (some m)] 67
  row : RowS w 5 a l.length cap (l.flatMap tncells)
  map : MapAt w m L
  apart : ∀ x, a = some x → x.block ≠ b ∧ x.block ≠ m ∧ x.block < w.heap.size
  two : b ≠ m
  good : Cn.Good L
theorem ConnAt.chg {w w' : World} {b m : Nat} {a : Option Addr} {cap : Nat} {l : List Tn.Ten} {L : List Cn.Act} {S : List Nat} (h : ConnAt w b m a cap l L) (k : Chg S w w') (hb : b ∉ S) (hm : m ∉ S) (ha : ∀ x, a = some x → x.block ∉ S) : ConnAt w' b m a cap l L :=
  ⟨h.cells.chg k hb, h.row.chg k ha, h.map.chg k hm, fun x hx => ⟨(h.apart x hx).1, (h.apart x hx).2.1, Nat.lt_of_lt_of_le (h.apart x hx).2.2 k.size⟩, h.two, h.good⟩
theorem ConnAt.keep {w w' : World} {b m : Nat} {a : Option Addr} {cap : Nat} {l : List Tn.Ten} {L : List Cn.Act} (h : ConnAt w b m a cap l L) (k : Below w.heap.size w w') : ConnAt w' b m a cap l L :=
  h.chg (below_chg k []) (by simp) (by simp) (fun _ _ => by simp)
theorem ConnAt.lt {w : World} {b m : Nat} {a : Option Addr} {cap : Nat} {l : List Tn.Ten} {L : List Cn.Act} (h : ConnAt w b m a cap l L) : b < w.heap.size := h.cells.lt
/-- all that a connection holds lies below B -/
structure Low (B b m : Nat) (a : Option Addr) : Prop where
  b : b < B
  m : m < B
  row : ∀ x, a = some x → x.block < B
theorem ConnAt.low {w : World} {b m : Nat} {a : Option Addr} {cap : Nat} {l : List Tn.Ten} {L : List Cn.Act} (h : ConnAt w b m a cap l L) : Low w.heap.size b m a := ⟨h.cells.lt, h.map.lt, fun x hx => (h.apart x hx).2.2⟩
theorem ConnAt.below {w w' : World} {B b m : Nat} {a : Option Addr} {cap : Nat} {l : List Tn.Ten} {L : List Cn.Act} (h : ConnAt w b m a cap l L) (k : Below B w w') (hl : Low B b m a) : ConnAt w' b m a cap l L := by
  have hrow : RowS w' 5 a l.length cap (l.flatMap tncells) := ⟨h.row.le, h.row.max, h.row.length, h.row.nil, fun x hx h0 => by
    obtain ⟨g, off, rfl, hg, hc⟩ := h.row.cells x hx h0
    have hgB := hl.row _ hx
    refine ⟨g, off, rfl, Nat.lt_of_lt_of_le hg k.size, fun i hi => ?_⟩
    rw [World.cell?_of_block (w := w) (w' := w') (a := ⟨g, off + i, none⟩) (k.block g hgB)]
    exact hc i hi⟩
  obtain ⟨D, hD⟩ := h.map
  obtain ⟨es, clock, hb, r⟩ := hD.own
  exact ⟨h.cells.below k hl.b, hrow, ⟨D, ⟨es, clock, (k.block m hl.m).trans hb, r⟩, hD.key, hD.has, hD.size⟩, fun x hx => ⟨(h.apart x hx).1, (h.apart x hx).2.1, Nat.lt_of_lt_of_le (h.apart x hx).2.2 k.size⟩, h.two, h.good⟩
theorem chg_tail {S : List Nat} {w w1 w2 : World} (h : Chg S w w1) (k : Below w.heap.size w1 w2) : Chg S w w2 :=
  ⟨k.os.trans h.os, k.tape.trans h.tape, k.output.trans h.output, Nat.le_trans h.size k.size, fun i hi hn => (k.block i hi).trans (h.block i hi hn)⟩
theorem chg_head {S : List Nat} {w w1 w2 : World} (h : Below w.heap.size w w1) (k : Chg S w1 w2) : Chg S w w2 := (below_chg h S).trans k
/-- an act that turns nothing in memory -/
theorem ConnAt.still {w : World} {b m : Nat} {a : Option Addr} {cap : Nat} {l : List Tn.Ten} {L : List Cn.Act} (h : ConnAt w b m a cap l L) (x : Cn.Act) (h2 : x.what ≠ 2) (h3 : x.what ≠ 3) (h5 : x.what ≠ 5) (h6 : x.what ≠ 6) : ConnAt w b m a cap l (L ++ [x]) :=
  ⟨by rw [Cn.tenant_no _ _ h2]; exact h.cells, h.row, h.map.same (fun j => Cn.mark_still _ _ _ (.inr ⟨h3, h5, h6⟩)) (fun j => Cn.had_no _ _ _ _ (.inl h3)) (by rw [Cn.opened_app, if_neg h3]; rfl), h.apart, h.two, h.good.still h2 h3 h5 h6⟩
theorem ConnAt.refuse {w : World} {b m : Nat} {a : Option Addr} {cap : Nat} {l : List Tn.Ten} {L : List Cn.Act} (h : ConnAt w b m a cap l L) (j e : Int) : ConnAt w b m a cap l (L ++ [Cn.refuse j e]) :=
  h.still _ (by simp [Cn.refuse]) (by simp [Cn.refuse]) (by simp [Cn.refuse]) (by simp [Cn.refuse])
/-- an act for which the map alone is turned -/
theorem ConnAt.turned {w w' : World} {b m : Nat} {a : Option Addr} {cap : Nat} {l : List Tn.Ten} {L : List Cn.Act} (h : ConnAt w b m a cap l L) (k : Chg [m] w w') (x : Cn.Act) (h2 : x.what ≠ 2) (hm : MapAt w' m (L ++ [x])) (hg : Cn.Good (L ++ [x])) : ConnAt w' b m a cap l (L ++ [x]) :=
  ⟨by rw [Cn.tenant_no _ _ h2]; exact h.cells.chg k (by simpa using h.two), h.row.chg k (fun y hy => by simpa using (h.apart y hy).2.1), hm, fun y hy => ⟨(h.apart y hy).1, (h.apart y hy).2.1, Nat.lt_of_lt_of_le (h.apart y hy).2.2 k.size⟩, h.two, hg⟩
/-- what a step leaves -/
def Stepped (w w' : World) (b m : Nat) (a : Option Addr) (cap : Nat) (l : List Tn.Ten) (L : List Cn.Act) (x : Cn.Act) : Prop := ConnAt w' b m a cap l (L ++ [x]) ∧ Chg [b, m] w w'
end Go.Proofs.YtajalllecoclcaaDoor
