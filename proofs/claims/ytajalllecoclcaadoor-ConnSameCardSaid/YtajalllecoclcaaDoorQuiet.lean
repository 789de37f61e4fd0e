/- A region that draws its order: the operations ahead of number n only read (or call what answers the same in every world of a class C and stays in C); those from n on come in one forced order. One walk in the order of the text serves every order. (Own proof: whatever has come up so far, each slot holds what the walk in the text's order gives it.) -/
import Derived.Deep.Quiet
import Derived.Tactics
import Derived.KernelRfl
namespace Go.Proofs.YtajalllecoclcaaDoor.Quiet
open Go

def waits (ops : Array Oper) (j i : Nat) : Bool :=
  match ops[j]? with
  | some oj => oj.after.any fun e => Region.binds .any e && e.on == i
  | none => false
theorem waits_spec {ops : Array Oper} {j i : Nat} (h : waits ops j i = true) : ∃ oj, ops[j]? = some oj ∧ ∃ e ∈ oj.after, Region.binds .any e = true ∧ e.on = i := by
  unfold waits at h
  split at h
  · rename_i oj hj
    obtain ⟨e, he, hb⟩ := Array.any_eq_true'.1 h
    simp only [Bool.and_eq_true, beq_iff_eq] at hb
    exact ⟨oj, hj, e, he, hb.1, hb.2⟩
  · cases h
def dstOf (ops : Array Oper) (i : Nat) : Option Tmp := (ops[i]?).bind (·.dst)
def looks (ops : Array Oper) (i : Nat) : List Tmp := match ops[i]? with | some o => o.looksAt ops | none => []
def isSelect (ops : Array Oper) (i : Nat) : Bool := match ops[i]? with | some o => (match o.op with | .select .. => true | _ => false) | none => false

/-- a bare move, without a guard -/
def isMove (ops : Array Oper) (i : Nat) : Bool := match ops[i]? with | some o => (match o.op with | .move _ => true | _ => false) && o.guard.isNone | none => false
/-- moves that may be taken ahead of all: each waits only for such -/
def looseOf (ops : Array Oper) (n : Nat) : List Nat :=
  (List.range n).foldl (fun acc i => if isMove ops i && (match ops[i]? with | some o => o.after.all (fun e => !Region.binds .any e || acc.contains e.on) | none => false) then acc ++ [i] else acc) []
def freeB (ops : Array Oper) (done : List Nat) (i : Nat) : Bool :=
  (List.range ops.size).all fun j => j == i || done.contains j || waits ops j i || (match ops[i]?, ops[j]? with | some oi, some oj => oi.apart ops oj | _, _ => false)
def looseB (ops : Array Oper) (n : Nat) : List Nat → List Nat → Bool
  | _, [] => true
  | done, i :: rest => decide (i < n) && !done.contains i && isMove ops i && (match ops[i]? with | some o => o.after.all (fun e => !Region.binds .any e || done.contains e.on) | none => false) && freeB ops done i && looseB ops n (done ++ [i]) rest

/-- what is asked of a region and a number n, once, of its text alone -/
def okB (ops : Array Oper) (n : Nat) : Bool :=
  looseB ops n [] (looseOf ops n) && ((List.range ops.size).all fun i => !isSelect ops i) &&
  decide (n ≤ ops.size) &&
  ((List.range ops.size).all fun i => match ops[i]? with | some o => o.after.all (fun e => !Region.binds .any e || decide (e.on < i)) | none => false) &&
  ((List.range n).all fun i => !isSelect ops i &&
    ((List.range n).all fun j => j == i || ((dstOf ops i).isNone || dstOf ops i != dstOf ops j) &&
      ((looks ops i).all fun u => dstOf ops j != some u || (if j < i then waits ops i j else waits ops j i)))) &&
  (decide (n = ops.size) || ((List.range n).all fun i => (looseOf ops n).contains i || (List.range (n + 1)).any fun j => decide (i < j) && waits ops j i)) &&
  ((List.range ops.size).all fun t => decide (t ≤ n) || waits ops t (t - 1))

section
variable {P : Program} {ops : Array Oper} {C : World → Prop} {n : Nat} {a0 : Act} {v : Nat → Value}

/-- what slot u holds when the operations of S have come up -/
def look (ops : Array Oper) (n : Nat) (a0 : Act) (v : Nat → Value) (S : Nat → Bool) (u : Nat) : Option Value :=
  match (List.range n).find? (fun j => S j && dstOf ops j == some u) with
  | some j => if u < a0.tmps.size then some (v j) else none
  | none => a0.tmps[u]?
structure Inv (ops : Array Oper) (n : Nat) (a0 : Act) (v : Nat → Value) (S : Nat → Bool) (a : Act) : Prop where
  defers : a.defers = a0.defers
  slot : ∀ u : Nat, a.tmps[u]? = look ops n a0 v S u

theorem find_congr {α : Type} {p q : α → Bool} : ∀ (l : List α), (∀ x ∈ l, p x = q x) → l.find? p = l.find? q
  | [], _ => rfl
  | x :: l, h => by
    rw [List.find?_cons, List.find?_cons, h x (by simp), find_congr l (fun y hy => h y (by simp [hy]))]
theorem find_none {p : Nat → Bool} {l : List Nat} (h : ∀ x ∈ l, p x = false) : l.find? p = none := by
  rw [List.find?_eq_none]; intro x hx; rw [h x hx]; exact Bool.false_ne_true
/-- the one that is meant, where there is but one -/
theorem find_only {p : Nat → Bool} {l : List Nat} {i : Nat} (hi : i ∈ l) (hp : p i = true) (h : ∀ x ∈ l, p x = true → x = i) : l.find? p = some i := by
  cases hf : l.find? p with
  | none => rw [List.find?_eq_none] at hf; exact absurd hp (hf i hi)
  | some j => rw [h j (List.mem_of_find?_eq_some hf) (List.find?_some hf)]

theorem look_congr {S T : Nat → Bool} {u : Nat} (h : ∀ j, j < n → dstOf ops j = some u → S j = T j) : look ops n a0 v S u = look ops n a0 v T u := by
  unfold look
  rw [find_congr (p := fun j => S j && dstOf ops j == some u) (q := fun j => T j && dstOf ops j == some u) (List.range n) (fun j hj => by
    have hj := List.mem_range.1 hj
    by_cases e : dstOf ops j = some u
    · simp only [e]; rw [h j hj e]
    · have : (dstOf ops j == some u) = false := by simpa using e
      simp only [this, Bool.and_false])]
theorem Inv.same {S : Nat → Bool} {a b : Act} (h : Inv ops n a0 v S a) (k : Inv ops n a0 v S b) : a = b := by
  obtain ⟨t, d⟩ := a
  obtain ⟨t', d'⟩ := b
  have e1 : d = d' := h.defers.trans k.defers.symm
  have e2 : t = t' := Array.ext_getElem? fun i => (h.slot i).trans (k.slot i).symm
  rw [e1, e2]
theorem Inv.congr {S T : Nat → Bool} {a : Act} (h : Inv ops n a0 v S a) (hST : ∀ j, j < n → S j = T j) : Inv ops n a0 v T a :=
  ⟨h.defers, fun u => (h.slot u).trans (look_congr (fun j hj _ => hST j hj))⟩
theorem Inv.start : Inv ops n a0 v (fun _ => false) a0 := ⟨rfl, fun u => by unfold look; rw [find_none (fun x _ => by simp)]⟩
theorem Inv.size {S : Nat → Bool} {a : Act} (h : Inv ops n a0 v S a) : a.tmps.size = a0.tmps.size := by
  rcases Nat.lt_trichotomy a.tmps.size a0.tmps.size with hlt | he | hlt
  · have h1 := h.slot a.tmps.size
    rw [Array.getElem?_eq_none (Nat.le_refl _)] at h1
    unfold look at h1
    split at h1
    · rw [if_pos hlt] at h1; cases h1
    · rw [Array.getElem?_eq_getElem hlt] at h1; cases h1
  · exact he
  · have h1 := h.slot a0.tmps.size
    rw [Array.getElem?_eq_getElem hlt] at h1
    unfold look at h1
    split at h1
    · rw [if_neg (Nat.lt_irrefl _)] at h1; cases h1
    · rw [Array.getElem?_eq_none (Nat.le_refl _)] at h1; cases h1
theorem Inv.put {S : Nat → Bool} {a : Act} {i : Nat} (h : Inv ops n a0 v S a) (hi : i < n)
    (hd : ∀ j, j < n → j ≠ i → ∀ d, dstOf ops i = some d → dstOf ops j ≠ some d) : Inv ops n a0 v (fun j => S j || j == i) (a.put (dstOf ops i) (v i)) := by
  have hsz := h.size
  refine ⟨by cases dstOf ops i <;> exact h.defers, fun u => ?_⟩
  cases hdi : dstOf ops i with
  | none =>
    show a.tmps[u]? = _
    rw [h.slot u]
    refine look_congr (fun j _ hj => ?_)
    have : j ≠ i := fun e => by rw [e, hdi] at hj; cases hj
    simp [this]
  | some d =>
    show (a.tmps.setIfInBounds d (v i))[u]? = _
    by_cases hud : d = u
    · subst hud
      unfold look
      rw [find_only (i := i) (List.mem_range.2 hi) (by simp [hdi]) (fun x hx hp => by
        simp only [Bool.and_eq_true, beq_iff_eq] at hp
        by_cases e : x = i
        · exact e
        · exact absurd hp.2 (hd x (List.mem_range.1 hx) e d hdi))]
      simp only
      by_cases hlt : d < a0.tmps.size
      · rw [if_pos hlt, Array.getElem?_setIfInBounds_self_of_lt (by rw [hsz]; exact hlt)]
      · have hle : (a.tmps.setIfInBounds d (v i)).size ≤ d := by rw [Array.size_setIfInBounds, hsz]; exact Nat.le_of_not_lt hlt
        rw [if_neg hlt, Array.getElem?_eq_none hle]
    · rw [Array.getElem?_setIfInBounds_ne hud, h.slot u]
      refine look_congr (fun j _ hj => ?_)
      have : j ≠ i := fun e => by rw [e, hdi] at hj; exact hud (Option.some.inj hj)
      simp [this]

/-- the frames of the walk in the text's order -/
def fr (ops : Array Oper) (a0 : Act) (v : Nat → Value) : Nat → Act
  | 0 => a0
  | k + 1 => (fr ops a0 v k).put (dstOf ops k) (v k)
theorem fr_inv (hd : ∀ i, i < n → ∀ j, j < n → j ≠ i → ∀ d, dstOf ops i = some d → dstOf ops j ≠ some d) : ∀ k, k ≤ n → Inv ops n a0 v (fun j => decide (j < k)) (fr ops a0 v k)
  | 0, _ => Inv.start.congr (fun j _ => by simp)
  | k + 1, hk => ((fr_inv hd k (by omega)).put (i := k) (by omega) (hd k (by omega))).congr (fun j _ => by
      rw [Bool.eq_iff_iff]; simp; omega)

/-- an operation sees no more of a frame than the slots that it looks at -/
theorem yields_same {i : Nat} {o : Oper} {a b : Act} {x : Value} (ho : ops[i]? = some o) (hsel : isSelect ops i = false) (hl : ∀ u ∈ looks ops i, a.tmps[u]? = b.tmps[u]?)
    (h : YieldsIn P ops C o x a) : YieldsIn P ops C o x b := by
  have hl' : ∀ u ∈ o.looksAt ops, a.tmps[u]? = b.tmps[u]? := by unfold looks at hl; rw [ho] at hl; exact hl
  have hs : ∀ cs bl, o.op ≠ .select cs bl := fun cs bl e => by unfold isSelect at hsel; rw [ho] at hsel; simp [e] at hsel
  refine h.of_same ?_ ?_
  · refine (execOp_congr o hs fun y hy => ?_).symm
    cases y with
    | tmp t =>
      have := hl' t (List.mem_append_left _ (List.mem_filterMap.2 ⟨.tmp t, by simpa using hy, rfl⟩))
      simp only [Act.eval, Array.getD_eq_getD_getElem?, this]
    | _ => rfl
  · unfold Region.wanted
    cases hg : o.guard with
    | none => rfl
    | some gw =>
      obtain ⟨g, want⟩ := gw
      have hy : yielded ops b.tmps g = yielded ops a.tmps g := by
        unfold yielded
        cases ht : (ops[g]?).bind (·.dst) with
        | none => rfl
        | some t =>
          have := hl' t (List.mem_append_right _ (by simp [hg, ht]))
          show (match b.tmps[t]? with | some (.bool b) => some b | _ => none) = (match a.tmps[t]? with | some (.bool b) => some b | _ => none)
          rw [this]
      simp only [hy]

def listedB (L : Array Bool) : Nat → Bool := fun j => L.getD j false
theorem listedB_set {L : Array Bool} {i : Nat} (hi : i < L.size) (j : Nat) : listedB (L.setIfInBounds i true) j = (listedB L j || j == i) := by
  unfold listedB
  by_cases e : i = j
  · subst e; simp [Array.getD_eq_getD_getElem?, hi]
  · have : (j == i) = false := by simpa using fun h => e h.symm
    simp [Array.getD_eq_getD_getElem?, Array.getElem?_setIfInBounds_ne e, this]
theorem listedB_false {L : Array Bool} {i : Nat} (h : L.getD i true = false) : listedB L i = false ∧ i < L.size := by
  unfold listedB
  rcases Nat.lt_or_ge i L.size with h' | h'
  · rw [Array.getD_eq_getD_getElem?, Array.getElem?_eq_getElem h'] at h ⊢
    exact ⟨h, h'⟩
  · rw [Array.getD_eq_getD_getElem?, Array.getElem?_eq_none h'] at h; cases h
theorem listedB_true {L : Array Bool} {i : Nat} (h : listedB L i = false) (hi : i < L.size) : L.getD i true = false := by
  unfold listedB at h
  rw [Array.getD_eq_getD_getElem?, Array.getElem?_eq_getElem hi] at h ⊢
  exact h

structure Ok (ops : Array Oper) (n : Nat) : Prop where
  le : n ≤ ops.size
  back : ∀ i o, ops[i]? = some o → ∀ e ∈ o.after, Region.binds .any e = true → e.on < i
  sel : ∀ i, i < n → isSelect ops i = false
  dst : ∀ i, i < n → ∀ j, j < n → j ≠ i → ∀ d, dstOf ops i = some d → dstOf ops j ≠ some d
  hang : ∀ i, i < n → ∀ j, j < n → j ≠ i → ∀ u ∈ looks ops i, dstOf ops j = some u → if j < i then waits ops i j = true else waits ops j i = true
  sink : n < ops.size → ∀ i, i < n → i ∉ looseOf ops n → ∃ j, i < j ∧ j ≤ n ∧ waits ops j i = true
  loose : looseB ops n [] (looseOf ops n) = true
  sels : ∀ i, isSelect ops i = false
  chain : ∀ t, n < t → t < ops.size → waits ops t (t - 1) = true
theorem ok_of (h : okB ops n = true) : Ok ops n := by
  simp only [okB, Bool.and_eq_true, decide_eq_true_eq, List.all_eq_true, List.mem_range, Bool.not_eq_true', Bool.or_eq_true, beq_iff_eq] at h
  obtain ⟨⟨⟨⟨⟨⟨h6, h7⟩, h1⟩, h2⟩, h3⟩, h4⟩, h5⟩ := h
  have h8 : ∀ i, isSelect ops i = false := fun i => by
    by_cases hi : i < ops.size
    · exact h7 i hi
    · unfold isSelect
      rw [Array.getElem?_eq_none (by omega)]
  refine ⟨h1, fun i o ho e he hb => ?_, fun i hi => (h3 i hi).1, fun i hi j hj hji d hd => ?_, fun i hi j hj hji u hu hd => ?_, fun hn i hi hloose => ?_, h6, h8, fun t ht hts => ?_⟩
  · have := h2 i (Array.getElem?_eq_some_iff.1 ho).1
    rw [ho] at this
    simp only [Array.all_eq_true_iff_forall_mem, Bool.or_eq_true, Bool.not_eq_true', decide_eq_true_eq] at this
    rcases this e he with h | h
    · rw [h] at hb; cases hb
    · exact h
  · rcases (h3 i hi).2 j hj with h | ⟨h, _⟩
    · exact absurd h hji
    · rcases h with h | h
      · rw [hd] at h; cases h
      · intro e; rw [hd, e] at h; simp at h
  · rcases (h3 i hi).2 j hj with h | ⟨_, h⟩
    · exact absurd h hji
    · rcases h u hu with h | h
      · rw [hd] at h; simp at h
      · split
        · rename_i hlt; rw [if_pos hlt] at h; exact h
        · rename_i hlt; rw [if_neg hlt] at h; exact h
  · rcases h4 with h | h
    · omega
    · rcases h i hi with h | h
      · exact absurd (by simpa using h) hloose
      · obtain ⟨j, hj, h'⟩ := List.any_eq_true.1 h
        simp only [Bool.and_eq_true, decide_eq_true_eq] at h'
        exact ⟨j, h'.1, by have := List.mem_range.1 hj; omega, h'.2⟩
  · rcases h5 t hts with h | h
    · omega
    · exact h

/-- what has come up is closed under what it waits for -/
def Closed (ops : Array Oper) (L : Array Bool) : Prop := L.size = ops.size ∧ ∀ j i, listedB L j = true → waits ops j i = true → listedB L i = true
theorem Closed.set {L : Array Bool} {i : Nat} (h : Closed ops L) (hr : i ∈ Region.ready .any ops L) : Closed ops (L.setIfInBounds i true) := by
  obtain ⟨hun, oi, hoi, hall⟩ := mem_ready.1 hr
  obtain ⟨hl, hs⟩ := listedB_false hun
  refine ⟨by simp [h.1], fun j k hj hw => ?_⟩
  rw [listedB_set hs] at hj ⊢
  simp only [Bool.or_eq_true, beq_iff_eq] at hj ⊢
  rcases hj with hj | rfl
  · exact .inl (h.2 j k hj hw)
  · obtain ⟨oj, hoj, e, he, hb, rfl⟩ := waits_spec hw
    have : oj = oi := Option.some.inj (hoj.symm.trans hoi)
    subst this
    exact .inl (hall e he hb)
/-- an operation of the tail does not come up while one of the head is left -/
theorem tail_late (ok : Ok ops n) {L : Array Bool} (hc : Closed ops L) (htail : ∀ t, n ≤ t → listedB L t = false) (hlo : ∀ i ∈ looseOf ops n, listedB L i = true) :
    ∀ (d i : Nat), n - i = d → i < n → listedB L i = false → ∀ t, n ≤ t → t ∉ Region.ready .any ops L := by
  intro d
  induction d using Nat.strongRecOn with
  | _ d ih =>
    intro i hd hi hun t ht hr
    obtain ⟨_, ot, hot, hall⟩ := mem_ready.1 hr
    have htlt : t < ops.size := (Array.getElem?_eq_some_iff.1 hot).1
    by_cases htn : t = n
    · subst htn
      obtain ⟨j, hij, hjt, hw⟩ := ok.sink htlt i hi (fun hm => by rw [hlo i hm] at hun; cases hun)
      by_cases hjt' : j = t
      · subst hjt'
        obtain ⟨oj, hoj, e, he, hb, rfl⟩ := waits_spec hw
        have : oj = ot := Option.some.inj (hoj.symm.trans hot)
        subst this
        have := hall e he hb
        unfold listedB at hun
        rw [hun] at this; cases this
      · cases hl : listedB L j with
        | true => rw [hc.2 j i hl hw] at hun; cases hun
        | false => exact ih (t - j) (by omega) j rfl (by omega) hl t (Nat.le_refl _) hr
    · obtain ⟨o', ho', e, he, hb, hon⟩ := waits_spec (ok.chain t (by omega) htlt)
      have : o' = ot := Option.some.inj (ho'.symm.trans hot)
      subst this
      have h2 := hall e he hb
      have h3 := htail (t - 1) (by omega)
      unfold listedB at h3
      rw [hon, h3] at h2; cases h2
/-- the least that has not come up may come up -/
theorem ready_least (ok : Ok ops n) {L : Array Bool} (hs : L.size = ops.size) {i : Nat} (hi : i < ops.size) (hun : listedB L i = false) (hlt : ∀ j, j < i → listedB L j = true) :
    i ∈ Region.ready .any ops L := by
  refine mem_ready.2 ⟨listedB_true hun (by omega), ops[i], Array.getElem?_eq_getElem hi, fun e he hb => ?_⟩
  exact hlt e.on (ok.back i _ (Array.getElem?_eq_getElem hi) e he hb)
theorem exists_least (p : Nat → Bool) : ∀ k, (∃ i, i < k ∧ p i = false) → ∃ i, i < k ∧ p i = false ∧ ∀ j, j < i → p j = true
  | 0, h => by obtain ⟨i, hi, _⟩ := h; omega
  | k + 1, h => by
    by_cases h' : ∃ i, i < k ∧ p i = false
    · obtain ⟨i, hi, h1, h2⟩ := exists_least p k h'
      exact ⟨i, by omega, h1, h2⟩
    · obtain ⟨i, hi, h1⟩ := h
      have : i = k := by
        rcases Nat.lt_or_ge i k with h2 | h2
        · exact absurd ⟨i, h2, h1⟩ h'
        · omega
      subst this
      refine ⟨i, by omega, h1, fun j hj => ?_⟩
      cases hp : p j with
      | true => rfl
      | false => exact absurd ⟨j, hj, hp⟩ h'

/-- the tail, one by one -/
theorem tail_walk {Q : Exit → Act → World → Prop} (ok : Ok ops n) : ∀ (l : List Oper) (k : Nat) (L : Array Bool) (a : Act) (w : World), (∀ j, l[j]? = ops[k + j]?) → n ≤ k → k + l.length = ops.size → Closed ops L →
    (∀ j, j < ops.size → listedB L j = decide (j < k)) → wpList P ops Q l a w → wpAny P .any ops Q l.length L a w
  | [], k, L, a, w, _, _, hk, hc, hL, h => by
    refine ⟨?_, h⟩
    apply List.eq_nil_iff_forall_not_mem.2
    intro i hi
    obtain ⟨hun, o, ho, _⟩ := mem_ready.1 hi
    have hlt : i < ops.size := (Array.getElem?_eq_some_iff.1 ho).1
    have := (listedB_false hun).1
    rw [hL i hlt] at this
    simp at this hk
    omega
  | o :: l, k, L, a, w, hl, hn, hk, hc, hL, h => by
    have h0 : ops[k]? = some o := by simpa using (hl 0).symm
    have hks : k < ops.size := (Array.getElem?_eq_some_iff.1 h0).1
    have hunk : listedB L k = false := by rw [hL k hks]; simp
    have hr : k ∈ Region.ready .any ops L := ready_least ok hc.1 hks hunk (fun j hj => by rw [hL j (by omega)]; simpa using hj)
    refine ⟨fun h1 => (by rw [h1] at hr; cases hr), fun i hi => ?_⟩
    have hik : i = k := by
      obtain ⟨hun, oi, hoi, hall⟩ := mem_ready.1 hi
      have his : i < ops.size := (Array.getElem?_eq_some_iff.1 hoi).1
      have h1 := (listedB_false hun).1
      rw [hL i his] at h1
      simp at h1
      rcases Nat.eq_or_lt_of_le h1 with h2 | h2
      · exact h2.symm
      · obtain ⟨o', ho', e, he, hb, hon⟩ := waits_spec (ok.chain i (by omega) his)
        have : o' = oi := Option.some.inj (ho'.symm.trans hoi)
        subst this
        have h3 := hall e he hb
        rw [hon] at h3
        have h4 := hL (i - 1) (by omega)
        unfold listedB at h4
        rw [h3] at h4
        have : i - 1 < k := by simpa using h4.symm
        omega
    subst hik
    have hw : wpOp P ops Q i (wpList P ops Q l) a w := by unfold wpOp; simp only [h0]; exact h
    refine wpOp_mono (fun a' w' h' => tail_walk ok l (i + 1) _ a' w' (fun j => by have := hl (j + 1); simpa [Nat.add_assoc, Nat.add_comm 1 j] using this) (by omega) (by simp at hk; omega) (hc.set hr) (fun j hj => ?_) h') hw
    rw [listedB_set (by rw [hc.1]; exact hks), hL j hj]
    rw [Bool.eq_iff_iff]; simp; omega

theorem count_set {L : Array Bool} {i m : Nat} (hi : i < m) (hun : listedB L i = false) (hs : i < L.size) :
    ((List.range m).filter fun j => !listedB L j).length = ((List.range m).filter fun j => !listedB (L.setIfInBounds i true) j).length + 1 := by
  have e : ∀ j, (!listedB (L.setIfInBounds i true) j) = (!listedB L j && !(j == i)) := fun j => by rw [listedB_set hs, Bool.not_or]
  simp only [e]
  rw [← List.filter_filter]
  have hnd : ((List.range m).filter fun j => !listedB L j).Nodup := List.nodup_range.filter _
  have hmem : i ∈ (List.range m).filter fun j => !listedB L j := by simp [hi, hun]
  have h1 := List.Nodup.erase_eq_filter hnd i
  have h2 := List.length_erase_of_mem hmem
  have hpos := List.length_pos_of_mem hmem
  have h3 : ((List.range m).filter fun j => !listedB L j).filter (fun j => !(j == i)) = ((List.range m).filter fun j => !listedB L j).erase i := by
    rw [h1]; rfl
  rw [List.filter_filter] at h3 ⊢
  rw [show ((List.range m).filter fun a => (!listedB L a) && !(a == i)) = ((List.range m).filter fun a => (!(a == i)) && !listedB L a) from by congr 1; funext a; rw [Bool.and_comm]]
  rw [h3, h2]
  omega

theorem fr_congr {v v' : Nat → Value} : ∀ k, (∀ j, j < k → v j = v' j) → fr ops a0 v k = fr ops a0 v' k
  | 0, _ => rfl
  | k + 1, h => by
    show (fr ops a0 v k).put _ (v k) = (fr ops a0 v' k).put _ (v' k)
    rw [fr_congr k (fun j hj => h j (by omega)), h k (by omega)]
/-- the walk in the text's order gives each operation its value -/
theorem values_of {K : Act → Prop} : ∀ (l : List Oper) (k : Nat) (pre : Nat → Value), (∀ j, j < l.length → l[j]? = ops[k + j]?) → wpQuiet P ops C K l (fr ops a0 pre k) →
    ∃ v : Nat → Value, (∀ j, j < k → v j = pre j) ∧ (∀ i, k ≤ i → i < k + l.length → ∀ o, ops[i]? = some o → YieldsIn P ops C o (v i) (fr ops a0 v i)) ∧ K (fr ops a0 v (k + l.length))
  | [], k, pre, _, h => ⟨pre, fun _ _ => rfl, fun i h1 h2 => by simp at h2; omega, h⟩
  | o :: l, k, pre, hl, h => by
    have h0 : ops[k]? = some o := by simpa using (hl 0 (by simp)).symm
    have hq : qOp P ops C k (wpQuiet P ops C K l) (fr ops a0 pre k) := by unfold qOp; simp only [h0]; exact h
    obtain ⟨x, hy, hr⟩ := yieldsIn_of_qOp h0 hq
    have hd : dstOf ops k = o.dst := by unfold dstOf; rw [h0]; rfl
    have e : fr ops a0 (fun j => if j = k then x else pre j) k = fr ops a0 pre k := fr_congr k (fun j hj => if_neg (by omega))
    have hr' : wpQuiet P ops C K l (fr ops a0 (fun j => if j = k then x else pre j) (k + 1)) := by
      show wpQuiet P ops C K l ((fr ops a0 (fun j => if j = k then x else pre j) k).put (dstOf ops k) (if k = k then x else pre k))
      rw [e, hd, if_pos rfl]; exact hr
    obtain ⟨v, h1, h2, h3⟩ := values_of l (k + 1) _ (fun j hj => by have := hl (j + 1) (by simp; omega); simpa [Nat.add_assoc, Nat.add_comm 1 j] using this) hr'
    have hvk : v k = x := by rw [h1 k (by omega), if_pos rfl]
    have hpre : ∀ j, j < k → v j = pre j := fun j hj => by rw [h1 j (by omega), if_neg (by omega)]
    refine ⟨v, hpre, fun i hi1 hi2 o' ho' => ?_, ?_⟩
    · by_cases hik : i = k
      · subst hik
        rw [h0] at ho'; cases ho'
        rw [hvk, fr_congr i (fun j hj => hpre j hj)]
        exact hy
      · exact h2 i (by omega) (by simp at hi2 ⊢; omega) o' ho'
    · rw [show k + (o :: l).length = k + 1 + l.length by simp; omega]; exact h3

theorem all_listed {L : Array Bool} (h : ((List.range n).filter fun j => !listedB L j).length = 0) : ∀ j, j < n → listedB L j = true := by
  intro j hj
  have := List.eq_nil_of_length_eq_zero h
  rw [List.filter_eq_nil_iff] at this
  simpa using this j (List.mem_range.2 hj)

theorem head_walk {Q : Exit → Act → World → Prop} (ok : Ok ops n) (hy : ∀ i, i < n → ∀ o, ops[i]? = some o → YieldsIn P ops C o (v i) (fr ops a0 v i))
    (hend : ∀ w', C w' → wpList P ops Q (ops.toList.drop n) (fr ops a0 v n) w') :
    ∀ (m : Nat) (L : Array Bool) (a : Act) (w : World), Closed ops L → (∀ t, n ≤ t → listedB L t = false) → (∀ i ∈ looseOf ops n, listedB L i = true) → C w → Inv ops n a0 v (listedB L) a →
      ((List.range n).filter fun j => !listedB L j).length = m → wpAny P .any ops Q (m + (ops.size - n)) L a w
  | 0, L, a, w, hc, ht, hlo, hw, hi, hm => by
    have hall := all_listed hm
    have ea : a = fr ops a0 v n := hi.same ((fr_inv ok.dst n (Nat.le_refl _)).congr (fun j hj => by rw [hall j hj]; simpa using hj))
    subst ea
    have hlen : (ops.toList.drop n).length = ops.size - n := by simp
    have := tail_walk ok (ops.toList.drop n) n L (fr ops a0 v n) w (fun j => by simp [List.getElem?_drop]) (Nat.le_refl _) (by rw [hlen]; have := ok.le; omega) hc (fun j _ => by
      by_cases h : j < n
      · rw [hall j h]; simp [h]
      · rw [ht j (by omega)]; simp [h]) (hend w hw)
    rw [hlen] at this
    rwa [Nat.zero_add]
  | m + 1, L, a, w, hc, ht, hlo, hw, hi, hm => by
    have hex : ∃ i, i < n ∧ listedB L i = false := by
      cases hf : (List.range n).filter fun j => !listedB L j with
      | nil => rw [hf] at hm; cases hm
      | cons x xs =>
        have : x ∈ (List.range n).filter fun j => !listedB L j := by rw [hf]; simp
        simp at this
        exact ⟨x, this.1, this.2⟩
    obtain ⟨i0, hi0, hu0, hl0⟩ := exists_least (listedB L) n hex
    have hle := ok.le
    have hr0 := ready_least ok hc.1 (by omega) hu0 hl0
    rw [show m + 1 + (ops.size - n) = (m + (ops.size - n)) + 1 by omega]
    refine ⟨fun h => (by rw [h] at hr0; cases hr0), fun i hri => ?_⟩
    have hin : i < n := by
      rcases Nat.lt_or_ge i n with h | h
      · exact h
      · exact absurd hri (tail_late ok hc ht hlo _ i0 rfl hi0 hu0 i h)
    obtain ⟨hun, oi, hoi, hall⟩ := mem_ready.1 hri
    obtain ⟨hlf, his⟩ := listedB_false hun
    have hd : dstOf ops i = oi.dst := by unfold dstOf; rw [hoi]; rfl
    have hsame : ∀ u ∈ looks ops i, (fr ops a0 v i).tmps[u]? = a.tmps[u]? := fun u hu => by
      rw [(fr_inv ok.dst i (by omega)).slot u, hi.slot u]
      refine look_congr (fun j hj hdj => ?_)
      by_cases hji : j = i
      · subst hji; rw [hlf]; simp
      · have hw' := ok.hang i hin j hj hji u hu hdj
        split at hw'
        · rename_i hlt
          obtain ⟨o', ho', e, he, hb, rfl⟩ := waits_spec hw'
          have : o' = oi := Option.some.inj (ho'.symm.trans hoi)
          subst this
          have := hall e he hb
          unfold listedB
          rw [this]; simpa using hlt
        · rename_i hlt
          have : listedB L j = false := by
            cases hlj : listedB L j with
            | false => rfl
            | true => rw [hc.2 j i hlj hw'] at hlf; cases hlf
          rw [this]; simpa using hlt
    have hyi := yields_same hoi (ok.sel i hin) hsame (hy i hin oi hoi)
    have hq : qOp P ops C i (fun a' => a' = a.put oi.dst (v i)) a := hyi.qOp hoi rfl
    refine wpOp_of_qOp hw (fun a' w' hw' ha' => ?_) hq
    subst ha'
    refine head_walk ok hy hend m _ _ w' (hc.set hri) (fun t htn => ?_) (fun j hj => ?_) hw' ?_ ?_
    · rw [listedB_set his, ht t htn]; simp; omega
    · rw [listedB_set his, hlo j hj]; rfl
    · rw [← hd]
      exact (hi.put hin (ok.dst i hin)).congr (fun j _ => (listedB_set his j).symm)
    · have := count_set hin hlf his
      omega

/-- the value of a move that is taken early is the one that it has in the text's order -/
theorem move_yields {i : Nat} {o : Oper} {a : Act} {x : Value} {w : World} (ho : ops[i]? = some o) (hm : isMove ops i = true) (hw : C w) (h : YieldsIn P ops C o x a) : Yields P ops o x a := by
  unfold isMove at hm
  rw [ho] at hm
  simp only [Bool.and_eq_true] at hm
  obtain ⟨h1, h2⟩ := hm
  have hg : o.guard = none := by simpa using h2
  have hwant : Region.wanted o (yielded ops a.tmps) = true := by unfold Region.wanted; rw [hg]
  cases hop : o.op with
  | move y =>
    have hrun : ∀ w, (execOp a.eval o).run P w = .ok (.value (a.eval y)) w := fun w => by unfold execOp; rw [hop]; rfl
    rcases h with ⟨_, h⟩ | ⟨h, _⟩
    · have := h w hw
      unfold Oper.quietAt at this
      rw [hrun w] at this
      obtain ⟨_, e⟩ := this
      exact .inl ⟨hwant, fun w => by rw [hrun w, e]⟩
    · rw [hwant] at h; cases h
  | _ => rw [hop] at h1; cases h1

theorem loose_walk {Q : Exit → Act → World → Prop} (ok : Ok ops n) (hy : ∀ i, i < n → ∀ o, ops[i]? = some o → YieldsIn P ops C o (v i) (fr ops a0 v i)) (hQ : ∀ c (a : Act) (d : Option Tmp) x w, Q (.panic c) (a.put d x) w → Q (.panic c) a w) {w : World} (hw : C w) (f : Nat)
    (hend : ∀ L a, Closed ops L → (∀ t, n ≤ t → listedB L t = false) → (∀ i ∈ looseOf ops n, listedB L i = true) → Inv ops n a0 v (listedB L) a → ((List.range n).filter fun j => !listedB L j).length + (looseOf ops n).length = n → wpAny P .any ops Q f L a w) :
    ∀ (rest done : List Nat) (L : Array Bool) (a : Act), looseOf ops n = done ++ rest → looseB ops n done rest = true → Closed ops L → (∀ t, n ≤ t → listedB L t = false) → (∀ j, listedB L j = done.contains j) → Inv ops n a0 v (listedB L) a →
      ((List.range n).filter fun j => !listedB L j).length + done.length = n → wpAny P .any ops Q (f + rest.length) L a w
  | [], done, L, a, hd, _, hc, ht, hl, hi, hm => by
    rw [List.append_nil] at hd
    exact hend L a hc ht (fun i hm => by rw [hl, ← hd]; simpa using hm) hi (by rw [hd]; exact hm)
  | i :: rest, done, L, a, hd, hB, hc, ht, hl, hi, hm => by
    simp only [looseB, Bool.and_eq_true, decide_eq_true_eq, Bool.not_eq_true'] at hB
    obtain ⟨⟨⟨⟨⟨hin, hnd⟩, hmv⟩, hed⟩, hfr⟩, hB'⟩ := hB
    have hle := ok.le
    have his : i < ops.size := by omega
    have hoi : ops[i]? = some ops[i] := Array.getElem?_eq_getElem his
    have hun : listedB L i = false := by rw [hl]; exact hnd
    have hsz : i < L.size := by rw [hc.1]; exact his
    rw [hoi] at hed
    simp only [Array.all_eq_true_iff_forall_mem, Bool.or_eq_true, Bool.not_eq_true'] at hed
    have hr : i ∈ Region.ready .any ops L := mem_ready.2 ⟨listedB_true hun hsz, ops[i], hoi, fun e he hb => by
      rcases hed e he with h | h
      · rw [h] at hb; cases hb
      · have := hl e.on
        rw [h] at this
        exact this⟩
    have hsame : ∀ u ∈ looks ops i, (fr ops a0 v i).tmps[u]? = a.tmps[u]? := fun u hu => by
      rw [(fr_inv ok.dst i (by omega)).slot u, hi.slot u]
      refine look_congr (fun j hj hdj => ?_)
      by_cases hji : j = i
      · subst hji; rw [hun]; simp
      · have hw' := ok.hang i hin j hj hji u hu hdj
        split at hw'
        · rename_i hlt
          obtain ⟨o', ho', e, he, hb, rfl⟩ := waits_spec hw'
          have : o' = ops[i] := Option.some.inj (ho'.symm.trans hoi)
          subst this
          have h1 : listedB L e.on = true := by
            rcases hed e he with h | h
            · rw [h] at hb; cases hb
            · rw [hl]; exact h
          rw [h1]; simpa using hlt
        · rename_i hlt
          have : listedB L j = false := by
            cases hlj : listedB L j with
            | false => rfl
            | true => rw [hc.2 j i hlj hw'] at hun; cases hun
          rw [this]; simpa using hlt
    have hyi := move_yields hoi hmv hw (yields_same hoi (ok.sel i hin) hsame (hy i hin _ hoi))
    have hdst : dstOf ops i = ops[i].dst := by unfold dstOf; rw [hoi]; rfl
    have hsel : ∀ (j : Nat) (o : Oper) cs b, ops[j]? = some o → o.op ≠ .select cs b := fun j o cs b ho e => by
      have := ok.sels j
      unfold isSelect at this
      rw [ho] at this
      simp [e] at this
    rw [show f + (i :: rest).length = (f + rest.length) + 1 by simp; omega]
    refine wpAny_first hoi hsel (fun c a w h => hQ c a _ _ w h) (f + rest.length) L a w (fun j oj hoj hji hunj hno => ?_) hr hyi ?_
    · have hjs := (Array.getElem?_eq_some_iff.1 hoj).1
      have := List.all_eq_true.1 hfr j (List.mem_range.2 hjs)
      simp only [Bool.or_eq_true, beq_iff_eq, hji, false_or, hoi, hoj] at this
      rcases this with (h | h) | h
      · have h1 := (listedB_false hunj).1
        rw [hl, h] at h1; cases h1
      · obtain ⟨o', ho', e, he, hb, hon⟩ := waits_spec h
        have : o' = oj := Option.some.inj (ho'.symm.trans hoj)
        subst this
        exact absurd hon (hno e he hb)
      · exact h
    · refine loose_walk ok hy hQ hw f hend rest (done ++ [i]) _ _ (by rw [hd]; simp) hB' (hc.set hr) (fun t htn => ?_) (fun j => ?_) ?_ ?_
      · rw [listedB_set hsz, ht t htn]; simp; omega
      · rw [listedB_set hsz, hl j, Bool.eq_iff_iff]; simp
      · rw [← hdst]
        exact (hi.put hin (ok.dst i hin)).congr (fun j _ => (listedB_set hsz j).symm)
      · have := count_set hin hun hsz
        simp only [List.length_append, List.length_cons, List.length_nil]
        omega

/-- **A REGION THAT DRAWS ITS ORDER, BY ONE WALK**: the first n operations quiet in the class C, the others in the text's order, from any world of C. -/
theorem region_quiet_tail {id : Nat} {Q : Exit → Act → World → Prop} {a : Act} {w : World} {l : List Oper} (n : Nat) (C : World → Prop) (hm : P.follows .mixedOrders = true) (hB : okB l.toArray n = true) (hC : C w.drew)
    (h : wpQuiet P l.toArray C (fun a' => ∀ w', C w' → wpList P l.toArray Q (l.drop n) a' w') (l.take n) a)
    (hQ : ∀ c (a : Act) (d : Option Tmp) x w, Q (.panic c) (a.put d x) w → Q (.panic c) a w := by intro c a d x w h; cases d <;> exact h) : (Code.region id l.toArray true).wp P Q a w := by
  have ok := ok_of hB
  have hn : n ≤ l.length := by simpa using ok.le
  have htl : (l.take n).length = n := by simp; omega
  obtain ⟨v, _, hy, hend⟩ := values_of (a0 := a) (l.take n) 0 (fun _ => undef) (fun j hj => by rw [htl] at hj; simp [hj]) h
  rw [htl, Nat.zero_add] at hend hy
  refine wp_region_any hm ?_
  have hz : ∀ j, listedB (Array.replicate l.toArray.size false) j = false := fun j => by
    unfold listedB
    rw [Array.getD_eq_getD_getElem?, Array.getElem?_replicate]
    split <;> rfl
  have hy' : ∀ i, i < n → ∀ o, l.toArray[i]? = some o → YieldsIn P l.toArray C o (v i) (fr l.toArray a v i) := fun i hi o ho => hy i (Nat.zero_le _) hi o ho
  have hcount : (looseOf l.toArray n).length ≤ n → True := fun _ => trivial
  by_cases hll : (looseOf l.toArray n).length ≤ n
  · have := loose_walk (P := P) (C := C) (Q := Q) (v := v) ok hy' hQ hC (n - (looseOf l.toArray n).length + (l.toArray.size - n)) (fun L a' hc ht hlo hi hcnt => by
      have e : ((List.range n).filter fun j => !listedB L j).length = n - (looseOf l.toArray n).length := by omega
      have := head_walk (P := P) (C := C) (Q := Q) (v := v) ok hy' (by simpa using hend) _ L a' w.drew hc ht hlo hC hi rfl
      rw [e] at this; exact this) (looseOf l.toArray n) [] (Array.replicate l.toArray.size false) a (by simp) ok.loose
      ⟨by simp, fun j i hj _ => by rw [hz] at hj; cases hj⟩ (fun t _ => hz t) (fun j => by rw [hz]; rfl) (Inv.start.congr (fun j _ => (hz j).symm)) (by
        rw [List.filter_eq_self.2 (fun j _ => by rw [hz]; rfl)]; simp)
    rw [show n - (looseOf l.toArray n).length + (l.toArray.size - n) + (looseOf l.toArray n).length = l.toArray.size by simp; omega] at this
    exact this
  · exfalso
    have hlen : ∀ (rest done : List Nat), looseB l.toArray n done rest = true → done.Nodup → (∀ x ∈ done, x < n) → (done ++ rest).Nodup ∧ ∀ x ∈ done ++ rest, x < n := by
      intro rest
      induction rest with
      | nil => intro done _ h1 h2; simpa using ⟨h1, h2⟩
      | cons i rest ih =>
        intro done hb h1 h2
        simp only [looseB, Bool.and_eq_true, decide_eq_true_eq, Bool.not_eq_true'] at hb
        obtain ⟨⟨⟨⟨⟨hin, hnd⟩, _⟩, _⟩, _⟩, hb'⟩ := hb
        have := ih (done ++ [i]) hb' (by
          rw [List.nodup_append]
          refine ⟨h1, by simp, fun x hx y hy e => ?_⟩
          simp at hy; subst hy; subst e
          have : done.contains x = true := by simpa using hx
          rw [this] at hnd; cases hnd) (by
          intro x hx
          rcases List.mem_append.1 hx with h | h
          · exact h2 x h
          · simp at h; omega)
        simpa using this
    obtain ⟨hnd, hlt⟩ := hlen _ _ ok.loose List.nodup_nil (by simp)
    simp only [List.nil_append] at hnd hlt
    exact hll (by
      have := List.Nodup.length_le_of_subset hnd (fun x hx => List.mem_range.2 (hlt x hx))
      simpa using this)

/-- one operation of the quiet part whose value is known in every world of the class -/
theorem quiet_val {Q : Act → Prop} {a : Act} {o : Oper} {rest : List Oper} (x : Value) (hw : Region.wanted o (yielded ops a.tmps) = true)
    (h1 : ∀ w', C w' → (execOp a.eval o).run P w' = .ok (.value x) w') (h : wpQuiet P ops C Q rest (a.put o.dst x)) : wpQuiet P ops C Q (o :: rest) a := by
  refine wpQuiet_step fun K hK => ?_
  rw [if_pos hw]
  exact ⟨x, fun w' hw' => by unfold Oper.quietAt; rw [h1 w' hw']; exact ⟨rfl, rfl⟩, hK _ h⟩
end
end Go.Proofs.YtajalllecoclcaaDoor.Quiet
