/- A region that draws its order, all of whose operations are quiet but one pair: operation h makes memory, operation h + 1 alone looks at what it made and yields a known value. One walk in the text's order serves every order. -/
import Derived.Test.YtimlmjabdakojaaDoorLater
namespace Go.Proofs.YtimlmjabdakojaaDoor.Quiet
open Go Go.RowKit

def Lt (w w' : World) : Prop := Below w.heap.size w w'
theorem Lt.refl (w : World) : Lt w w := Below.refl _ _
theorem Lt.trans {a b c : World} (h : Lt a b) (k : Lt b c) : Lt a c := Below.trans h (k.mono h.size)
def Cls (w : World) : World → Prop := fun w' => ∃ x : Later w, w' = x.at
theorem Cls.self (w : World) : Cls w w := ⟨⟨w, Below.refl _ _⟩, rfl⟩
theorem Cls.lt {w w' : World} (h : Cls w w') : Lt w w' := by obtain ⟨x, rfl⟩ := h; exact x.below

/-- operation h writes no slot -/
def blind (ops : Array Oper) (h : Nat) : Array Oper := ops.modify h fun o => { o with dst := none }
def hideB (ops : Array Oper) (h d e : Nat) : Bool :=
  okB (blind ops h) ops.size && decide (h + 1 < ops.size) && waits ops (h + 1) h && (dstOf ops h == some d) && (dstOf ops (h + 1) == some e) &&
  ((List.range ops.size).all fun j => (j == h + 1 || !(looks ops j).contains d) && (j == h || dstOf ops j != some d) && (j == h || (dstOf ops j).isSome) && looks (blind ops h) j == looks ops j) &&
  (match ops[h]?, ops[h + 1]? with | some o, some o' => o.guard.isNone && o'.guard.isNone | _, _ => false)

section
variable {P : Program} {ops : Array Oper} {w0 : World} {a0 : Act} {v : Nat → Value} {h : Nat}

theorem blind_get (i : Nat) : (blind ops h)[i]? = (ops[i]?).map fun o => if i = h then { o with dst := none } else o := by
  unfold blind
  rw [Array.getElem?_modify]
  by_cases e : h = i
  · subst e; simp
  · simp [e, Ne.symm e]
theorem blind_size : (blind ops h).size = ops.size := by simp [blind]
theorem blind_waits (j i : Nat) : waits (blind ops h) j i = waits ops j i := by
  unfold waits
  rw [blind_get]
  cases ops[j]? with
  | none => rfl
  | some o => simp only [Option.map_some]; split <;> rfl
theorem blind_dst (i : Nat) (hi : i ≠ h) : dstOf (blind ops h) i = dstOf ops i := by
  unfold dstOf
  rw [blind_get]
  cases ops[i]? with
  | none => rfl
  | some o => simp [hi]
theorem blind_dst_h : dstOf (blind ops h) h = none := by
  unfold dstOf
  rw [blind_get]
  cases ops[h]? with
  | none => rfl
  | some o => simp
theorem blind_select (i : Nat) : isSelect (blind ops h) i = isSelect ops i := by
  unfold isSelect
  rw [blind_get]
  cases ops[i]? with
  | none => rfl
  | some o => by_cases hi : i = h <;> simp [hi]
/-- what an operation looks at, but for a guard that hangs on operation h -/
theorem blind_ready (L : Array Bool) (i : Nat) : i ∈ Region.ready .any (blind ops h) L ↔ i ∈ Region.ready .any ops L := by
  rw [mem_ready, mem_ready]
  refine and_congr_right fun _ => ?_
  constructor
  · rintro ⟨o, ho, hall⟩
    rw [blind_get] at ho
    cases hi : ops[i]? with
    | none => rw [hi] at ho; cases ho
    | some o' =>
      rw [hi] at ho
      simp only [Option.map_some, Option.some.injEq] at ho
      refine ⟨o', rfl, fun e he hb => hall e ?_ hb⟩
      rw [← ho]; split <;> exact he
  · rintro ⟨o, ho, hall⟩
    refine ⟨if i = h then { o with dst := none } else o, by rw [blind_get, ho]; rfl, fun e he hb => hall e ?_ hb⟩
    split at he <;> exact he

/-- a frame with slot d as it was at the beginning -/
def norm (a0 : Act) (d : Nat) (a : Act) : Act := { a with tmps := a.tmps.setIfInBounds d (a0.tmps.getD d undef) }
theorem norm_slot {d u : Nat} (a : Act) (hu : u ≠ d) : (norm a0 d a).tmps[u]? = a.tmps[u]? := by
  unfold norm; exact Array.getElem?_setIfInBounds_ne (fun e => hu e.symm)
theorem norm_put {d : Nat} (a : Act) (x : Option Tmp) (y : Value) (hx : x ≠ some d) : norm a0 d (a.put x y) = (norm a0 d a).put x y := by
  cases x with
  | none => rfl
  | some e =>
    unfold norm Act.put
    simp only
    rw [Array.setIfInBounds_comm _ _ (fun e' => hx (by rw [e']))]
theorem norm_put_same {d : Nat} (a : Act) (y : Value) : norm a0 d (a.put (some d) y) = norm a0 d a := by
  unfold norm Act.put
  simp

/-- one operation in whatever later world, from a frame that agrees on what it looks at -/
theorem late_run {i : Nat} {o : Oper} {a b : Act} {x : Value} {K : Act → World → Prop} {Q : Exit → Act → World → Prop} {w : World} (ho : ops[i]? = some o) (hsel : isSelect ops i = false) (hl : ∀ u ∈ looks ops i, b.tmps[u]? = a.tmps[u]?)
    (hy : YieldsIn P ops (Cls w) o x b) (hk : ∀ w', Lt w w' → K (a.put o.dst x) w') : wpOp P ops Q i K a w := by
  have hy' := yields_same ho hsel hl hy
  have hq : qOp P ops (Cls w) i (fun a' => a' = a.put o.dst x) a := hy'.qOp ho rfl
  exact wpOp_of_qOp (Cls.self w) (fun a' w' hw' ha' => by subst ha'; exact hk w' hw'.lt) hq

structure Plan (P : Program) (ops : Array Oper) (h : Nat) (d : Nat) (w0 : World) (a0 : Act) (v : Nat → Value) (Psi : Value → World → Prop) : Prop where
  ok : Ok (blind ops h) ops.size
  hd : dstOf ops h = some d
  lt : h + 1 < ops.size
  wait : waits ops (h + 1) h = true
  alone : ∀ j, j < ops.size → j ≠ h + 1 → d ∉ looks ops j
  other : ∀ j, j < ops.size → j ≠ h → dstOf ops j ≠ some d
  gnone : ∀ o, ops[h]? = some o ∨ ops[h + 1]? = some o → o.guard = none
  lookB : ∀ j, looks (blind ops h) j = looks ops j
  quiet : ∀ i o, i < ops.size → i ≠ h → i ≠ h + 1 → ops[i]? = some o → ∀ wb, Lt w0 wb → YieldsIn P ops (Cls wb) o (v i) (fr (blind ops h) a0 v i)
  make : ∀ o, ops[h]? = some o → ∀ w, Lt w0 w → ∃ x w', (execOp (fr (blind ops h) a0 v h).eval o).run P w = .ok (.value x) w' ∧ Lt w w' ∧ Psi x w'
  use : ∀ o, ops[h + 1]? = some o → ∀ x w, Lt w0 w → Psi x w → (execOp ((fr (blind ops h) a0 v h).put (some d) x).eval o).run P w = .ok (.value (v (h + 1))) w
  mono : ∀ x w w', Psi x w → Lt w w' → Psi x w'

theorem plan_walk {Q : Exit → Act → World → Prop} {Psi : Value → World → Prop} {d : Nat} (pl : Plan P ops h d w0 a0 v Psi)
    (hend : ∀ x w', Lt w0 w' → Q .normal ((fr (blind ops h) a0 v ops.size).put (some d) x) w') :
    ∀ (m : Nat) (L : Array Bool) (a : Act) (w : World), Closed (blind ops h) L → Lt w0 w → Inv (blind ops h) ops.size a0 v (listedB L) (norm a0 d a) → a.tmps.size = a0.tmps.size → (listedB L h = true → ∃ x, a.tmps[d]? = (if d < a0.tmps.size then some x else none) ∧ Psi x w) →
      ((List.range ops.size).filter fun j => !listedB L j).length = m → wpAny P .any ops Q m L a w
  | 0, L, a, w, hc, hw, hi, hsz, hh, hm => by
    have hall := all_listed hm
    refine ⟨?_, ?_⟩
    · apply List.eq_nil_iff_forall_not_mem.2
      intro i hi
      obtain ⟨hun, o, ho, _⟩ := mem_ready.1 hi
      have hlt : i < ops.size := (Array.getElem?_eq_some_iff.1 ho).1
      have := (listedB_false hun).1
      rw [hall i hlt] at this; cases this
    · obtain ⟨x, hx, _⟩ := hh (hall h (by have := pl.lt; omega))
      have e1 : norm a0 d a = fr (blind ops h) a0 v ops.size := hi.same ((fr_inv pl.ok.dst ops.size (Nat.le_refl _)).congr (fun j hj => by rw [hall j hj]; simpa using hj))
      have e2 : a = (fr (blind ops h) a0 v ops.size).put (some d) x := by
        rw [← e1]
        have ed : a.defers = ((norm a0 d a).put (some d) x).defers := rfl
        have et : a.tmps = ((norm a0 d a).put (some d) x).tmps := by
          unfold norm Act.put
          simp only
          apply Array.ext_getElem?
          intro u
          by_cases hu : d = u
          · subst hu
            rw [hx]
            split
            · rename_i hlt
              rw [Array.getElem?_setIfInBounds_self_of_lt (by rw [Array.size_setIfInBounds, hsz]; exact hlt)]
            · rename_i hlt
              rw [Array.getElem?_eq_none (by rw [Array.size_setIfInBounds, Array.size_setIfInBounds, hsz]; omega)]
          · rw [Array.getElem?_setIfInBounds_ne hu, Array.getElem?_setIfInBounds_ne hu]
        obtain ⟨t, df⟩ := a
        simp only at et ed
        generalize (norm a0 d ⟨t, df⟩).put (some d) x = b at *
        obtain ⟨t', df'⟩ := b
        simp only at et ed
        rw [et, ed]
      rw [e2]
      exact hend x w hw
  | m + 1, L, a, w, hc, hw, hi, hsz, hh, hm => by
    have hex : ∃ i, i < ops.size ∧ listedB L i = false := by
      cases hf : (List.range ops.size).filter fun j => !listedB L j with
      | nil => rw [hf] at hm; cases hm
      | cons x xs =>
        have : x ∈ (List.range ops.size).filter fun j => !listedB L j := by rw [hf]; simp
        simp at this
        exact ⟨x, this.1, this.2⟩
    obtain ⟨i0, hi0, hu0, hl0⟩ := exists_least (listedB L) ops.size hex
    have hr0 := (blind_ready L i0).1 (ready_least pl.ok hc.1 (by rw [blind_size]; omega) hu0 hl0)
    refine ⟨fun h => (by rw [h] at hr0; cases hr0), fun i hri => ?_⟩
    obtain ⟨hun, oi, hoi, hall⟩ := mem_ready.1 hri
    have hin : i < ops.size := (Array.getElem?_eq_some_iff.1 hoi).1
    obtain ⟨hlf, his⟩ := listedB_false hun
    have hrb := (blind_ready (h := h) L i).2 hri
    have hsame : ∀ u ∈ looks ops i, u ≠ d → (fr (blind ops h) a0 v i).tmps[u]? = a.tmps[u]? := fun u hu hud => by
      rw [← norm_slot (a0 := a0) a hud, (fr_inv pl.ok.dst i (by omega)).slot u, hi.slot u]
      refine look_congr (fun j hj hdj => ?_)
      by_cases hji : j = i
      · subst hji; rw [hlf]; simp
      · have hw' := pl.ok.hang i hin j hj hji u (by rw [pl.lookB]; exact hu) hdj
        split at hw'
        · rename_i hlt
          rw [blind_waits] at hw'
          obtain ⟨o', ho', e, he, hb, rfl⟩ := waits_spec hw'
          have : o' = oi := Option.some.inj (ho'.symm.trans hoi)
          subst this
          have := hall e he hb
          unfold listedB
          rw [this]; simpa using hlt
        · rename_i hlt
          have : listedB L j = false := by
            cases hlj : listedB L j with
            | false => rfl
            | true => rw [hc.2 j i hlj hw'] at hlf; cases hlf
          rw [this]; simpa using hlt
    have hcount := count_set hin hlf his
    have hsel : isSelect ops i = false := by
      rw [← blind_select (h := h)]
      exact pl.ok.sels i
    have next : ∀ (b : Act) (w' : World) , Lt w w' → Inv (blind ops h) ops.size a0 v (listedB (L.setIfInBounds i true)) (norm a0 d b) → b.tmps.size = a0.tmps.size →
        (listedB (L.setIfInBounds i true) h = true → ∃ x, b.tmps[d]? = (if d < a0.tmps.size then some x else none) ∧ Psi x w') → wpAny P .any ops Q m (L.setIfInBounds i true) b w' :=
      fun b w' hww hib hsb hhb => plan_walk pl hend m _ b w' (hc.set hrb) (hw.trans hww) hib hsb hhb (by omega)
    by_cases hih : i = h
    · subst hih
      obtain ⟨x, w', hrun, hww, hpsi⟩ := pl.make oi hoi w hw
      have hg := pl.gnone oi (.inl hoi)
      have hdi : oi.dst = some d := by have := pl.hd; unfold dstOf at this; rw [hoi] at this; exact this
      have hex : execOp a.eval oi = execOp (fr (blind ops i) a0 v i).eval oi := by
        refine (execOp_congr oi (fun cs bl e => by unfold isSelect at hsel; rw [hoi] at hsel; simp [e] at hsel) fun y hy => ?_)
        cases y with
        | tmp t =>
          have ht : t ∈ looks ops i := by unfold looks; rw [hoi]; exact List.mem_append_left _ (List.mem_filterMap.2 ⟨.tmp t, by simpa using hy, rfl⟩)
          have := hsame t ht (fun e => pl.alone i hin (by omega) (e ▸ ht))
          simp only [Act.eval, Array.getD_eq_getD_getElem?, this]
        | _ => rfl
      unfold wpOp
      simp only [hoi]
      rw [if_pos (by unfold Region.wanted; rw [hg])]
      refine .inl ?_
      unfold Oper.wp
      rw [hex, hrun]
      show wpAny P .any ops Q m (L.setIfInBounds i true) (a.put oi.dst x) w'
      rw [hdi]
      refine next _ w' hww ?_ (by simp [Act.put, hsz]) (fun _ => ⟨x, ?_, hpsi⟩)
      · rw [norm_put_same]
        have := hi.put (i := i) hin (pl.ok.dst i hin)
        rw [blind_dst_h] at this
        exact this.congr (fun j _ => (listedB_set his j).symm)
      · show (a.tmps.setIfInBounds d x)[d]? = _
        split
        · rename_i hlt
          rw [Array.getElem?_setIfInBounds_self_of_lt (by rw [hsz]; exact hlt)]
        · rename_i hlt
          rw [Array.getElem?_eq_none (by rw [Array.size_setIfInBounds, hsz]; omega)]
    · have hdst := blind_dst (ops := ops) (h := h) i hih
      have hdo : dstOf ops i = oi.dst := by unfold dstOf; rw [hoi]; rfl
      have hnd : oi.dst ≠ some d := by rw [← hdo]; exact pl.other i hin hih
      have hlisth : listedB (L.setIfInBounds i true) h = listedB L h := by
        rw [listedB_set his]
        have : (h == i) = false := by simpa using fun e => hih e.symm
        rw [this, Bool.or_false]
      have hinv : Inv (blind ops h) ops.size a0 v (listedB (L.setIfInBounds i true)) (norm a0 d (a.put oi.dst (v i))) := by
        rw [norm_put a oi.dst (v i) hnd]
        have := hi.put (i := i) hin (pl.ok.dst i hin)
        rw [hdst, hdo] at this
        exact this.congr (fun j _ => (listedB_set his j).symm)
      have hslot : ∀ y, (a.put oi.dst y).tmps[d]? = a.tmps[d]? := fun y => by
        cases hx : oi.dst with
        | none => rfl
        | some e =>
          show (a.tmps.setIfInBounds e y)[d]? = _
          exact Array.getElem?_setIfInBounds_ne (fun e' => hnd (by rw [hx, e']))
      have hsize : ∀ y, (a.put oi.dst y).tmps.size = a0.tmps.size := fun y => by
        cases oi.dst <;> simp [Act.put, hsz]
      by_cases hiu : i = h + 1
      · subst hiu
        have hlh : listedB L h = true := by
          obtain ⟨o', ho', e, he, hb, hon⟩ := waits_spec pl.wait
          have : o' = oi := Option.some.inj (ho'.symm.trans hoi)
          subst this
          have := hall e he hb
          rw [hon] at this
          exact this
        obtain ⟨x, hx, hpsi⟩ := hh hlh
        have hg := pl.gnone oi (.inr hoi)
        have hrun := pl.use oi hoi x w hw hpsi
        have hfr : fr (blind ops h) a0 v (h + 1) = fr (blind ops h) a0 v h := by
          show (fr (blind ops h) a0 v h).put (dstOf (blind ops h) h) (v h) = _
          rw [blind_dst_h]; rfl
        have hex : execOp a.eval oi = execOp ((fr (blind ops h) a0 v h).put (some d) x).eval oi := by
          refine (execOp_congr oi (fun cs bl e => by unfold isSelect at hsel; rw [hoi] at hsel; simp [e] at hsel) fun y hy => ?_)
          cases y with
          | tmp t =>
            have ht : t ∈ looks ops (h + 1) := by unfold looks; rw [hoi]; exact List.mem_append_left _ (List.mem_filterMap.2 ⟨.tmp t, by simpa using hy, rfl⟩)
            have e : a.tmps[t]? = ((fr (blind ops h) a0 v h).put (some d) x).tmps[t]? := by
              show _ = ((fr (blind ops h) a0 v h).tmps.setIfInBounds d x)[t]?
              have hfs : (fr (blind ops h) a0 v h).tmps.size = a0.tmps.size := (fr_inv pl.ok.dst h (by omega)).size
              by_cases htd : d = t
              · subst htd
                rw [hx]
                split
                · rename_i hlt
                  rw [Array.getElem?_setIfInBounds_self_of_lt (by rw [hfs]; exact hlt)]
                · rename_i hlt
                  rw [Array.getElem?_eq_none (by rw [Array.size_setIfInBounds, hfs]; omega)]
              · rw [Array.getElem?_setIfInBounds_ne htd, ← hfr]
                exact (hsame t ht (fun e' => htd e'.symm)).symm
            simp only [Act.eval, Array.getD_eq_getD_getElem?, e]
          | _ => rfl
        unfold wpOp
        simp only [hoi]
        rw [if_pos (by unfold Region.wanted; rw [hg])]
        refine .inl ?_
        unfold Oper.wp
        rw [hex, hrun]
        exact next _ w (Lt.refl w) hinv (hsize _) (fun _ => ⟨x, by rw [hslot]; exact hx, hpsi⟩)
      · refine late_run hoi hsel (fun u hu => hsame u hu (fun e => pl.alone i hin hiu (e ▸ hu))) (pl.quiet i oi hin hih hiu hoi w hw) (fun w' hww => ?_)
        exact next _ w' hww hinv (hsize _) (fun hl => by
          rw [hlisth] at hl
          obtain ⟨x, hx, hpsi⟩ := hh hl
          exact ⟨x, by rw [hslot]; exact hx, pl.mono x w w' hpsi hww⟩)

/-- the walk in the text's order gives each operation its value; the frames may be counted with another list of the same destinations -/
theorem values_of2 {ops' : Array Oper} {C : World → Prop} {K : Act → Prop} : ∀ (l : List Oper) (k : Nat) (pre : Nat → Value), (∀ j, j < l.length → l[j]? = ops[k + j]?) → (∀ i, k ≤ i → i < k + l.length → dstOf ops' i = dstOf ops i) → wpQuiet P ops C K l (fr ops' a0 pre k) →
    ∃ v : Nat → Value, (∀ j, j < k → v j = pre j) ∧ (∀ i, k ≤ i → i < k + l.length → ∀ o, ops[i]? = some o → YieldsIn P ops C o (v i) (fr ops' a0 v i)) ∧ K (fr ops' a0 v (k + l.length))
  | [], k, pre, _, _, h => ⟨pre, fun _ _ => rfl, fun i h1 h2 => by simp at h2; omega, h⟩
  | o :: l, k, pre, hl, hds, h => by
    have h0 : ops[k]? = some o := by simpa using (hl 0 (by simp)).symm
    have hq : qOp P ops C k (wpQuiet P ops C K l) (fr ops' a0 pre k) := by unfold qOp; simp only [h0]; exact h
    obtain ⟨x, hy, hr⟩ := yieldsIn_of_qOp h0 hq
    have hd : dstOf ops' k = o.dst := by rw [hds k (Nat.le_refl _) (by simp)]; unfold dstOf; rw [h0]; rfl
    have e : fr ops' a0 (fun j => if j = k then x else pre j) k = fr ops' a0 pre k := fr_congr k (fun j hj => if_neg (by omega))
    have hr' : wpQuiet P ops C K l (fr ops' a0 (fun j => if j = k then x else pre j) (k + 1)) := by
      show wpQuiet P ops C K l ((fr ops' a0 (fun j => if j = k then x else pre j) k).put (dstOf ops' k) (if k = k then x else pre k))
      rw [e, hd, if_pos rfl]; exact hr
    obtain ⟨v, h1, h2, h3⟩ := values_of2 l (k + 1) _ (fun j hj => by have := hl (j + 1) (by simp; omega); simpa [Nat.add_assoc, Nat.add_comm 1 j] using this) (fun i h1 h2 => hds i (by omega) (by simp at h2 ⊢; omega)) hr'
    have hvk : v k = x := by rw [h1 k (by omega), if_pos rfl]
    have hpre : ∀ j, j < k → v j = pre j := fun j hj => by rw [h1 j (by omega), if_neg (by omega)]
    refine ⟨v, hpre, fun i hi1 hi2 o' ho' => ?_, ?_⟩
    · by_cases hik : i = k
      · subst hik
        rw [h0] at ho'; cases ho'
        rw [hvk, fr_congr i (fun j hj => hpre j hj)]
        exact hy
      · exact h2 i (by omega) (by simp at hi2 ⊢; omega) o' ho'
    · rw [show k + (o :: l).length = k + 1 + l.length by simp; omega]; exact h3

/-- the value of an operation stands in its slot at the end -/
theorem fr_value {n j u : Nat} (hdi : ∀ i, i < n → ∀ j, j < n → j ≠ i → ∀ d, dstOf ops i = some d → dstOf ops j ≠ some d) (hj : j < n) (hu : dstOf ops j = some u) (hs : u < a0.tmps.size) : (fr ops a0 v n).tmps[u]? = some (v j) := by
  rw [(fr_inv hdi n (Nat.le_refl _)).slot u]
  unfold look
  have : (List.range n).find? (fun i => decide (i < n) && dstOf ops i == some u) = some j := by
    rw [List.find?_range_eq_some]
    refine ⟨by simp [hj, hu], by simpa using hj, fun i hi => ?_⟩
    have := hdi j hj i (by omega) (by omega) u hu
    simp [this]
  rw [this]
  simp [hs]

/-- **ONE WALK**: the operations ahead of h, the making, the use, and the rest; from every later world, to the same frames. -/
theorem region_hide {id : Nat} {Q : Exit → Act → World → Prop} {a A1 A2 : Act} {y : Value} {w : World} {l : List Oper} {Psi : Value → World → Prop} (h d e : Nat) (hm : P.follows .mixedOrders = true) (hB : hideB l.toArray h d e = true)
    (hsz : ((List.range l.length).all fun j => match dstOf l.toArray j with | some u => decide (u < a.tmps.size) | none => true) = true)
    (H1 : ∀ wb, Lt w wb → wpQuiet P l.toArray (Cls wb) (fun a' => a' = A1) (l.take h) a)
    (make : ∀ o, l[h]? = some o → ∀ w1, Lt w w1 → ∃ x w', (execOp A1.eval o).run P w1 = .ok (.value x) w' ∧ Lt w1 w' ∧ Psi x w')
    (use : ∀ o, l[h + 1]? = some o → ∀ x w1, Lt w w1 → Psi x w1 → (execOp (A1.put (some d) x).eval o).run P w1 = .ok (.value y) w1)
    (mono : ∀ x w1 w2, Psi x w1 → Lt w1 w2 → Psi x w2)
    (H2 : ∀ wb, Lt w wb → wpQuiet P l.toArray (Cls wb) (fun a' => a' = A2) (l.drop (h + 2)) (A1.put (some e) y))
    (hend : ∀ x w', Lt w w' → Q .normal (A2.put (some d) x) w') : (Code.region id l.toArray true).wp P Q a w := by
  simp only [hideB, Bool.and_eq_true, decide_eq_true_eq, beq_iff_eq, List.all_eq_true, List.mem_range, Bool.or_eq_true, Bool.not_eq_true', List.contains_eq_mem, decide_eq_false_iff_not, bne_iff_ne, ne_eq] at hB
  obtain ⟨⟨⟨⟨⟨⟨hok, hlt⟩, hwt⟩, hdh⟩, hde⟩, hall⟩, hgd⟩ := hB
  have ok := ok_of hok
  generalize hops : l.toArray = ops at hok hlt hwt hdh hde hall hgd ok hsz H1 H2 ⊢
  have hlen : l.length = ops.size := by rw [← hops]; simp
  have hget : ∀ i : Nat, ops[i]? = l[i]? := fun i => by rw [← hops, List.getElem?_toArray]
  have hdst : ∀ i, i ≠ h → dstOf (blind ops h) i = dstOf ops i := fun i hi => blind_dst i hi
  -- values for one world
  have key : ∀ wb, Lt w wb → ∃ v : Nat → Value, (∀ i o, i < ops.size → i ≠ h → i ≠ h + 1 → ops[i]? = some o → YieldsIn P ops (Cls wb) o (v i) (fr (blind ops h) a v i)) ∧ fr (blind ops h) a v h = A1 ∧ v (h + 1) = y ∧ fr (blind ops h) a v ops.size = A2 := by
    intro wb hwb
    have htl : (l.take h).length = h := by simp; omega
    obtain ⟨v1, _, hy1, he1⟩ := values_of2 (ops := ops) (ops' := blind ops h) (a0 := a) (l.take h) 0 (fun _ => undef) (fun j hj => by
      rw [htl] at hj; rw [hget]; simp [hj]) (fun i _ hi => hdst i (by omega)) (H1 wb hwb)
    rw [htl, Nat.zero_add] at he1 hy1
    have hf2 : fr (blind ops h) a (fun j => if j = h + 1 then y else v1 j) (h + 2) = A1.put (dstOf ops (h + 1)) y := by
      show ((fr (blind ops h) a (fun j => if j = h + 1 then y else v1 j) h).put (dstOf (blind ops h) h) _).put (dstOf (blind ops h) (h + 1)) (if h + 1 = h + 1 then y else v1 (h + 1)) = _
      rw [blind_dst_h, hdst (h + 1) (by omega), if_pos rfl, fr_congr (v' := v1) h (fun j hj => if_neg (by omega)), he1]
      rfl
    have hdl : (l.drop (h + 2)).length = ops.size - (h + 2) := by simp; omega
    obtain ⟨v, hpre, hy2, he2⟩ := values_of2 (ops := ops) (ops' := blind ops h) (a0 := a) (l.drop (h + 2)) (h + 2) (fun j => if j = h + 1 then y else v1 j) (fun j hj => by
      rw [hget]; simp [List.getElem?_drop]) (fun i hi _ => hdst i (by omega)) (by rw [hf2, hde]; exact H2 wb hwb)
    rw [hdl, show h + 2 + (ops.size - (h + 2)) = ops.size by omega] at he2 hy2
    have hv1 : ∀ j, j < h + 1 → v j = v1 j := fun j hj => by rw [hpre j (by omega), if_neg (by omega)]
    refine ⟨v, fun i o hi h1 h2 ho => ?_, ?_, ?_, he2⟩
    · by_cases hih : i < h
      · rw [hv1 i (by omega), fr_congr i (fun j hj => hv1 j (by omega))]
        exact hy1 i (Nat.zero_le _) hih o ho
      · exact hy2 i (by omega) hi o ho
    · rw [fr_congr h (fun j hj => hv1 j (by omega)), he1]
    · rw [hpre (h + 1) (by omega), if_pos rfl]
  obtain ⟨v, hv, hvA1, hvy, hvA2⟩ := key w (Lt.refl w)
  have hsame : ∀ wb, Lt w wb → ∀ v', fr (blind ops h) a v' ops.size = A2 → ∀ i, i < ops.size → i ≠ h → v' i = v i := fun wb hwb v' he i hi hih => by
    obtain ⟨⟨⟨_, _⟩, h3⟩, _⟩ := hall i hi
    rcases h3 with h3 | h3
    · exact absurd h3 hih
    · obtain ⟨u, hu⟩ := Option.isSome_iff_exists.1 h3
      have hub : u < a.tmps.size := by
        have := List.all_eq_true.1 hsz i (List.mem_range.2 (by omega))
        rw [hu] at this
        simpa using this
      have hu' : dstOf (blind ops h) i = some u := by rw [hdst i hih]; exact hu
      have e1 := fr_value (v := v') ok.dst hi hu' hub
      have e2 := fr_value (v := v) ok.dst hi hu' hub
      rw [he, ← hvA2, e2] at e1
      exact (Option.some.inj e1).symm
  have pl : Plan P ops h d w a v Psi := {
    ok := ok
    hd := hdh
    lt := hlt
    wait := hwt
    alone := fun j hj hjh => (hall j hj).1.1.1.resolve_left hjh
    other := fun j hj hjh => (hall j hj).1.1.2.resolve_left hjh
    gnone := fun o ho => by
      split at hgd
      · rename_i o1 o2 e1 e2
        simp only [Bool.and_eq_true, Option.isNone_iff_eq_none] at hgd
        rcases ho with ho | ho
        · rw [e1] at ho; cases ho; exact hgd.1
        · rw [e2] at ho; cases ho; exact hgd.2
      · cases hgd
    lookB := fun j => by
      by_cases hj : j < ops.size
      · exact (hall j hj).2
      · have e1 : ops[j]? = none := Array.getElem?_eq_none (by omega)
        have e2 : (blind ops h)[j]? = none := Array.getElem?_eq_none (by rw [blind_size]; omega)
        unfold looks; rw [e1, e2]
    quiet := fun i o hi h1 h2 ho wb hwb => by
      obtain ⟨v', hv', _, _, he'⟩ := key wb hwb
      have := hv' i o hi h1 h2 ho
      have hs := hsame wb hwb v' he'
      have hb : fr (blind ops h) a v' i = fr (blind ops h) a v i := by
        have : ∀ k, k ≤ ops.size → fr (blind ops h) a v' k = fr (blind ops h) a v k := by
          intro k
          induction k with
          | zero => intro _; rfl
          | succ k ih =>
            intro hk
            show (fr (blind ops h) a v' k).put (dstOf (blind ops h) k) (v' k) = (fr (blind ops h) a v k).put (dstOf (blind ops h) k) (v k)
            rw [ih (by omega)]
            by_cases hkh : k = h
            · subst hkh; rw [blind_dst_h]; rfl
            · rw [hs k (by omega) hkh]
        exact this i (by omega)
      rw [hs i hi h1, hb] at this
      exact this
    make := fun o ho w1 hw1 => by rw [hvA1]; exact make o (by rw [← hget]; exact ho) w1 hw1
    use := fun o ho x w1 hw1 hp => by rw [hvA1, hvy]; exact use o (by rw [← hget]; exact ho) x w1 hw1 hp
    mono := mono }
  refine wp_region_any hm ?_
  have hz : ∀ j, listedB (Array.replicate ops.size false) j = false := fun j => by
    unfold listedB
    rw [Array.getD_eq_getD_getElem?, Array.getElem?_replicate]
    split <;> rfl
  have hstart : Inv (blind ops h) ops.size a v (listedB (Array.replicate ops.size false)) (norm a d a) := by
    have e : norm a d a = a := by
      unfold norm
      obtain ⟨t, df⟩ := a
      simp only
      congr 1
      apply Array.ext_getElem?
      intro u
      by_cases hu : d = u
      · subst hu
        by_cases hl : d < t.size
        · rw [Array.getElem?_setIfInBounds_self_of_lt hl]; simp [hl]
        · rw [Array.getElem?_eq_none (by rw [Array.size_setIfInBounds]; omega), Array.getElem?_eq_none (by omega)]
      · rw [Array.getElem?_setIfInBounds_ne hu]
    rw [e]
    exact Inv.start.congr (fun j _ => (hz j).symm)
  exact plan_walk pl (fun x w' hw' => by rw [hvA2]; exact hend x w' hw') ops.size (Array.replicate ops.size false) a w.drew ⟨by simp [blind_size], fun j i hj _ => by rw [hz] at hj; cases hj⟩ ((Below.refl _ _).drew) hstart rfl (fun hh => by rw [hz] at hh; cases hh) (by
    rw [List.filter_eq_self.2 (fun j _ => by rw [hz]; rfl)]; simp)
end
end Go.Proofs.YtimlmjabdakojaaDoor.Quiet
