/- A region that draws its order: operations that are quiet, operation h that makes memory, and behind them all what uses it: 'x := T{f(..), ..}' for a variable x that lies in memory. One walk in the text's order serves every order. -/
import Derived.Test.YtimlmjabdakojaaDoorHide
namespace Go.Proofs.YtimlmjabdakojaaDoor.Quiet
open Go Go.RowKit

def endB (ops : Array Oper) (h d : Nat) : Bool :=
  okB ops (h + 1) && decide (h + 1 < ops.size) && (dstOf ops h == some d) &&
  ((List.range (h + 1)).all fun j => !(looks ops j).contains d && waits ops (h + 1) j && (j == h || (dstOf ops j).isSome)) &&
  (match ops[h]? with | some o => o.guard.isNone | none => false)

section
variable {P : Program} {ops : Array Oper} {w0 : World} {a0 : Act} {v : Nat → Value} {h : Nat}

theorem look_val {n : Nat} {v v' : Nat → Value} {S : Nat → Bool} {u : Nat} (hv : ∀ j, S j = true → v j = v' j) : look ops n a0 v S u = look ops n a0 v' S u := by
  unfold look
  cases hf : (List.range n).find? (fun j => S j && dstOf ops j == some u) with
  | none => rfl
  | some j =>
    have := List.find?_some hf
    simp only [Bool.and_eq_true] at this
    simp only
    rw [hv j this.1]

theorem make_walk {Q : Exit → Act → World → Prop} {Psi : Value → World → Prop} {d : Nat} (ok : Ok ops (h + 1)) (hhs : h + 1 < ops.size) (hd : dstOf ops h = some d) (alone : ∀ j, j < h + 1 → d ∉ looks ops j)
    (late : ∀ j, j < h + 1 → waits ops (h + 1) j = true) (gn : ∀ o, ops[h]? = some o → o.guard = none)
    (quiet : ∀ i o, i < h → ops[i]? = some o → ∀ wb, Lt w0 wb → YieldsIn P ops (Cls wb) o (v i) (fr ops a0 v i))
    (make : ∀ o, ops[h]? = some o → ∀ w, Lt w0 w → ∃ x w', (execOp (fr ops a0 v h).eval o).run P w = .ok (.value x) w' ∧ Lt w w' ∧ Psi x w')
    (mono : ∀ x w w', Psi x w → Lt w w' → Psi x w')
    (hend : ∀ x w', Lt w0 w' → Psi x w' → wpList P ops Q (ops.toList.drop (h + 1)) ((fr ops a0 v h).put (some d) x) w') :
    ∀ (m : Nat) (L : Array Bool) (a : Act) (w : World) (y : Value), Closed ops L → (∀ t, h + 1 ≤ t → listedB L t = false) → Lt w0 w → Inv ops (h + 1) a0 (fun j => if j = h then y else v j) (listedB L) a → (listedB L h = true → Psi y w) →
      ((List.range (h + 1)).filter fun j => !listedB L j).length = m → wpAny P .any ops Q (m + (ops.size - (h + 1))) L a w
  | 0, L, a, w, y, hc, ht, hw, hi, hh, hm => by
    have hall := all_listed hm
    have ea : a = fr ops a0 (fun j => if j = h then y else v j) (h + 1) := hi.same ((fr_inv ok.dst (h + 1) (Nat.le_refl _)).congr (fun j hj => by rw [hall j hj]; simpa using hj))
    have eb : fr ops a0 (fun j => if j = h then y else v j) (h + 1) = (fr ops a0 v h).put (some d) y := by
      show (fr ops a0 (fun j => if j = h then y else v j) h).put (dstOf ops h) (if h = h then y else v h) = _
      rw [fr_congr (v' := v) h (fun j hj => if_neg (by omega)), hd, if_pos rfl]
    rw [ea, eb]
    have hlen : (ops.toList.drop (h + 1)).length = ops.size - (h + 1) := by simp
    have := tail_walk ok (ops.toList.drop (h + 1)) (h + 1) L ((fr ops a0 v h).put (some d) y) w (fun j => by simp [List.getElem?_drop]) (Nat.le_refl _) (by rw [hlen]; omega) hc (fun j _ => by
      by_cases h' : j < h + 1
      · rw [hall j h']; simp [h']
      · rw [ht j (by omega)]; simp [h']) (hend y w hw (hh (hall h (by omega))))
    rw [hlen] at this
    rwa [Nat.zero_add]
  | m + 1, L, a, w, y, hc, ht, hw, hi, hh, hm => by
    have hex : ∃ i, i < h + 1 ∧ listedB L i = false := by
      cases hf : (List.range (h + 1)).filter fun j => !listedB L j with
      | nil => rw [hf] at hm; cases hm
      | cons x xs =>
        have : x ∈ (List.range (h + 1)).filter fun j => !listedB L j := by rw [hf]; simp
        simp at this
        exact ⟨x, by omega, this.2⟩
    obtain ⟨i0, hi0, hu0, hl0⟩ := exists_least (listedB L) (h + 1) hex
    have hle := ok.le
    have hr0 := ready_least ok hc.1 (by omega) hu0 hl0
    rw [show m + 1 + (ops.size - (h + 1)) = (m + (ops.size - (h + 1))) + 1 by omega]
    refine ⟨fun h' => (by rw [h'] at hr0; cases hr0), fun i hri => ?_⟩
    obtain ⟨hun, oi, hoi, hall⟩ := mem_ready.1 hri
    obtain ⟨hlf, his⟩ := listedB_false hun
    have hios : i < ops.size := (Array.getElem?_eq_some_iff.1 hoi).1
    have hin : i < h + 1 := by
      rcases Nat.lt_or_ge i (h + 1) with h1 | h1
      · exact h1
      · exfalso
        by_cases hih : i = h + 1
        · subst hih
          obtain ⟨o', ho', e, he, hb, hon⟩ := waits_spec (late i0 hi0)
          have : o' = oi := Option.some.inj (ho'.symm.trans hoi)
          subst this
          have h2 := hall e he hb
          rw [hon] at h2
          unfold listedB at hu0
          rw [h2] at hu0; cases hu0
        · obtain ⟨o', ho', e, he, hb, hon⟩ := waits_spec (ok.chain i (by omega) hios)
          have : o' = oi := Option.some.inj (ho'.symm.trans hoi)
          subst this
          have h2 := hall e he hb
          have h3 := ht (i - 1) (by omega)
          unfold listedB at h3
          rw [hon, h3] at h2; cases h2
    have hdi : dstOf ops i = oi.dst := by unfold dstOf; rw [hoi]; rfl
    have hsame : ∀ u ∈ looks ops i, (fr ops a0 v i).tmps[u]? = a.tmps[u]? := fun u hu => by
      rw [← fr_congr (ops := ops) (a0 := a0) (v := fun j => if j = h then y else v j) (v' := v) i (fun j hj => if_neg (by omega))]
      rw [(fr_inv ok.dst i (by omega)).slot u, hi.slot u]
      refine look_congr (fun j hj hdj => ?_)
      by_cases hji : j = i
      · subst hji; rw [hlf]; simp
      · have hw' := ok.hang i hin j hj hji u hu hdj
        split at hw'
        · rename_i hlt
          obtain ⟨o', ho', e, he, hb, rfl⟩ := waits_spec hw'
          have : o' = oi := Option.some.inj (ho'.symm.trans hoi)
          subst this
          have := hall e he hb
          unfold listedB
          rw [this]; simpa using hlt
        · rename_i hlt
          have : listedB L j = false := by
            cases hlj : listedB L j with
            | false => rfl
            | true => rw [hc.2 j i hlj hw'] at hlf; cases hlf
          rw [this]; simpa using hlt
    have hcount := count_set hin hlf his
    have hsel : isSelect ops i = false := ok.sels i
    have next : ∀ (b : Act) (w' : World) (z : Value), Lt w w' → Inv ops (h + 1) a0 (fun j => if j = h then z else v j) (listedB (L.setIfInBounds i true)) b → (listedB (L.setIfInBounds i true) h = true → Psi z w') → wpAny P .any ops Q (m + (ops.size - (h + 1))) (L.setIfInBounds i true) b w' :=
      fun b w' z hww hib hhb => make_walk ok hhs hd alone late gn quiet make mono hend m _ b w' z (hc.set hri) (fun t htn => by rw [listedB_set his, ht t htn]; simp; omega) (hw.trans hww) hib hhb (by omega)
    by_cases hih : i = h
    · subst hih
      obtain ⟨x, w', hrun, hww, hpsi⟩ := make oi hoi w hw
      have hg := gn oi hoi
      have hex : execOp a.eval oi = execOp (fr ops a0 v i).eval oi := by
        refine (execOp_congr oi (fun cs bl e => by unfold isSelect at hsel; rw [hoi] at hsel; simp [e] at hsel) fun y hy => ?_)
        cases y with
        | tmp t =>
          have ht : t ∈ looks ops i := by unfold looks; rw [hoi]; exact List.mem_append_left _ (List.mem_filterMap.2 ⟨.tmp t, by simpa using hy, rfl⟩)
          have := hsame t ht
          simp only [Act.eval, Array.getD_eq_getD_getElem?, this]
        | _ => rfl
      unfold wpOp
      simp only [hoi]
      rw [if_pos (by unfold Region.wanted; rw [hg])]
      refine .inl ?_
      unfold Oper.wp
      rw [hex, hrun]
      show wpAny P .any ops Q (m + (ops.size - (i + 1))) (L.setIfInBounds i true) (a.put oi.dst x) w'
      refine next _ w' x hww ?_ (fun _ => hpsi)
      have hi2 : Inv ops (i + 1) a0 (fun j => if j = i then x else v j) (listedB L) a := ⟨hi.defers, fun u => (hi.slot u).trans (look_val (fun j hj => by
        have : j ≠ i := fun e => by rw [e, hlf] at hj; cases hj
        rw [if_neg this, if_neg this]))⟩
      have := (hi2.put hin (ok.dst i hin)).congr (fun j _ => (listedB_set his j).symm)
      rw [← hdi]
      rw [if_pos rfl] at this
      exact this
    · have hlt : i < h := by omega
      refine late_run hoi hsel (fun u hu => hsame u hu) (quiet i oi hlt hoi w hw) (fun w' hww => ?_)
      have hlh : listedB (L.setIfInBounds i true) h = listedB L h := by
        rw [listedB_set his]
        have : (h == i) = false := by simpa using fun e => hih e.symm
        rw [this, Bool.or_false]
      refine next _ w' y hww ?_ (fun hl => by rw [hlh] at hl; exact mono y w w' (hh hl) hww)
      have := (hi.put hin (ok.dst i hin)).congr (fun j _ => (listedB_set his j).symm)
      rw [if_neg hih] at this
      rw [← hdi]; exact this

/-- **ONE WALK**: the operations ahead of h from every later world to the same frame, the making, and what stands behind. -/
theorem region_make {id : Nat} {Q : Exit → Act → World → Prop} {a A1 : Act} {w : World} {l : List Oper} {Psi : Value → World → Prop} (h d : Nat) (hm : P.follows .mixedOrders = true) (hB : endB l.toArray h d = true)
    (hsz : ((List.range l.length).all fun j => match dstOf l.toArray j with | some u => decide (u < a.tmps.size) | none => true) = true)
    (H1 : ∀ wb, Lt w wb → wpQuiet P l.toArray (Cls wb) (fun a' => a' = A1) (l.take h) a)
    (make : ∀ o, l[h]? = some o → ∀ w1, Lt w w1 → ∃ x w', (execOp A1.eval o).run P w1 = .ok (.value x) w' ∧ Lt w1 w' ∧ Psi x w')
    (mono : ∀ x w1 w2, Psi x w1 → Lt w1 w2 → Psi x w2)
    (hend : ∀ x w', Lt w w' → Psi x w' → wpList P l.toArray Q (l.drop (h + 1)) (A1.put (some d) x) w') : (Code.region id l.toArray true).wp P Q a w := by
  simp only [endB, Bool.and_eq_true, decide_eq_true_eq, beq_iff_eq, List.all_eq_true, List.mem_range, Bool.or_eq_true, Bool.not_eq_true', List.contains_eq_mem, decide_eq_false_iff_not] at hB
  obtain ⟨⟨⟨⟨hok, hlt⟩, hdh⟩, hall⟩, hgd⟩ := hB
  have ok := ok_of hok
  generalize hops : l.toArray = ops at hok hlt hdh hall hgd ok hsz H1 hend ⊢
  have hlen : l.length = ops.size := by rw [← hops]; simp
  have hget : ∀ i : Nat, ops[i]? = l[i]? := fun i => by rw [← hops, List.getElem?_toArray]
  have hdrop : ops.toList.drop (h + 1) = l.drop (h + 1) := by rw [← hops]
  have key : ∀ wb, Lt w wb → ∃ v : Nat → Value, (∀ i o, i < h → ops[i]? = some o → YieldsIn P ops (Cls wb) o (v i) (fr ops a v i)) ∧ fr ops a v h = A1 := by
    intro wb hwb
    have htl : (l.take h).length = h := by simp; omega
    obtain ⟨v1, _, hy1, he1⟩ := values_of (ops := ops) (a0 := a) (l.take h) 0 (fun _ => undef) (fun j hj => by
      rw [htl] at hj; rw [hget]; simp [hj]) (H1 wb hwb)
    rw [htl, Nat.zero_add] at he1 hy1
    exact ⟨v1, fun i o hi ho => hy1 i (Nat.zero_le _) hi o ho, he1⟩
  obtain ⟨v, hv, hvA1⟩ := key w (Lt.refl w)
  have hdst : ∀ i, i < h → ∀ j, j < h → j ≠ i → ∀ d, dstOf ops i = some d → dstOf ops j ≠ some d := fun i hi j hj => ok.dst i (by omega) j (by omega)
  have hsame : ∀ wb, Lt w wb → ∀ v', fr ops a v' h = A1 → ∀ i, i < h → v' i = v i := fun wb hwb v' he i hi => by
    obtain ⟨⟨_, _⟩, h3⟩ := hall i (by omega)
    rcases h3 with h3 | h3
    · omega
    · obtain ⟨u, hu⟩ := Option.isSome_iff_exists.1 h3
      have hub : u < a.tmps.size := by
        have := List.all_eq_true.1 hsz i (List.mem_range.2 (by omega))
        rw [hu] at this
        simpa using this
      have e1 := fr_value (v := v') hdst hi hu hub
      have e2 := fr_value (v := v) hdst hi hu hub
      rw [he, ← hvA1, e2] at e1
      exact (Option.some.inj e1).symm
  refine wp_region_any hm ?_
  have hz : ∀ j, listedB (Array.replicate ops.size false) j = false := fun j => by
    unfold listedB
    rw [Array.getD_eq_getD_getElem?, Array.getElem?_replicate]
    split <;> rfl
  have hcnt : ((List.range (h + 1)).filter fun j => !listedB (Array.replicate ops.size false) j).length = h + 1 := by
    rw [List.filter_eq_self.2 (fun j _ => by rw [hz]; rfl)]; simp
  have := make_walk (P := P) (Q := Q) (Psi := Psi) (v := v) (w0 := w) (a0 := a) ok hlt hdh (fun j hj => (hall j hj).1.1) (fun j hj => (hall j hj).1.2)
    (fun o ho => by rw [ho] at hgd; simpa using hgd)
    (fun i o hi ho wb hwb => by
      obtain ⟨v', hv', he'⟩ := key wb hwb
      have hs := hsame wb hwb v' he'
      have := hv' i o hi ho
      rw [hs i hi, fr_congr (v' := v) i (fun j hj => hs j (by omega))] at this
      exact this)
    (fun o ho w1 hw1 => by rw [hvA1]; exact make o (by rw [← hget]; exact ho) w1 hw1) mono
    (fun x w' hw' hp => by rw [hdrop, hvA1]; exact hend x w' hw' hp)
    (h + 1) (Array.replicate ops.size false) a w.drew (v h) ⟨by simp, fun j i hj _ => by rw [hz] at hj; cases hj⟩ (fun t _ => hz t) ((Below.refl _ _).drew) (Inv.start.congr (fun j _ => (hz j).symm)) (fun hh => by rw [hz] at hh; cases hh) hcnt
  rw [show h + 1 + (ops.size - (h + 1)) = ops.size by omega] at this
  exact this
end
end Go.Proofs.YtimlmjabdakojaaDoor.Quiet
