/- A region that draws its order: operations that are quiet, operation h that stores, and behind them all the last ones: 'return x, f(..)' where x's result lies in memory: the store may come before what the text has ahead of it. One walk in the text's order serves every order. -/
import Derived.Test.YtimlmjabdakojaaDoorMake
namespace Go.Proofs.YtimlmjabdakojaaDoor.Quiet
open Go Go.RowKit

def storeB (ops : Array Oper) (h : Nat) : Bool :=
  okB ops (h + 1) && decide (h + 1 < ops.size) && (dstOf ops h).isNone &&
  ((List.range (h + 1)).all fun j => waits ops (h + 1) j && (j == h || (dstOf ops j).isSome)) &&
  (match ops[h]? with | some o => o.guard.isNone | none => false)

section
variable {P : Program} {ops : Array Oper} {a0 : Act} {v : Nat → Value} {h : Nat}

theorem store_walk {Q : Exit → Act → World → Prop} {R0 Psi : World → Prop} (ok : Ok ops (h + 1)) (hhs : h + 1 < ops.size) (hd : dstOf ops h = none)
    (late : ∀ j, j < h + 1 → waits ops (h + 1) j = true) (gn : ∀ o, ops[h]? = some o → o.guard = none)
    (quiet : ∀ i o, i < h → ops[i]? = some o → ∀ wb, R0 wb ∨ Psi wb → YieldsIn P ops (Cls wb) o (v i) (fr ops a0 v i))
    (make : ∀ o, ops[h]? = some o → ∀ w, R0 w → ∃ w', (execOp (fr ops a0 v h).eval o).run P w = .ok .skip w' ∧ Psi w')
    (mono0 : ∀ w w', R0 w → Lt w w' → R0 w') (mono : ∀ w w', Psi w → Lt w w' → Psi w')
    (hend : ∀ w', Psi w' → wpList P ops Q (ops.toList.drop (h + 1)) (fr ops a0 v h) w') :
    ∀ (m : Nat) (L : Array Bool) (a : Act) (w : World), Closed ops L → (∀ t, h + 1 ≤ t → listedB L t = false) → Inv ops (h + 1) a0 v (listedB L) a → (listedB L h = true → Psi w) → (listedB L h = false → R0 w) →
      ((List.range (h + 1)).filter fun j => !listedB L j).length = m → wpAny P .any ops Q (m + (ops.size - (h + 1))) L a w
  | 0, L, a, w, hc, ht, hi, hh, hh0, hm => by
    have hall := all_listed hm
    have ea : a = fr ops a0 v (h + 1) := hi.same ((fr_inv ok.dst (h + 1) (Nat.le_refl _)).congr (fun j hj => by rw [hall j hj]; simpa using hj))
    have eb : fr ops a0 v (h + 1) = fr ops a0 v h := by
      show (fr ops a0 v h).put (dstOf ops h) (v h) = _
      rw [hd]; rfl
    rw [ea, eb]
    have hlen : (ops.toList.drop (h + 1)).length = ops.size - (h + 1) := by simp
    have := tail_walk ok (ops.toList.drop (h + 1)) (h + 1) L (fr ops a0 v h) w (fun j => by simp [List.getElem?_drop]) (Nat.le_refl _) (by rw [hlen]; omega) hc (fun j _ => by
      by_cases h' : j < h + 1
      · rw [hall j h']; simp [h']
      · rw [ht j (by omega)]; simp [h']) (hend w (hh (hall h (by omega))))
    rw [hlen] at this
    rwa [Nat.zero_add]
  | m + 1, L, a, w, hc, ht, hi, hh, hh0, hm => by
    have hex : ∃ i, i < h + 1 ∧ listedB L i = false := by
      cases hf : (List.range (h + 1)).filter fun j => !listedB L j with
      | nil => rw [hf] at hm; cases hm
      | cons x xs =>
        have : x ∈ (List.range (h + 1)).filter fun j => !listedB L j := by rw [hf]; simp
        simp at this
        exact ⟨x, by omega, this.2⟩
    obtain ⟨i0, hi0, hu0, hl0⟩ := exists_least (listedB L) (h + 1) hex
    have hle := ok.le
    have hr0 := ready_least ok hc.1 (by omega) hu0 hl0
    rw [show m + 1 + (ops.size - (h + 1)) = (m + (ops.size - (h + 1))) + 1 by omega]
    refine ⟨fun h' => (by rw [h'] at hr0; cases hr0), fun i hri => ?_⟩
    obtain ⟨hun, oi, hoi, hall⟩ := mem_ready.1 hri
    obtain ⟨hlf, his⟩ := listedB_false hun
    have hios : i < ops.size := (Array.getElem?_eq_some_iff.1 hoi).1
    have hin : i < h + 1 := by
      rcases Nat.lt_or_ge i (h + 1) with h1 | h1
      · exact h1
      · exfalso
        by_cases hih : i = h + 1
        · subst hih
          obtain ⟨o', ho', e, he, hb, hon⟩ := waits_spec (late i0 hi0)
          have : o' = oi := Option.some.inj (ho'.symm.trans hoi)
          subst this
          have h2 := hall e he hb
          rw [hon] at h2
          unfold listedB at hu0
          rw [h2] at hu0; cases hu0
        · obtain ⟨o', ho', e, he, hb, hon⟩ := waits_spec (ok.chain i (by omega) hios)
          have : o' = oi := Option.some.inj (ho'.symm.trans hoi)
          subst this
          have h2 := hall e he hb
          have h3 := ht (i - 1) (by omega)
          unfold listedB at h3
          rw [hon, h3] at h2; cases h2
    have hdi : dstOf ops i = oi.dst := by unfold dstOf; rw [hoi]; rfl
    have hsame : ∀ u ∈ looks ops i, (fr ops a0 v i).tmps[u]? = a.tmps[u]? := fun u hu => by
      rw [(fr_inv ok.dst i (by omega)).slot u, hi.slot u]
      refine look_congr (fun j hj hdj => ?_)
      by_cases hji : j = i
      · subst hji; rw [hlf]; simp
      · have hw' := ok.hang i hin j hj hji u hu hdj
        split at hw'
        · rename_i hlt
          obtain ⟨o', ho', e, he, hb, rfl⟩ := waits_spec hw'
          have : o' = oi := Option.some.inj (ho'.symm.trans hoi)
          subst this
          have := hall e he hb
          unfold listedB
          rw [this]; simpa using hlt
        · rename_i hlt
          have : listedB L j = false := by
            cases hlj : listedB L j with
            | false => rfl
            | true => rw [hc.2 j i hlj hw'] at hlf; cases hlf
          rw [this]; simpa using hlt
    have hcount := count_set hin hlf his
    have hsel : isSelect ops i = false := ok.sels i
    have hcur : R0 w ∨ Psi w := by
      cases hl : listedB L h with
      | true => exact .inr (hh hl)
      | false => exact .inl (hh0 hl)
    have next : ∀ (b : Act) (w' : World), Inv ops (h + 1) a0 v (listedB (L.setIfInBounds i true)) b → (listedB (L.setIfInBounds i true) h = true → Psi w') → (listedB (L.setIfInBounds i true) h = false → R0 w') → wpAny P .any ops Q (m + (ops.size - (h + 1))) (L.setIfInBounds i true) b w' :=
      fun b w' hib h1 h2 => store_walk ok hhs hd late gn quiet make mono0 mono hend m _ b w' (hc.set hri) (fun t htn => by rw [listedB_set his, ht t htn]; simp; omega) hib h1 h2 (by omega)
    by_cases hih : i = h
    · subst hih
      obtain ⟨w', hrun, hpsi⟩ := make oi hoi w (hh0 hlf)
      have hg := gn oi hoi
      have hex : execOp a.eval oi = execOp (fr ops a0 v i).eval oi := by
        refine (execOp_congr oi (fun cs bl e => by unfold isSelect at hsel; rw [hoi] at hsel; simp [e] at hsel) fun y hy => ?_)
        cases y with
        | tmp t =>
          have ht : t ∈ looks ops i := by unfold looks; rw [hoi]; exact List.mem_append_left _ (List.mem_filterMap.2 ⟨.tmp t, by simpa using hy, rfl⟩)
          have := hsame t ht
          simp only [Act.eval, Array.getD_eq_getD_getElem?, this]
        | _ => rfl
      unfold wpOp
      simp only [hoi]
      rw [if_pos (by unfold Region.wanted; rw [hg])]
      refine .inl ?_
      unfold Oper.wp
      rw [hex, hrun]
      show wpAny P .any ops Q (m + (ops.size - (i + 1))) (L.setIfInBounds i true) (a.put oi.dst undef) w'
      have hlh : listedB (L.setIfInBounds i true) i = true := by rw [listedB_set his]; simp
      have hinv := (hi.put hin (ok.dst i hin)).congr (fun j _ => (listedB_set his j).symm)
      rw [hd] at hinv
      rw [← hdi, hd]
      exact next a w' hinv (fun _ => hpsi) (fun h0 => by rw [hlh] at h0; cases h0)
    · have hlt : i < h := by omega
      refine late_run hoi hsel (fun u hu => hsame u hu) (quiet i oi hlt hoi w hcur) (fun w' hww => ?_)
      have hlh : listedB (L.setIfInBounds i true) h = listedB L h := by
        rw [listedB_set his]
        have : (h == i) = false := by simpa using fun e => hih e.symm
        rw [this, Bool.or_false]
      have hinv := (hi.put hin (ok.dst i hin)).congr (fun j _ => (listedB_set his j).symm)
      rw [hdi] at hinv
      exact next _ w' hinv (fun h1 => mono w w' (hh (by rw [← hlh]; exact h1)) hww) (fun h1 => mono0 w w' (hh0 (by rw [← hlh]; exact h1)) hww)

/-- **ONE WALK**: the operations ahead of h from every world of both kinds to the same frame, the store, and what stands behind. -/
theorem region_store {id : Nat} {Q : Exit → Act → World → Prop} {a A1 : Act} {w : World} {l : List Oper} {R0 Psi : World → Prop} (h : Nat) (hm : P.follows .mixedOrders = true) (hB : storeB l.toArray h = true)
    (hsz : ((List.range l.length).all fun j => match dstOf l.toArray j with | some u => decide (u < a.tmps.size) | none => true) = true)
    (h0 : R0 w)
    (H1 : ∀ wb, R0 wb ∨ Psi wb → wpQuiet P l.toArray (Cls wb) (fun a' => a' = A1) (l.take h) a)
    (make : ∀ o, l[h]? = some o → ∀ w1, R0 w1 → ∃ w', (execOp A1.eval o).run P w1 = .ok .skip w' ∧ Psi w')
    (mono0 : ∀ w1 w2, R0 w1 → Lt w1 w2 → R0 w2) (mono : ∀ w1 w2, Psi w1 → Lt w1 w2 → Psi w2)
    (hend : ∀ w', Psi w' → wpList P l.toArray Q (l.drop (h + 1)) A1 w') : (Code.region id l.toArray true).wp P Q a w := by
  simp only [storeB, Bool.and_eq_true, decide_eq_true_eq, beq_iff_eq, List.all_eq_true, List.mem_range, Bool.or_eq_true, Option.isNone_iff_eq_none] at hB
  obtain ⟨⟨⟨⟨hok, hlt⟩, hdh⟩, hall⟩, hgd⟩ := hB
  have ok := ok_of hok
  generalize hops : l.toArray = ops at hok hlt hdh hall hgd ok hsz H1 hend ⊢
  have hlen : l.length = ops.size := by rw [← hops]; simp
  have hget : ∀ i : Nat, ops[i]? = l[i]? := fun i => by rw [← hops, List.getElem?_toArray]
  have hdrop : ops.toList.drop (h + 1) = l.drop (h + 1) := by rw [← hops]
  have key : ∀ wb, R0 wb ∨ Psi wb → ∃ v : Nat → Value, (∀ i o, i < h → ops[i]? = some o → YieldsIn P ops (Cls wb) o (v i) (fr ops a v i)) ∧ fr ops a v h = A1 := by
    intro wb hwb
    have htl : (l.take h).length = h := by simp; omega
    obtain ⟨v1, _, hy1, he1⟩ := values_of (ops := ops) (a0 := a) (l.take h) 0 (fun _ => undef) (fun j hj => by
      rw [htl] at hj; rw [hget]; simp [hj]) (H1 wb hwb)
    rw [htl, Nat.zero_add] at he1 hy1
    exact ⟨v1, fun i o hi ho => hy1 i (Nat.zero_le _) hi o ho, he1⟩
  obtain ⟨v, hv, hvA1⟩ := key w (.inl h0)
  have hdst : ∀ i, i < h → ∀ j, j < h → j ≠ i → ∀ d, dstOf ops i = some d → dstOf ops j ≠ some d := fun i hi j hj => ok.dst i (by omega) j (by omega)
  have hsame : ∀ wb, R0 wb ∨ Psi wb → ∀ v', fr ops a v' h = A1 → ∀ i, i < h → v' i = v i := fun wb hwb v' he i hi => by
    obtain ⟨_, h3⟩ := hall i (by omega)
    rcases h3 with h3 | h3
    · omega
    · obtain ⟨u, hu⟩ := Option.isSome_iff_exists.1 h3
      have hub : u < a.tmps.size := by
        have := List.all_eq_true.1 hsz i (List.mem_range.2 (by omega))
        rw [hu] at this
        simpa using this
      have e1 := fr_value (v := v') hdst hi hu hub
      have e2 := fr_value (v := v) hdst hi hu hub
      rw [he, ← hvA1, e2] at e1
      exact (Option.some.inj e1).symm
  refine wp_region_any hm ?_
  have hz : ∀ j, listedB (Array.replicate ops.size false) j = false := fun j => by
    unfold listedB
    rw [Array.getD_eq_getD_getElem?, Array.getElem?_replicate]
    split <;> rfl
  have hcnt : ((List.range (h + 1)).filter fun j => !listedB (Array.replicate ops.size false) j).length = h + 1 := by
    rw [List.filter_eq_self.2 (fun j _ => by rw [hz]; rfl)]; simp
  have := store_walk (P := P) (Q := Q) (R0 := R0) (Psi := Psi) (v := v) (a0 := a) ok hlt hdh (fun j hj => (hall j hj).1)
    (fun o ho => by rw [ho] at hgd; simpa using hgd)
    (fun i o hi ho wb hwb => by
      obtain ⟨v', hv', he'⟩ := key wb hwb
      have hs := hsame wb hwb v' he'
      have := hv' i o hi ho
      rw [hs i hi, fr_congr (v' := v) i (fun j hj => hs j (by omega))] at this
      exact this)
    (fun o ho w1 hw1 => by rw [hvA1]; exact make o (by rw [← hget]; exact ho) w1 hw1) mono0 mono
    (fun w' hp => by rw [hdrop, hvA1]; exact hend w' hp)
    (h + 1) (Array.replicate ops.size false) a w.drew ⟨by simp, fun j i hj _ => by rw [hz] at hj; cases hj⟩ (fun t _ => hz t) (Inv.start.congr (fun j _ => (hz j).symm)) (fun hh => by rw [hz] at hh; cases hh) (fun _ => mono0 w _ h0 ((Below.refl _ _).drew)) hcnt
  rw [show h + 1 + (ops.size - (h + 1)) = ops.size by omega] at this
  exact this
end
end Go.Proofs.YtimlmjabdakojaaDoor.Quiet
