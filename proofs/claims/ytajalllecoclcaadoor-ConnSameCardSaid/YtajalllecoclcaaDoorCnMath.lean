/- Plain mathematics of connections: the acts that came are the state. No program in sight. -/
import Derived.Test.YtajalllecoclcaaDoorPrMath
import Derived.Test.YtajalllecoclcaaDoorTnMath
namespace Go.Proofs.YtajalllecoclcaaDoor.Cn
open Go
structure Act where
  what : Int
  job : Int
  ten : Int
  kind : Int
  lev : Int
  n : Int
  txt : ByteArray
  err : Int
  deriving DecidableEq
def had (L : List Act) (k j : Int) : Bool := L.any fun x => decide (x.what = k) && decide (x.job = j)
def tenant : List Act → Int
  | [] => -1
  | x :: r => if x.what = 2 then x.ten else tenant r
def opened (L : List Act) : Nat := L.countP fun x => decide (x.what = 3)
def refuse (j e : Int) : Act := ⟨1, j, 0, 0, 0, 0, Pr.e0, e⟩
def login (l : List Tn.Ten) (f : Fr.Frm) : Act := match Pr.rd f with
  | none => refuse f.j 30
  | some r => if r.t = 1 ∧ Tn.find l r.tok ≠ -1 then ⟨2, 0, Tn.find l r.tok, 0, 0, 0, Pr.e0, 0⟩ else refuse f.j 30
def opn (L : List Act) (r : Pr.Rq) : Act := if had L 3 r.j = true then refuse r.j 8 else if opened L = 1024 then refuse r.j 5 else ⟨3, r.j, 0, r.k, r.lv, 0, Pr.e0, 0⟩
def over (L : List Act) (r : Pr.Rq) : Bool := had L 6 r.j || ((decide (r.t = 3) || decide (r.t = 4)) && had L 5 r.j)
def use (r : Pr.Rq) : Act := if r.t = 3 then ⟨4, r.j, 0, 0, 0, 0, r.txt, 0⟩ else if r.t = 4 then ⟨5, r.j, 0, 0, 0, 0, Pr.e0, 0⟩ else if r.t = 5 then ⟨6, r.j, 0, 0, 0, 0, Pr.e0, 0⟩ else ⟨7, r.j, 0, 0, 0, r.n, Pr.e0, 0⟩
def act (L : List Act) (r : Pr.Rq) : Act :=
  if r.t = 1 then refuse r.j 8 else if r.t = 2 then opn L r else if r.t = 7 then ⟨8, 0, 0, 0, 0, 0, Pr.e0, 0⟩
  else if had L 3 r.j = false then refuse r.j 31 else if over L r = true then refuse r.j 32 else use r
def step (l : List Tn.Ten) (L : List Act) (f : Fr.Frm) : Act :=
  if tenant L = -1 then login l f
  else match Pr.rd f with
  | none => refuse f.j 35
  | some r => act L r
/-- what the map holds at a job -/
def mark (L : List Act) (j : Int) : Int := (if had L 3 j = true then 1 else 0) + (if had L 5 j = true then 2 else 0) + (if had L 6 j = true then 4 else 0)
theorem had_app (L : List Act) (x : Act) (k j : Int) : had (L ++ [x]) k j = (had L k j || (decide (x.what = k) && decide (x.job = j))) := by
  unfold had
  rw [List.any_append]
  simp
theorem had_no (L : List Act) (x : Act) (k j : Int) (h : x.what ≠ k ∨ x.job ≠ j) : had (L ++ [x]) k j = had L k j := by
  rw [had_app]
  rcases h with h | h
  · rw [decide_eq_false h, Bool.false_and, Bool.or_false]
  · rw [decide_eq_false h, Bool.and_false, Bool.or_false]
theorem had_yes (L : List Act) (x : Act) (k j : Int) (h : x.what = k) (hj : x.job = j) : had (L ++ [x]) k j = true := by
  rw [had_app, decide_eq_true h, decide_eq_true hj]; simp
theorem opened_app (L : List Act) (x : Act) : opened (L ++ [x]) = opened L + if x.what = 3 then 1 else 0 := by
  unfold opened
  rw [List.countP_append]
  simp [List.countP_cons]
theorem tenant_app (L : List Act) (x : Act) (h : tenant L ≠ -1) : tenant (L ++ [x]) = tenant L := by
  induction L with
  | nil => exact absurd rfl h
  | cons y r ih =>
    simp only [List.cons_append, tenant] at h ⊢
    by_cases hy : y.what = 2
    · rw [if_pos hy, if_pos hy]
    · rw [if_neg hy] at h
      rw [if_neg hy, if_neg hy]
      exact ih h
theorem tenant_no (L : List Act) (x : Act) (h : x.what ≠ 2) : tenant (L ++ [x]) = tenant L := by
  induction L with
  | nil => simp only [List.nil_append, tenant]; rw [if_neg h]
  | cons y r ih =>
    simp only [List.cons_append, tenant]
    by_cases hy : y.what = 2
    · rw [if_pos hy, if_pos hy]
    · rw [if_neg hy, if_neg hy]
      exact ih
/-- a Login comes -/
def noLogin (L : List Act) : Prop := ∀ x ∈ L, x.what ≠ 2
theorem tenant_login (L : List Act) (x : Act) (h : noLogin L) (hx : x.what = 2) : tenant (L ++ [x]) = x.ten := by
  induction L with
  | nil => simp only [List.nil_append, tenant]; rw [if_pos hx]
  | cons y r ih =>
    simp only [List.cons_append, tenant]
    rw [if_neg (h y (by simp))]
    exact ih (fun z hz => h z (by simp [hz]))
/-- what holds of all acts of a connection -/
structure Good (L : List Act) : Prop where
  ten : (tenant L = -1 ∧ noLogin L) ∨ 0 ≤ tenant L
  had3 : ∀ j, had L 5 j = true ∨ had L 6 j = true → had L 3 j = true
  most : opened L ≤ 1024
theorem Good.nil : Good [] := ⟨.inl ⟨rfl, fun _ h => nomatch h⟩, fun _ h => h.elim (fun h => nomatch h) (fun h => nomatch h), Nat.zero_le _⟩
theorem rd_t (f : Fr.Frm) (r : Pr.Rq) (h : Pr.rd f = some r) : 1 ≤ r.t ∧ r.t ≤ 7 := by
  have h1 := (Pr.rd_data f r h).1
  rw [h1]
  unfold Pr.rd at h
  repeat' split at h
  all_goals (first | omega | (cases h; done))
/-- an act that turns no mark -/
theorem Good.still {L : List Act} {x : Act} (h : Good L) (h2 : x.what ≠ 2) (h3 : x.what ≠ 3) (h5 : x.what ≠ 5) (h6 : x.what ≠ 6) : Good (L ++ [x]) := by
  refine ⟨?_, fun j hj => ?_, ?_⟩
  · rw [tenant_no _ _ h2]
    rcases h.ten with ⟨a, b⟩ | a
    · refine .inl ⟨a, fun y hy => ?_⟩
      rcases List.mem_append.1 hy with hy | hy
      · exact b y hy
      · rw [List.mem_singleton.1 hy]; exact h2
    · exact .inr a
  · rw [had_no _ _ _ _ (.inl h5), had_no _ _ _ _ (.inl h6)] at hj
    rw [had_no _ _ _ _ (.inl h3)]
    exact h.had3 j hj
  · rw [opened_app, if_neg h3]; exact h.most
theorem Good.refuse {L : List Act} (h : Good L) (j e : Int) : Good (L ++ [Cn.refuse j e]) := h.still (by simp [Cn.refuse]) (by simp [Cn.refuse]) (by simp [Cn.refuse]) (by simp [Cn.refuse])
theorem Good.login {L : List Act} (h : Good L) (l : List Tn.Ten) (f : Fr.Frm) (h0 : tenant L = -1) : Good (L ++ [Cn.login l f]) := by
  unfold Cn.login
  split
  · exact h.refuse _ _
  · next r hr =>
    split
    · next hc =>
      have hfb := Tn.findL_bd r.tok l 0
      change Tn.find l r.tok = -1 ∨ 0 ≤ Tn.find l r.tok at hfb
      refine ⟨.inr ?_, fun j hj => ?_, ?_⟩
      · rcases h.ten with ⟨_, b⟩ | a
        · rw [tenant_login _ _ b rfl]
          rcases hfb with hfb | hfb
          · exact absurd hfb hc.2
          · exact hfb
        · omega
      · rw [had_no _ _ _ _ (.inl (by show (2 : Int) ≠ 5; omega)), had_no _ _ _ _ (.inl (by show (2 : Int) ≠ 6; omega))] at hj
        rw [had_no _ _ _ _ (.inl (by show (2 : Int) ≠ 3; omega))]
        exact h.had3 j hj
      · rw [opened_app, if_neg (by show (2 : Int) ≠ 3; omega)]; exact h.most
    · exact h.refuse _ _
theorem Good.opn {L : List Act} (h : Good L) (r : Pr.Rq) (h0 : tenant L ≠ -1) : Good (L ++ [Cn.opn L r]) := by
  unfold Cn.opn
  split
  · exact h.refuse _ _
  · split
    · exact h.refuse _ _
    · next hn =>
      have hm := h.most
      refine ⟨.inr ?_, fun j hj => ?_, ?_⟩
      · rw [tenant_app _ _ h0]
        rcases h.ten with ⟨a, _⟩ | a
        · exact absurd a h0
        · exact a
      · rw [had_no _ _ _ _ (.inl (by show (3 : Int) ≠ 5; omega)), had_no _ _ _ _ (.inl (by show (3 : Int) ≠ 6; omega))] at hj
        rw [had_app, h.had3 j hj, Bool.true_or]
      · rw [opened_app, if_pos rfl]; omega
theorem Good.use {L : List Act} (h : Good L) (r : Pr.Rq) (h0 : tenant L ≠ -1) (h3 : had L 3 r.j = true) : Good (L ++ [Cn.use r]) := by
  have hw : (Cn.use r).what = 4 ∨ (Cn.use r).what = 5 ∨ (Cn.use r).what = 6 ∨ (Cn.use r).what = 7 := by 
    unfold Cn.use
    by_cases a : r.t = 3
    · rw [if_pos a]; exact .inl rfl
    · rw [if_neg a]
      by_cases b : r.t = 4
      · rw [if_pos b]; exact .inr (.inl rfl)
      · rw [if_neg b]
        by_cases c : r.t = 5
        · rw [if_pos c]; exact .inr (.inr (.inl rfl))
        · rw [if_neg c]; exact .inr (.inr (.inr rfl))
  have hj : (Cn.use r).job = r.j := by 
    unfold Cn.use
    by_cases a : r.t = 3
    · rw [if_pos a]
    · rw [if_neg a]
      by_cases b : r.t = 4
      · rw [if_pos b]
      · rw [if_neg b]
        by_cases c : r.t = 5
        · rw [if_pos c]
        · rw [if_neg c]
  generalize Cn.use r = x at hw hj
  refine ⟨.inr ?_, fun j hj' => ?_, ?_⟩
  · rw [tenant_app _ _ h0]
    rcases h.ten with ⟨a, _⟩ | a
    · exact absurd a h0
    · exact a
  · rw [had_no _ x 3 j (.inl (by omega))]
    by_cases e : r.j = j
    · subst e; exact h3
    · rw [had_no _ _ _ _ (.inr (by omega)), had_no _ _ _ _ (.inr (by omega))] at hj'
      exact h.had3 j hj'
  · rw [opened_app, if_neg (by omega)]; exact h.most
theorem Good.act {L : List Act} (h : Good L) (r : Pr.Rq) (h0 : tenant L ≠ -1) : Good (L ++ [Cn.act L r]) := by
  unfold Cn.act
  split
  · exact h.refuse _ _
  · split
    · exact h.opn r h0
    · split
      · exact h.still (by show (8 : Int) ≠ 2; omega) (by show (8 : Int) ≠ 3; omega) (by show (8 : Int) ≠ 5; omega) (by show (8 : Int) ≠ 6; omega)
      · split
        · exact h.refuse _ _
        · next hh =>
          split
          · exact h.refuse _ _
          · exact h.use r h0 (by simpa using hh)
theorem Good.step {L : List Act} (h : Good L) (l : List Tn.Ten) (f : Fr.Frm) : Good (L ++ [Cn.step l L f]) := by
  unfold Cn.step
  split
  · next h0 => exact h.login l f h0
  · next h0 =>
    split
    · exact h.refuse _ _
    · exact h.act _ h0
/-- the marks of a job -/
theorem mark_no {L : List Act} (h : Good L) (j : Int) (h3 : had L 3 j = false) : mark L j = 0 := by
  have h5 : had L 5 j = false := by
    cases e : had L 5 j with
    | true => have := h.had3 j (.inl e); rw [h3] at this; cases this
    | false => rfl
  have h6 : had L 6 j = false := by
    cases e : had L 6 j with
    | true => have := h.had3 j (.inr e); rw [h3] at this; cases this
    | false => rfl
  unfold mark
  rw [h3, h5, h6]; rfl
theorem mark_yes (L : List Act) (j : Int) (h3 : had L 3 j = true) : mark L j = 1 + (if had L 5 j = true then 2 else 0) + (if had L 6 j = true then 4 else 0) := by
  unfold mark
  rw [if_pos h3]
/-- an act that turns no mark -/
theorem mark_still (L : List Act) (x : Act) (j : Int) (h : x.job ≠ j ∨ (x.what ≠ 3 ∧ x.what ≠ 5 ∧ x.what ≠ 6)) : mark (L ++ [x]) j = mark L j := by
  unfold mark
  rcases h with h | ⟨h3, h5, h6⟩
  · rw [had_no _ _ _ _ (.inr h), had_no _ _ _ _ (.inr h), had_no _ _ _ _ (.inr h)]
  · rw [had_no _ _ _ _ (.inl h3), had_no _ _ _ _ (.inl h5), had_no _ _ _ _ (.inl h6)]
theorem mark_open {L : List Act} (h : Good L) (x : Act) (j : Int) (h3 : had L 3 j = false) (hx : x.what = 3) (hj : x.job = j) : mark (L ++ [x]) j = 1 := by
  have h5 : had L 5 j = false := by
    cases e : had L 5 j with
    | true => have := h.had3 j (.inl e); rw [h3] at this; cases this
    | false => rfl
  have h6 : had L 6 j = false := by
    cases e : had L 6 j with
    | true => have := h.had3 j (.inr e); rw [h3] at this; cases this
    | false => rfl
  unfold mark
  rw [had_yes _ _ _ _ hx hj, had_no _ _ _ _ (.inl (by omega)), had_no _ _ _ _ (.inl (by omega)), h5, h6]; rfl
theorem mark_end (L : List Act) (x : Act) (j : Int) (h3 : had L 3 j = true) (h6 : had L 6 j = false) (hx : x.what = 5) (hj : x.job = j) : mark (L ++ [x]) j = 3 := by
  unfold mark
  rw [had_yes _ _ _ _ hx hj, had_no _ _ _ _ (.inl (by omega)), had_no _ _ _ _ (.inl (by omega)), h3, h6]; rfl
theorem mark_cancel (L : List Act) (x : Act) (j : Int) (h3 : had L 3 j = true) (hx : x.what = 6) (hj : x.job = j) : mark (L ++ [x]) j = if had L 5 j = true then 7 else 5 := by
  unfold mark
  rw [had_yes _ _ _ _ hx hj, had_no _ _ _ _ (.inl (by omega)), had_no _ _ _ _ (.inl (by omega)), h3]
  cases had L 5 j <;> rfl
end Go.Proofs.YtajalllecoclcaaDoor.Cn
