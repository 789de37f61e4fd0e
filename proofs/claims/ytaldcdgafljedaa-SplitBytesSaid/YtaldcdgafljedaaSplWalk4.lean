/- Splitters: a piece comes. -/
import Derived.Test.YtaldcdgafljedaaSplWalk3
namespace Go.Proofs.Ytaldcdgafljedaa
open Go.RowKit
set_option linter.unusedVariables false
set_option linter.unusedSimpArgs false

theorem SpAt.low {w w' : World} {B b sb pb : Nat} {v : Value} {now : List Rl.Pc} {room : Nat} {row : Rl.Pc} (h : SpAt w B b sb pb v now room row) (k : Below w.heap.size w w') : SpAt w' B b sb pb v now room row :=
  ⟨Has.below h.cs k (Has.lt h.cs), ownsRow_keep h.own k, h.sum.low k, Has.below h.pk k (Has.lt h.pk), h.lt, h.ne, Nat.le_trans h.hB k.size⟩
theorem SpAt.chg {w w' : World} {B b sb pb : Nat} {v : Value} {now : List Rl.Pc} {room : Nat} {row : Rl.Pc} {S : List Nat} (h : SpAt w B b sb pb v now room row) (k : Chg S w w') (hS : b ∉ S ∧ sb ∉ S ∧ pb ∉ S ∧ ∀ g, v.ownBlock = some g → g ∉ S) : SpAt w' B b sb pb v now room row :=
  ⟨Has.chg h.cs k hS.1, ownsRow_chg h.own k hS.2.2.2, h.sum.grow k hS.2.1, h.pk.grow k hS.2.2.1, h.lt, h.ne, Nat.le_trans h.hB k.size⟩
/-- a block of another kind is none of a splitter's -/
theorem SpAt.apart {w : World} {B b sb pb : Nat} {v : Value} {now : List Rl.Pc} {room : Nat} {row : Rl.Pc} {r : Nat} {cs : Array Value} {T : TypeId} (h : SpAt w B b sb pb v now room row) (hr : Has w r cs T)
    (hT : T ≠ 69 ∧ T ≠ 80 ∧ T ≠ 82 ∧ T ≠ 5) : b ≠ r ∧ sb ≠ r ∧ pb ≠ r ∧ r ∉ v.ownBlock.toList := by
  refine ⟨fun e => ?_, fun e => ?_, fun e => ?_, own_has h.own hr (fun e => hT.2.2.2 e.symm)⟩
  · subst e; have := h.cs.symm.trans hr; injection this with this; injection this with _ ht _; exact hT.1 ht.symm
  · subst e; have hs := h.sum; unfold SumAt at hs; have := hs.symm.trans hr; injection this with this; injection this with _ ht _; exact hT.2.1 ht.symm
  · subst e; have hs := h.pk; unfold KAt at hs; have := hs.symm.trans hr; injection this with this; injection this with _ ht _; exact hT.2.2.1 ht.symm
theorem SpAt.sets3 {w : World} {B b sb pb : Nat} {v : Value} {now : List Rl.Pc} {room : Nat} {row : Rl.Pc} {r : Nat} {cs : Array Value} {T : TypeId} (h : SpAt w B b sb pb v now room row) (hr : Has w r cs T)
    (hT : T ≠ 69 ∧ T ≠ 80 ∧ T ≠ 82 ∧ T ≠ 5) (x y z : Value) : SpAt (((w.setCell ⟨r, 0, none⟩ x).setCell ⟨r, 1, none⟩ y).setCell ⟨r, 2, none⟩ z) B b sb pb v now room row := by
  obtain ⟨h1, h2, h3, h4⟩ := h.apart hr hT
  refine h.chg (S := [r]) ((((Chg.refl [r] w).setCell ⟨r, 0, none⟩ x (.inl (by simp))).setCell ⟨r, 1, none⟩ y (.inl (by simp))).setCell ⟨r, 2, none⟩ z (.inl (by simp))) ⟨by simpa using h1, by simpa using h2, by simpa using h3, fun g hg hm => ?_⟩
  simp at hm; subst hm
  exact h4 (by simp [hg])
theorem blk_ne : 37 ≠ 69 ∧ 37 ≠ 80 ∧ 37 ≠ 82 ∧ 37 ≠ 5 := by decide
theorem pc_ne : 50 ≠ 69 ∧ 50 ≠ 80 ∧ 50 ≠ 82 ∧ 50 ≠ 5 := by decide
def noCells : Array Value := #[.string ⟨#[]⟩, .int .u32 0, .int .i64 0]
/-- what piece lays: the piece q, its result q + 1, out q + 1 + 1 -/
structure PcAt (w0 wr : World) (q : Nat) (p : Rl.Pc) (cs : Array Value) (S : List Nat) : Prop where
  pc : Has wr q (rcells p) 50
  res : Has wr (q + 1) noCells 37
  out : Has wr (q + 1 + 1) cs 37
  chg : Chg S w0 wr
theorem PcAt.low {w0 w w' : World} {q : Nat} {p : Rl.Pc} {cs : Array Value} {S : List Nat} (h : PcAt w0 w q p cs S) (k : Below w.heap.size w w') : PcAt w0 w' q p cs S :=
  ⟨Has.below h.pc k (Has.lt h.pc), Has.below h.res k (Has.lt h.res), Has.below h.out k (Has.lt h.out), h.chg.trans (below_chg k S)⟩
theorem PcAt.move {w0 w w' : World} {q : Nat} {p : Rl.Pc} {cs : Array Value} {S : List Nat} (h : PcAt w0 w q p cs S) {R : List Nat} (k : Chg R w w') (hR : q ∉ R ∧ q + 1 ∉ R ∧ q + 1 + 1 ∉ R) (hS : ∀ j, j < w.heap.size → j ∈ R → j ∈ S) : PcAt w0 w' q p cs S :=
  ⟨Has.chg h.pc k hR.1, Has.chg h.res k hR.2.1, Has.chg h.out k hR.2.2, h.chg.trans (k.mono hS)⟩
theorem PcAt.sets {w0 w : World} {q : Nat} {p : Rl.Pc} {a b c : Value} {S : List Nat} (h : PcAt w0 w q p #[a, b, c] S) (hq : w0.heap.size ≤ q) (x y z : Value) : PcAt w0 (((w.setCell ⟨q + 1 + 1, 0, none⟩ x).setCell ⟨q + 1 + 1, 1, none⟩ y).setCell ⟨q + 1 + 1, 2, none⟩ z) q p #[x, y, z] S :=
  ⟨has_sets3_other h.pc (by omega) x y z, has_sets3_other h.res (by omega) x y z, has_sets3 h.out x y z, chg_sets3 h.chg (by omega) x y z⟩
theorem PcAt.new (w : World) (p : Rl.Pc) (S : List Nat) : PcAt w (((w.alloc (.cells (rcells p) 50)).alloc (.cells noCells 37)).alloc (.cells noCells 37)) w.heap.size p noCells S := by
  have e1 : (w.alloc (.cells (rcells p) 50)).heap.size = w.heap.size + 1 := by rw [World.size_alloc]
  have e2 : ((w.alloc (.cells (rcells p) 50)).alloc (.cells noCells 37)).heap.size = w.heap.size + 1 + 1 := by rw [World.size_alloc, e1]
  refine ⟨((Has.new w _ _).alloc _).alloc _, ?_, ?_, (((Chg.refl S w).alloc _).alloc _).alloc _⟩
  · have := (Has.new (w.alloc (.cells (rcells p) 50)) noCells 37).alloc (.cells noCells 37)
    rw [e1] at this; exact this
  · have := Has.new ((w.alloc (.cells (rcells p) 50)).alloc (.cells noCells 37)) noCells 37
    rw [e2] at this; exact this
/-- a piece's step: what it tells, and the block that was begun last then -/
def pieceV (room : Nat) (now : List Rl.Pc) (p : Rl.Pc) : Value × Bool := if room < (Sp.body now).length + (Rl.text p).length then (blkV now, true) else (noBlk, false)
def pieceN (room : Nat) (now : List Rl.Pc) (p : Rl.Pc) : List Rl.Pc := if room < (Sp.body now).length + (Rl.text p).length then [p] else now ++ [p]
theorem not_own {v : Value} {r b sb : Nat} (h : b ≠ r ∧ sb ≠ r ∧ r ∉ v.ownBlock.toList) : r ∉ [b, sb] ++ v.ownBlock.toList := by
  intro hm
  rcases List.mem_append.1 hm with hm | hm
  · simp at hm; rcases hm with hm | hm
    · exact h.1 hm.symm
    · exact h.2.1 hm.symm
  · exact h.2.2 hm
theorem sp_sum (d t : Nat) (hd : d ≤ 10000000) (ht : t ≤ 5) : wrap64 ((d : Int) + (t : Int)) = (d : Int) + (t : Int) := by unfold wrap64; omega
set_option maxRecDepth 100000 in
set_option maxHeartbeats 1600000 in
theorem spiece_walk (w : World) (B b sb pb : Nat) (v : Value) (now : List Rl.Pc) (room : Nat) (row p : Rl.Pc) (h : SpAt w B b sb pb v now room row) (hr5 : 5 ≤ room) (hp : 1 ≤ p.n ∧ p.n ≤ 255) (hl : (Rl.join now).length ≤ 1000000) (hl2 : (Sp.body now).length ≤ 10000000) :
    Calls Try.prog 31 #[.pointer (some ⟨b, 0, none⟩), .agg #[.int .u8 (p.b.toNat : Int), .int .i64 (p.n : Int)], .int .i64 ((Rl.text p).length : Int)] w fun e w' => e = .returned (.tuple #[(pieceV room now p).1, .bool (pieceV room now p).2]) ∧ ∃ v', SpAt w' B b sb pb v' (pieceN room now p) room row ∧ Chg ([b, sb] ++ v.ownBlock.toList) w w' := by
  have hq : w.heap.size ≤ w.heap.size := Nat.le_refl _
  have HP := Lib.hid (PcAt.new w p ([b, sb] ++ v.ownBlock.toList))
  have HS0 := Lib.hid (h.low ((((Below.refl _ _).alloc (Nat.le_refl _) (.cells (rcells p) 50)).alloc (by rw [World.size_alloc]; omega) (.cells noCells 37)).alloc (by rw [World.size_alloc, World.size_alloc]; omega) (.cells noCells 37)))
  have htl := Rl.text_le p
  have hps := sp_sum _ _ hl2 htl
  unfold pieceV pieceN
  obtain ⟨q, hq⟩ : ∃ q, w.heap.size = q := ⟨_, rfl⟩
  rw [hq] at HP
  by_cases hc : room < (Sp.body now).length + (Rl.text p).length
  · rw [if_pos hc, if_pos hc]
    have hne : Sp.body now ≠ [] := fun e => by rw [e] at hc; simp at hc; omega
    have e1 : decide ((room : Int) < ((Sp.body now).length : Int) + ((Rl.text p).length : Int)) = true := by simp; omega
    have HC := Lib.hid (fun wx v hx => sclose_walk wx B b sb pb v now room row hx hne)
    have HT := Lib.hid (fun wx hx => take_walk wx B b sb pb (.slice none 0 0) [] room row p hx hp (by simp [Rl.join]) (by simp [Sp.body]))
    simp only [blkV] at HC
    unfold blkV
    clear hc hne hl hl2 htl hr5
    generalize (Rl.join now).length = J at *
    generalize ((Crc.sumOf (Rl.join now)).toNat : Int) = M at *
    generalize Fr.bs (Sp.body now) = TB at *
    obtain ⟨a, c, rfl, -⟩ := rowS_owns h.own
    have hq1 : q ≠ b ∧ q ≠ sb := ⟨by have := Has.lt h.cs; omega, by have := Has.lt h.sum; omega⟩
    generalize (Sp.body now).length = D at *
    generalize (Rl.text p).length = t at *
    obtain ⟨pB, pn⟩ := p
    simp only [rcells, noCells] at HP HS0
    clear h
    go_enter Try.func31, Try.ntmps31
    go_upto_region 3 with (fail)
    generalize ((w.alloc (.cells #[.int .u8 (pB.toNat : Int), .int .i64 (pn : Int)] 50)).alloc (.cells #[.string ⟨#[]⟩, .int .u32 0, .int .i64 0] 37)).alloc (.cells #[.string ⟨#[]⟩, .int .u32 0, .int .i64 0] 37) = w1 at *
    have d0 : ∀ x : Later w1, x.at.cell? ⟨b, 0, none⟩ = some (.slice a D c) := fun x => x.cell (HS0.out.cs.cell 0)
    have d3 : ∀ x : Later w1, x.at.cell? ⟨b, 3, none⟩ = some (.int .i64 (room : Int)) := fun x => x.cell (HS0.out.cs.cell 3)
    refine region_later 13 (by kernel_rfl) (by kernel_rfl) ?_
    simp only [List.take_succ_cons, List.take_zero, List.drop_succ_cons, List.drop_zero]
    repeat (go_big_quiet_step (fail))
    refine wpQuiet_nil ?_
    rintro w' ⟨x, rfl⟩
    have HP2 := Lib.hid (HP.out.low x.below)
    have HS2 := Lib.hid (HS0.out.low x.below)
    clear d0 d3 HP HS0 hps
    generalize x.at = w2 at *
    go_wp2_with fail
    (with_reducible refine (HC.out _ _ HS2.out).mono ?_)
    rintro e w3 ⟨rfl, hs3, hk3⟩
    have HA3 := HS2.out.apart HP2.out.pc pc_ne
    have HA4 := HS2.out.apart HP2.out.res blk_ne
    have HA5 := HS2.out.apart HP2.out.out blk_ne
    have HP3 := Lib.hid (HP2.out.move hk3 ⟨by simp; exact ⟨fun e => HA3.1 e.symm, fun e => HA3.2.1 e.symm⟩, by simp; exact ⟨fun e => HA4.1 e.symm, fun e => HA4.2.1 e.symm⟩, by simp; exact ⟨fun e => HA5.1 e.symm, fun e => HA5.2.1 e.symm⟩⟩ (fun j _ hj => by simp at hj; simp; rcases hj with hj | hj; exact .inl hj; exact .inr (.inl hj)))
    have HS3 := Lib.hid hs3
    clear HA3 HA4 HA5 hs3 hk3 HS2 HP2 HC
    have hqw : w.heap.size ≤ q := Nat.le_of_eq hq
    have c0 := HP3.out.out.cell 0; have c1 := HP3.out.out.cell 1; have c2 := HP3.out.out.cell 2
    have f0 := HP3.out.out.free 0; have f1 := HP3.out.out.free 1; have f2 := HP3.out.out.free 2
    simp only [List.getElem?_toArray, List.getElem?_cons_zero, List.getElem?_cons_succ] at c0 c1 c2
    go_upto_region 5 with (fail)
    have HP4 := Lib.hid (HP3.out.sets hqw (.string TB) (.int .u32 M) (.int .i64 (J : Int)))
    have HS4 := Lib.hid (HS3.out.sets3 HP3.out.out blk_ne (.string TB) (.int .u32 M) (.int .i64 (J : Int)))
    clear HP3 HS3 c0 c1 c2 f0 f1 f2
    generalize ((w3.setCell ⟨q + 1 + 1, 0, none⟩ (.string TB)).setCell ⟨q + 1 + 1, 1, none⟩ (.int .u32 M)).setCell ⟨q + 1 + 1, 2, none⟩ (.int .i64 (J : Int)) = w4 at *
    have e0 : ∀ x : Later w4, x.at.cell? ⟨q, 0, none⟩ = some (.int .u8 (pB.toNat : Int)) := fun x => x.cell (HP4.out.pc.cell 0)
    have e2 : ∀ x : Later w4, x.at.cell? ⟨q, 1, none⟩ = some (.int .i64 (pn : Int)) := fun x => x.cell (HP4.out.pc.cell 1)
    refine region_later 4 (by kernel_rfl) (by kernel_rfl) ?_
    simp only [List.take_succ_cons, List.take_zero, List.drop_succ_cons, List.drop_zero]
    repeat (go_big_quiet_step (fail))
    refine wpQuiet_nil ?_
    rintro w' ⟨x, rfl⟩
    have HP5 := Lib.hid (HP4.out.low x.below)
    have HS5 := Lib.hid (HS4.out.low x.below)
    clear e0 e2 HP4 HS4
    generalize x.at = w5 at *
    go_wp2_with fail
    (with_reducible refine (HT.out _ HS5.out).mono ?_)
    rintro e w6 ⟨rfl, v6, hs6, hk6⟩
    have HA3 := HS5.out.apart HP5.out.pc pc_ne
    have HA4 := HS5.out.apart HP5.out.res blk_ne
    have HA5 := HS5.out.apart HP5.out.out blk_ne
    have HP6 := Lib.hid (HP5.out.move hk6 ⟨not_own ⟨HA3.1, HA3.2.1, HA3.2.2.2⟩, not_own ⟨HA4.1, HA4.2.1, HA4.2.2.2⟩, not_own ⟨HA5.1, HA5.2.1, HA5.2.2.2⟩⟩ (fun j _ hj => by simp [Value.ownBlock] at hj; simp; rcases hj with hj | hj; exact .inl hj; exact .inr (.inl hj)))
    have HS6 := Lib.hid hs6
    clear HA3 HA4 HA5 hs6 hk6 HS5 HP5 HT
    have c0 := HP6.out.out.cell 0; have c1 := HP6.out.out.cell 1; have c2 := HP6.out.out.cell 2
    have r0 := HP6.out.res.cell 0; have r1 := HP6.out.res.cell 1; have r2 := HP6.out.res.cell 2
    have f0 := HP6.out.res.free 0; have f1 := HP6.out.res.free 1; have f2 := HP6.out.res.free 2
    simp only [noCells, List.getElem?_toArray, List.getElem?_cons_zero, List.getElem?_cons_succ] at c0 c1 c2 r0 r1 r2
    have HX := Lib.hid (HS6.out.sets3 HP6.out.res blk_ne (.string TB) (.int .u32 M) (.int .i64 (J : Int)))
    have HG := Lib.hid (chg_sets3 HP6.out.chg (Nat.le_trans hqw (Nat.le_succ q)) (.string TB) (.int .u32 M) (.int .i64 (J : Int)))
    clear HP6 HS6
    go_wp2
    refine bodyPost_ret (v := .tuple #[.agg #[.string TB, .int .u32 M, .int .i64 (J : Int)], .bool true]) (by rw [results_cell_tmp (fn := Try.f31) rfl]; go_simp) rfl ?_
    exact ⟨rfl, v6, HX.out, HG.out⟩
  · rw [if_neg hc, if_neg hc]
    have e1 : decide ((room : Int) < ((Sp.body now).length : Int) + ((Rl.text p).length : Int)) = false := by simp; omega
    have HT := Lib.hid (fun wx hx => take_walk wx B b sb pb v now room row p hx hp hl hl2)
    unfold noBlk
    clear hc hl hl2 htl hr5
    obtain ⟨a, c, rfl, -⟩ := rowS_owns h.own
    have hq1 : q ≠ b ∧ q ≠ sb := ⟨by have := Has.lt h.cs; omega, by have := Has.lt h.sum; omega⟩
    generalize (Sp.body now).length = D at *
    generalize (Rl.text p).length = t at *
    obtain ⟨pB, pn⟩ := p
    simp only [rcells, noCells] at HP HS0
    clear h
    go_enter Try.func31, Try.ntmps31
    go_upto_region 3 with (fail)
    generalize ((w.alloc (.cells #[.int .u8 (pB.toNat : Int), .int .i64 (pn : Int)] 50)).alloc (.cells #[.string ⟨#[]⟩, .int .u32 0, .int .i64 0] 37)).alloc (.cells #[.string ⟨#[]⟩, .int .u32 0, .int .i64 0] 37) = w1 at *
    have d0 : ∀ x : Later w1, x.at.cell? ⟨b, 0, none⟩ = some (.slice a D c) := fun x => x.cell (HS0.out.cs.cell 0)
    have d3 : ∀ x : Later w1, x.at.cell? ⟨b, 3, none⟩ = some (.int .i64 (room : Int)) := fun x => x.cell (HS0.out.cs.cell 3)
    refine region_later 13 (by kernel_rfl) (by kernel_rfl) ?_
    simp only [List.take_succ_cons, List.take_zero, List.drop_succ_cons, List.drop_zero]
    repeat (go_big_quiet_step (fail))
    refine wpQuiet_nil ?_
    rintro w' ⟨x, rfl⟩
    have HP2 := Lib.hid (HP.out.low x.below)
    have HS2 := Lib.hid (HS0.out.low x.below)
    clear d0 d3 HP HS0 hps
    generalize x.at = w2 at *
    have hqw : w.heap.size ≤ q := Nat.le_of_eq hq
    go_upto_region 5 with (fail)
    have HP4 := Lib.hid HP2.out
    have HS4 := Lib.hid HS2.out
    clear HP2 HS2
    generalize w2 = w4 at *
    have e0 : ∀ x : Later w4, x.at.cell? ⟨q, 0, none⟩ = some (.int .u8 (pB.toNat : Int)) := fun x => x.cell (HP4.out.pc.cell 0)
    have e2 : ∀ x : Later w4, x.at.cell? ⟨q, 1, none⟩ = some (.int .i64 (pn : Int)) := fun x => x.cell (HP4.out.pc.cell 1)
    refine region_later 4 (by kernel_rfl) (by kernel_rfl) ?_
    simp only [List.take_succ_cons, List.take_zero, List.drop_succ_cons, List.drop_zero]
    repeat (go_big_quiet_step (fail))
    refine wpQuiet_nil ?_
    rintro w' ⟨x, rfl⟩
    have HP5 := Lib.hid (HP4.out.low x.below)
    have HS5 := Lib.hid (HS4.out.low x.below)
    clear e0 e2 HP4 HS4
    generalize x.at = w5 at *
    go_wp2_with fail
    (with_reducible refine (HT.out _ HS5.out).mono ?_)
    rintro e w6 ⟨rfl, v6, hs6, hk6⟩
    have HA3 := HS5.out.apart HP5.out.pc pc_ne
    have HA4 := HS5.out.apart HP5.out.res blk_ne
    have HA5 := HS5.out.apart HP5.out.out blk_ne
    have HP6 := Lib.hid (HP5.out.move hk6 ⟨not_own ⟨HA3.1, HA3.2.1, HA3.2.2.2⟩, not_own ⟨HA4.1, HA4.2.1, HA4.2.2.2⟩, not_own ⟨HA5.1, HA5.2.1, HA5.2.2.2⟩⟩ (fun j _ hj => hj))
    have HS6 := Lib.hid hs6
    clear HA3 HA4 HA5 hs6 hk6 HS5 HP5 HT
    have c0 := HP6.out.out.cell 0; have c1 := HP6.out.out.cell 1; have c2 := HP6.out.out.cell 2
    have r0 := HP6.out.res.cell 0; have r1 := HP6.out.res.cell 1; have r2 := HP6.out.res.cell 2
    have f0 := HP6.out.res.free 0; have f1 := HP6.out.res.free 1; have f2 := HP6.out.res.free 2
    simp only [noCells, List.getElem?_toArray, List.getElem?_cons_zero, List.getElem?_cons_succ] at c0 c1 c2 r0 r1 r2
    have HX := Lib.hid (HS6.out.sets3 HP6.out.res blk_ne (.string ⟨#[]⟩) (.int .u32 0) (.int .i64 0))
    have HG := Lib.hid (chg_sets3 HP6.out.chg (Nat.le_trans hqw (Nat.le_succ q)) (.string ⟨#[]⟩) (.int .u32 0) (.int .i64 0))
    clear HP6 HS6
    go_wp2
    refine bodyPost_ret (v := .tuple #[.agg #[.string ⟨#[]⟩, .int .u32 0, .int .i64 0], .bool false]) (by rw [results_cell_tmp (fn := Try.f31) rfl]; go_simp) rfl ?_
    exact ⟨rfl, v6, HX.out, HG.out⟩
end Go.Proofs.Ytaldcdgafljedaa
