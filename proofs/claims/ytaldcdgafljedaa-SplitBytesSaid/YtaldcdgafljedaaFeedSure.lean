/- The reference's Sure. (Printed by gen_feedsure.py.) -/
import Derived.Test.YtaldcdgafljedaaFeedRef
import Derived.RegionTactic
import Derived.ChangeAlike
import Derived.WalkSpells
namespace Go.Proofs.Ytaldcdgafljedaa
open Go.RowKit
set_option linter.unusedVariables false
set_option linter.unusedSimpArgs false

theorem results_tmp_cell {fn : Func} {p u : Tmp} {ty : TypeId} (h : fn.results = #[.tmp u, .cell p ty]) (tmps : Array Value) (P : Program) (w : World) :
    (results fn tmps).run P w = ((asAddr (tmps.getD p undef)).run P w).andThen fun a w₁ => ((loadVar ty a).run P w₁).andThen fun x w₂ => .ok (.tuple #[tmps.getD u undef, x]) w₂ := by
  simp only [results, h]
  simp [Sem.run_bind, Result.andThen]
/-- the two variables: the result's, the row's -/
structure SuAt (w wr : World) (rb : Nat) (row : Rl.Pc) : Prop where
  rv : Has wr w.heap.size #[.int .u8 0, .int .i64 0] 50
  rx : Has wr rb #[.int .u8 (row.b.toNat : Int), .int .i64 (row.n : Int)] 50
  bl : Below w.heap.size w wr
  lt : w.heap.size < rb
theorem SuAt.keep {w wr w' : World} {rb : Nat} {row : Rl.Pc} (h : SuAt w wr rb row) (k : Below wr.heap.size wr w') : SuAt w w' rb row :=
  ⟨h.rv.below k h.rv.lt, h.rx.below k h.rx.lt, h.bl.trans (k.mono h.bl.size), h.lt⟩
theorem SuAt.fin {w wr : World} {rb : Nat} {row : Rl.Pc} (h : SuAt w wr rb row) (x y : Value) : Below w.heap.size w ((wr.setCell ⟨w.heap.size, 0, none⟩ x).setCell ⟨w.heap.size, 1, none⟩ y).drew :=
  ((h.bl.setCell (p := ⟨w.heap.size, 0, none⟩) (Nat.le_refl _) x).setCell (p := ⟨w.heap.size, 1, none⟩) (Nat.le_refl _) y).drew

set_option maxRecDepth 100000 in
set_option maxHeartbeats 3000000 in
theorem refsure_walk (s : ByteArray) (w : World) (hs : s.size ≤ 10000) :
    Calls Try.prog 20 #[.string s] w fun e w' => e = .returned (.tuple #[.string (Fr.bs (Rl.sureB s.data.toList)), .agg #[.int .u8 ((Rl.rowOf s.data.toList).b.toNat : Int), .int .i64 ((Rl.rowOf s.data.toList).n : Int)]]) ∧ Below w.heap.size w w' := by
  have HP := Lib.hid (fun w => refpieces_walk s w (by omega))
  have hlen := Rl.pcs_length s.data.toList
  rw [llen] at hlen
  have HG := Lib.hid (Rl.pcs_good s.data.toList)
  have HSR := Lib.hid (Rl.sure_row s.data.toList)
  have HE := Lib.hid (show Rl.sureB s.data.toList = (Rl.sureOf s.data.toList).flatMap Rl.text from rfl)
  generalize Rl.sureB s.data.toList = E at *
  generalize Rl.sureOf s.data.toList = ps at *
  generalize Rl.rowOf s.data.toList = row at *
  generalize Rl.pcs s.data.toList = R at *
  go_enter Try.func20, Try.ntmps20
  go_wp2_with fail
  (with_reducible refine (HP.out _).mono ?_)
  rintro e w2 ⟨v, rfl, ho, hb⟩
  obtain ⟨a, c, rfl, hr, hblk⟩ := rowS_owns ho
  have HV2 := Lib.hid ((Has.new w #[.int .u8 0, .int .i64 0] 50).below hb (by simp))
  have HB2 := Lib.hid (((Below.refl w.heap.size w).alloc (Nat.le_refl _) (.cells #[.int .u8 0, .int .i64 0] 50)).trans (hb.mono (by simp)))
  have hlt2 := HV2.out.lt
  go_upto_region 3 with (fail)
  have HR3 := Lib.hid (hr.keep ((Below.refl w2.heap.size w2).alloc (Nat.le_refl _) (.cells #[.int .u8 0, .int .i64 0] 50)))
  have HA3 := Lib.hid (show SuAt w (w2.alloc (.cells #[.int .u8 0, .int .i64 0] 50)) w2.heap.size Rl.row0 from ⟨HV2.out.alloc _, Has.new w2 _ _, HB2.out.alloc HB2.out.size _, hlt2⟩)
  have HBLK := Lib.hid (show ∀ x, a = some x → x.block ≠ w2.heap.size from fun x hx => by have := (hblk x hx).2; omega)
  generalize w2.alloc (.cells #[.int .u8 0, .int .i64 0] 50) = w3 at *
  generalize w2.heap.size = rb at *
  clear ho hr hb hblk
  have hRl : (R.length : Int) ≤ 10000 := by omega
  rcases HSR.out with ⟨h1, h2, h3⟩ | ⟨h1, h2, h3⟩
  · subst h1 h2
    have HPS := Lib.hid (show ∀ k (h : k < ps.length) (h' : k < ps.length), ps[k] = ps[k] from fun _ _ _ => rfl)
    have HA := Lib.hid HA3.out
    have HRL := Lib.hid (show ps.length = ps.length from rfl)
    have HR := Lib.hid HR3.out
    by_cases h0 : 0 < ps.length
    · have g0 : (0 : Int) < (ps.length : Int) := by omega
      have g0' : decide ((0 : Int) < (ps.length : Int)) = true := by simpa using g0
      have g0'' : decide (0 < ps.length) = true := by simpa using h0
      obtain ⟨m, hm⟩ : ∃ m, ps.length = m + 1 := ⟨ps.length - 1, by omega⟩
      have hm1 : (ps.length : Int) - 1 = (m : Int) := by omega
      have hml : (m : Int) < (ps.length : Int) := by omega
      have hml' : m < ps.length := by omega
      obtain ⟨ab, ao, rfl, hab, hac⟩ := HR.out.at m hml'
      have a1 := hac 1 (by decide)
      rw [flat_get2 ps m 1 hml' (by decide)] at a1
      have hlast : ps[m].n = 255 := h3 _ (by rw [List.getLast?_eq_getElem?, show ps.length - 1 = m by omega, List.getElem?_eq_getElem hml'])
      simp only [pcells, List.getD_cons_zero, List.getD_cons_succ, hlast] at a1
      simp only [← Nat.add_assoc] at a1
      have h255 : decide ((((255 : Nat) : Int)) < 255) = false := by decide
      clear hm hac h3 hlast
      go_wp2_with fail
      go_loopw [38, 6] (fun i x wr => ∃ (k : Nat) (acc : List UInt8), i = .int .i64 k ∧ k ≤ ps.length ∧ x = .string (Fr.bs acc) ∧ acc ++ (ps.drop k).flatMap Rl.text = E ∧ acc.length ≤ 5 * k ∧ Below w3.heap.size w3 wr) (fun i _ _ => ps.length - (intOf i).toNat)
      case atStart => exact ⟨0, [], rfl, Nat.zero_le _, rfl, HE.out.symm, Nat.le_refl _, Below.refl _ _⟩
      case round =>
        obtain ⟨k, acc, rfl, hk, rfl, hacc, hal, hbr⟩ := hrel
        have HAT := Lib.hid (HA.out.keep hbr)
        have HBR := Lib.hid hbr
        have HAC := Lib.hid hacc
        clear hacc
        by_cases hlt : k < ps.length
        · have hlt' : (k : Int) < (ps.length : Int) := by omega
          have hltR : k < ps.length := by have := HRL.out; omega
          obtain ⟨ab, ao, ha9, hab, hac⟩ := (HR.out.keep hbr).at k hltR
          cases ha9
          have a0 := hac 0 (by decide); have a1 := hac 1 (by decide)
          rw [flat_get2 ps k 0 hltR (by decide)] at a0
          rw [flat_get2 ps k 1 hltR (by decide)] at a1
          have hg := HG.out _ (List.getElem_mem hltR)
          have hac2 := HAC.out
          rw [List.drop_eq_getElem_cons hlt, List.flatMap_cons, ← List.append_assoc] at hac2
          generalize ps[k] = p at *
          obtain ⟨pb, pn⟩ := p
          simp only [pcells, List.getD_cons_zero, List.getD_cons_succ, Nat.add_zero] at a0 a1 hg
          simp only [← Nat.add_assoc] at a1
          have HAC2 := Lib.hid hac2
          have HPW := Lib.hid (fun w => refpiece_walk pb pn w hg.2)
          have htl := Rl.text_le ⟨pb, pn⟩
          generalize Rl.text ⟨pb, pn⟩ = tx at *
          have HC := Lib.hid (bs_app acc tx)
          have hz1 := bs_size acc
          have hz2 := bs_size tx
          generalize Fr.bs acc = S at *
          generalize Fr.bs tx = S2 at *
          have hcat : S.size + S2.size ≤ 1000000 := by omega
          clear hac hac2 hbr hg hz1 hz2
          go_upto_region 10 with (fail)
          have HBR2 := Lib.hid (HBR.out.alloc HBR.out.size (.cells #[.int .u8 (pb.toNat : Int), .int .i64 (pn : Int)] 50))
          have HX := Lib.hid (Has.new wr #[.int .u8 (pb.toNat : Int), .int .i64 (pn : Int)] 50)
          generalize wr.alloc (.cells #[.int .u8 (pb.toNat : Int), .int .i64 (pn : Int)] 50) = w7 at *
          have x0 := HX.out.cell 0; have x1 := HX.out.cell 1
          simp only [List.getElem?_toArray, List.getElem?_cons_zero, List.getElem?_cons_succ] at x0 x1
          go_wp2_with fail
          (with_reducible refine (HPW.out _).mono ?_)
          rintro e w8 ⟨rfl, hb8⟩
          have HBR3 := Lib.hid (HBR2.out.trans (hb8.mono HBR2.out.size))
          clear hb8
          go_wp2
          go_roundw
          case rel => exact ⟨k + 1, acc ++ tx, by go_num, hlt, by rw [HC.out], HAC2.out, by rw [List.length_append]; omega, HBR3.out⟩
          case measure => simp [intOf] <;> omega
        · have hlt' : ¬ (k : Int) < (ps.length : Int) := by omega
          have hX := HAC.out
          rw [List.drop_of_length_le (by omega), List.flatMap_nil, List.append_nil] at hX
          have HXX := Lib.hid (show Fr.bs acc = Fr.bs E by rw [hX])
          have r0 := HAT.out.rv.cell 0; have r1 := HAT.out.rv.cell 1
          have q0 := HAT.out.rv.free 0; have q1 := HAT.out.rv.free 1
          have d0 := HAT.out.rx.cell 0; have d1 := HAT.out.rx.cell 1
          simp only [List.getElem?_toArray, List.getElem?_cons_zero, List.getElem?_cons_succ] at r0 r1 d0 d1
          have hne : rb ≠ w.heap.size := by have := HAT.out.lt; omega
          rw [HXX.out]
          clear hX hbr
          go_wp2_with fail
          go_region
          go_wp2
          refine bodyPost_ret (v := .tuple #[.string (Fr.bs E), .agg #[.int .u8 (Rl.row0.b.toNat : Int), .int .i64 (Rl.row0.n : Int)]]) (by rw [results_tmp_cell rfl]; go_simp) rfl ?_
          exact ⟨rfl, HAT.out.fin _ _⟩
    · have g0 : ¬ (0 : Int) < (ps.length : Int) := by omega
      have g0' : decide ((0 : Int) < (ps.length : Int)) = false := by simpa using g0
      have g0'' : decide (0 < ps.length) = false := by simpa using h0
      clear h3
      go_wp2_with fail
      go_loopw [38, 6] (fun i x wr => ∃ (k : Nat) (acc : List UInt8), i = .int .i64 k ∧ k ≤ ps.length ∧ x = .string (Fr.bs acc) ∧ acc ++ (ps.drop k).flatMap Rl.text = E ∧ acc.length ≤ 5 * k ∧ Below w3.heap.size w3 wr) (fun i _ _ => ps.length - (intOf i).toNat)
      case atStart => exact ⟨0, [], rfl, Nat.zero_le _, rfl, HE.out.symm, Nat.le_refl _, Below.refl _ _⟩
      case round =>
        obtain ⟨k, acc, rfl, hk, rfl, hacc, hal, hbr⟩ := hrel
        have HAT := Lib.hid (HA.out.keep hbr)
        have HBR := Lib.hid hbr
        have HAC := Lib.hid hacc
        clear hacc
        by_cases hlt : k < ps.length
        · exfalso; omega
        · have hlt' : ¬ (k : Int) < (ps.length : Int) := by omega
          have hX := HAC.out
          rw [List.drop_of_length_le (by omega), List.flatMap_nil, List.append_nil] at hX
          have HXX := Lib.hid (show Fr.bs acc = Fr.bs E by rw [hX])
          have r0 := HAT.out.rv.cell 0; have r1 := HAT.out.rv.cell 1
          have q0 := HAT.out.rv.free 0; have q1 := HAT.out.rv.free 1
          have d0 := HAT.out.rx.cell 0; have d1 := HAT.out.rx.cell 1
          simp only [List.getElem?_toArray, List.getElem?_cons_zero, List.getElem?_cons_succ] at r0 r1 d0 d1
          have hne : rb ≠ w.heap.size := by have := HAT.out.lt; omega
          rw [HXX.out]
          clear hX hbr
          go_wp2_with fail
          go_region
          go_wp2
          refine bodyPost_ret (v := .tuple #[.string (Fr.bs E), .agg #[.int .u8 (Rl.row0.b.toNat : Int), .int .i64 (Rl.row0.n : Int)]]) (by rw [results_tmp_cell rfl]; go_simp) rfl ?_
          exact ⟨rfl, HAT.out.fin _ _⟩
  · have hRL : R.length = ps.length + 1 := by rw [h1]; simp
    have hm1 : (R.length : Int) - 1 = (ps.length : Int) := by omega
    have hml : (ps.length : Int) < (R.length : Int) := by omega
    have hml' : ps.length < R.length := by omega
    have g0 : (0 : Int) < (R.length : Int) := by omega
    have g0' : decide ((0 : Int) < (R.length : Int)) = true := by simpa using g0
    have g0'' : decide (0 < R.length) = true := by simp; omega
    obtain ⟨ab0, ao0, ha8, hab0, hac0⟩ := HR3.out.at ps.length hml'
    have a0 := hac0 0 (by decide); have a1 := hac0 1 (by decide)
    rw [flat_get2 R ps.length 0 hml' (by decide)] at a0
    rw [flat_get2 R ps.length 1 hml' (by decide)] at a1
    have hlast : R[ps.length] = row := by simp [h1]
    rw [hlast] at a0 a1
    simp only [pcells, List.getD_cons_zero, List.getD_cons_succ, Nat.add_zero] at a0 a1
    simp only [← Nat.add_assoc] at a1
    have h255 : decide ((row.n : Int) < 255) = true := by simp; omega
    have h255' : (row.n : Int) < 255 := by omega
    have HPS := Lib.hid (show ∀ k (h : k < ps.length) (h' : k < R.length), ps[k] = R[k] from fun k h h' => by simp [h1, List.getElem_append_left h])
    have hcapb : ps.length ≤ c := by have := HR3.out.le; omega
    have hcapb' : (ps.length : Int) ≤ (c : Int) := by omega
    cases ha8
    have r0 := HA3.out.rx.cell 0; have r1 := HA3.out.rx.cell 1
    have q0 := HA3.out.rx.free 0; have q1 := HA3.out.rx.free 1
    simp only [List.getElem?_toArray, List.getElem?_cons_zero, List.getElem?_cons_succ] at r0 r1
    have hblk9 : ab0 ≠ rb := HBLK.out _ rfl
    have HRL := Lib.hid hRL
    clear hlast hac0 hRL h1
    go_upto_region 7 with (fail)
    have HA := Lib.hid (show SuAt w ((w3.setCell ⟨rb, 0, none⟩ (.int .u8 (row.b.toNat : Int))).setCell ⟨rb, 1, none⟩ (.int .i64 (row.n : Int))) rb row from
      ⟨(HA3.out.rv.setCell_other _ _ (by simp; omega)).setCell_other _ _ (by simp; omega), (HA3.out.rx.setCell 0 _).setCell 1 _, (HA3.out.bl.setCell (p := ⟨rb, 0, none⟩) (Nat.le_of_lt hlt2) _).setCell (p := ⟨rb, 1, none⟩) (Nat.le_of_lt hlt2) _, hlt2⟩)
    have HR := Lib.hid (HR3.out.chg (((Chg.refl [rb] w3).setCell ⟨rb, 0, none⟩ (.int .u8 (row.b.toNat : Int)) (.inl (by simp))).setCell ⟨rb, 1, none⟩ (.int .i64 (row.n : Int)) (.inl (by simp))) (fun x hx => by cases hx; simpa using hblk9))
    generalize (w3.setCell ⟨rb, 0, none⟩ (.int .u8 (row.b.toNat : Int))).setCell ⟨rb, 1, none⟩ (.int .i64 (row.n : Int)) = w5 at *
    clear r0 r1 q0 q1 a0 a1 hm1
    go_wp2_with fail
    go_loopw [38, 6] (fun i x wr => ∃ (k : Nat) (acc : List UInt8), i = .int .i64 k ∧ k ≤ ps.length ∧ x = .string (Fr.bs acc) ∧ acc ++ (ps.drop k).flatMap Rl.text = E ∧ acc.length ≤ 5 * k ∧ Below w5.heap.size w5 wr) (fun i _ _ => ps.length - (intOf i).toNat)
    case atStart => exact ⟨0, [], rfl, Nat.zero_le _, rfl, HE.out.symm, Nat.le_refl _, Below.refl _ _⟩
    case round =>
      obtain ⟨k, acc, rfl, hk, rfl, hacc, hal, hbr⟩ := hrel
      have HAT := Lib.hid (HA.out.keep hbr)
      have HBR := Lib.hid hbr
      have HAC := Lib.hid hacc
      clear hacc
      by_cases hlt : k < ps.length
      · have hlt' : (k : Int) < (ps.length : Int) := by omega
        have hltR : k < R.length := by have := HRL.out; omega
        obtain ⟨ab, ao, ha9, hab, hac⟩ := (HR.out.keep hbr).at k hltR
        cases ha9
        have a0 := hac 0 (by decide); have a1 := hac 1 (by decide)
        rw [flat_get2 R k 0 hltR (by decide)] at a0
        rw [flat_get2 R k 1 hltR (by decide)] at a1
        have hg := HG.out _ (List.getElem_mem hltR)
        have hac2 := HAC.out
        rw [List.drop_eq_getElem_cons hlt, List.flatMap_cons, ← List.append_assoc, HPS.out k hlt hltR] at hac2
        generalize R[k] = p at *
        obtain ⟨pb, pn⟩ := p
        simp only [pcells, List.getD_cons_zero, List.getD_cons_succ, Nat.add_zero] at a0 a1 hg
        simp only [← Nat.add_assoc] at a1
        have HAC2 := Lib.hid hac2
        have HPW := Lib.hid (fun w => refpiece_walk pb pn w hg.2)
        have htl := Rl.text_le ⟨pb, pn⟩
        generalize Rl.text ⟨pb, pn⟩ = tx at *
        have HC := Lib.hid (bs_app acc tx)
        have hz1 := bs_size acc
        have hz2 := bs_size tx
        generalize Fr.bs acc = S at *
        generalize Fr.bs tx = S2 at *
        have hcat : S.size + S2.size ≤ 1000000 := by omega
        clear hac hac2 hbr hg hz1 hz2
        go_upto_region 10 with (fail)
        have HBR2 := Lib.hid (HBR.out.alloc HBR.out.size (.cells #[.int .u8 (pb.toNat : Int), .int .i64 (pn : Int)] 50))
        have HX := Lib.hid (Has.new wr #[.int .u8 (pb.toNat : Int), .int .i64 (pn : Int)] 50)
        generalize wr.alloc (.cells #[.int .u8 (pb.toNat : Int), .int .i64 (pn : Int)] 50) = w7 at *
        have x0 := HX.out.cell 0; have x1 := HX.out.cell 1
        simp only [List.getElem?_toArray, List.getElem?_cons_zero, List.getElem?_cons_succ] at x0 x1
        go_wp2_with fail
        (with_reducible refine (HPW.out _).mono ?_)
        rintro e w8 ⟨rfl, hb8⟩
        have HBR3 := Lib.hid (HBR2.out.trans (hb8.mono HBR2.out.size))
        clear hb8
        go_wp2
        go_roundw
        case rel => exact ⟨k + 1, acc ++ tx, by go_num, hlt, by rw [HC.out], HAC2.out, by rw [List.length_append]; omega, HBR3.out⟩
        case measure => simp [intOf] <;> omega
      · have hlt' : ¬ (k : Int) < (ps.length : Int) := by omega
        have hX := HAC.out
        rw [List.drop_of_length_le (by omega), List.flatMap_nil, List.append_nil] at hX
        have HXX := Lib.hid (show Fr.bs acc = Fr.bs E by rw [hX])
        have r0 := HAT.out.rv.cell 0; have r1 := HAT.out.rv.cell 1
        have q0 := HAT.out.rv.free 0; have q1 := HAT.out.rv.free 1
        have d0 := HAT.out.rx.cell 0; have d1 := HAT.out.rx.cell 1
        simp only [List.getElem?_toArray, List.getElem?_cons_zero, List.getElem?_cons_succ] at r0 r1 d0 d1
        have hne : rb ≠ w.heap.size := by have := HAT.out.lt; omega
        rw [HXX.out]
        clear hX hbr
        go_wp2_with fail
        go_region
        go_wp2
        refine bodyPost_ret (v := .tuple #[.string (Fr.bs E), .agg #[.int .u8 (row.b.toNat : Int), .int .i64 (row.n : Int)]]) (by rw [results_tmp_cell rfl]; go_simp) rfl ?_
        exact ⟨rfl, HAT.out.fin _ _⟩
end Go.Proofs.Ytaldcdgafljedaa

