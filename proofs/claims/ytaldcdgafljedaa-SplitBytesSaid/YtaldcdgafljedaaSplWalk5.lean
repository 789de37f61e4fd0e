/- Splitters: a byte comes. -/
import Derived.Test.YtaldcdgafljedaaSplWalk4
namespace Go.Proofs.Ytaldcdgafljedaa
open Go.RowKit
set_option linter.unusedVariables false
set_option linter.unusedSimpArgs false

theorem SpAt.row {w w' : World} {B b sb pb : Nat} {v : Value} {now : List Rl.Pc} {room : Nat} {row row' : Rl.Pc} (h : SpAt w B b sb pb v now room row) (hk : KAt w' pb row') (k : Chg [pb] w w') : SpAt w' B b sb pb v now room row' :=
  ⟨Has.chg h.cs k (by simp; exact h.ne.2.1), ownsRow_chg h.own k (fun g hg hm => by
    have := own_pk h.own h.pk
    simp at hm; subst hm
    exact this (by simp [hg])), h.sum.grow k (by simp; exact h.ne.2.2), hk, h.lt, h.ne, Nat.le_trans h.hB k.size⟩
/-- what Put lays: its result q, the row r -/
structure PtAt (w0 wr : World) (q r : Nat) (cs : Array Value) (S : List Nat) : Prop where
  res : Has wr q noCells 37
  pc : Has wr r cs 50
  chg : Chg S w0 wr
theorem PtAt.low {w0 w w' : World} {q r : Nat} {cs : Array Value} {S : List Nat} (h : PtAt w0 w q r cs S) (k : Below w.heap.size w w') : PtAt w0 w' q r cs S :=
  ⟨Has.below h.res k (Has.lt h.res), Has.below h.pc k (Has.lt h.pc), h.chg.trans (below_chg k S)⟩
theorem PtAt.move {w0 w w' : World} {q r : Nat} {cs : Array Value} {S : List Nat} (h : PtAt w0 w q r cs S) {R : List Nat} (k : Chg R w w') (hR : q ∉ R ∧ r ∉ R) (hS : ∀ j, j < w.heap.size → j ∈ R → j ∈ S) : PtAt w0 w' q r cs S :=
  ⟨Has.chg h.res k hR.1, Has.chg h.pc k hR.2, h.chg.trans (k.mono hS)⟩
theorem own_low {B : Nat} {w : World} {v : Value} {n : Nat} {xs : List Value} {T : TypeId} (h : w.ownsRow B T 1 v n xs) {r : Nat} (hr : w.heap.size ≤ r) : r ∉ v.ownBlock.toList := by
  intro hm
  cases hv : v.ownBlock with
  | none => rw [hv] at hm; cases hm
  | some g =>
    rw [hv] at hm
    simp at hm; subst hm
    have := (h.lt r hv).2
    omega
theorem sets1_sp {w : World} {B b sb pb : Nat} {v : Value} {now : List Rl.Pc} {room : Nat} {row : Rl.Pc} {r i : Nat} {cs : Array Value} {T : TypeId} (h : SpAt w B b sb pb v now room row) (hr : Has w r cs T)
    (hT : T ≠ 69 ∧ T ≠ 80 ∧ T ≠ 82 ∧ T ≠ 5) (x : Value) : SpAt (w.setCell ⟨r, i, none⟩ x) B b sb pb v now room row := by
  obtain ⟨h1, h2, h3, h4⟩ := h.apart hr hT
  refine h.chg (S := [r]) ((Chg.refl [r] w).setCell ⟨r, i, none⟩ x (.inl (by simp))) ⟨by simpa using h1, by simpa using h2, by simpa using h3, fun g hg hm => ?_⟩
  simp at hm; subst hm
  exact h4 (by simp [hg])
def putV (room : Nat) (now : List Rl.Pc) (row : Rl.Pc) (c : UInt8) : Value × Bool := match (Rl.pput row c).1 with | [] => (noBlk, false) | p :: _ => pieceV room now p
def putN (room : Nat) (now : List Rl.Pc) (row : Rl.Pc) (c : UInt8) : List Rl.Pc := match (Rl.pput row c).1 with | [] => now | p :: _ => pieceN room now p
theorem pput_a (r : Rl.Pc) (c : UInt8) (h : 0 < r.n ∧ r.b ≠ c) : (Rl.pput r c).1 = [r] := by unfold Rl.pput; rw [if_pos h]
theorem pput_b (r : Rl.Pc) (c : UInt8) (h : ¬ (0 < r.n ∧ r.b ≠ c)) (hn : r.n + 1 = 255) : (Rl.pput r c).1 = [⟨c, 255⟩] := by unfold Rl.pput; rw [if_neg h, if_pos hn]
theorem pput_c (r : Rl.Pc) (c : UInt8) (h : ¬ (0 < r.n ∧ r.b ≠ c)) (hn : ¬ r.n + 1 = 255) : (Rl.pput r c).1 = [] := by unfold Rl.pput; rw [if_neg h, if_neg hn]
theorem text_ne (p : Rl.Pc) (h : 1 ≤ p.n) : (Fr.bs (Rl.text p)).toList.isEmpty = false := by
  have h1 := Sp.text_pos p h
  rw [ByteArray.toList_eq, Fr.list_bs]
  cases hx : Rl.text p with
  | nil => rw [hx] at h1; simp at h1
  | cons a l => rfl
theorem pieceV_form (room : Nat) (now : List Rl.Pc) (p : Rl.Pc) : ∃ T m j, (pieceV room now p).1 = .agg #[.string T, .int .u32 m, .int .i64 j] := by
  unfold pieceV
  split
  · exact ⟨_, _, _, rfl⟩
  · exact ⟨_, _, _, rfl⟩
set_option maxRecDepth 100000 in
set_option maxHeartbeats 1600000 in
theorem sput_walk (w : World) (B b sb pb : Nat) (v : Value) (now : List Rl.Pc) (room : Nat) (row : Rl.Pc) (c : UInt8) (h : SpAt w B b sb pb v now room row) (hr5 : 5 ≤ room) (hrn : row.n < 255) (hl : (Rl.join now).length ≤ 1000000) (hl2 : (Sp.body now).length ≤ 10000000) :
    Calls Try.prog 19 #[.pointer (some ⟨b, 0, none⟩), .int .u8 (c.toNat : Int)] w fun e w' => e = .returned (.tuple #[(putV room now row c).1, .bool (putV room now row c).2]) ∧ ∃ v', SpAt w' B b sb pb v' (putN room now row c) room (Rl.pput row c).2 ∧ Chg ([b, sb, pb] ++ v.ownBlock.toList) w w' := by
  have HRow := Lib.hid (fun wx hx => prow_walk pb row wx hx)
  have HPut := Lib.hid (fun wx hx => pkput_walk pb row c wx hx hrn)
  have HS0 := Lib.hid (h.low ((Below.refl _ _).alloc (Nat.le_refl _) (.cells noCells 37)))
  have HQ0 := Lib.hid (Has.new w noCells 37)
  have HC0 := Lib.hid ((Chg.refl ([b, sb, pb] ++ v.ownBlock.toList) w).alloc (.cells noCells 37))
  obtain ⟨q, hq⟩ : ∃ q, w.heap.size = q := ⟨_, rfl⟩
  have hqw : w.heap.size ≤ q := Nat.le_of_eq hq
  rw [hq] at HQ0
  have hqo := own_low h.own hqw
  have hqb : q ≠ b ∧ q ≠ sb ∧ q ≠ pb := ⟨by have := Has.lt h.cs; omega, by have := Has.lt h.sum; omega, by have := Has.lt h.pk; omega⟩
  have hpl := Has.lt h.pk
  generalize hw1 : w.alloc (.cells noCells 37) = w1 at *
  unfold noCells at hw1
  clear h
  by_cases h0 : 0 < row.n ∧ row.b ≠ c
  · have HPI := Lib.hid (fun wx v hx => spiece_walk wx B b sb pb v now room (Rl.pput row c).2 row hx hr5 ⟨h0.1, by omega⟩ hl hl2)
    unfold putV putN
    rw [pput_a row c h0]
    rw [(put_a row c h0.1 h0.2).1] at HPut
    simp only
    have hte := text_ne row h0.1
    have d1 := u8_ne _ _ h0.2
    have hcast := hrn
    have hrn2 : (row.n : Int) ≤ 254 := by omega
    generalize (Rl.pput row c).2 = row2 at *
    clear h0 hrn hl hl2
    rw [← bs_size] at HPI
    generalize Fr.bs (Rl.text row) = T at *
    obtain ⟨T2, m2, j2, hpv⟩ := pieceV_form room now row
    generalize (pieceV room now row).2 = tb at *
    rw [hpv] at HPI ⊢
    clear hpv
    obtain ⟨rb, rn⟩ := row
    simp only at HRow HPI d1
    have HCA := Lib.hid hcast
    clear hcast 
    go_enter Try.func19, Try.ntmps19
    go_upto_region 1 with (fail)
    clear hw1
    have c4 := HS0.out.cs.cell 4
    simp only [scells, ptr, List.getElem?_toArray, List.getElem?_cons_zero, List.getElem?_cons_succ] at c4
    go_wp2_with fail
    (with_reducible refine (HRow.out _ HS0.out.pk).mono ?_)
    rintro e w2 ⟨rfl, hb2⟩
    have HS2 := Lib.hid (HS0.out.low hb2)
    have HQ2 := Lib.hid (HQ0.out.below hb2 (Has.lt HQ0.out))
    have HC2 := Lib.hid (HC0.out.trans (below_chg hb2 _))
    clear hb2 HS0 HQ0 HC0 c4 HRow
    go_upto_region 4 with (fail)
    have HS3 := Lib.hid (HS2.out.low ((Below.refl _ _).alloc (Nat.le_refl _) (.cells #[.int .u8 (rb.toNat : Int), .int .i64 (rn : Int)] 50)))
    have HQ3 := Lib.hid (Has.alloc HQ2.out (.cells #[.int .u8 (rb.toNat : Int), .int .i64 (rn : Int)] 50))
    have HR3 := Lib.hid (Has.new w2 #[.int .u8 (rb.toNat : Int), .int .i64 (rn : Int)] 50)
    have HC3 := Lib.hid (HC2.out.alloc (.cells #[.int .u8 (rb.toNat : Int), .int .i64 (rn : Int)] 50))
    have hqr : q < w2.heap.size := HQ2.out.lt
    have hpr : pb < w2.heap.size := Has.lt HS2.out.pk
    have hwr : w.heap.size ≤ w2.heap.size := HC2.out.size
    generalize w2.heap.size = r at *
    generalize w2.alloc (.cells #[.int .u8 (rb.toNat : Int), .int .i64 (rn : Int)] 50) = w3 at *
    have c4 := HS3.out.cs.cell 4
    simp only [scells, ptr, List.getElem?_toArray, List.getElem?_cons_zero, List.getElem?_cons_succ] at c4
    clear HS2 HQ2 HC2
    go_wp2_with fail
    (with_reducible refine (HPut.out _ HS3.out.pk).mono ?_)
    rintro e w4 ⟨rfl, hk4, hc4⟩
    have HS4 := Lib.hid (HS3.out.row hk4 hc4)
    have HQ4 := Lib.hid (HQ3.out.chg hc4 (by simp; exact hqb.2.2))
    have HR4 := Lib.hid (HR3.out.chg hc4 (by simp; omega))
    have HC4 := Lib.hid (HC3.out.trans (hc4.mono (fun j _ hj => by simp at hj; subst hj; simp)))
    clear HS3 HQ3 HR3 HC3 hk4 hc4 c4 HPut
    have c0 := HR4.out.cell 0; have c1 := HR4.out.cell 1
    have f1 := HR4.out.free 1
    simp only [List.getElem?_toArray, List.getElem?_cons_zero, List.getElem?_cons_succ] at c0 c1
    go_upto_region 9 with (fail)
    have HPX := Lib.hid (HPI.out _ _ HS4.out)
    have q0 := HQ4.out.cell 0; have q1 := HQ4.out.cell 1; have q2 := HQ4.out.cell 2
    clear HPI
    go_wp2_with fail
    (with_reducible refine (HPX.out).mono ?_)
    rintro e w6 ⟨rfl, v6, hs6, hk6⟩
    have HA := HS4.out.apart HQ4.out blk_ne
    have HS6 := Lib.hid hs6
    have HQ6 := Lib.hid (HQ4.out.chg hk6 (not_own ⟨HA.1, HA.2.1, HA.2.2.2⟩))
    have HC6 := Lib.hid (HC4.out.trans (hk6.mono (fun j _ hj => by simp at hj; simp; rcases hj with hj | hj | hj; exact .inl hj; exact .inr (.inl hj); exact .inr (.inr (.inr hj)))))
    clear hs6 hk6 HA HPX c0 c1 f1 q0 q1 q2 HS4 HQ4 HC4 HR4
    have q0 := HQ6.out.cell 0; have q1 := HQ6.out.cell 1; have q2 := HQ6.out.cell 2
    have f0 := HQ6.out.free 0; have f1 := HQ6.out.free 1; have f2 := HQ6.out.free 2
    simp only [noCells, List.getElem?_toArray, List.getElem?_cons_zero, List.getElem?_cons_succ] at q0 q1 q2
    have HX := Lib.hid (HS6.out.sets3 HQ6.out blk_ne (.string T2) (.int .u32 m2) (.int .i64 j2))
    have HG := Lib.hid (chg_sets3 HC6.out hqw (.string T2) (.int .u32 m2) (.int .i64 j2))
    clear HS6 HQ6 HC6
    go_wp2
    refine bodyPost_ret (v := .tuple #[.agg #[.string T2, .int .u32 m2, .int .i64 j2], .bool tb]) (by rw [results_cell_tmp (fn := Try.f19) rfl]; go_simp) rfl ?_
    exact ⟨rfl, v6, HX.out, HG.out⟩
  · by_cases hn : row.n + 1 = 255
    · have hrb : row.b = c := Classical.byContradiction (fun hh => h0 ⟨by omega, hh⟩)
      have hrn254 : row.n = 254 := by omega
      have hpi : ∀ wx v (hx : SpAt wx B b sb pb v now room (Rl.pput row c).2), Calls Try.prog 31 #[.pointer (some ⟨b, 0, none⟩), .agg #[.int .u8 (c.toNat : Int), .int .i64 255], .int .i64 ((Rl.text ⟨c, 255⟩).length : Int)] wx fun e w' => e = .returned (.tuple #[(pieceV room now ⟨c, 255⟩).1, .bool (pieceV room now ⟨c, 255⟩).2]) ∧ ∃ v', SpAt w' B b sb pb v' (pieceN room now ⟨c, 255⟩) room (Rl.pput row c).2 ∧ Chg ([b, sb] ++ v.ownBlock.toList) wx w' := fun wx v hx =>
        spiece_walk wx B b sb pb v now room (Rl.pput row c).2 ⟨c, 255⟩ hx hr5 ⟨show 1 ≤ 255 by decide, show 255 ≤ 255 by decide⟩ hl hl2
      have HPI := Lib.hid hpi
      clear hpi
      have hrow : ∀ wx (hx : KAt wx pb row), Calls Try.prog 29 #[.pointer (some ⟨pb, 0, none⟩)] wx fun e w' => e = .returned (.agg #[.int .u8 (c.toNat : Int), .int .i64 254]) ∧ Below wx.heap.size wx w' := fun wx hx => by
        have := prow_walk pb row wx hx
        rw [hrb, hrn254] at this
        exact this
      have HRow := Lib.hid hrow
      clear hrow
      unfold putV putN
      rw [pput_b row c h0 hn]
      rw [(put_b row c h0 hn).1] at HPut
      simp only
      have hte := text_ne ⟨c, 255⟩ (show 1 ≤ 255 by decide)
      have d1 := u8_eq c c rfl
      generalize (Rl.pput row c).2 = row2 at *
      clear h0 hrn hl hl2 hn hrb hrn254
      rw [← bs_size] at HPI
      generalize Fr.bs (Rl.text ⟨c, 255⟩) = T at *
      obtain ⟨T2, m2, j2, hpv⟩ := pieceV_form room now ⟨c, 255⟩
      generalize (pieceV room now ⟨c, 255⟩).2 = tb at *
      rw [hpv] at HPI ⊢
      clear hpv
      go_enter Try.func19, Try.ntmps19
      go_upto_region 1 with (fail)
      clear hw1
      have c4 := HS0.out.cs.cell 4
      simp only [scells, ptr, List.getElem?_toArray, List.getElem?_cons_zero, List.getElem?_cons_succ] at c4
      go_wp2_with fail
      (with_reducible refine (HRow.out _ HS0.out.pk).mono ?_)
      rintro e w2 ⟨rfl, hb2⟩
      have HS2 := Lib.hid (HS0.out.low hb2)
      have HQ2 := Lib.hid (HQ0.out.below hb2 (Has.lt HQ0.out))
      have HC2 := Lib.hid (HC0.out.trans (below_chg hb2 _))
      clear hb2 HS0 HQ0 HC0 c4 HRow
      go_upto_region 4 with (fail)
      have HS3 := Lib.hid (HS2.out.low ((Below.refl _ _).alloc (Nat.le_refl _) (.cells #[.int .u8 (c.toNat : Int), .int .i64 254] 50)))
      have HQ3 := Lib.hid (Has.alloc HQ2.out (.cells #[.int .u8 (c.toNat : Int), .int .i64 254] 50))
      have HR3 := Lib.hid (Has.new w2 #[.int .u8 (c.toNat : Int), .int .i64 254] 50)
      have HC3 := Lib.hid (HC2.out.alloc (.cells #[.int .u8 (c.toNat : Int), .int .i64 254] 50))
      have hqr : q < w2.heap.size := HQ2.out.lt
      have hpr : pb < w2.heap.size := Has.lt HS2.out.pk
      have hwr : w.heap.size ≤ w2.heap.size := HC2.out.size
      generalize w2.heap.size = r at *
      generalize w2.alloc (.cells #[.int .u8 (c.toNat : Int), .int .i64 254] 50) = w3 at *
      have c4 := HS3.out.cs.cell 4
      simp only [scells, ptr, List.getElem?_toArray, List.getElem?_cons_zero, List.getElem?_cons_succ] at c4
      clear HS2 HQ2 HC2
      go_wp2_with fail
      (with_reducible refine (HPut.out _ HS3.out.pk).mono ?_)
      rintro e w4 ⟨rfl, hk4, hc4⟩
      have HS4 := Lib.hid (HS3.out.row hk4 hc4)
      have HQ4 := Lib.hid (HQ3.out.chg hc4 (by simp; exact hqb.2.2))
      have HR4 := Lib.hid (HR3.out.chg hc4 (by simp; omega))
      have HC4 := Lib.hid (HC3.out.trans (hc4.mono (fun j _ hj => by simp at hj; subst hj; simp)))
      clear HS3 HQ3 HR3 HC3 hk4 hc4 c4 HPut
      have c0 := HR4.out.cell 0; have c1 := HR4.out.cell 1
      have f1 := HR4.out.free 1
      simp only [List.getElem?_toArray, List.getElem?_cons_zero, List.getElem?_cons_succ] at c0 c1
      go_upto_region 9 with (fail)
      have HS5 := Lib.hid (sets1_sp (i := 1) HS4.out HR4.out pc_ne (.int .i64 255))
      have HQ5 := Lib.hid (HQ4.out.setCell_other ⟨r, 1, none⟩ (.int .i64 255) (Nat.ne_of_lt hqr))
      have HC5 := Lib.hid (HC4.out.setCell ⟨r, 1, none⟩ (.int .i64 255) (.inr hwr))
      have HR5 := Lib.hid (HR4.out.setCell 1 (.int .i64 255))
      clear HS4 HQ4 HR4 HC4 c0 c1 f1
      generalize w4.setCell ⟨r, 1, none⟩ (.int .i64 255) = w5 at *
      have c0 := HR5.out.cell 0; have c1 := HR5.out.cell 1; have f1 := HR5.out.free 1
      simp only [List.setIfInBounds_toArray, List.set_cons_succ, List.set_cons_zero, List.getElem?_toArray, List.getElem?_cons_zero, List.getElem?_cons_succ] at c0 c1
      have HPX := Lib.hid (HPI.out _ _ HS5.out)
      have q0 := HQ5.out.cell 0; have q1 := HQ5.out.cell 1; have q2 := HQ5.out.cell 2
      clear HPI
      go_wp2_with fail
      (with_reducible refine (HPX.out).mono ?_)
      rintro e w6 ⟨rfl, v6, hs6, hk6⟩
      have HA := HS5.out.apart HQ5.out blk_ne
      have HS6 := Lib.hid hs6
      have HQ6 := Lib.hid (HQ5.out.chg hk6 (not_own ⟨HA.1, HA.2.1, HA.2.2.2⟩))
      have HC6 := Lib.hid (HC5.out.trans (hk6.mono (fun j _ hj => by simp at hj; simp; rcases hj with hj | hj | hj; exact .inl hj; exact .inr (.inl hj); exact .inr (.inr (.inr hj)))))
      clear hs6 hk6 HA HPX c0 c1 f1 q0 q1 q2 HS5 HQ5 HC5 HR5
      have q0 := HQ6.out.cell 0; have q1 := HQ6.out.cell 1; have q2 := HQ6.out.cell 2
      have f0 := HQ6.out.free 0; have f1 := HQ6.out.free 1; have f2 := HQ6.out.free 2
      simp only [noCells, List.getElem?_toArray, List.getElem?_cons_zero, List.getElem?_cons_succ] at q0 q1 q2
      have HX := Lib.hid (HS6.out.sets3 HQ6.out blk_ne (.string T2) (.int .u32 m2) (.int .i64 j2))
      have HG := Lib.hid (chg_sets3 HC6.out hqw (.string T2) (.int .u32 m2) (.int .i64 j2))
      clear HS6 HQ6 HC6
      go_wp2
      refine bodyPost_ret (v := .tuple #[.agg #[.string T2, .int .u32 m2, .int .i64 j2], .bool tb]) (by rw [results_cell_tmp (fn := Try.f19) rfl]; go_simp) rfl ?_
      exact ⟨rfl, v6, HX.out, HG.out⟩
    · unfold putV putN noBlk
      rw [pput_c row c h0 hn]
      rw [(put_c row c h0 hn).1, show Fr.bs [] = (⟨#[]⟩ : ByteArray) from rfl] at HPut
      simp only
      generalize (Rl.pput row c).2 = row2 at *
      obtain ⟨rb, rn⟩ := row
      simp only at HRow
      have HCA := Lib.hid hrn
      clear h0 hn hrn hl hl2
      go_enter Try.func19, Try.ntmps19
      go_upto_region 1 with (fail)
      clear hw1
      have c4 := HS0.out.cs.cell 4
      simp only [scells, ptr, List.getElem?_toArray, List.getElem?_cons_zero, List.getElem?_cons_succ] at c4
      go_wp2_with fail
      (with_reducible refine (HRow.out _ HS0.out.pk).mono ?_)
      rintro e w2 ⟨rfl, hb2⟩
      have HS2 := Lib.hid (HS0.out.low hb2)
      have HQ2 := Lib.hid (HQ0.out.below hb2 (Has.lt HQ0.out))
      have HC2 := Lib.hid (HC0.out.trans (below_chg hb2 _))
      clear hb2 HS0 HQ0 HC0 c4 HRow
      go_upto_region 4 with (fail)
      have HS3 := Lib.hid (HS2.out.low ((Below.refl _ _).alloc (Nat.le_refl _) (.cells #[.int .u8 (rb.toNat : Int), .int .i64 (rn : Int)] 50)))
      have HQ3 := Lib.hid (Has.alloc HQ2.out (.cells #[.int .u8 (rb.toNat : Int), .int .i64 (rn : Int)] 50))
      have HR3 := Lib.hid (Has.new w2 #[.int .u8 (rb.toNat : Int), .int .i64 (rn : Int)] 50)
      have HC3 := Lib.hid (HC2.out.alloc (.cells #[.int .u8 (rb.toNat : Int), .int .i64 (rn : Int)] 50))
      have hqr : q < w2.heap.size := HQ2.out.lt
      have hpr : pb < w2.heap.size := Has.lt HS2.out.pk
      have hwr : w.heap.size ≤ w2.heap.size := HC2.out.size
      generalize w2.heap.size = r at *
      generalize w2.alloc (.cells #[.int .u8 (rb.toNat : Int), .int .i64 (rn : Int)] 50) = w3 at *
      have c4 := HS3.out.cs.cell 4
      simp only [scells, ptr, List.getElem?_toArray, List.getElem?_cons_zero, List.getElem?_cons_succ] at c4
      clear HS2 HQ2 HC2
      go_wp2_with fail
      (with_reducible refine (HPut.out _ HS3.out.pk).mono ?_)
      rintro e w4 ⟨rfl, hk4, hc4⟩
      have HS4 := Lib.hid (HS3.out.row hk4 hc4)
      have HQ4 := Lib.hid (HQ3.out.chg hc4 (by simp; exact hqb.2.2))
      have HR4 := Lib.hid (HR3.out.chg hc4 (by simp; omega))
      have HC4 := Lib.hid (HC3.out.trans (hc4.mono (fun j _ hj => by simp at hj; subst hj; simp)))
      clear HS3 HQ3 HR3 HC3 hk4 hc4 c4 HPut
      have q0 := HQ4.out.cell 0; have q1 := HQ4.out.cell 1; have q2 := HQ4.out.cell 2
      have f0 := HQ4.out.free 0; have f1 := HQ4.out.free 1; have f2 := HQ4.out.free 2
      simp only [noCells, List.getElem?_toArray, List.getElem?_cons_zero, List.getElem?_cons_succ] at q0 q1 q2
      have HX := Lib.hid (HS4.out.sets3 HQ4.out blk_ne (.string ⟨#[]⟩) (.int .u32 0) (.int .i64 0))
      have HG := Lib.hid (chg_sets3 HC4.out hqw (.string ⟨#[]⟩) (.int .u32 0) (.int .i64 0))
      clear HS4 HQ4 HC4 HR4
      go_wp2
      refine bodyPost_ret (v := .tuple #[.agg #[.string ⟨#[]⟩, .int .u32 0, .int .i64 0], .bool false]) (by rw [results_cell_tmp (fn := Try.f19) rfl]; go_simp) rfl ?_
      exact ⟨rfl, v, HX.out, HG.out⟩
end Go.Proofs.Ytaldcdgafljedaa
