/- Splitters: what is left (printed by tools/gen_splend.py). -/
import Derived.Test.YtaldcdgafljedaaSplWalk5
import Derived.OwnWalk
namespace Go.Proofs.Ytaldcdgafljedaa
open Go.RowKit
set_option linter.unusedVariables false
set_option linter.unusedSimpArgs false

theorem chg_low {w a b : World} {T : List Nat} (h : Chg T w a) (k : Below w.heap.size a b) : Chg T w b :=
  ⟨k.os.trans h.os, k.tape.trans h.tape, k.output.trans h.output, Nat.le_trans h.size k.size, fun i hi hn => (k.block i hi).trans (h.block i hi hn)⟩
theorem blk_own (X : World) {B C k : Nat} {out : Value} {n : Nat} {xs : List Value} {B' b sb pb : Nat} {v : Value} {now : List Rl.Pc} {room : Nat} {row : Rl.Pc} (h : SpAt X B' b sb pb v now room row) (ho : X.ownsRow C 37 k out n xs) :
    b ∉ out.ownBlock.toList ∧ sb ∉ out.ownBlock.toList ∧ pb ∉ out.ownBlock.toList ∧ (∀ g, v.ownBlock = some g → g ∉ out.ownBlock.toList) ∧ ∀ g, out.ownBlock = some g → g ∉ v.ownBlock.toList := by
  have hs := h.sum
  have hp := h.pk
  unfold SumAt at hs
  unfold KAt at hp
  refine ⟨own_has ho h.cs (by decide), own_has ho hs (by decide), own_has ho hp (by decide), fun g hg => own_two ho h.own (by decide) g (by simp [hg]), fun g hg => own_two h.own ho (by decide) g (by simp [hg])⟩
/-- the call's own row of blocks grows -/
theorem SpAt.grew {w w' : World} {B C b sb pb : Nat} {v out : Value} {n : Nat} {xs : List Value} {now : List Rl.Pc} {room : Nat} {row : Rl.Pc} (h : SpAt w B b sb pb v now room row) (ho : w.ownsRow C 37 3 out n xs) (k : Chg out.ownBlock.toList w w') : SpAt w' B b sb pb v now room row := by
  obtain ⟨h1, h2, h3, h4, h5⟩ := blk_own (B := B) w h ho
  exact h.chg k ⟨h1, h2, h3, h4⟩
/-- it stays, whatever a splitter does -/
theorem SpAt.outs {w w' : World} {B C b sb pb : Nat} {v out : Value} {n : Nat} {xs : List Value} {now : List Rl.Pc} {room : Nat} {row : Rl.Pc} (h : SpAt w B b sb pb v now room row) (ho : w.ownsRow C 37 3 out n xs) (k : Chg ([b, sb, pb] ++ v.ownBlock.toList) w w') : w'.ownsRow C 37 3 out n xs := by
  obtain ⟨h1, h2, h3, h4, h5⟩ := blk_own (B := B) w h ho
  refine ownsRow_chg ho k (fun g hg hm => ?_)
  rcases List.mem_append.1 hm with hm | hm
  · simp at hm
    rcases hm with rfl | rfl | rfl
    · exact h1 (by simp [hg])
    · exact h2 (by simp [hg])
    · exact h3 (by simp [hg])
  · exact h5 g hg hm
theorem two_three {b sb pb : Nat} {l : List Nat} (j : Nat) (h : j ∈ [b, sb] ++ l) : j ∈ [b, sb, pb] ++ l := by
  simp at h ⊢
  rcases h with h | h | h
  · exact .inl h
  · exact .inr (.inl h)
  · exact .inr (.inr (.inr h))
theorem two_three0 {b sb pb : Nat} {l : List Nat} (j : Nat) (h : j ∈ [b, sb]) : j ∈ [b, sb, pb] ++ l := two_three j (by simp at h ⊢; rcases h with h | h; exact .inl h; exact .inr (.inl h))
def bcells (ps : List Rl.Pc) : List Value := [.string (Fr.bs (Sp.body ps)), .int .u32 ((Crc.sumOf (Rl.join ps)).toNat : Int), .int .i64 ((Rl.join ps).length : Int)]
theorem info_blk : (Try.prog.info? 37).map (fun i => (i.zero, i.size, i.bytes)) = some (some (.agg #[.string ⟨#[]⟩, .int .u32 0, .int .i64 0]), 3, 32) := by kernel_rfl
/-- the blocks that are left -/
def endL (room : Nat) (now : List Rl.Pc) (row : Rl.Pc) : List (List Rl.Pc) :=
  if row.n = 0 then (if Sp.body now = [] then [] else [now]) else if room < (Sp.body now).length + (Rl.text row).length then [now, [row]] else [now ++ [row]]
set_option maxRecDepth 100000 in
set_option maxHeartbeats 1600000 in
theorem send_none (w : World) (B b sb pb : Nat) (v : Value) (now : List Rl.Pc) (room : Nat) (row : Rl.Pc) (h : SpAt w B b sb pb v now room row) (hr5 : 5 ≤ room) (hrn : row.n < 255) (hl : (Rl.join now).length ≤ 1000000) (hl2 : (Sp.body now).length ≤ 10000000)
    (hn0 : row.n = 0) (hne : now = []) :
    Calls Try.prog 22 #[.pointer (some ⟨b, 0, none⟩)] w fun e w' => ∃ out v', e = .returned out ∧ w'.ownsRow w.heap.size 37 3 out (([] : List (List Rl.Pc))).length ((([] : List (List Rl.Pc))).flatMap bcells) ∧ SpAt w' B b sb pb v' [] room Rl.row0 ∧ Chg ([b, sb, pb] ++ v.ownBlock.toList) w w' := by
  have HRow := Lib.hid (fun wx hx => prow_walk pb row wx hx)
  have HEnd := Lib.hid (fun wx hx => pend_walk pb row wx hx (Nat.le_of_lt hrn))
  have HS0 := Lib.hid h
  have HW := Lib.hid (show w.heap.size = w.heap.size from rfl)
  rw [show Rl.endB row = [] from if_pos hn0, show Fr.bs [] = (⟨#[]⟩ : ByteArray) from rfl] at HEnd
  subst hne
  have hcl : ∀ wx v (hx : SpAt wx B b sb pb v [] room Rl.row0), Calls Try.prog 33 #[.pointer (some ⟨b, 0, none⟩)] wx fun e w' => e = .returned (.tuple #[.agg #[.string ⟨#[]⟩, .int .u32 0, .int .i64 0], .bool false]) ∧ Below wx.heap.size wx w' := fun wx v hx => sclose_empty wx B b sb pb v [] room Rl.row0 hx rfl
  have HCL := Lib.hid hcl
  clear hcl hn0
  simp only [List.flatMap_cons, List.flatMap_nil, bcells, List.append_nil, List.length_cons, List.length_nil]
  clear h hrn hl hl2
  obtain ⟨rb, rn⟩ := row
  simp only at HRow
  go_enter Try.func22, Try.ntmps22
  have c4 := HS0.out.cs.cell 4
  simp only [scells, ptr, List.getElem?_toArray, List.getElem?_cons_zero, List.getElem?_cons_succ] at c4
  go_wp2_with fail
  (with_reducible refine (HRow.out _ HS0.out.pk).mono ?_)
  rintro e w1 ⟨rfl, hb1⟩
  have HS1 := Lib.hid (HS0.out.low hb1)
  have HC1 := Lib.hid (below_chg hb1 ([b, sb, pb] ++ v.ownBlock.toList))
  clear hb1 HS0 c4 HRow
  go_upto_region 5 with (fail)
  have HS2 := Lib.hid (HS1.out.low ((Below.refl _ _).alloc (Nat.le_refl _) (.cells #[.int .u8 (rb.toNat : Int), .int .i64 (rn : Int)] 50)))
  have HR2 := Lib.hid (Has.new w1 #[.int .u8 (rb.toNat : Int), .int .i64 (rn : Int)] 50)
  have HC2 := Lib.hid (HC1.out.alloc (.cells #[.int .u8 (rb.toNat : Int), .int .i64 (rn : Int)] 50))
  have hpr : pb < w1.heap.size := Has.lt HS1.out.pk
  generalize w1.heap.size = r at *
  generalize w1.alloc (.cells #[.int .u8 (rb.toNat : Int), .int .i64 (rn : Int)] 50) = w2 at *
  have c4 := HS2.out.cs.cell 4
  simp only [scells, ptr, List.getElem?_toArray, List.getElem?_cons_zero, List.getElem?_cons_succ] at c4
  clear HS1 HC1
  go_wp2_with fail
  (with_reducible refine (HEnd.out _ HS2.out.pk).mono ?_)
  rintro e w3 ⟨rfl, hk3, hc3⟩
  have HS3 := Lib.hid (HS2.out.row hk3 hc3)
  have HR3 := Lib.hid (HR2.out.chg hc3 (by simp; omega))
  have HC3 := Lib.hid (HC2.out.trans (hc3.mono (fun j _ hj => by simp at hj; subst hj; simp)))
  clear HS2 HR2 HC2 hk3 hc3 c4 HEnd hpr
  have c0 := HR3.out.cell 0; have c1 := HR3.out.cell 1
  simp only [List.getElem?_toArray, List.getElem?_cons_zero, List.getElem?_cons_succ] at c0 c1
  have HS6 := HS3
  have HC6 := HC3
  have HO6 := Lib.hid (World.ownsRow_nil w3 w.heap.size 37 3)
  clear HS3 HR3 HC3 c0 c1
  generalize w3 = w6 at *
  go_wp2_with fail
  (with_reducible refine (HCL.out _ _ HS6.out).mono ?_)
  rintro e w7 ⟨rfl, hk7⟩
  have HS7 := Lib.hid (HS6.out.low hk7)
  have HC7 := Lib.hid (HC6.out.trans (below_chg hk7 _))
  clear HS6 HO6 HC6 hk7 HCL
  go_upto_region 11 with (fail)
  have HS8 := Lib.hid (HS7.out.low ((Below.refl _ _).alloc (Nat.le_refl _) (.cells #[.string ⟨#[]⟩, .int .u32 0, .int .i64 0] 37)))
  have HC8 := Lib.hid (HC7.out.alloc (.cells #[.string ⟨#[]⟩, .int .u32 0, .int .i64 0] 37))
  clear HS7 HC7
  generalize w7.alloc (.cells #[.string ⟨#[]⟩, .int .u32 0, .int .i64 0] 37) = w8 at *
  generalize w7.heap.size = r8 at *
  go_wp2
  go_ret
  exact ⟨_, _, rfl, World.ownsRow_nil _ _ _ _, HS8.out, HC8.out⟩
set_option maxRecDepth 100000 in
set_option maxHeartbeats 1600000 in
theorem send_one (w : World) (B b sb pb : Nat) (v : Value) (now : List Rl.Pc) (room : Nat) (row : Rl.Pc) (h : SpAt w B b sb pb v now room row) (hr5 : 5 ≤ room) (hrn : row.n < 255) (hl : (Rl.join now).length ≤ 1000000) (hl2 : (Sp.body now).length ≤ 10000000)
    (hn0 : row.n = 0) (hne : Sp.body now ≠ []) :
    Calls Try.prog 22 #[.pointer (some ⟨b, 0, none⟩)] w fun e w' => ∃ out v', e = .returned out ∧ w'.ownsRow w.heap.size 37 3 out ([now]).length (([now]).flatMap bcells) ∧ SpAt w' B b sb pb v' [] room Rl.row0 ∧ Chg ([b, sb, pb] ++ v.ownBlock.toList) w w' := by
  have HRow := Lib.hid (fun wx hx => prow_walk pb row wx hx)
  have HEnd := Lib.hid (fun wx hx => pend_walk pb row wx hx (Nat.le_of_lt hrn))
  have HS0 := Lib.hid h
  have HW := Lib.hid (show w.heap.size = w.heap.size from rfl)
  rw [show Rl.endB row = [] from if_pos hn0, show Fr.bs [] = (⟨#[]⟩ : ByteArray) from rfl] at HEnd
  have hcl : ∀ wx v (hx : SpAt wx B b sb pb v (now) room Rl.row0), Calls Try.prog 33 #[.pointer (some ⟨b, 0, none⟩)] wx fun e w' => e = .returned (.tuple #[blkV (now), .bool true]) ∧ SpAt w' B b sb pb (.slice none 0 0) [] room Rl.row0 ∧ Chg [b, sb] wx w' := fun wx v hx => sclose_walk wx B b sb pb v (now) room Rl.row0 hx hne
  simp only [blkV] at hcl
  have HCL := Lib.hid hcl
  clear hcl
  simp only [List.flatMap_cons, List.flatMap_nil, bcells, List.append_nil, List.length_cons, List.length_nil]
  generalize Fr.bs (Sp.body (now)) = T2 at *
  generalize ((Crc.sumOf (Rl.join (now))).toNat : Int) = m2 at *
  generalize ((Rl.join (now)).length : Int) = j2 at *
  clear hne hn0
  clear h hrn hl hl2
  obtain ⟨rb, rn⟩ := row
  simp only at HRow
  go_enter Try.func22, Try.ntmps22
  have c4 := HS0.out.cs.cell 4
  simp only [scells, ptr, List.getElem?_toArray, List.getElem?_cons_zero, List.getElem?_cons_succ] at c4
  go_wp2_with fail
  (with_reducible refine (HRow.out _ HS0.out.pk).mono ?_)
  rintro e w1 ⟨rfl, hb1⟩
  have HS1 := Lib.hid (HS0.out.low hb1)
  have HC1 := Lib.hid (below_chg hb1 ([b, sb, pb] ++ v.ownBlock.toList))
  clear hb1 HS0 c4 HRow
  go_upto_region 5 with (fail)
  have HS2 := Lib.hid (HS1.out.low ((Below.refl _ _).alloc (Nat.le_refl _) (.cells #[.int .u8 (rb.toNat : Int), .int .i64 (rn : Int)] 50)))
  have HR2 := Lib.hid (Has.new w1 #[.int .u8 (rb.toNat : Int), .int .i64 (rn : Int)] 50)
  have HC2 := Lib.hid (HC1.out.alloc (.cells #[.int .u8 (rb.toNat : Int), .int .i64 (rn : Int)] 50))
  have hpr : pb < w1.heap.size := Has.lt HS1.out.pk
  generalize w1.heap.size = r at *
  generalize w1.alloc (.cells #[.int .u8 (rb.toNat : Int), .int .i64 (rn : Int)] 50) = w2 at *
  have c4 := HS2.out.cs.cell 4
  simp only [scells, ptr, List.getElem?_toArray, List.getElem?_cons_zero, List.getElem?_cons_succ] at c4
  clear HS1 HC1
  go_wp2_with fail
  (with_reducible refine (HEnd.out _ HS2.out.pk).mono ?_)
  rintro e w3 ⟨rfl, hk3, hc3⟩
  have HS3 := Lib.hid (HS2.out.row hk3 hc3)
  have HR3 := Lib.hid (HR2.out.chg hc3 (by simp; omega))
  have HC3 := Lib.hid (HC2.out.trans (hc3.mono (fun j _ hj => by simp at hj; subst hj; simp)))
  clear HS2 HR2 HC2 hk3 hc3 c4 HEnd hpr
  have c0 := HR3.out.cell 0; have c1 := HR3.out.cell 1
  simp only [List.getElem?_toArray, List.getElem?_cons_zero, List.getElem?_cons_succ] at c0 c1
  have HS6 := HS3
  have HC6 := HC3
  have HO6 := Lib.hid (World.ownsRow_nil w3 w.heap.size 37 3)
  clear HS3 HR3 HC3 c0 c1
  generalize w3 = w6 at *
  go_wp2_with fail
  (with_reducible refine (HCL.out _ _ HS6.out).mono ?_)
  rintro e w7 ⟨rfl, hs7, hk7⟩
  have HO7 := Lib.hid (HS6.out.outs HO6.out (hk7.mono (fun j _ hj => two_three0 j hj)))
  have HS7 := Lib.hid hs7
  have HC7 := Lib.hid (HC6.out.trans (hk7.mono (fun j _ hj => two_three0 j hj)))
  clear HS6 HO6 HC6 hs7 hk7 HCL
  go_upto_region 11 with (fail)
  have HS8 := Lib.hid (HS7.out.low ((Below.refl _ _).alloc (Nat.le_refl _) (.cells #[.string T2, .int .u32 m2, .int .i64 j2] 37)))
  have HR8 := Lib.hid (Has.new w7 #[.string T2, .int .u32 m2, .int .i64 j2] 37)
  have HC8 := Lib.hid (HC7.out.alloc (.cells #[.string T2, .int .u32 m2, .int .i64 j2] 37))
  have HO8 := Lib.hid (HO7.out.alloc (.cells #[.string T2, .int .u32 m2, .int .i64 j2] 37))
  clear HS7 HC7 HO7
  generalize w7.heap.size = r8 at *
  generalize w7.alloc (.cells #[.string T2, .int .u32 m2, .int .i64 j2] 37) = w8 at *
  have c0 := HR8.out.cell 0; have c1 := HR8.out.cell 1; have c2 := HR8.out.cell 2
  simp only [List.getElem?_toArray, List.getElem?_cons_zero, List.getElem?_cons_succ] at c0 c1 c2
  have HZ8 := Lib.hid (show w.heap.size ≤ w8.heap.size from HC8.out.size)
  go_wp2_with (at_builtin; refine appendS Try.underlying27 info_blk rfl (by decide) rfl _ _ rfl w.heap.size 0 _ _ rfl HO8.out #[.string T2, .int .u32 m2, .int .i64 j2] rfl (by intro u hu; simp at hu; rcases hu with rfl | rfl | rfl <;> rfl) _ rfl rfl (by unfold maxLen; omega) (by omega) HZ8.out ?_)
  intro g8 cap8 w9 ho hc hb9 _ _ _
  have HO9 := Lib.hid ho
  have HS9 := Lib.hid (HS8.out.grew HO8.out hc)
  have HC9 := Lib.hid (chg_low HC8.out hb9)
  clear HS8 HR8 HC8 HO8 HZ8 ho hc hb9 c0 c1 c2
  go_wp2
  go_ret
  exact ⟨_, _, rfl, HO9.out, HS9.out, HC9.out⟩
set_option maxRecDepth 100000 in
set_option maxHeartbeats 1600000 in
theorem send_two (w : World) (B b sb pb : Nat) (v : Value) (now : List Rl.Pc) (room : Nat) (row : Rl.Pc) (h : SpAt w B b sb pb v now room row) (hr5 : 5 ≤ room) (hrn : row.n < 255) (hl : (Rl.join now).length ≤ 1000000) (hl2 : (Sp.body now).length ≤ 10000000)
    (hn0 : ¬ row.n = 0) (hc : room < (Sp.body now).length + (Rl.text row).length) :
    Calls Try.prog 22 #[.pointer (some ⟨b, 0, none⟩)] w fun e w' => ∃ out v', e = .returned out ∧ w'.ownsRow w.heap.size 37 3 out ([now, [row]]).length (([now, [row]]).flatMap bcells) ∧ SpAt w' B b sb pb v' [] room Rl.row0 ∧ Chg ([b, sb, pb] ++ v.ownBlock.toList) w w' := by
  have HRow := Lib.hid (fun wx hx => prow_walk pb row wx hx)
  have HEnd := Lib.hid (fun wx hx => pend_walk pb row wx hx (Nat.le_of_lt hrn))
  have HS0 := Lib.hid h
  have HW := Lib.hid (show w.heap.size = w.heap.size from rfl)
  rw [show Rl.endB row = Rl.text row from if_neg hn0] at HEnd
  have hte := text_ne row (by omega)
  have hne : Sp.body [row] ≠ [] := fun e => by
    have := (Sp.body_nil_iff [row] (fun p hp => by cases List.mem_singleton.1 hp; omega)).1 e
    cases this
  have hpi : ∀ wx (hx : SpAt wx B b sb pb v now room Rl.row0), Calls Try.prog 31 #[.pointer (some ⟨b, 0, none⟩), .agg #[.int .u8 (row.b.toNat : Int), .int .i64 (row.n : Int)], .int .i64 ((Rl.text row).length : Int)] wx fun e w' => e = .returned (.tuple #[blkV now, .bool true]) ∧ ∃ v', SpAt w' B b sb pb v' ([row]) room Rl.row0 ∧ Chg ([b, sb] ++ v.ownBlock.toList) wx w' := fun wx hx => by
    have := spiece_walk wx B b sb pb v now room Rl.row0 row hx hr5 ⟨by omega, by omega⟩ hl hl2
    unfold pieceV pieceN at this
    rw [if_pos hc, if_pos hc] at this
    exact this
  rw [← bs_size] at hpi
  generalize Fr.bs (Rl.text row) = T at *
  have HPI := Lib.hid hpi
  clear hpi
  have hcl : ∀ wx v (hx : SpAt wx B b sb pb v ([row]) room Rl.row0), Calls Try.prog 33 #[.pointer (some ⟨b, 0, none⟩)] wx fun e w' => e = .returned (.tuple #[blkV ([row]), .bool true]) ∧ SpAt w' B b sb pb (.slice none 0 0) [] room Rl.row0 ∧ Chg [b, sb] wx w' := fun wx v hx => sclose_walk wx B b sb pb v ([row]) room Rl.row0 hx hne
  simp only [blkV] at hcl
  have HCL := Lib.hid hcl
  clear hcl
  simp only [blkV] at HPI
  simp only [List.flatMap_cons, List.flatMap_nil, bcells, List.append_nil, List.length_cons, List.length_nil]
  generalize Fr.bs (Sp.body (now)) = T1 at *
  generalize ((Crc.sumOf (Rl.join (now))).toNat : Int) = m1 at *
  generalize ((Rl.join (now)).length : Int) = j1 at *
  generalize Fr.bs (Sp.body ([row])) = T2 at *
  generalize ((Crc.sumOf (Rl.join ([row]))).toNat : Int) = m2 at *
  generalize ((Rl.join ([row])).length : Int) = j2 at *
  clear hne hn0 hc
  clear h hrn hl hl2
  obtain ⟨rb, rn⟩ := row
  simp only at HRow
  go_enter Try.func22, Try.ntmps22
  have c4 := HS0.out.cs.cell 4
  simp only [scells, ptr, List.getElem?_toArray, List.getElem?_cons_zero, List.getElem?_cons_succ] at c4
  go_wp2_with fail
  (with_reducible refine (HRow.out _ HS0.out.pk).mono ?_)
  rintro e w1 ⟨rfl, hb1⟩
  have HS1 := Lib.hid (HS0.out.low hb1)
  have HC1 := Lib.hid (below_chg hb1 ([b, sb, pb] ++ v.ownBlock.toList))
  clear hb1 HS0 c4 HRow
  go_upto_region 5 with (fail)
  have HS2 := Lib.hid (HS1.out.low ((Below.refl _ _).alloc (Nat.le_refl _) (.cells #[.int .u8 (rb.toNat : Int), .int .i64 (rn : Int)] 50)))
  have HR2 := Lib.hid (Has.new w1 #[.int .u8 (rb.toNat : Int), .int .i64 (rn : Int)] 50)
  have HC2 := Lib.hid (HC1.out.alloc (.cells #[.int .u8 (rb.toNat : Int), .int .i64 (rn : Int)] 50))
  have hpr : pb < w1.heap.size := Has.lt HS1.out.pk
  generalize w1.heap.size = r at *
  generalize w1.alloc (.cells #[.int .u8 (rb.toNat : Int), .int .i64 (rn : Int)] 50) = w2 at *
  have c4 := HS2.out.cs.cell 4
  simp only [scells, ptr, List.getElem?_toArray, List.getElem?_cons_zero, List.getElem?_cons_succ] at c4
  clear HS1 HC1
  go_wp2_with fail
  (with_reducible refine (HEnd.out _ HS2.out.pk).mono ?_)
  rintro e w3 ⟨rfl, hk3, hc3⟩
  have HS3 := Lib.hid (HS2.out.row hk3 hc3)
  have HR3 := Lib.hid (HR2.out.chg hc3 (by simp; omega))
  have HC3 := Lib.hid (HC2.out.trans (hc3.mono (fun j _ hj => by simp at hj; subst hj; simp)))
  clear HS2 HR2 HC2 hk3 hc3 c4 HEnd hpr
  have c0 := HR3.out.cell 0; have c1 := HR3.out.cell 1
  simp only [List.getElem?_toArray, List.getElem?_cons_zero, List.getElem?_cons_succ] at c0 c1
  have HPX := Lib.hid (HPI.out _ HS3.out)
  clear HPI
  go_wp2_with fail
  (with_reducible refine (HPX.out).mono ?_)
  rintro e w4 ⟨rfl, v4, hs4, hk4⟩
  have HS4 := Lib.hid hs4
  have HC4 := Lib.hid (HC3.out.trans (hk4.mono (fun j _ hj => two_three j hj)))
  clear HS3 HR3 HC3 hs4 hk4 HPX c0 c1
  go_upto_region 8 with (fail)
  have HS5 := Lib.hid (HS4.out.low ((Below.refl _ _).alloc (Nat.le_refl _) (.cells #[.string T1, .int .u32 m1, .int .i64 j1] 37)))
  have HR5 := Lib.hid (Has.new w4 #[.string T1, .int .u32 m1, .int .i64 j1] 37)
  have HC5 := Lib.hid (HC4.out.alloc (.cells #[.string T1, .int .u32 m1, .int .i64 j1] 37))
  clear HS4 HC4
  generalize w4.heap.size = r5 at *
  generalize w4.alloc (.cells #[.string T1, .int .u32 m1, .int .i64 j1] 37) = w5 at *
  have c0 := HR5.out.cell 0; have c1 := HR5.out.cell 1; have c2 := HR5.out.cell 2
  simp only [List.getElem?_toArray, List.getElem?_cons_zero, List.getElem?_cons_succ] at c0 c1 c2
  have HO5 := Lib.hid (World.ownsRow_nil w5 w.heap.size 37 3)
  have HZ5 := Lib.hid (show w.heap.size ≤ w5.heap.size from HC5.out.size)
  have HA5 := Lib.hid (HS5.out.low ((Below.refl _ _).alloc (Nat.le_refl _) (.cells #[.string T1, .int .u32 m1, .int .i64 j1] 37)))
  go_wp2_with (at_builtin; refine appendS Try.underlying27 info_blk rfl (by decide) rfl _ _ rfl w.heap.size 0 _ _ rfl HO5.out #[.string T1, .int .u32 m1, .int .i64 j1] rfl (by intro u hu; simp at hu; rcases hu with rfl | rfl | rfl <;> rfl) _ rfl rfl (by unfold maxLen; omega) (by omega) HZ5.out ?_)
  intro g cap w6 ho hc hb6 _ _ _
  have HO6 := Lib.hid ho
  have HS6 := Lib.hid (HS5.out.grew HO5.out hc)
  have HC6 := Lib.hid (chg_low HC5.out hb6)
  clear HS5 HR5 HC5 HO5 HZ5 HA5 ho hc hb6 c0 c1 c2
  go_wp2_with fail
  (with_reducible refine (HCL.out _ _ HS6.out).mono ?_)
  rintro e w7 ⟨rfl, hs7, hk7⟩
  have HO7 := Lib.hid (HS6.out.outs HO6.out (hk7.mono (fun j _ hj => two_three0 j hj)))
  have HS7 := Lib.hid hs7
  have HC7 := Lib.hid (HC6.out.trans (hk7.mono (fun j _ hj => two_three0 j hj)))
  clear HS6 HO6 HC6 hs7 hk7 HCL
  go_upto_region 11 with (fail)
  have HS8 := Lib.hid (HS7.out.low ((Below.refl _ _).alloc (Nat.le_refl _) (.cells #[.string T2, .int .u32 m2, .int .i64 j2] 37)))
  have HR8 := Lib.hid (Has.new w7 #[.string T2, .int .u32 m2, .int .i64 j2] 37)
  have HC8 := Lib.hid (HC7.out.alloc (.cells #[.string T2, .int .u32 m2, .int .i64 j2] 37))
  have HO8 := Lib.hid (HO7.out.alloc (.cells #[.string T2, .int .u32 m2, .int .i64 j2] 37))
  clear HS7 HC7 HO7
  generalize w7.heap.size = r8 at *
  generalize w7.alloc (.cells #[.string T2, .int .u32 m2, .int .i64 j2] 37) = w8 at *
  have c0 := HR8.out.cell 0; have c1 := HR8.out.cell 1; have c2 := HR8.out.cell 2
  simp only [List.getElem?_toArray, List.getElem?_cons_zero, List.getElem?_cons_succ] at c0 c1 c2
  have HZ8 := Lib.hid (show w.heap.size ≤ w8.heap.size from HC8.out.size)
  go_wp2_with (at_builtin; refine appendS Try.underlying27 info_blk rfl (by decide) rfl _ _ rfl w.heap.size 1 _ _ rfl HO8.out #[.string T2, .int .u32 m2, .int .i64 j2] rfl (by intro u hu; simp at hu; rcases hu with rfl | rfl | rfl <;> rfl) _ rfl rfl (by unfold maxLen; omega) (by omega) HZ8.out ?_)
  intro g8 cap8 w9 ho hc hb9 _ _ _
  have HO9 := Lib.hid ho
  have HS9 := Lib.hid (HS8.out.grew HO8.out hc)
  have HC9 := Lib.hid (chg_low HC8.out hb9)
  clear HS8 HR8 HC8 HO8 HZ8 ho hc hb9 c0 c1 c2
  go_wp2
  go_ret
  exact ⟨_, _, rfl, HO9.out, HS9.out, HC9.out⟩
set_option maxRecDepth 100000 in
set_option maxHeartbeats 1600000 in
theorem send_last (w : World) (B b sb pb : Nat) (v : Value) (now : List Rl.Pc) (room : Nat) (row : Rl.Pc) (h : SpAt w B b sb pb v now room row) (hr5 : 5 ≤ room) (hrn : row.n < 255) (hl : (Rl.join now).length ≤ 1000000) (hl2 : (Sp.body now).length ≤ 10000000)
    (hn0 : ¬ row.n = 0) (hc : ¬ room < (Sp.body now).length + (Rl.text row).length) :
    Calls Try.prog 22 #[.pointer (some ⟨b, 0, none⟩)] w fun e w' => ∃ out v', e = .returned out ∧ w'.ownsRow w.heap.size 37 3 out ([now ++ [row]]).length (([now ++ [row]]).flatMap bcells) ∧ SpAt w' B b sb pb v' [] room Rl.row0 ∧ Chg ([b, sb, pb] ++ v.ownBlock.toList) w w' := by
  have HRow := Lib.hid (fun wx hx => prow_walk pb row wx hx)
  have HEnd := Lib.hid (fun wx hx => pend_walk pb row wx hx (Nat.le_of_lt hrn))
  have HS0 := Lib.hid h
  have HW := Lib.hid (show w.heap.size = w.heap.size from rfl)
  rw [show Rl.endB row = Rl.text row from if_neg hn0] at HEnd
  have hte := text_ne row (by omega)
  have hne : Sp.body (now ++ [row]) ≠ [] := fun e => by
    have := Sp.text_pos row (by omega)
    rw [Sp.body_app, Sp.body_one] at e
    rw [(List.append_eq_nil_iff.1 e).2] at this
    simp at this
  have hpi : ∀ wx (hx : SpAt wx B b sb pb v now room Rl.row0), Calls Try.prog 31 #[.pointer (some ⟨b, 0, none⟩), .agg #[.int .u8 (row.b.toNat : Int), .int .i64 (row.n : Int)], .int .i64 ((Rl.text row).length : Int)] wx fun e w' => e = .returned (.tuple #[noBlk, .bool false]) ∧ ∃ v', SpAt w' B b sb pb v' (now ++ [row]) room Rl.row0 ∧ Chg ([b, sb] ++ v.ownBlock.toList) wx w' := fun wx hx => by
    have := spiece_walk wx B b sb pb v now room Rl.row0 row hx hr5 ⟨by omega, by omega⟩ hl hl2
    unfold pieceV pieceN at this
    rw [if_neg hc, if_neg hc] at this
    exact this
  rw [← bs_size] at hpi
  generalize Fr.bs (Rl.text row) = T at *
  have HPI := Lib.hid hpi
  clear hpi
  have hcl : ∀ wx v (hx : SpAt wx B b sb pb v (now ++ [row]) room Rl.row0), Calls Try.prog 33 #[.pointer (some ⟨b, 0, none⟩)] wx fun e w' => e = .returned (.tuple #[blkV (now ++ [row]), .bool true]) ∧ SpAt w' B b sb pb (.slice none 0 0) [] room Rl.row0 ∧ Chg [b, sb] wx w' := fun wx v hx => sclose_walk wx B b sb pb v (now ++ [row]) room Rl.row0 hx hne
  simp only [blkV] at hcl
  have HCL := Lib.hid hcl
  clear hcl
  simp only [noBlk] at HPI
  simp only [List.flatMap_cons, List.flatMap_nil, bcells, List.append_nil, List.length_cons, List.length_nil]
  generalize Fr.bs (Sp.body (now ++ [row])) = T2 at *
  generalize ((Crc.sumOf (Rl.join (now ++ [row]))).toNat : Int) = m2 at *
  generalize ((Rl.join (now ++ [row])).length : Int) = j2 at *
  clear hne hn0 hc
  clear h hrn hl hl2
  obtain ⟨rb, rn⟩ := row
  simp only at HRow
  go_enter Try.func22, Try.ntmps22
  have c4 := HS0.out.cs.cell 4
  simp only [scells, ptr, List.getElem?_toArray, List.getElem?_cons_zero, List.getElem?_cons_succ] at c4
  go_wp2_with fail
  (with_reducible refine (HRow.out _ HS0.out.pk).mono ?_)
  rintro e w1 ⟨rfl, hb1⟩
  have HS1 := Lib.hid (HS0.out.low hb1)
  have HC1 := Lib.hid (below_chg hb1 ([b, sb, pb] ++ v.ownBlock.toList))
  clear hb1 HS0 c4 HRow
  go_upto_region 5 with (fail)
  have HS2 := Lib.hid (HS1.out.low ((Below.refl _ _).alloc (Nat.le_refl _) (.cells #[.int .u8 (rb.toNat : Int), .int .i64 (rn : Int)] 50)))
  have HR2 := Lib.hid (Has.new w1 #[.int .u8 (rb.toNat : Int), .int .i64 (rn : Int)] 50)
  have HC2 := Lib.hid (HC1.out.alloc (.cells #[.int .u8 (rb.toNat : Int), .int .i64 (rn : Int)] 50))
  have hpr : pb < w1.heap.size := Has.lt HS1.out.pk
  generalize w1.heap.size = r at *
  generalize w1.alloc (.cells #[.int .u8 (rb.toNat : Int), .int .i64 (rn : Int)] 50) = w2 at *
  have c4 := HS2.out.cs.cell 4
  simp only [scells, ptr, List.getElem?_toArray, List.getElem?_cons_zero, List.getElem?_cons_succ] at c4
  clear HS1 HC1
  go_wp2_with fail
  (with_reducible refine (HEnd.out _ HS2.out.pk).mono ?_)
  rintro e w3 ⟨rfl, hk3, hc3⟩
  have HS3 := Lib.hid (HS2.out.row hk3 hc3)
  have HR3 := Lib.hid (HR2.out.chg hc3 (by simp; omega))
  have HC3 := Lib.hid (HC2.out.trans (hc3.mono (fun j _ hj => by simp at hj; subst hj; simp)))
  clear HS2 HR2 HC2 hk3 hc3 c4 HEnd hpr
  have c0 := HR3.out.cell 0; have c1 := HR3.out.cell 1
  simp only [List.getElem?_toArray, List.getElem?_cons_zero, List.getElem?_cons_succ] at c0 c1
  have HPX := Lib.hid (HPI.out _ HS3.out)
  clear HPI
  go_wp2_with fail
  (with_reducible refine (HPX.out).mono ?_)
  rintro e w4 ⟨rfl, v4, hs4, hk4⟩
  have HS4 := Lib.hid hs4
  have HC4 := Lib.hid (HC3.out.trans (hk4.mono (fun j _ hj => two_three j hj)))
  clear HS3 HR3 HC3 hs4 hk4 HPX c0 c1
  go_upto_region 8 with (fail)
  have HS6 := Lib.hid (HS4.out.low ((Below.refl _ _).alloc (Nat.le_refl _) (.cells #[.string ⟨#[]⟩, .int .u32 0, .int .i64 0] 37)))
  have HC6 := Lib.hid (HC4.out.alloc (.cells #[.string ⟨#[]⟩, .int .u32 0, .int .i64 0] 37))
  clear HS4 HC4
  generalize w4.heap.size = r5 at *
  generalize w4.alloc (.cells #[.string ⟨#[]⟩, .int .u32 0, .int .i64 0] 37) = w6 at *
  have HO6 := Lib.hid (World.ownsRow_nil w6 w.heap.size 37 3)
  go_wp2_with fail
  (with_reducible refine (HCL.out _ _ HS6.out).mono ?_)
  rintro e w7 ⟨rfl, hs7, hk7⟩
  have HO7 := Lib.hid (HS6.out.outs HO6.out (hk7.mono (fun j _ hj => two_three0 j hj)))
  have HS7 := Lib.hid hs7
  have HC7 := Lib.hid (HC6.out.trans (hk7.mono (fun j _ hj => two_three0 j hj)))
  clear HS6 HO6 HC6 hs7 hk7 HCL
  go_upto_region 11 with (fail)
  have HS8 := Lib.hid (HS7.out.low ((Below.refl _ _).alloc (Nat.le_refl _) (.cells #[.string T2, .int .u32 m2, .int .i64 j2] 37)))
  have HR8 := Lib.hid (Has.new w7 #[.string T2, .int .u32 m2, .int .i64 j2] 37)
  have HC8 := Lib.hid (HC7.out.alloc (.cells #[.string T2, .int .u32 m2, .int .i64 j2] 37))
  have HO8 := Lib.hid (HO7.out.alloc (.cells #[.string T2, .int .u32 m2, .int .i64 j2] 37))
  clear HS7 HC7 HO7
  generalize w7.heap.size = r8 at *
  generalize w7.alloc (.cells #[.string T2, .int .u32 m2, .int .i64 j2] 37) = w8 at *
  have c0 := HR8.out.cell 0; have c1 := HR8.out.cell 1; have c2 := HR8.out.cell 2
  simp only [List.getElem?_toArray, List.getElem?_cons_zero, List.getElem?_cons_succ] at c0 c1 c2
  have HZ8 := Lib.hid (show w.heap.size ≤ w8.heap.size from HC8.out.size)
  go_wp2_with (at_builtin; refine appendS Try.underlying27 info_blk rfl (by decide) rfl _ _ rfl w.heap.size 0 _ _ rfl HO8.out #[.string T2, .int .u32 m2, .int .i64 j2] rfl (by intro u hu; simp at hu; rcases hu with rfl | rfl | rfl <;> rfl) _ rfl rfl (by unfold maxLen; omega) (by omega) HZ8.out ?_)
  intro g8 cap8 w9 ho hc hb9 _ _ _
  have HO9 := Lib.hid ho
  have HS9 := Lib.hid (HS8.out.grew HO8.out hc)
  have HC9 := Lib.hid (chg_low HC8.out hb9)
  clear HS8 HR8 HC8 HO8 HZ8 ho hc hb9 c0 c1 c2
  go_wp2
  go_ret
  exact ⟨_, _, rfl, HO9.out, HS9.out, HC9.out⟩
end Go.Proofs.Ytaldcdgafljedaa
