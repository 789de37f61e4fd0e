/- The document's blocks of a text (printed by tools/gen_splref.py). -/
import Derived.Test.YtaldcdgafljedaaSplWalk8
import Derived.Test.YtaldcdgafljedaaRleRef2
import Derived.Test.YtaldcdgafljedaaCrcRef
namespace Go.Proofs.Ytaldcdgafljedaa
open Go.RowKit
set_option linter.unusedVariables false
set_option linter.unusedSimpArgs false

def tcells (ps : List Rl.Pc) : List Value := [.string (Fr.bs (Sp.body ps)), .string (Fr.bs (Rl.join ps))]
theorem info_rblk : (Try.prog.info? 41).map (fun i => (i.zero, i.size, i.bytes)) = some (some (.agg #[.string ⟨#[]⟩, .string ⟨#[]⟩]), 2, 32) := by kernel_rfl
theorem tcells_one (L : List (List Rl.Pc)) : ∀ u ∈ L.flatMap tcells, u.oneCell' = true := by
  intro u hu
  obtain ⟨b, _, hb⟩ := List.mem_flatMap.1 hu
  simp [tcells] at hb
  rcases hb with rfl | rfl <;> rfl
structure RfAt (w1 wr : World) (nb : Nat) (x y out : Value) (n : Nat) (xs : List Value) : Prop where
  now : Has wr nb #[x, y] 41
  out : wr.ownsRow w1.heap.size 41 2 out n xs
  chg : Chg [nb] w1 wr
theorem RfAt.low {w1 wr w' : World} {nb : Nat} {x y out : Value} {n : Nat} {xs : List Value} (h : RfAt w1 wr nb x y out n xs) (k : Below wr.heap.size wr w') : RfAt w1 w' nb x y out n xs :=
  ⟨Has.below h.now k (Has.lt h.now), ownsRow_keep h.out k, h.chg.trans (below_chg k _)⟩
theorem RfAt.alloc {w1 wr : World} {nb : Nat} {x y out : Value} {n : Nat} {xs : List Value} (h : RfAt w1 wr nb x y out n xs) (o : Obj) : RfAt w1 (wr.alloc o) nb x y out n xs := h.low ((Below.refl _ _).alloc (Nat.le_refl _) o)
theorem RfAt.set0 {w1 wr : World} {nb : Nat} {x y out : Value} {n : Nat} {xs : List Value} (h : RfAt w1 wr nb x y out n xs) (hn : nb < w1.heap.size) (z : Value) : RfAt w1 (wr.setCell ⟨nb, 0, none⟩ z) nb z y out n xs :=
  ⟨h.now.setCell 0 z, own_set h.out _ _ hn, h.chg.setCell ⟨nb, 0, none⟩ z (.inl (by simp))⟩
theorem RfAt.set1 {w1 wr : World} {nb : Nat} {x y out : Value} {n : Nat} {xs : List Value} (h : RfAt w1 wr nb x y out n xs) (hn : nb < w1.heap.size) (z : Value) : RfAt w1 (wr.setCell ⟨nb, 1, none⟩ z) nb x z out n xs :=
  ⟨h.now.setCell 1 z, own_set h.out _ _ hn, h.chg.setCell ⟨nb, 1, none⟩ z (.inl (by simp))⟩
theorem chg_low2 {w a b : World} {T : List Nat} (h : Chg T w a) (k : Below w.heap.size a b) : Chg T w b :=
  ⟨k.os.trans h.os, k.tape.trans h.tape, k.output.trans h.output, Nat.le_trans h.size k.size, fun i hi hn => (k.block i hi).trans (h.block i hi hn)⟩
theorem RfAt.grew {w1 wr w' : World} {nb : Nat} {x y out out' : Value} {n n' : Nat} {xs xs' : List Value} (h : RfAt w1 wr nb x y out n xs) (hn : nb < w1.heap.size) (ho : w'.ownsRow w1.heap.size 41 2 out' n' xs') (k : Below w1.heap.size wr w') : RfAt w1 w' nb x y out' n' xs' :=
  ⟨Has.below h.now k hn, ho, chg_low2 h.chg k⟩
theorem sp_big (d t : Nat) (hd : d ≤ 10000000) (ht : t ≤ 5) : (d : Int) + (t : Int) ≤ 20000000 ∧ 0 ≤ (d : Int) + (t : Int) := by omega
theorem sp_run_take (room : Nat) (R : List Rl.Pc) (k : Nat) (h : k < R.length) : Sp.run room Sp.st0 (R.take (k + 1)) = Sp.bst room (Sp.run room Sp.st0 (R.take k)) R[k] := by
  rw [List.take_add_one, List.getElem?_eq_getElem h]
  exact Sp.run_app room Sp.st0 (R.take k) [R[k]]
theorem join_take (R : List Rl.Pc) (k : Nat) : (Rl.join (R.take k)).length ≤ (Rl.join R).length := by
  conv => rhs; rw [← List.take_append_drop k R]
  rw [Rl.join_app, List.length_append]; omega
theorem now_len (room : Nat) (ps : List Rl.Pc) : (Rl.join (Sp.run room Sp.st0 ps).now).length ≤ (Rl.join ps).length := by
  have h1 := Sp.run_flat room ps Sp.st0
  have h2 := Sp.join_flat (Sp.run room Sp.st0 ps).done (Sp.run room Sp.st0 ps).now
  rw [h1] at h2
  exact h2
theorem sp_yes (room d t : Nat) (h : room < d + t) : decide ((room : Int) < (d : Int) + (t : Int)) = true := by simp; omega
theorem sp_not (room d t : Nat) (h : ¬ room < d + t) : decide ((room : Int) < (d : Int) + (t : Int)) = false := by simp; omega
theorem sp_small (d room : Nat) (h : d ≤ room) (hm : room ≤ 900000) : d ≤ 1000000 := by omega
theorem sp_cat (d t : Nat) (h : d ≤ 1000000) (ht : t ≤ 5) : d + t ≤ 2000000 := by omega
theorem sp_j (d j pn : Nat) (h : d ≤ 600) (hj : j < pn) (hp : (pn : Int) ≤ 255) : d + j + 1 ≤ 2000000 := by omega
theorem sp_j1 (j pn : Nat) (hj : j < pn) (hp : (pn : Int) ≤ 255) : j + 1 ≤ 2000000 := by omega
theorem nil_cat (T : ByteArray) : (⟨#[]⟩ : ByteArray) ++ T = T := by apply Fr.bs_inj; rw [Fr.list_append]; rfl
theorem rep_more (J : List UInt8) (b : UInt8) (j : Nat) : (J ++ List.replicate j b) ++ [b] = J ++ List.replicate (j + 1) b := by
  rw [List.append_assoc, ← List.replicate_succ']
set_option maxRecDepth 100000 in
set_option maxHeartbeats 4000000 in
theorem refsplit_walk (s : ByteArray) (room : Nat) (w : World) (h5 : 5 ≤ room) (hm : room ≤ 900000) (hs : s.size ≤ 600) :
    Calls Try.prog 14 #[.string s, .int .i64 (room : Int)] w fun e w' => ∃ out, e = .returned out ∧ w'.ownsRow w.heap.size 41 2 out (Sp.blks room s.data.toList).length ((Sp.blks room s.data.toList).flatMap tcells) ∧ Below w.heap.size w w' := by
  have HP := Lib.hid (fun w => refpieces_walk s w (by omega))
  have hlen := Rl.pcs_length s.data.toList
  rw [llen] at hlen
  have hjn := congrArg List.length (Rl.join_pcs s.data.toList)
  rw [llen] at hjn
  have HG := Lib.hid (Rl.pcs_good s.data.toList)
  have HE := Lib.hid (show Sp.blks room s.data.toList = Sp.fin (Sp.run room Sp.st0 (Rl.pcs s.data.toList)) from rfl)
  have HOK := Lib.hid (fun k => Sp.ok_run room h5 ((Rl.pcs s.data.toList).take k) Sp.st0 (Sp.ok0 room) (fun p hp => (Rl.pcs_good s.data.toList p (List.mem_of_mem_take hp)).1))
  generalize Sp.blks room s.data.toList = E at *
  generalize Rl.pcs s.data.toList = R at *
  have HN0 := Lib.hid (Has.new w #[.string ⟨#[]⟩, .string ⟨#[]⟩] 41)
  have HB0 := Lib.hid ((Below.refl w.heap.size w).alloc (Nat.le_refl _) (.cells #[.string ⟨#[]⟩, .string ⟨#[]⟩] 41))
  have hz0 : (w.alloc (.cells #[.string ⟨#[]⟩, .string ⟨#[]⟩] 41)).heap.size = w.heap.size + 1 := World.size_alloc ..
  obtain ⟨nb, hnb⟩ : ∃ nb, w.heap.size = nb := ⟨_, rfl⟩
  rw [hnb] at HN0 hz0
  go_enter Try.func14, Try.ntmps14
  go_upto_region 3 with (fail)
  generalize w.alloc (.cells #[.string ⟨#[]⟩, .string ⟨#[]⟩] 41) = w0 at *
  go_wp2_with fail
  (with_reducible refine (HP.out _).mono ?_)
  rintro e w1 ⟨v, rfl, ho, hb⟩
  obtain ⟨a, c, rfl, hr, hrb⟩ := rowS_owns ho
  have HR := Lib.hid hr
  have hrl := hr.length
  have HRB := Lib.hid hrb
  have hn1 : nb < w1.heap.size := by have := hb.size; omega
  have HX1 := Lib.hid (show RfAt w1 w1 nb (.string (Fr.bs (Sp.body (Sp.run room Sp.st0 (R.take 0)).now))) (.string (Fr.bs (Rl.join (Sp.run room Sp.st0 (R.take 0)).now))) (.slice none 0 0) (Sp.run room Sp.st0 (R.take 0)).done.length ((Sp.run room Sp.st0 (R.take 0)).done.flatMap tcells) from
    ⟨Has.below HN0.out hb (by omega), World.ownsRow_nil _ _ _ _, Chg.refl _ _⟩)
  have HB1 := Lib.hid (HB0.out.trans (hb.mono (by omega)))
  clear ho hr hb hrb HN0 HB0 HP
  have hRl : R.length ≤ 600 := by omega
  go_wp2_with fail
  go_loopw [5, 14] (fun out i wr => ∃ k : Nat, i = .int .i64 k ∧ k ≤ R.length ∧ RfAt w1 wr nb (.string (Fr.bs (Sp.body (Sp.run room Sp.st0 (R.take k)).now))) (.string (Fr.bs (Rl.join (Sp.run room Sp.st0 (R.take k)).now))) out (Sp.run room Sp.st0 (R.take k)).done.length ((Sp.run room Sp.st0 (R.take k)).done.flatMap tcells)) (fun _ i _ => R.length - (intOf i).toNat)
  case atStart => exact ⟨0, rfl, Nat.zero_le _, HX1.out⟩
  case round =>
    obtain ⟨k, rfl, hk, hx⟩ := hrel
    have HX := Lib.hid hx
    clear HX1
    by_cases hlt : k < R.length
    · have hlt' : (k : Int) < (R.length : Int) := by omega
      obtain ⟨ab, ao, rfl, hab, hac⟩ := (HR.out.chg hx.chg (fun x hx' hm => by
        have := (HRB.out x hx').1
        simp at hm; omega)).at k hlt
      have a0 := hac 0 (by decide); have a1 := hac 1 (by decide)
      rw [flat_get2 R k 0 hlt (by decide)] at a0
      rw [flat_get2 R k 1 hlt (by decide)] at a1
      have hg := HG.out _ (List.getElem_mem hlt)
      have hbd := (HOK.out k).now
      have hpos := (HOK.out k).pos
      have hjt : (Rl.join (R.take k)).length ≤ 600 := Nat.le_trans (join_take R k) (by rw [hjn]; exact hs)
      have hnl := now_len room (R.take k)
      have HST := Lib.hid (sp_run_take room R k hlt)
      have hdl : (Sp.run room Sp.st0 (R.take k)).done.length ≤ 1000000 := by
        have h1 := Sp.flat_len _ (fun b hb => ((HOK.out k).done b hb).1)
        have h2 := congrArg List.length (Sp.run_flat room (R.take k) Sp.st0)
        rw [List.length_append, List.length_append, List.length_append] at h2
        change _ = 0 + 0 + (R.take k).length at h2
        rw [List.length_take] at h2
        omega
      clear hx
      generalize R[k] = p at *
      obtain ⟨pb, pn⟩ := p
      simp only [pcells, List.getD_cons_zero, List.getD_cons_succ, Nat.add_zero] at a0 a1 hg
      simp only [← Nat.add_assoc] at a1
      have HPW := Lib.hid (fun w => refpiece_walk pb pn w hg.2)
      have htl := Rl.text_le ⟨pb, pn⟩
      have hkb : (k : Int) ≤ 600 := by omega
      have hpn : (pn : Int) ≤ 255 := by omega
      have hzt := bs_size (Rl.text ⟨pb, pn⟩)
      have HCV := Lib.hid (fun (w : World) (x : Nat) (h : w.cell? ⟨x, 0, none⟩ = some (.int .u8 (pb.toNat : Int))) => conv_u8 w x pb _ rfl h)
      clear hac hab hrl hjn hlen hz0
      generalize Sp.run room Sp.st0 (R.take k) = st at *
      obtain ⟨done, now⟩ := st
      simp only at HX hbd hpos hnl hdl
      by_cases hc : room < (Sp.body now).length + (Rl.text ⟨pb, pn⟩).length
      · rw [show Sp.bst room ⟨done, now⟩ ⟨pb, pn⟩ = ⟨done ++ [now], [⟨pb, pn⟩]⟩ from if_pos hc] at HST
        have e1 : decide ((room : Int) < ((Fr.bs (Sp.body now)).size : Int) + ((Fr.bs (Rl.text ⟨pb, pn⟩)).size : Int)) = true := by rw [bs_size, bs_size]; exact sp_yes _ _ _ hc
        have hsb := sp_big _ _ (show (Fr.bs (Sp.body now)).size ≤ 10000000 by rw [bs_size]; exact Nat.le_trans (sp_small _ _ hbd hm) (by decide)) (show (Fr.bs (Rl.text ⟨pb, pn⟩)).size ≤ 5 by rw [bs_size]; exact htl)
        have HTC := Lib.hid (show tcells now = [.string (Fr.bs (Sp.body now)), .string (Fr.bs (Rl.join now))] from rfl)
        have HBD := Lib.hid (show Fr.bs (Sp.body ([⟨pb, pn⟩])) = Fr.bs (Sp.body ([])) ++ Fr.bs (Rl.text ⟨pb, pn⟩) by rw [bs_app, ← Sp.body_one, ← Sp.body_app]; rfl)
        have HJD := Lib.hid (show Rl.join ([⟨pb, pn⟩]) = Rl.join ([]) ++ List.replicate pn pb by rw [show List.replicate pn pb = Rl.join [⟨pb, pn⟩] by unfold Rl.join; simp, ← Rl.join_app]; rfl)
        have hjl : (Rl.join ([])).length ≤ 600 := by simp [Rl.join]
        have hsz1 : (Fr.bs (Sp.body ([]))).size ≤ 1000000 := by rw [bs_size]; simp [Sp.body]
        have hsz2 : (Fr.bs (Rl.text ⟨pb, pn⟩)).size ≤ 5 := by rw [bs_size]; exact htl
        clear hc htl hbd hpos hjt hnl hzt
        generalize hTX : Fr.bs (Rl.text ⟨pb, pn⟩) = TX at *
        clear hTX
        generalize Fr.bs (Sp.body now) = TB at *
        generalize Fr.bs (Rl.join now) = TJ at *
        have hcat : TX.size ≤ 2000000 := Nat.le_trans hsz2 (by decide)
        have c0 := HX.out.now.cell 0; have c1 := HX.out.now.cell 1
        simp only [List.getElem?_toArray, List.getElem?_cons_zero, List.getElem?_cons_succ] at c0 c1
        go_upto_region 6 with (fail)
        have HX2 := Lib.hid (HX.out.alloc (.cells #[.int .u8 (pb.toNat : Int), .int .i64 (pn : Int)] 50))
        have HQ2 := Lib.hid (Has.new wr #[.int .u8 (pb.toNat : Int), .int .i64 (pn : Int)] 50)
        have hqn : nb < wr.heap.size := Has.lt HX.out.now
        clear HX c0 c1 a0 a1
        generalize wr.heap.size = q at *
        generalize wr.alloc (.cells #[.int .u8 (pb.toNat : Int), .int .i64 (pn : Int)] 50) = w2 at *
        have x0 := HQ2.out.cell 0; have x1 := HQ2.out.cell 1
        simp only [List.getElem?_toArray, List.getElem?_cons_zero, List.getElem?_cons_succ] at x0 x1
        go_wp2_with fail
        (with_reducible refine (HPW.out _).mono ?_)
        rintro e w3 ⟨rfl, hb3⟩
        have HX3 := Lib.hid (HX2.out.low hb3)
        have HQ3 := Lib.hid (HQ2.out.below hb3 HQ2.out.lt)
        clear hb3 HX2 HQ2 x0 x1 HPW
        have c0 := HX3.out.now.cell 0; have c1 := HX3.out.now.cell 1
        have f0 := HX3.out.now.free 0; have f1 := HX3.out.now.free 1
        simp only [List.getElem?_toArray, List.getElem?_cons_zero, List.getElem?_cons_succ] at c0 c1
        have hqne : q ≠ nb := Nat.ne_of_gt hqn
        have hzw : w1.heap.size ≤ w3.heap.size := HX3.out.chg.size
        have HOW := Lib.hid HX3.out.out
        go_wp2_with (at_builtin; refine appendS Try.underlying32 info_rblk rfl (by decide) rfl _ _ rfl w1.heap.size done.length _ _ rfl HOW.out #[.string TB, .string TJ] rfl (by intro u hu; simp at hu; rcases hu with rfl | rfl <;> rfl) _ rfl rfl (by unfold maxLen; omega) (by omega) hzw ?_; intro g cap w4 ho hcc hb4 _ _ hgn; have HX4 := Lib.hid (HX3.out.grew hn1 ho hb4); have HQ4 := Lib.hid (HQ3.out.chg hcc (own_has HOW.out HQ3.out (by decide))); clear HX3 HQ3 ho hcc hb4 HOW c0 c1 f0 f1; have c0 := HX4.out.now.cell 0; have c1 := HX4.out.now.cell 1; have f0 := HX4.out.now.free 0; have f1 := HX4.out.now.free 1; have x1 := HQ4.out.cell 1; simp only [List.getElem?_toArray, List.getElem?_cons_zero, List.getElem?_cons_succ] at c0 c1 x1)
        have HX5 := Lib.hid (((HX4.out.set0 hn1 (.string ⟨#[]⟩)).set1 hn1 (.string ⟨#[]⟩)).set0 hn1 (.string ((⟨#[]⟩ : ByteArray) ++ TX)))
        have HQ5 := Lib.hid (((HQ4.out.setCell_other ⟨nb, 0, none⟩ (.string ⟨#[]⟩) hqne).setCell_other ⟨nb, 1, none⟩ (.string ⟨#[]⟩) hqne).setCell_other ⟨nb, 0, none⟩ (.string ((⟨#[]⟩ : ByteArray) ++ TX)) hqne)
        clear HX4 HQ4 c0 c1 f0 f1 x1
        generalize ((w4.setCell ⟨nb, 0, none⟩ (.string ⟨#[]⟩)).setCell ⟨nb, 1, none⟩ (.string ⟨#[]⟩)).setCell ⟨nb, 0, none⟩ (.string ((⟨#[]⟩ : ByteArray) ++ TX)) = w5 at *
        rw [nil_cat] at HX5
        go_loopw [40] (fun i wx => ∃ j : Nat, i = .int .i64 j ∧ j ≤ pn ∧ RfAt w1 wx nb (.string (TX)) (.string (Fr.bs (List.replicate j pb))) (.slice (some ⟨g, 0, none⟩) (done.length + 1) cap) (done.length + 1) (done.flatMap tcells ++ [.string TB, .string TJ]) ∧ Has wx q #[.int .u8 (pb.toNat : Int), .int .i64 (pn : Int)] 50) (fun i _ => pn - (intOf i).toNat)
        case atStart => exact ⟨0, rfl, Nat.zero_le _, by rw [List.replicate_zero]; exact HX5.out, HQ5.out⟩
        case round =>
          obtain ⟨j, rfl, hj, hx6, hq6⟩ := hrel
          have HX6 := Lib.hid hx6
          have HQ6 := Lib.hid hq6
          clear hx6 hq6 HX5 HQ5
          have c0 := HX6.out.now.cell 0; have c1 := HX6.out.now.cell 1
          have f0 := HX6.out.now.free 0; have f1 := HX6.out.now.free 1
          have x0 := HQ6.out.cell 0; have x1 := HQ6.out.cell 1
          simp only [List.getElem?_toArray, List.getElem?_cons_zero, List.getElem?_cons_succ] at c0 c1 x0 x1
          by_cases hlj : j < pn
          · have hlj' : (j : Int) < (pn : Int) := by omega
            have HMO := Lib.hid (show Fr.bs (List.replicate j pb) ++ Fr.bs [pb] = Fr.bs (List.replicate (j + 1) pb) by rw [bs_app, ← List.replicate_succ'])
            have hz6 : (Fr.bs (List.replicate j pb)).size + (Fr.bs [pb]).size ≤ 2000000 := by rw [bs_size, bs_size, List.length_replicate, List.length_singleton]; exact sp_j1 _ _ hlj hpn
            have hcv : ∀ (w : World) (x : Nat), w.cell? ⟨x, 0, none⟩ = some (.int .u8 (pb.toNat : Int)) → (convert 59 9 (.slice (some ⟨x, 0, none⟩) 1 1)).run Try.prog w = .ok (.string (Fr.bs [pb])) w := HCV.out
            have hlt6 := Has.lt HX6.out.now
            generalize Fr.bs (List.replicate j pb) = JT at *
            generalize Fr.bs [pb] = PB at *
            have HX7 := Lib.hid ((HX6.out.set1 hn1 (.string (JT ++ PB))).alloc (.cells #[.int .u8 (pb.toNat : Int)] 5))
            have HQ7 := Lib.hid (Has.alloc (HQ6.out.setCell_other ⟨nb, 1, none⟩ (.string (JT ++ PB)) hqne) (.cells #[.int .u8 (pb.toNat : Int)] 5))
            clear HX6 HQ6
            go_wp2
            go_roundw
            case rel => exact ⟨j + 1, by go_num, hlj, by rw [← HMO.out]; exact HX7.out, HQ7.out⟩
            case measure => simp [intOf]; omega
          · have hjp : pn = j := by omega
            subst hjp
            have hlj' : ¬ (pn : Int) < (pn : Int) := by omega
            have HX7 := Lib.hid (show RfAt w1 wr nb (.string (Fr.bs (Sp.body (Sp.run room Sp.st0 (R.take (k + 1))).now))) (.string (Fr.bs (Rl.join (Sp.run room Sp.st0 (R.take (k + 1))).now))) (.slice (some ⟨g, 0, none⟩) (done.length + 1) cap) (Sp.run room Sp.st0 (R.take (k + 1))).done.length ((Sp.run room Sp.st0 (R.take (k + 1))).done.flatMap tcells) by
              rw [HST.out]; show RfAt w1 wr nb (.string (Fr.bs (Sp.body ([⟨pb, pn⟩])))) (.string (Fr.bs (Rl.join ([⟨pb, pn⟩])))) (.slice (some ⟨g, 0, none⟩) (done.length + 1) cap) (done ++ [now]).length ((done ++ [now]).flatMap tcells); rw [HBD.out, HJD.out]; rw [List.length_append, List.flatMap_append, List.flatMap_cons, HTC.out, List.flatMap_nil, List.append_nil]; exact HX6.out)
            clear HX6
            go_wp2
            go_roundw
            case rel => exact ⟨k + 1, by go_num, hlt, HX7.out⟩
            case measure => simp [intOf]; omega
      · rw [show Sp.bst room ⟨done, now⟩ ⟨pb, pn⟩ = ⟨done, now ++ [⟨pb, pn⟩]⟩ from if_neg hc] at HST
        have e1 : decide ((room : Int) < ((Fr.bs (Sp.body now)).size : Int) + ((Fr.bs (Rl.text ⟨pb, pn⟩)).size : Int)) = false := by rw [bs_size, bs_size]; exact sp_not _ _ _ hc
        have hsb := sp_big _ _ (show (Fr.bs (Sp.body now)).size ≤ 10000000 by rw [bs_size]; exact Nat.le_trans (sp_small _ _ hbd hm) (by decide)) (show (Fr.bs (Rl.text ⟨pb, pn⟩)).size ≤ 5 by rw [bs_size]; exact htl)
        have HTC := Lib.hid (show tcells now = [.string (Fr.bs (Sp.body now)), .string (Fr.bs (Rl.join now))] from rfl)
        have HBD := Lib.hid (show Fr.bs (Sp.body (now ++ [⟨pb, pn⟩])) = Fr.bs (Sp.body (now)) ++ Fr.bs (Rl.text ⟨pb, pn⟩) by rw [bs_app, ← Sp.body_one, ← Sp.body_app])
        have HJD := Lib.hid (show Rl.join (now ++ [⟨pb, pn⟩]) = Rl.join (now) ++ List.replicate pn pb by rw [show List.replicate pn pb = Rl.join [⟨pb, pn⟩] by unfold Rl.join; simp, ← Rl.join_app])
        have hjl : (Rl.join (now)).length ≤ 600 := by exact Nat.le_trans hnl hjt
        have hsz1 : (Fr.bs (Sp.body (now))).size ≤ 1000000 := by rw [bs_size]; exact sp_small _ _ hbd hm
        have hsz2 : (Fr.bs (Rl.text ⟨pb, pn⟩)).size ≤ 5 := by rw [bs_size]; exact htl
        clear hc htl hbd hpos hjt hnl hzt
        generalize hTX : Fr.bs (Rl.text ⟨pb, pn⟩) = TX at *
        clear hTX
        generalize Rl.join (now) = JO at *
        generalize Fr.bs (Sp.body (now)) = BO at *
        have hcat : BO.size + TX.size ≤ 2000000 := sp_cat _ _ hsz1 hsz2
        have c0 := HX.out.now.cell 0; have c1 := HX.out.now.cell 1
        simp only [List.getElem?_toArray, List.getElem?_cons_zero, List.getElem?_cons_succ] at c0 c1
        go_upto_region 6 with (fail)
        have HX2 := Lib.hid (HX.out.alloc (.cells #[.int .u8 (pb.toNat : Int), .int .i64 (pn : Int)] 50))
        have HQ2 := Lib.hid (Has.new wr #[.int .u8 (pb.toNat : Int), .int .i64 (pn : Int)] 50)
        have hqn : nb < wr.heap.size := Has.lt HX.out.now
        clear HX c0 c1 a0 a1
        generalize wr.heap.size = q at *
        generalize wr.alloc (.cells #[.int .u8 (pb.toNat : Int), .int .i64 (pn : Int)] 50) = w2 at *
        have x0 := HQ2.out.cell 0; have x1 := HQ2.out.cell 1
        simp only [List.getElem?_toArray, List.getElem?_cons_zero, List.getElem?_cons_succ] at x0 x1
        go_wp2_with fail
        (with_reducible refine (HPW.out _).mono ?_)
        rintro e w3 ⟨rfl, hb3⟩
        have HX3 := Lib.hid (HX2.out.low hb3)
        have HQ3 := Lib.hid (HQ2.out.below hb3 HQ2.out.lt)
        clear hb3 HX2 HQ2 x0 x1 HPW
        have c0 := HX3.out.now.cell 0; have c1 := HX3.out.now.cell 1
        have f0 := HX3.out.now.free 0; have f1 := HX3.out.now.free 1
        simp only [List.getElem?_toArray, List.getElem?_cons_zero, List.getElem?_cons_succ] at c0 c1
        have hqne : q ≠ nb := Nat.ne_of_gt hqn
        go_upto_region 11 with (fail)
        have HX5 := Lib.hid (HX3.out.set0 hn1 (.string (BO ++ TX)))
        have HQ5 := Lib.hid (HQ3.out.setCell_other ⟨nb, 0, none⟩ (.string (BO ++ TX)) hqne)
        clear HX3 HQ3 c0 c1 f0 f1
        generalize w3.setCell ⟨nb, 0, none⟩ (.string (BO ++ TX)) = w5 at *
        have x1 := HQ5.out.cell 1
        simp only [List.getElem?_toArray, List.getElem?_cons_zero, List.getElem?_cons_succ] at x1
        go_wp2
        go_loopw [40] (fun i wx => ∃ j : Nat, i = .int .i64 j ∧ j ≤ pn ∧ RfAt w1 wx nb (.string (BO ++ TX)) (.string (Fr.bs (JO ++ List.replicate j pb))) u5 done.length (done.flatMap tcells) ∧ Has wx q #[.int .u8 (pb.toNat : Int), .int .i64 (pn : Int)] 50) (fun i _ => pn - (intOf i).toNat)
        case atStart => exact ⟨0, rfl, Nat.zero_le _, by rw [List.replicate_zero, List.append_nil]; exact HX5.out, HQ5.out⟩
        case round =>
          obtain ⟨j, rfl, hj, hx6, hq6⟩ := hrel
          have HX6 := Lib.hid hx6
          have HQ6 := Lib.hid hq6
          clear hx6 hq6 HX5 HQ5 x1
          have c0 := HX6.out.now.cell 0; have c1 := HX6.out.now.cell 1
          have f0 := HX6.out.now.free 0; have f1 := HX6.out.now.free 1
          have x0 := HQ6.out.cell 0; have x1 := HQ6.out.cell 1
          simp only [List.getElem?_toArray, List.getElem?_cons_zero, List.getElem?_cons_succ] at c0 c1 x0 x1
          by_cases hlj : j < pn
          · have hlj' : (j : Int) < (pn : Int) := by omega
            have HMO := Lib.hid (show Fr.bs (JO ++ List.replicate j pb) ++ Fr.bs [pb] = Fr.bs (JO ++ List.replicate (j + 1) pb) by rw [bs_app, rep_more])
            have hz6 : (Fr.bs (JO ++ List.replicate j pb)).size + (Fr.bs [pb]).size ≤ 2000000 := by rw [bs_size, bs_size, List.length_append, List.length_replicate, List.length_singleton]; exact sp_j _ _ _ hjl hlj hpn
            have hcv : ∀ (w : World) (x : Nat), w.cell? ⟨x, 0, none⟩ = some (.int .u8 (pb.toNat : Int)) → (convert 59 9 (.slice (some ⟨x, 0, none⟩) 1 1)).run Try.prog w = .ok (.string (Fr.bs [pb])) w := HCV.out
            have hlt6 := Has.lt HX6.out.now
            generalize Fr.bs (JO ++ List.replicate j pb) = JT at *
            generalize Fr.bs [pb] = PB at *
            have HX7 := Lib.hid ((HX6.out.set1 hn1 (.string (JT ++ PB))).alloc (.cells #[.int .u8 (pb.toNat : Int)] 5))
            have HQ7 := Lib.hid (Has.alloc (HQ6.out.setCell_other ⟨nb, 1, none⟩ (.string (JT ++ PB)) hqne) (.cells #[.int .u8 (pb.toNat : Int)] 5))
            clear HX6 HQ6
            go_wp2
            go_roundw
            case rel => exact ⟨j + 1, by go_num, hlj, by rw [← HMO.out]; exact HX7.out, HQ7.out⟩
            case measure => simp [intOf]; omega
          · have hjp : pn = j := by omega
            subst hjp
            have hlj' : ¬ (pn : Int) < (pn : Int) := by omega
            have HX7 := Lib.hid (show RfAt w1 wr nb (.string (Fr.bs (Sp.body (Sp.run room Sp.st0 (R.take (k + 1))).now))) (.string (Fr.bs (Rl.join (Sp.run room Sp.st0 (R.take (k + 1))).now))) u5 (Sp.run room Sp.st0 (R.take (k + 1))).done.length ((Sp.run room Sp.st0 (R.take (k + 1))).done.flatMap tcells) by
              rw [HST.out]; show RfAt w1 wr nb (.string (Fr.bs (Sp.body (now ++ [⟨pb, pn⟩])))) (.string (Fr.bs (Rl.join (now ++ [⟨pb, pn⟩])))) u5 (done).length ((done).flatMap tcells); rw [HBD.out, HJD.out]; exact HX6.out)
            clear HX6
            go_wp2
            go_roundw
            case rel => exact ⟨k + 1, by go_num, hlt, HX7.out⟩
            case measure => simp [intOf]; omega
    · have hkp : k = R.length := by omega
      subst hkp
      have hte : R.take R.length = R := List.take_of_length_le (Nat.le_refl _)
      rw [hte] at HX
      have hlt' : ¬ (R.length : Int) < (R.length : Int) := by omega
      have hok := HOK.out R.length
      rw [hte] at hok
      have HE2 := Lib.hid HE.out
      have hbn := Sp.body_nil_iff _ hok.pos
      have hdl : (Sp.run room Sp.st0 R).done.length ≤ 1000000 := by
        have h1 := Sp.flat_len _ (fun b hb => (hok.done b hb).1)
        have h2 := congrArg List.length (Sp.run_flat room R Sp.st0)
        rw [List.length_append, List.length_append, List.length_append] at h2
        change _ = 0 + 0 + R.length at h2
        omega
      clear hx hte hlt HE
      generalize Sp.run room Sp.st0 R = st at *
      obtain ⟨done, now⟩ := st
      unfold Sp.fin at HE2
      simp only at HX hbn hdl HE2
      have HF := Lib.hid (show ∀ wx o xs n, wx.ownsRow w1.heap.size 41 2 o n xs → Chg [nb] w1 wx → wx.ownsRow nb 41 2 o n xs ∧ Below nb w wx from fun wx o xs n h1 h2 =>
        ⟨ownsRow_mono h1 (by omega), by rw [← hnb]; exact HB1.out.trans (h2.below (by omega) (fun j hj => by simp at hj; omega))⟩)
      have hzb := bs_size (Sp.body now)
      by_cases hn : now = []
      · rw [if_pos hn] at HE2
        have hz : ¬ (0 : Int) < ((Fr.bs (Sp.body now)).size : Int) := by rw [hzb, hbn.2 hn]; simp
        clear hn hok hbn hzb
        generalize Fr.bs (Sp.body now) = T at *
        generalize Fr.bs (Rl.join now) = J at *
        have c0 := HX.out.now.cell 0
        simp only [List.getElem?_toArray, List.getElem?_cons_zero, List.getElem?_cons_succ] at c0
        go_wp2
        go_ret
        obtain ⟨q1, q2⟩ := HF.out _ _ _ _ HX.out.out HX.out.chg
        exact ⟨_, rfl, by rw [HE2.out]; exact q1, q2⟩
      · rw [if_neg hn] at HE2
        have hz : (0 : Int) < ((Fr.bs (Sp.body now)).size : Int) := by
          rw [hzb]
          have : (Sp.body now).length ≠ 0 := fun e => hn (hbn.1 (List.eq_nil_of_length_eq_zero e))
          omega
        have HTC := Lib.hid (show (done ++ [now]).length = done.length + 1 ∧ (done ++ [now]).flatMap tcells = done.flatMap tcells ++ [.string (Fr.bs (Sp.body now)), .string (Fr.bs (Rl.join now))] from ⟨by simp, by simp [tcells]⟩)
        clear hn hok hbn hzb
        generalize Fr.bs (Sp.body now) = T at *
        generalize Fr.bs (Rl.join now) = J at *
        have c0 := HX.out.now.cell 0; have c1 := HX.out.now.cell 1
        simp only [List.getElem?_toArray, List.getElem?_cons_zero, List.getElem?_cons_succ] at c0 c1
        have hzw : w1.heap.size ≤ wr.heap.size := HX.out.chg.size
        have HOW := Lib.hid HX.out.out
        go_wp2_with (at_builtin; refine appendS Try.underlying32 info_rblk rfl (by decide) rfl _ _ rfl w1.heap.size done.length _ _ rfl HOW.out #[.string T, .string J] rfl (by intro u hu; simp at hu; rcases hu with rfl | rfl <;> rfl) _ rfl rfl (by unfold maxLen; omega) (by omega) hzw ?_)
        intro g cap w4 ho hcc hb4 _ _ _
        have HX4 := Lib.hid (HX.out.grew hn1 ho hb4)
        clear HX ho hcc hb4 HOW c0 c1
        go_wp2
        go_ret
        obtain ⟨q1, q2⟩ := HF.out _ _ _ _ HX4.out.out HX4.out.chg
        rw [← hnb] at q1 q2
        exact ⟨_, rfl, by rw [HE2.out, HTC.out.1, HTC.out.2]; exact q1, q2⟩
end Go.Proofs.Ytaldcdgafljedaa
