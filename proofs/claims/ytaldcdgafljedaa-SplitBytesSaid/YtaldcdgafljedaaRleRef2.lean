/- The reference of runs: Piece, Pieces, Encode. -/
import Derived.Test.YtaldcdgafljedaaRleRef1
import Derived.Test.YtaldcdgafljedaaRet
import Derived.Test.YtaldcdgafljedaaRowIn
import Derived.Deep.CutRange
namespace Go.Proofs.Ytaldcdgafljedaa
open Go.RowKit
set_option linter.unusedVariables false
set_option linter.unusedSimpArgs false

theorem conv_u8 (w : World) (b : Nat) (t : UInt8) (c : Int) (hc : c = (t.toNat : Int)) (h : w.cell? ⟨b, 0, none⟩ = some (.int .u8 c)) :
    (convert 59 9 (.slice (some ⟨b, 0, none⟩) 1 1)).run Try.prog w = .ok (.string (Fr.bs [t])) w := by
  refine convert_row (bs := [t]) Try.underlying59 Try.underlying5 Try.underlying9 ⟨Nat.le_refl _, by unfold maxLen; omega, rfl, (fun e => nomatch e), fun x hx _ => ?_⟩
  cases hx
  refine ⟨b, 0, rfl, fun i hi => ?_⟩
  obtain rfl : i = 0 := by omega
  rw [h, hc]
  simp [vB]
theorem bs_app (a b : List UInt8) : Fr.bs a ++ Fr.bs b = Fr.bs (a ++ b) := by
  apply Fr.bs_inj; rw [Fr.list_append, Fr.list_bs, Fr.list_bs, Fr.list_bs]
theorem bs_size (a : List UInt8) : (Fr.bs a).size = a.length := by rw [← Fr.size_list, Fr.list_bs]
theorem list_from (t : ByteArray) (n : Nat) : (t.extract n t.size).data.toList = t.data.toList.drop n := by
  simp only [ByteArray.data_extract, Array.toList_extract, List.extract_eq_take_drop]
  rw [List.take_of_length_le]
  rw [List.length_drop, llen]
  exact Nat.le_refl _
def strLen (v : Value) : Nat := match v with | .string t => t.size | _ => 0

set_option maxRecDepth 100000 in
set_option maxHeartbeats 1600000 in
theorem refpiece_walk (b : UInt8) (n : Nat) (w : World) (hn : n ≤ 255) :
    Calls Try.prog 24 #[.agg #[.int .u8 (b.toNat : Int), .int .i64 (n : Int)]] w fun e w' => e = .returned (.string (Fr.bs (Rl.text ⟨b, n⟩))) ∧ Below w.heap.size w w' := by
  have hcv : ∀ (w : World) (x : Nat), w.cell? ⟨x, 0, none⟩ = some (.int .u8 (b.toNat : Int)) → (convert 59 9 (.slice (some ⟨x, 0, none⟩) 1 1)).run Try.prog w = .ok (.string (Fr.bs [b])) w := fun w x h => conv_u8 w x b _ rfl h
  have hs1 : (Fr.bs [b]).size = 1 := rfl
  have HT := Lib.hid (show Fr.bs (Rl.text ⟨b, n⟩) = if n < 4 then Fr.bs (List.replicate n b) else Fr.bs (List.replicate 4 b) ++ Fr.bs [UInt8.ofNat (n - 4)] by
    unfold Rl.text
    split
    · rfl
    · rw [bs_app]; rfl)
  generalize Fr.bs (Rl.text ⟨b, n⟩) = X at *
  have HA := Lib.hid (fun m => (bs_app (List.replicate m b) [b]).trans (by rw [← List.replicate_succ']))
  generalize hb1 : Fr.bs [b] = B1 at *
  go_enter Try.func24, Try.ntmps24
  go_upto_region 1 with (fail)
  have HX := Lib.hid (Has.new w #[.int .u8 (b.toNat : Int), .int .i64 (n : Int)] 50)
  have HB := Lib.hid ((Below.refl w.heap.size w).alloc (Nat.le_refl _) (.cells #[.int .u8 (b.toNat : Int), .int .i64 (n : Int)] 50))
  generalize w.alloc (.cells #[.int .u8 (b.toNat : Int), .int .i64 (n : Int)] 50) = w1 at *
  have x0 := HX.out.cell 0; have x1 := HX.out.cell 1
  simp only [List.getElem?_toArray, List.getElem?_cons_zero, List.getElem?_cons_succ] at x0 x1
  go_wp2_with fail
  go_loopw [7, 3] (fun i s wr => ∃ k : Nat, i = .int .i64 k ∧ k ≤ n ∧ s = .string (Fr.bs (List.replicate (min k 4) b)) ∧ Below w1.heap.size w1 wr) (fun i _ _ => n - (intOf i).toNat)
  case atStart => exact ⟨0, rfl, Nat.zero_le _, rfl, Below.refl _ _⟩
  case round =>
    obtain ⟨k, rfl, hk, rfl, hbr⟩ := hrel
    have hlx := HX.out.lt
    have HX2 := Lib.hid (HX.out.below hbr HX.out.lt)
    have HB2 := Lib.hid (HB.out.trans (hbr.mono HB.out.size))
    have HBR := Lib.hid hbr
    clear hbr x0 x1
    have x0 := HX2.out.cell 0; have x1 := HX2.out.cell 1
    simp only [List.getElem?_toArray, List.getElem?_cons_zero, List.getElem?_cons_succ] at x0 x1
    have hz := bs_size (List.replicate (min k 4) b)
    rw [List.length_replicate] at hz
    have hltw := HX2.out.lt
    by_cases hlt : k < n
    · have hlt' : (k : Int) < (n : Int) := by omega
      by_cases h4 : k < 4
      · have h4' : (k : Int) < 4 := by omega
        have he := HA.out k
        rw [Nat.min_eq_left (by omega)] at hz ⊢
        have HE := Lib.hid (show Fr.bs (List.replicate (min (k + 1) 4) b) = Fr.bs (List.replicate k b) ++ B1 by rw [Nat.min_eq_left (by omega)]; exact he.symm)
        generalize Fr.bs (List.replicate k b) = S at *
        have hcat : S.size + B1.size ≤ 100 := by omega
        clear he
        go_wp2
        go_roundw
        case rel => exact ⟨k + 1, by go_num, hlt, by rw [HE.out], HBR.out.alloc HBR.out.size _⟩
        case measure => simp [intOf]; omega
      · have h4' : ¬ (k : Int) < 4 := by omega
        have HE := Lib.hid (show Fr.bs (List.replicate (min (k + 1) 4) b) = Fr.bs (List.replicate (min k 4) b) by congr 2; omega)
        generalize Fr.bs (List.replicate (min k 4) b) = S at *
        go_wp2
        go_roundw
        case rel => exact ⟨k + 1, by go_num, hlt, by rw [HE.out], HBR.out⟩
        case measure => simp [intOf]; omega
    · have hlt' : ¬ (k : Int) < (n : Int) := by omega
      obtain rfl : k = n := by omega
      by_cases h4 : k < 4
      · have h4' : ¬ (4 : Int) ≤ (k : Int) := by omega
        have hT := HT.out
        rw [if_pos h4] at hT
        rw [Nat.min_eq_left (by omega)]
        have HT2 := Lib.hid hT
        generalize Fr.bs (List.replicate k b) = S at *
        clear hT
        go_wp2
        go_ret
        exact ⟨ret_str HT2.out.symm, HB2.out⟩
      · have h4' : (4 : Int) ≤ (k : Int) := by omega
        have hT := HT.out
        rw [if_neg h4] at hT
        rw [Nat.min_eq_right (by omega)] at hz ⊢
        have hcv2 : ∀ (w : World) (x : Nat), w.cell? ⟨x, 0, none⟩ = some (.int .u8 ((k : Int) - 4)) → (convert 59 9 (.slice (some ⟨x, 0, none⟩) 1 1)).run Try.prog w = .ok (.string (Fr.bs [UInt8.ofNat (k - 4)])) w := fun w x h => conv_u8 w x _ _ (by rw [UInt8.toNat_ofNat']; omega) h
        have hs2 : (Fr.bs [UInt8.ofNat (k - 4)]).size = 1 := rfl
        have hk5 : (k : Int) - 4 ≤ 251 := by omega
        have HT2 := Lib.hid hT
        generalize Fr.bs (List.replicate 4 b) = S at *
        generalize Fr.bs [UInt8.ofNat (k - 4)] = S2 at *
        have hcat : S.size + S2.size ≤ 100 := by omega
        clear hT
        go_wp2
        go_ret
        exact ⟨ret_str HT2.out.symm, HB2.out.alloc HB2.out.size _⟩
def pcells (p : Rl.Pc) : List Value := [.int .u8 (p.b.toNat : Int), .int .i64 (p.n : Int)]
theorem pcells_len (l : List Rl.Pc) : (l.flatMap pcells).length = l.length * 2 := by
  induction l with
  | nil => rfl
  | cons p l ih => simp [pcells, ih]; omega
theorem flat_get2 (R : List Rl.Pc) (k j : Nat) (h : k < R.length) (hj : j < 2) : (R.flatMap pcells).getD (k * 2 + j) undef = (pcells R[k]).getD j undef := flat_get pcells 2 (fun _ => rfl) R k j h hj
theorem info_piece : (Try.prog.info? 50).map (fun i => (i.zero, i.size, i.bytes)) = some (some (.agg #[.int .u8 0, .int .i64 0]), 2, 16) := by kernel_rfl

set_option maxRecDepth 100000 in
set_option maxHeartbeats 1600000 in
theorem refpieces_walk (s : ByteArray) (w : World) (hs : s.size ≤ 100000) :
    Calls Try.prog 23 #[.string s] w fun e w' => ∃ v, e = .returned v ∧ w'.ownsRow w.heap.size 50 2 v (Rl.pcs s.data.toList).length ((Rl.pcs s.data.toList).flatMap pcells) ∧ Below w.heap.size w w' := by
  have hlen := Rl.pcs_length s.data.toList
  rw [llen] at hlen
  generalize hR : Rl.pcs s.data.toList = R at *
  have HR := Lib.hid hR
  clear hR
  go_enter Try.func23, Try.ntmps23
  go_wp2_with fail
  go_loopw [0, 3] (fun x v wr => ∃ (t : ByteArray) (ps : List Rl.Pc), x = .string t ∧ ps ++ Rl.pcs t.data.toList = R ∧ t.size ≤ s.size ∧ wr.ownsRow w.heap.size 50 2 v ps.length (ps.flatMap pcells) ∧ Below w.heap.size w wr) (fun x _ _ => strLen x)
  case atStart => exact ⟨s, [], rfl, HR.out, Nat.le_refl _, World.ownsRow_nil _ _ _ _, Below.refl _ _⟩
  case round =>
    obtain ⟨t, ps, rfl, hp, ht, hown, hbr⟩ := hrel
    have HO := Lib.hid hown
    have HB := Lib.hid hbr
    clear hown hbr
    by_cases h0 : 0 < t.size
    · have h0' : (0 : Int) < (t.size : Int) := by omega
      have HW := Lib.hid (fun w => row_walk t w h0 (by omega))
      have hat := Rl.pcs_at t.data.toList 0 (by rw [llen]; exact h0)
      rw [List.drop_zero, lget t 0 h0, Nat.zero_add, llen] at hat
      rw [hat.1] at hp
      obtain ⟨_, hr1, hr2, hr3⟩ := hat
      generalize Rl.rl t.data.toList = n at *
      have hln : ps.length < R.length := by rw [← hp]; simp
      have HP := Lib.hid (show (ps ++ [⟨t[0], n⟩]) ++ Rl.pcs (t.extract n t.size).data.toList = R by rw [list_from, List.append_assoc]; exact hp)
      have hsz : (t.extract n t.size).size = t.size - n := by rw [ByteArray.size_extract]; omega
      have hsl := run_slice_from Try.underlying9 t n (n : Int) rfl hr3
      have hln2 : ps.length < 200000 := by omega
      generalize t.extract n t.size = u at *
      clear hp
      go_wp2_with fail
      (with_reducible refine (HW.out _).mono ?_)
      rintro e w1 ⟨rfl, hb1⟩
      have HO1 := Lib.hid (ownsRow_keep HO.out hb1)
      have HB1 := Lib.hid (HB.out.trans (hb1.mono HB.out.size))
      clear hb1
      go_wp2_with (at_builtin; refine appendS Try.underlying56 info_piece rfl (by decide) rfl _ _ rfl w.heap.size ps.length _ _ rfl HO1.out #[Value.int .u8 (t[0].toNat : Int), Value.int .i64 (n : Int)] rfl (by intro u hu; simp at hu; rcases hu with rfl | rfl <;> rfl) _ rfl rfl (by unfold maxLen; omega) (by omega) HB1.out.size ?_)
      intro g cap' w3 ho hc hb3 _ _ _
      have HO2 := Lib.hid (show w3.ownsRow w.heap.size 50 2 (.slice (some ⟨g, 0, none⟩) (ps.length + 1) cap') (ps ++ [Rl.Pc.mk t[0] n]).length ((ps ++ [Rl.Pc.mk t[0] n]).flatMap pcells) by
        rw [List.length_append, List.flatMap_append]; exact ho)
      have HB3 := Lib.hid (HB1.out.trans hb3)
      clear ho hc hb3
      go_wp2
      go_roundw
      case rel => exact ⟨u, ps ++ [⟨t[0], n⟩], rfl, HP.out, by omega, HO2.out, HB3.out⟩
      case measure => simp [strLen]; omega
    · have h0' : ¬ (0 : Int) < (t.size : Int) := by omega
      have hnil : t.data.toList = [] := List.length_eq_zero_iff.1 (by rw [llen]; omega)
      rw [hnil, Rl.pcs_nil, List.append_nil] at hp
      subst hp
      go_wp2
      go_ret
      exact ⟨_, rfl, HO.out, HB.out⟩

theorem Rl.apart_good : ∀ (ps : List Rl.Pc), Rl.Apart ps → ∀ p ∈ ps, 1 ≤ p.n ∧ p.n ≤ 255
  | [], _, _, h => nomatch h
  | [a], ha, p, h => by obtain rfl : p = a := by simpa using h
                        exact ha
  | a :: b :: l, ha, p, h => by
    rcases List.mem_cons.1 h with rfl | h
    · exact ⟨ha.1, ha.2.1⟩
    · exact Rl.apart_good (b :: l) ha.2.2.2 p h
theorem Rl.pcs_good (l : List UInt8) (p : Rl.Pc) (h : p ∈ Rl.pcs l) : 1 ≤ p.n ∧ p.n ≤ 255 := Rl.apart_good _ (Rl.pcs_apart l) p h

end Go.Proofs.Ytaldcdgafljedaa
