/- The reference's parts of a text, and its numbers. -/
import Derived.Test.YtimlmjabdakojaaDoorTnRef2
namespace Go.Proofs.YtimlmjabdakojaaDoor
open Go.RowKit
set_option linter.unusedVariables false
set_option linter.unusedSimpArgs false

namespace Tn
def cutC (c : UInt8) (l : List UInt8) (done : List (List UInt8)) (now : List UInt8) : List (List UInt8) := done ++ ((now ++ (St.splitC c l).headD []) :: (St.splitC c l).tail)
theorem head_tail (c : UInt8) (l : List UInt8) : (St.splitC c l).headD [] :: (St.splitC c l).tail = St.splitC c l := by
  cases h : St.splitC c l with
  | nil => exact absurd h (St.splitC_ne c l)
  | cons x r => rfl
theorem cut_start (c : UInt8) (l : List UInt8) : cutC c l [] [] = St.splitC c l := head_tail c l
theorem cut_sep (c : UInt8) (s : List UInt8) (k : Nat) (done : List (List UInt8)) (now : List UInt8) (h : k < s.length) (hc : s[k] = c) : cutC c (s.drop k) done now = cutC c (s.drop (k + 1)) (done ++ [now]) [] := by
  rw [List.drop_eq_getElem_cons h]
  unfold cutC
  rw [St.splitC, if_pos hc]
  simp only [List.headD_cons, List.tail_cons, List.append_nil, List.nil_append, List.append_assoc, List.singleton_append]
  rw [head_tail]
theorem cut_other (c : UInt8) (s : List UInt8) (k : Nat) (done : List (List UInt8)) (now : List UInt8) (h : k < s.length) (hc : ¬ s[k] = c) : cutC c (s.drop k) done now = cutC c (s.drop (k + 1)) done (now ++ [s[k]]) := by
  rw [List.drop_eq_getElem_cons h]
  unfold cutC
  rw [St.splitC, if_neg hc]
  simp only [List.headD_cons, List.tail_cons, List.append_assoc, List.singleton_append]
theorem cut_end (c : UInt8) (s : List UInt8) (k : Nat) (done : List (List UInt8)) (now : List UInt8) (h : s.length ≤ k) : cutC c (s.drop k) done now = done ++ [now] := by
  rw [List.drop_eq_nil_of_le h]
  simp [cutC, St.splitC]
def numR (l : List UInt8) : Int := if l.length ≤ 13 then St.scan l 0 else -1
theorem numR_dg (x : Int) (h : St.okI x = true) : numR (St.dg x) = x := by
  have h2 : 0 ≤ x ∧ x ≤ 1099511627776 := of_decide_eq_true h
  have h3 := St.digs_13 x.toNat (by omega)
  unfold numR St.dg
  rw [if_pos h3, St.scan_eq, if_pos (List.all_eq_true.2 (St.digs_all _)), St.val_digs]
  omega
/-- the reference's tenant of a line -/
def parseLineR (x : List UInt8) : Option Ten :=
  match St.splitC 58 x with
  | [a, b, c, d, e] => if may ⟨Fr.bs a, Fr.bs b, numR c, numR d, numR e⟩ = true ∧ lineL ⟨Fr.bs a, Fr.bs b, numR c, numR d, numR e⟩ = x then some ⟨Fr.bs a, Fr.bs b, numR c, numR d, numR e⟩ else none
  | _ => none
theorem parseLineR_not (x : List UInt8) (h : (St.splitC 58 x).length ≠ 5) : parseLineR x = none := by
  unfold parseLineR
  split
  · rename_i e; rw [e] at h; exact absurd rfl h
  · rfl
theorem parseLineR_five (x a b c d e : List UInt8) (h : St.splitC 58 x = [a, b, c, d, e]) : parseLineR x = if may ⟨Fr.bs a, Fr.bs b, numR c, numR d, numR e⟩ = true ∧ lineL ⟨Fr.bs a, Fr.bs b, numR c, numR d, numR e⟩ = x then some ⟨Fr.bs a, Fr.bs b, numR c, numR d, numR e⟩ else none := by
  unfold parseLineR
  rw [h]
theorem parseLineR_eq (x : List UInt8) : parseLineR x = parseLine x := by
  cases hp : parseLine x with
  | some t =>
    obtain ⟨hm, rfl⟩ := parseLine_sound x t hp
    obtain ⟨_, _, h3, h4, h5, _⟩ := may_ok hm
    obtain ⟨a, b, c, d, e⟩ := t
    rw [parseLineR_five _ _ _ _ _ _ (split_line _ hm)]
    simp only [Fr.bs_list, numR_dg _ h3, numR_dg _ h4, numR_dg _ h5]
    rw [if_pos ⟨hm, trivial⟩]
  | none =>
    unfold parseLineR
    split
    · split
      · rename_i h2
        rw [← h2.2, parseLine_line _ h2.1] at hp
        cases hp
      · rfl
    · rfl
end Tn
theorem one_byte (s : ByteArray) (k : Nat) (h : k < s.size) : s.extract k (k + 1) = Fr.bs [s[k]'h] := by
  apply Fr.bs_inj
  rw [Fr.list_bs]
  have hl : k < s.data.toList.length := by rw [llen]; exact h
  have : (s.extract k (k + 1)).data.toList = (s.data.toList.drop k).take 1 := by
    rw [Lib.extract_data, show k + 1 - k = 1 by omega]
  rw [this, List.drop_eq_getElem_cons hl]
  show [s.data.toList[k]] = _
  rw [lget s k h]
theorem info_string32 : (Tryd.prog.info? 9).map (fun i => (i.zero, i.size, i.bytes)) = some (some (.string ⟨#[]⟩), 1, 16) := by kernel_rfl
def strV (x : List UInt8) : Value := .string (Fr.bs x)
set_option maxRecDepth 100000 in
set_option maxHeartbeats 2000000 in
theorem cut_walk32 (s : ByteArray) (c : UInt8) (w : World) (hs : s.size ≤ 100000) :
    Calls Tryd.prog 35 #[.string s, .int .u8 (c.toNat : Int)] w fun r w' => ∃ v, r = .returned v ∧ w'.ownsRow w.heap.size 9 1 v (St.splitC c s.data.toList).length ((St.splitC c s.data.toList).map strV) ∧ Below w.heap.size w w' := by
  have HS := Lib.hid (show Tn.cutC c (s.data.toList.drop 0) [] [] = St.splitC c s.data.toList by rw [List.drop_zero]; exact Tn.cut_start _ _)
  generalize St.splitC c s.data.toList = R at *
  have hcb := c.toNat_lt
  go_enter Tryd.func35, Tryd.ntmps35
  go_wp2_with fail
  go_loopw [5, 6, 7] (fun v vn vi wr => ∃ (k : Nat) (done : List (List UInt8)) (now : List UInt8), k ≤ s.size ∧ vi = .int .i64 k ∧ vn = .string (Fr.bs now) ∧ now.length ≤ k ∧ done.length ≤ k ∧ Tn.cutC c (s.data.toList.drop k) done now = R ∧ wr.ownsRow w.heap.size 9 1 v done.length (done.map strV) ∧ Below w.heap.size w wr) (fun _ _ i _ => s.size - (intOf i).toNat)
  case atStart => exact ⟨0, [], [], Nat.zero_le _, rfl, rfl, Nat.le_refl _, Nat.le_refl _, HS.out, World.ownsRow_nil _ _ _ _, Below.refl _ _⟩
  case round =>
    obtain ⟨k, done, now, hk, rfl, rfl, hnl, hdl, hcut, hO, hB⟩ := hrel
    have HO := Lib.hid hO; have HB := Lib.hid hB
    clear hO hB HS
    have hm1 : done.length + 1 ≤ maxLen := by unfold maxLen; omega
    have hm2 : (done.length + 1) * 16 ≤ 140737488355328 := by omega
    by_cases hlt : k < s.size
    · have hlt' : (k : Int) < (s.size : Int) := by omega
      have hkl : k < s.data.toList.length := by rw [llen]; exact hlt
      have h1 := Tn.cut_sep c s.data.toList k done now hkl
      have h2 := Tn.cut_other c s.data.toList k done now hkl
      rw [hcut, lget s k hlt] at h1 h2
      have hb8 := (s[k]'hlt).toNat_lt
      by_cases hc : s[k]'hlt = c
      · have HG := Lib.hid (h1 hc).symm
        have ec : (((s[k]'hlt).toNat : Int) == (c.toNat : Int)) = true := by rw [hc]; simp
        clear h1 h2 hcut
        clear hc
        go_wp2_with (at_builtin; refine appendS Tryd.underlying66 info_string32 rfl (by decide) rfl _ _ rfl w.heap.size done.length _ _ rfl HO.out #[Value.string (Fr.bs now)] rfl (by intro u hu; simp at hu; subst hu; rfl) _ rfl rfl hm1 hm2 HB.out.size ?_)
        intro g cap' w6 ho hcc hb6 _ _ _
        have HO6 := Lib.hid (show w6.ownsRow w.heap.size 9 1 (.slice (some ⟨g, 0, none⟩) (done.length + 1) cap') (done ++ [now]).length ((done ++ [now]).map strV) by
          rw [List.length_append, List.map_append]; exact ho)
        have HB6 := Lib.hid (HB.out.trans hb6)
        clear ho hcc hb6 HO HB
        go_wp2
        go_roundw
        case rel => exact ⟨k + 1, done ++ [now], [], hlt, by go_num, rfl, Nat.zero_le _, by rw [List.length_append]; show done.length + 1 ≤ _; omega, HG.out, HO6.out, HB6.out⟩
        case measure => simp [intOf]; omega
      · have HG := Lib.hid (h2 hc).symm
        have ec : (((s[k]'hlt).toNat : Int) == (c.toNat : Int)) = false := by
          apply Bool.eq_false_iff.2
          intro e
          apply hc
          have := beq_iff_eq.1 e
          apply UInt8.toNat_inj.1
          omega
        have hsl := fun w => run_slice_str Tryd.underlying9 s k (k + 1) (k : Int) ((k : Int) + 1) rfl (by omega) (by omega) hlt w
        rw [one_byte s k hlt] at hsl
        have hcat : ¬ 9223372036854775807 < (Fr.bs now).size + (Fr.bs [s[k]'hlt]).size := by
          rw [← Fr.size_list, ← Fr.size_list, Fr.list_bs, Fr.list_bs]
          show ¬ 9223372036854775807 < _ + 1
          omega
        have HCT := Lib.hid (bs_app now [s[k]'hlt])
        clear h1 h2 hc hcut
        go_wp2_with fail
        go_roundw
        case rel => exact ⟨k + 1, done, now ++ [s[k]'hlt], hlt, by go_num, by rw [← HCT.out], by rw [List.length_append]; show now.length + 1 ≤ _; omega, by omega, HG.out, HO.out, HB.out⟩
        case measure => simp [intOf]; omega
    · have hlt' : ¬ (k : Int) < (s.size : Int) := by omega
      rw [Tn.cut_end c _ k done now (by rw [llen]; omega)] at hcut
      have HG := Lib.hid hcut
      clear hcut
      go_wp2_with (at_builtin; refine appendS Tryd.underlying66 info_string32 rfl (by decide) rfl _ _ rfl w.heap.size done.length _ _ rfl HO.out #[Value.string (Fr.bs now)] rfl (by intro u hu; simp at hu; subst hu; rfl) _ rfl rfl hm1 hm2 HB.out.size ?_)
      intro g cap' w6 ho hcc hb6 _ _ _
      have HO6 := Lib.hid (show w6.ownsRow w.heap.size 9 1 (.slice (some ⟨g, 0, none⟩) (done.length + 1) cap') R.length (R.map strV) by
        rw [← HG.out, List.length_append, List.map_append]; exact ho)
      have HB6 := Lib.hid (HB.out.trans hb6)
      clear ho hcc hb6 HO HB
      go_wp2
      go_ret
      exact ⟨_, rfl, HO6.out, HB6.out⟩
set_option maxRecDepth 100000 in
set_option maxHeartbeats 1600000 in
theorem refnumber_walk (x : List UInt8) (w : World) (hx : x.length ≤ 100000) : Calls Tryd.prog 36 #[.string (Fr.bs x)] w fun e w' => e = .returned (.int .i64 (Tn.numR x)) ∧ Below w.heap.size w w' := by
  have hls : (Fr.bs x).data.toList = x := Fr.list_bs x
  have hsz : (Fr.bs x).size = x.length := by rw [← Fr.size_list, hls]
  generalize Fr.bs x = s at *
  have HR := Lib.hid (show Tn.numR x = if s.size ≤ 13 then St.scan s.data.toList 0 else -1 by unfold Tn.numR; rw [hls, hsz])
  have hs : s.size ≤ 100000 := by omega
  generalize Tn.numR x = R at *
  clear hls hsz hx
  go_enter Tryd.func36, Tryd.ntmps36
  go_wp2_with fail
  go_loopw [3, 4] (fun v i wr => ∃ k n : Nat, k ≤ s.size ∧ k ≤ 13 ∧ i = .int .i64 k ∧ v = .int .i64 n ∧ n < 10 ^ k ∧ (if s.size ≤ 13 then St.scan (s.data.toList.drop k) n else -1) = R ∧ Below w.heap.size w wr) (fun _ i _ => s.size - (intOf i).toNat)
  case atStart => exact ⟨0, 0, Nat.zero_le _, by decide, rfl, rfl, by decide, HR.out.symm, Below.refl _ _⟩
  case round =>
    obtain ⟨k, n, hk, hk13, rfl, rfl, hn, hsc, hbr⟩ := hrel
    have HB := Lib.hid hbr
    have hpw : (10 : Nat) ^ k ≤ 10 ^ 13 := Nat.pow_le_pow_right (by decide) (by omega)
    have hten : (10 : Nat) ^ 13 = 10000000000000 := by decide
    have hn13 : (n : Int) < 10000000000000 := by omega
    have Hn := Lib.hid hn
    clear hbr HR hpw hn hten
    by_cases hlt : k < s.size
    · have hlt' : (k : Int) < (s.size : Int) := by omega
      have hkl : k < s.data.toList.length := by rw [llen]; exact hlt
      have hd1 := St.scan_dig s.data.toList k n hkl
      have hd2 := St.scan_no s.data.toList k n hkl
      rw [lget s k hlt] at hd1 hd2
      have hb := (s[k]'hlt).toNat_lt
      by_cases hdg : St.isDig (s[k]'hlt) = true
      · have h2 : 48 ≤ (s[k]'hlt).toNat ∧ (s[k]'hlt).toNat ≤ 57 := of_decide_eq_true hdg
        have c1 : ¬ (((s[k]'hlt).toNat : Int) < 48) := by omega
        have c2 : ¬ ((57 : Int) < ((s[k]'hlt).toNat : Int)) := by omega
        by_cases c3 : 12 < k
        · have c3' : (12 : Int) < (k : Int) := by omega
          have HD := Lib.hid (show R = -1 by rw [← hsc, if_neg (by omega)])
          clear hd1 hd2 hdg hsc
          go_wp2
          (try simp only [Exit.inBlock, Exit.then])
          go_ret
          exact ⟨by rw [HD.out]; rfl, HB.out⟩
        · have c3' : ¬ (12 : Int) < (k : Int) := by omega
          have HD := Lib.hid (show (if s.size ≤ 13 then St.scan (s.data.toList.drop (k + 1)) (10 * n + ((s[k]'hlt).toNat - 48)) else -1) = R by rw [← hd1 hdg]; exact hsc)
          have hge : (48 : Int) ≤ ((s[k]'hlt).toNat : Int) := by omega
          have HV := Lib.hid (show 10 * (n : Int) + ((s[k]'hlt).toNat : Int) - 48 = ((10 * n + ((s[k]'hlt).toNat - 48) : Nat) : Int) by omega)
          clear hd1 hd2 hdg hsc
          go_wp2_with fail
          go_roundw
          case rel =>
            have hp := Hn.out
            refine ⟨k + 1, 10 * n + ((s[k]'hlt).toNat - 48), hlt, by omega, by go_num, by rw [HV.out], ?_, HD.out, HB.out⟩
            rw [Nat.pow_succ]; omega
          case measure => simp [intOf]; omega
      · have h2 : (s[k]'hlt).toNat < 48 ∨ 57 < (s[k]'hlt).toNat := by
          apply Classical.byContradiction
          intro h
          exact hdg (decide_eq_true (by omega))
        have HD := Lib.hid (show R = -1 by
          rw [← hsc]
          by_cases h13 : s.size ≤ 13
          · rw [if_pos h13, hd2 hdg]
          · rw [if_neg h13])
        clear hd1 hd2 hdg hsc
        by_cases c1 : ((s[k]'hlt).toNat : Int) < 48
        · clear h2
          go_wp2
          (try simp only [Exit.inBlock, Exit.then])
          go_ret
          exact ⟨by rw [HD.out]; rfl, HB.out⟩
        · have c2 : (57 : Int) < ((s[k]'hlt).toNat : Int) := by omega
          clear h2
          go_wp2
          (try simp only [Exit.inBlock, Exit.then])
          go_ret
          exact ⟨by rw [HD.out]; rfl, HB.out⟩
    · have hlt' : ¬ (k : Int) < (s.size : Int) := by omega
      have HD := Lib.hid (show R = (n : Int) by rw [← hsc, if_pos (by omega), St.scan_end _ _ _ (by rw [llen]; omega)])
      clear hsc
      go_wp2
      go_ret
      exact ⟨by rw [HD.out]; rfl, HB.out⟩
end Go.Proofs.YtimlmjabdakojaaDoor
