/- Splitters: split.Of. -/
import Derived.Test.YtaldcdgafljedaaSplWalk7
import Derived.Test.YtaldcdgafljedaaApp
namespace Go.Proofs.Ytaldcdgafljedaa
open Go.RowKit
set_option linter.unusedVariables false
set_option linter.unusedSimpArgs false

theorem stake_more {l : List UInt8} {k : Nat} {c : UInt8} (h : l[k]? = some c) : l.take (k + 1) = l.take k ++ [c] := by
  rw [List.take_add_one, h]; rfl
theorem sbget (s : ByteArray) (k : Nat) (h : k < s.size) : s.data.toList[k]? = some s[k] := by
  rw [List.getElem?_eq_getElem (by rw [llen]; exact h), lget s k h]
theorem sp_below {w w1 w2 : World} {B b sb pb : Nat} {v : Value} {now : List Rl.Pc} {room : Nat} {row : Rl.Pc} {L : Nat} (hb : Below L w w1) (h : SpAt w1 B b sb pb v now room row) (hL : L ≤ w1.heap.size ∧ L ≤ b ∧ L ≤ sb ∧ L ≤ pb ∧ L ≤ B) (k : Chg ([b, sb, pb] ++ v.ownBlock.toList) w1 w2) : Below L w w2 :=
  below_of_chg hb hL.1 k (fun j hj => by
    rcases List.mem_append.1 hj with hj | hj
    · simp at hj
      rcases hj with rfl | rfl | rfl
      · exact hL.2.1
      · exact hL.2.2.1
      · exact hL.2.2.2.1
    · cases hv : v.ownBlock with
      | none => rw [hv] at hj; cases hj
      | some g =>
        rw [hv] at hj; simp at hj; subst hj
        exact Nat.le_trans hL.2.2.2.2 (h.own.lt j hv).1)
set_option maxRecDepth 100000 in
set_option maxHeartbeats 1600000 in
theorem sof_bad (s : ByteArray) (n : Int) (w : World) (h : roomOk n = false) : Calls Try.prog 11 #[.string s, .int .i64 n] w fun e w' => e = .returned (.tuple #[.slice none 0 0, .int .i64 1]) ∧ w = w' := by
  have HN := Lib.hid (fun w => snew_bad n w h)
  clear h
  go_enter Try.func11, Try.ntmps11
  go_wp2_with fail
  (with_reducible refine (HN.out _).mono ?_)
  rintro e w1 ⟨rfl, rfl⟩
  go_wp2
  go_ret2
  exact ⟨rfl, rfl⟩
/-- what the loop keeps -/
structure OfAt (w wr : World) (s : ByteArray) (room k : Nat) (B b sb pb : Nat) (out : Value) : Prop where
  sp : ∃ v, SpT wr B b sb pb v room (s.data.toList.take k)
  out : wr.ownsRow w.heap.size 37 3 out (Sp.at_ room (s.data.toList.take k)).done.length ((Sp.at_ room (s.data.toList.take k)).done.flatMap bcells)
  below : Below w.heap.size w wr
set_option maxRecDepth 100000 in
set_option maxHeartbeats 4000000 in
theorem sof_walk (s : ByteArray) (room : Nat) (w : World) (h : roomOk room = true) (hs : s.size ≤ 600) : Calls Try.prog 11 #[.string s, .int .i64 (room : Int)] w fun e w' => ∃ out, e = .returned (.tuple #[out, .int .i64 0]) ∧
    w'.ownsRow w.heap.size 37 3 out (Sp.blks room s.data.toList).length ((Sp.blks room s.data.toList).flatMap bcells) ∧ Below w.heap.size w w' := by
  have hh := of_decide_eq_true h
  have h5 : 5 ≤ room := by omega
  have hm : room ≤ 900000 := by omega
  have HN := Lib.hid (fun w => snew_walk room w h)
  simp only [ptr] at HN
  have HE := Lib.hid (Sp.at_end room h5 s.data.toList)
  have HDL := Lib.hid (Sp.done_len room h5)
  have HEL := Lib.hid (Sp.endL_len room)
  clear h hh
  generalize Sp.blks room s.data.toList = L at *
  go_enter Try.func11, Try.ntmps11
  go_wp2_with fail
  (with_reducible refine (HN.out _).mono ?_)
  rintro e w1 ⟨b, sb, pb, rfl, hsp, hb, hsb, hpb, hbl⟩
  have HS1 := Lib.hid (SpT.nil hsp)
  have HL1 := Lib.hid (show w.heap.size ≤ b ∧ w.heap.size ≤ sb ∧ w.heap.size ≤ pb ∧ w.heap.size ≤ w1.heap.size from ⟨hb, hsb, hpb, hbl.size⟩)
  have HB1 := Lib.hid hbl
  generalize w1.heap.size = B at *
  clear hsp hb hsb hpb hbl HN
  have hsz : (s.size : Int) ≤ 600 := by omega
  go_wp2_with fail
  go_loopw [8, 22] (fun out i wr => ∃ k : Nat, i = .int .i64 k ∧ k ≤ s.size ∧ OfAt w wr s room k B b sb pb out) (fun _ i _ => s.size - (intOf i).toNat)
  case atStart => exact ⟨0, rfl, Nat.zero_le _, ⟨_, HS1.out⟩, World.ownsRow_nil _ _ _ _, HB1.out⟩
  case round =>
    obtain ⟨k, rfl, hk, ⟨v, hsp⟩, hout, hbr⟩ := hrel
    have HS := Lib.hid hsp
    have HO := Lib.hid hout
    have HB := Lib.hid hbr
    clear hsp hout hbr
    by_cases hlt : k < s.size
    · have hlt' : (k : Int) < (s.size : Int) := by omega
      have htm := stake_more (sbget s k hlt)
      have hlen : (s.data.toList.take k).length ≤ 600 := by rw [List.length_take]; omega
      have HP := Lib.hid (tput_walk wr B b sb pb v room (s.data.toList.take k) s[k] HS.out h5 hm (by omega))
      have htold := (Sp.at_told room (s.data.toList.take k) s[k]).2
      rw [← htm] at HP htold
      have hdl := HDL.out (s.data.toList.take k)
      have hkb : (k : Int) ≤ 600 := by omega
      clear htm
      rcases htold with ⟨hpv, hdn⟩ | ⟨hpv, hdn⟩
      · rw [hpv] at HP
        have HDN := Lib.hid hdn
        simp only [noBlk] at HP
        clear hpv hdn hlen hdl
        go_wp2_with fail
        (with_reducible refine (HP.out).mono ?_)
        rintro e w2 ⟨rfl, v2, h1, h2⟩
        have HS2 := Lib.hid h1
        have HO2 := Lib.hid (HS.out.outs HO.out h2)
        have HB2 := Lib.hid (sp_below HB.out HS.out ⟨HB.out.size, HL1.out.1, HL1.out.2.1, HL1.out.2.2.1, HL1.out.2.2.2⟩ h2)
        clear h1 h2 HS HO HB HP
        go_upto_region 9 with (fail)
        have HX := Lib.hid (show OfAt w (w2.alloc (.cells #[.string ⟨#[]⟩, .int .u32 0, .int .i64 0] 37)) s room (k + 1) B b sb pb u8 from
          ⟨⟨v2, HS2.out.low ((Below.refl _ _).alloc (Nat.le_refl _) _)⟩, by rw [HDN.out]; exact HO2.out.alloc _, HB2.out.alloc HB2.out.size _⟩)
        clear HS2 HO2 HB2 HDN
        generalize w2.alloc (.cells #[.string ⟨#[]⟩, .int .u32 0, .int .i64 0] 37) = w3 at *
        go_wp2
        go_roundw
        case rel => exact ⟨k + 1, by go_num, hlt, HX.out⟩
        case measure => simp [intOf]; omega
      · rw [hpv] at HP
        have HDN := Lib.hid hdn
        have hbc : bcells (Sp.at_ room (s.data.toList.take k)).now = [.string (Fr.bs (Sp.body (Sp.at_ room (s.data.toList.take k)).now)), .int .u32 ((Crc.sumOf (Rl.join (Sp.at_ room (s.data.toList.take k)).now)).toNat : Int), .int .i64 ((Rl.join (Sp.at_ room (s.data.toList.take k)).now).length : Int)] := rfl
        have HBC := Lib.hid hbc
        simp only [blkV] at HP
        clear hpv hdn hbc
        generalize Fr.bs (Sp.body (Sp.at_ room (s.data.toList.take k)).now) = T at *
        generalize ((Crc.sumOf (Rl.join (Sp.at_ room (s.data.toList.take k)).now)).toNat : Int) = m at *
        generalize ((Rl.join (Sp.at_ room (s.data.toList.take k)).now).length : Int) = j at *
        go_wp2_with fail
        (with_reducible refine (HP.out).mono ?_)
        rintro e w2 ⟨rfl, v2, h1, h2⟩
        have HS2 := Lib.hid h1
        have HO2 := Lib.hid (HS.out.outs HO.out h2)
        have HB2 := Lib.hid (sp_below HB.out HS.out ⟨HB.out.size, HL1.out.1, HL1.out.2.1, HL1.out.2.2.1, HL1.out.2.2.2⟩ h2)
        clear h1 h2 HS HO HB HP
        go_upto_region 9 with (fail)
        have HS3 := Lib.hid (show SpT (w2.alloc (.cells #[.string T, .int .u32 m, .int .i64 j] 37)) B b sb pb v2 room (s.data.toList.take (k + 1)) from HS2.out.low ((Below.refl _ _).alloc (Nat.le_refl _) _))
        have HO3 := Lib.hid (HO2.out.alloc (.cells #[.string T, .int .u32 m, .int .i64 j] 37))
        have HB3 := Lib.hid (HB2.out.alloc HB2.out.size (.cells #[.string T, .int .u32 m, .int .i64 j] 37))
        have HR3 := Lib.hid (Has.new w2 #[.string T, .int .u32 m, .int .i64 j] 37)
        clear HS2 HO2 HB2
        generalize w2.heap.size = r at *
        generalize w2.alloc (.cells #[.string T, .int .u32 m, .int .i64 j] 37) = w3 at *
        have c0 := HR3.out.cell 0; have c1 := HR3.out.cell 1; have c2 := HR3.out.cell 2
        simp only [List.getElem?_toArray, List.getElem?_cons_zero, List.getElem?_cons_succ] at c0 c1 c2
        have hz3 : w.heap.size ≤ w3.heap.size := HB3.out.size
        have HA3 := Lib.hid (show SpT (w3.alloc (.cells #[.string T, .int .u32 m, .int .i64 j] 37)) B b sb pb v2 room (s.data.toList.take (k + 1)) from HS3.out.low ((Below.refl _ _).alloc (Nat.le_refl _) _))
        go_wp2_with (at_builtin; refine appendS Try.underlying27 info_blk rfl (by decide) rfl _ _ rfl w.heap.size _ _ _ rfl HO3.out #[.string T, .int .u32 m, .int .i64 j] rfl (by intro u hu; simp at hu; rcases hu with rfl | rfl | rfl <;> rfl) _ rfl rfl (by unfold maxLen; omega) (by omega) hz3 ?_)
        intro g cap w4 ho hc hb4 _ _ _
        have HX := Lib.hid (show OfAt w w4 s room (k + 1) B b sb pb (.slice (some ⟨g, 0, none⟩) ((Sp.at_ room (s.data.toList.take k)).done.length + 1) cap) from
          ⟨⟨v2, HS3.out.grew HO3.out hc⟩, by rw [HDN.out, List.length_append, List.flatMap_append, List.flatMap_cons, HBC.out]; simpa using ho, HB3.out.trans hb4⟩)
        clear HS3 HO3 HB3 HR3 HA3 ho hc hb4 c0 c1 c2 HBC HDN
        go_wp2
        go_roundw
        case rel => exact ⟨k + 1, by go_num, hlt, HX.out⟩
        case measure => simp [intOf]; omega
    · have hkp : k = s.size := by omega
      subst hkp
      have hte : s.data.toList.take s.size = s.data.toList := List.take_of_length_le (by rw [llen]; exact Nat.le_refl _)
      rw [hte] at HS HO
      have hlt' : ¬ (s.size : Int) < (s.size : Int) := by omega
      have HP := Lib.hid (tend_walk wr B b sb pb v room s.data.toList HS.out h5 hm (by rw [llen]; omega))
      have hel := HEL.out (Sp.at_ room s.data.toList).now (Rl.rowOf s.data.toList)
      have hdl := HDL.out s.data.toList
      rw [llen] at hdl
      have HLe := Lib.hid (show L.length = (Sp.at_ room s.data.toList).done.length + (endL room (Sp.at_ room s.data.toList).now (Rl.rowOf s.data.toList)).length ∧ L.flatMap bcells = (Sp.at_ room s.data.toList).done.flatMap bcells ++ (endL room (Sp.at_ room s.data.toList).now (Rl.rowOf s.data.toList)).flatMap bcells from
        ⟨by rw [HE.out, List.length_append], by rw [HE.out, List.flatMap_append]⟩)
      have HON := Lib.hid (bcells_one (endL room (Sp.at_ room s.data.toList).now (Rl.rowOf s.data.toList)))
      clear hte hlt
      generalize endL room (Sp.at_ room s.data.toList).now (Rl.rowOf s.data.toList) = E at *
      generalize (Sp.at_ room s.data.toList).done = D at *
      go_wp2_with fail
      refine (HP.out).mono ?_
      rintro e w2 ⟨ends, v2, rfl, h1, h2, h3⟩
      have HO2 := Lib.hid (HS.out.outs HO.out h3)
      have HB2 := Lib.hid (sp_below HB.out HS.out ⟨HB.out.size, HL1.out.1, HL1.out.2.1, HL1.out.2.2.1, HL1.out.2.2.2⟩ h3)
      have HU2 := Lib.hid h1
      clear h1 h2 h3 HS HO HB HP
      have hz2 : w.heap.size ≤ w2.heap.size := HB2.out.size
      go_wp2_with (at_builtin; refine appendRow Try.underlying27 info_blk rfl (by decide) rfl _ _ rfl w.heap.size _ _ _ _ _ _ _ rfl rfl HO2.out HU2.out HON.out (by unfold maxLen; omega) (by omega) hz2 ?_)
      intro v3 w3 ho hc hb3
      have HO3 := Lib.hid ho
      have HB3 := Lib.hid (HB2.out.trans hb3)
      clear ho hc hb3 HO2 HU2 HB2
      go_wp2
      go_ret2
      exact ⟨_, rfl, by rw [HLe.out.1, HLe.out.2]; exact HO3.out, HB3.out⟩
end Go.Proofs.Ytaldcdgafljedaa
