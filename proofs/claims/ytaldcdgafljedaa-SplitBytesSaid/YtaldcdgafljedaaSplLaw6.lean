/- SplitBytes. -/
import Derived.Test.YtaldcdgafljedaaSplHeld
import Derived.Test.YtaldcdgafljedaaFeedSure
namespace Go.Proofs.Ytaldcdgafljedaa
open Go.RowKit
set_option linter.unusedVariables false
set_option linter.unusedSimpArgs false

namespace Sp
/-- how many bytes the whole blocks have -/
def told (room : Nat) (l : List UInt8) : Nat := (body (at_ room l).done.flatten).length
theorem told_same {room : Nat} {l m : List UInt8} (h : (at_ room m).done = (at_ room l).done) : told room m = told room l := by unfold told; rw [h]
theorem told_more {room : Nat} {l m : List UInt8} (h : (at_ room m).done = (at_ room l).done ++ [(at_ room l).now]) : told room m = told room l + (body (at_ room l).now).length := by
  unfold told
  rw [h, List.flatten_append, body_app, List.length_append]
  simp
theorem told_sure (room : Nat) (l : List UInt8) : (Rl.sureB l).length = told room l + (body (at_ room l).now).length := by
  have h1 := run_flat room (Rl.sureOf l) st0
  change (at_ room l).done.flatten ++ (at_ room l).now = [] ++ Rl.sureOf l at h1
  rw [List.nil_append] at h1
  show (body (Rl.sureOf l)).length = _
  rw [← h1, body_app, List.length_append]; rfl
theorem sureB_small (l : List UInt8) : (Rl.sureB l).length ≤ 5 * l.length := by
  have h1 := Rl.sureB_end l
  have h2 := Rl.enc_small l
  have h3 : (Rl.sureB l).length ≤ (Rl.enc l).length := by rw [← h1, List.length_append]; omega
  omega
end Sp
theorem endL_nil (room : Nat) : endL room [] Rl.row0 = [] := by
  unfold endL
  rw [if_pos (show Rl.row0.n = 0 from rfl), if_pos (show Sp.body [] = [] from rfl)]
theorem blkown_not {w : World} {B k : Nat} {E : TypeId} {v : Value} {n : Nat} {xs : List Value} (h : w.ownsRow B E k v n xs) {r : Nat} (hr : w.heap.size ≤ r) : r ∉ v.ownBlock.toList := own_not h (.inr hr)
set_option maxRecDepth 100000 in
set_option maxHeartbeats 4000000 in
theorem splitBytes_in (s : ByteArray) (room : Nat) (w : World) (h : roomOk room = true) (hs : s.size ≤ 300) : Calls Try.prog 7 #[.string s, .int .i64 (room : Int)] w fun e w' => e = .returned (.bool true) ∧ Below w.heap.size w w' := by
  have hl' : ¬ (300 : Int) < (s.size : Int) := by omega
  have hh := of_decide_eq_true h
  have h5 : 5 ≤ room := by omega
  have hm : room ≤ 900000 := by omega
  have HRO := Lib.hid (fun w => refroom_walk room w)
  rw [h] at HRO
  have HN := Lib.hid (fun w => snew_walk room w h)
  simp only [ptr] at HN
  have HE := Lib.hid (Sp.at_end room h5 s.data.toList)
  have HDL := Lib.hid (Sp.done_len room h5)
  have HEL := Lib.hid (Sp.endL_len room)
  have HRF := Lib.hid (fun w => refsplit_walk s room w (by omega) (by omega) (by omega))
  have hbl := blks_len room (by omega) s.data.toList
  have hbj := blks_join room s.data.toList
  rw [llen] at hbl hbj
  have HSA := Lib.hid (fun a a2 c c2 w h1 h2 => same_walk (Sp.blks room s.data.toList) a a2 c c2 w h1 h2 (by omega) (fun ps hp => Nat.le_trans (hbj ps hp) (by omega)))
  clear h hh hbl hbj
  generalize Sp.blks room s.data.toList = L at *
  go_enter Try.func7, Try.ntmps7
  go_wp2_with fail
  (with_reducible refine (HRO.out _).mono ?_)
  rintro e w1 ⟨rfl, rfl⟩
  go_wp2_with fail
  (with_reducible refine (HN.out _).mono ?_)
  rintro e w1 ⟨b, sb, pb, rfl, hsp, hb, hsb, hpb, hbl⟩
  have HS1 := Lib.hid (SpT.nil hsp)
  have HL1 := Lib.hid (show w.heap.size ≤ b ∧ w.heap.size ≤ sb ∧ w.heap.size ≤ pb ∧ w.heap.size ≤ w1.heap.size from ⟨hb, hsb, hpb, hbl.size⟩)
  have HB1 := Lib.hid hbl
  generalize w1.heap.size = B at *
  clear hsp hb hsb hpb hbl HN HRO
  have hsz : (s.size : Int) ≤ 300 := by omega
  go_wp2_with fail
  go_loopw [7, 8, 30] (fun out tol i wr => ∃ k : Nat, i = .int .i64 k ∧ k ≤ s.size ∧ tol = .int .i64 (Sp.told room (s.data.toList.take k) : Int) ∧ OfAt w wr s room k B b sb pb out) (fun _ _ i _ => s.size - (intOf i).toNat)
  case atStart => exact ⟨0, rfl, Nat.zero_le _, rfl, ⟨_, HS1.out⟩, World.ownsRow_nil _ _ _ _, HB1.out⟩
  case round =>
    obtain ⟨k, rfl, hk, rfl, ⟨v, hsp⟩, hout, hbr⟩ := hrel
    have HS := Lib.hid hsp
    have HO := Lib.hid hout
    have HB := Lib.hid hbr
    clear hsp hout hbr
    by_cases hlt : k < s.size
    · have hlt' : (k : Int) < (s.size : Int) := by omega
      have htm := stake_more (sbget s k hlt)
      have hlen : (s.data.toList.take (k + 1)).length ≤ 300 := by rw [List.length_take, llen]; omega
      have hlen0 : (s.data.toList.take k).length ≤ 300 := by rw [List.length_take, llen]; omega
      have HP := Lib.hid (tput_walk wr B b sb pb v room (s.data.toList.take k) s[k] HS.out h5 hm (by omega))
      have htold := (Sp.at_told room (s.data.toList.take k) s[k]).2
      rw [← htm] at HP htold
      have hdl : (Sp.at_ room (s.data.toList.take k)).done.length ≤ 300 := Nat.le_trans (HDL.out (s.data.toList.take k)) hlen0
      have hkb : (k : Int) ≤ 300 := by omega
      have hsl := run_slice_to Try.underlying9 s (k + 1) ((k : Int) + 1) (by omega) (by omega)
      have HSU := Lib.hid (fun w => refsure_walk (s.extract 0 (k + 1)) w (by rw [ByteArray.size_extract]; omega))
      rw [list_to] at HSU
      have hsu := Sp.told_sure room (s.data.toList.take (k + 1))
      have hsz1 := Sp.sureB_small (s.data.toList.take (k + 1))
      have hrw := rowOf_lt (s.data.toList.take (k + 1))
      have HHD := Lib.hid (fun wx v (hx : SpT wx B b sb pb v room (s.data.toList.take (k + 1))) => sheld_walk wx B b sb pb v (Sp.at_ room (s.data.toList.take (k + 1))).now room (Rl.rowOf (s.data.toList.take (k + 1))) hx (by omega) (by omega))
      have hTS := bs_size (Rl.sureB (s.data.toList.take (k + 1)))
      have hmin : min ((Rl.rowOf (s.data.toList.take (k + 1))).n : Int) 1 = ((min (Rl.rowOf (s.data.toList.take (k + 1))).n 1 : Nat) : Int) := by omega
      have hmb : min (Rl.rowOf (s.data.toList.take (k + 1))).n 1 ≤ 1 := Nat.min_le_right _ _
      have hSU : ((Fr.bs (Rl.sureB (s.data.toList.take (k + 1)))).size : Int) = ((Sp.told room (s.data.toList.take (k + 1)) + (Sp.body (Sp.at_ room (s.data.toList.take (k + 1))).now).length : Nat) : Int) := by rw [bs_size, hsu]
      have hSb : ((Fr.bs (Rl.sureB (s.data.toList.take (k + 1)))).size : Int) ≤ 1500 := by rw [bs_size]; omega
      have hrb : (((Rl.rowOf (s.data.toList.take (k + 1))).n : Nat) : Int) ≤ 255 := by omega
      clear htm hsu hsz1 hrw hlen0 hlen hmb hTS
      generalize s.extract 0 (k + 1) = SX at *
      generalize Fr.bs (Rl.sureB (s.data.toList.take (k + 1))) = SU at *
      rcases htold with ⟨hpv, hdn⟩ | ⟨hpv, hdn⟩
      · have hts := Sp.told_same hdn
        rw [hpv] at HP
        have HDN := Lib.hid hdn
        have HTS := Lib.hid hts
        have hval : (((Sp.body (Sp.at_ room (s.data.toList.take (k + 1))).now).length + min (Rl.rowOf (s.data.toList.take (k + 1))).n 1 : Nat) : Int) = ((SU.size : Int) - (Sp.told room (s.data.toList.take k) : Int)) + min ((Rl.rowOf (s.data.toList.take (k + 1))).n : Int) 1 := by rw [hts] at hSU; omega
        rw [hval] at HHD
        have hb0 : (0 : Int) ≤ (SU.size : Int) - (Sp.told room (s.data.toList.take k) : Int) := by rw [hts] at hSU; omega
        have hb1 : (SU.size : Int) - (Sp.told room (s.data.toList.take k) : Int) ≤ 1500 := by omega
        have hb2 : (0 : Int) ≤ min ((Rl.rowOf (s.data.toList.take (k + 1))).n : Int) 1 := by omega
        have hb3 : min ((Rl.rowOf (s.data.toList.take (k + 1))).n : Int) 1 ≤ 1 := by omega
        simp only [noBlk] at HP
        clear hpv hdn hdl hts hval hSU hmin
        generalize (((Rl.rowOf (s.data.toList.take (k + 1))).b.toNat : Nat) : Int) = rb at *
        generalize hrn : (Rl.rowOf (s.data.toList.take (k + 1))).n = rn at *
        generalize hT0 : Sp.told room (s.data.toList.take k) = T0 at *
        clear hrn hT0
        go_wp2_with fail
        (with_reducible refine (HP.out).mono ?_)
        rintro e w2 ⟨rfl, v2, h1, h2⟩
        have HS2 := Lib.hid h1
        have HO2 := Lib.hid (HS.out.outs HO.out h2)
        have HB2 := Lib.hid (sp_below HB.out HS.out ⟨HB.out.size, HL1.out.1, HL1.out.2.1, HL1.out.2.2.1, HL1.out.2.2.2⟩ h2)
        clear h1 h2 HS HO HB HP
        go_upto_region 10 with (fail)
        have HS4 := Lib.hid (show SpT (w2.alloc (.cells #[.string ⟨#[]⟩, .int .u32 0, .int .i64 0] 37)) B b sb pb v2 room (s.data.toList.take (k + 1)) from HS2.out.low ((Below.refl _ _).alloc (Nat.le_refl _) _))
        have HO4 := Lib.hid (show (w2.alloc (.cells #[.string ⟨#[]⟩, .int .u32 0, .int .i64 0] 37)).ownsRow w.heap.size 37 3 u7 (Sp.at_ room (s.data.toList.take (k + 1))).done.length ((Sp.at_ room (s.data.toList.take (k + 1))).done.flatMap bcells) from by rw [HDN.out]; exact HO2.out.alloc _)
        have HB4 := Lib.hid (HB2.out.alloc HB2.out.size (.cells #[.string ⟨#[]⟩, .int .u32 0, .int .i64 0] 37))
        have HR4 := Lib.hid (Has.new w2 #[.string ⟨#[]⟩, .int .u32 0, .int .i64 0] 37)
        clear HS2 HO2 HB2 HDN
        generalize w2.heap.size = r at *
        generalize w2.alloc (.cells #[.string ⟨#[]⟩, .int .u32 0, .int .i64 0] 37) = w4 at *
        have c0 := HR4.out.cell 0; have c1 := HR4.out.cell 1; have c2 := HR4.out.cell 2
        simp only [List.getElem?_toArray, List.getElem?_cons_zero, List.getElem?_cons_succ] at c0 c1 c2
        clear HR4
        go_wp2_with fail
        (with_reducible refine (HSU.out _).mono ?_)
        rintro e w5 ⟨rfl, hb5⟩
        have HS5 := Lib.hid (HS4.out.low hb5)
        have HO5 := Lib.hid (ownsRow_keep HO4.out hb5)
        have HB5 := Lib.hid (HB4.out.trans (hb5.mono HB4.out.size))
        clear HS4 HO4 HB4 hb5 HSU
        go_upto_region 16 with (fail)
        have HS6 := Lib.hid (show SpT (w5.alloc (.cells #[.int .u8 rb, .int .i64 (rn : Int)] 50)) B b sb pb v2 room (s.data.toList.take (k + 1)) from HS5.out.low ((Below.refl _ _).alloc (Nat.le_refl _) _))
        have HO6 := Lib.hid (HO5.out.alloc (.cells #[.int .u8 rb, .int .i64 (rn : Int)] 50))
        have HB6 := Lib.hid (HB5.out.alloc HB5.out.size (.cells #[.int .u8 rb, .int .i64 (rn : Int)] 50))
        have HR6 := Lib.hid (Has.new w5 #[.int .u8 rb, .int .i64 (rn : Int)] 50)
        clear HS5 HO5 HB5
        generalize w5.heap.size = q at *
        generalize w5.alloc (.cells #[.int .u8 rb, .int .i64 (rn : Int)] 50) = w6 at *
        have x1 : ∀ x : Later w6, x.at.cell? ⟨q, 1, none⟩ = some (.int .i64 (rn : Int)) := fun x => x.cell (HR6.out.cell 1)
        have HVX := Lib.hid (fun x : Later w6 => later_call (x := x) (HHD.out x.at _ (HS6.out.low x.below)))
        clear HHD HR6
        refine region_later 11 (by kernel_rfl) (by kernel_rfl) ?_
        simp only [List.take_succ_cons, List.take_zero, List.drop_succ_cons, List.drop_zero]
        repeat (go_big_quiet_step (exact HVX.out _))
        refine wpQuiet_nil ?_
        rintro w' ⟨x, rfl⟩
        have HX := Lib.hid (show OfAt w x.at s room (k + 1) B b sb pb u7 from ⟨⟨v2, HS6.out.low x.below⟩, ownsRow_keep HO6.out x.below, HB6.out.trans (x.below.mono HB6.out.size)⟩)
        clear x1 HVX HS6 HO6 HB6
        generalize x.at = w7 at *
        go_wp2
        go_roundw
        case rel => exact ⟨k + 1, by go_num, hlt, by rw [HTS.out], HX.out⟩
        case measure => simp [intOf]; omega
      · have hts := Sp.told_more hdn
        have hT := bs_size (Sp.body (Sp.at_ room (s.data.toList.take k)).now)
        rw [← hT] at hts
        rw [hpv] at HP
        have HDN := Lib.hid hdn
        have HTS := Lib.hid hts
        have hbc : bcells (Sp.at_ room (s.data.toList.take k)).now = [.string (Fr.bs (Sp.body (Sp.at_ room (s.data.toList.take k)).now)), .int .u32 ((Crc.sumOf (Rl.join (Sp.at_ room (s.data.toList.take k)).now)).toNat : Int), .int .i64 ((Rl.join (Sp.at_ room (s.data.toList.take k)).now).length : Int)] := rfl
        have HBC := Lib.hid hbc
        simp only [blkV] at HP
        generalize Fr.bs (Sp.body (Sp.at_ room (s.data.toList.take k)).now) = T at *
        have hval : (((Sp.body (Sp.at_ room (s.data.toList.take (k + 1))).now).length + min (Rl.rowOf (s.data.toList.take (k + 1))).n 1 : Nat) : Int) = ((SU.size : Int) - ((Sp.told room (s.data.toList.take k) : Int) + (T.size : Int))) + min ((Rl.rowOf (s.data.toList.take (k + 1))).n : Int) 1 := by rw [hts] at hSU; omega
        rw [hval] at HHD
        have hb0 : (0 : Int) ≤ (SU.size : Int) - ((Sp.told room (s.data.toList.take k) : Int) + (T.size : Int)) := by rw [hts] at hSU; omega
        have hb1 : (SU.size : Int) - ((Sp.told room (s.data.toList.take k) : Int) + (T.size : Int)) ≤ 1500 := by omega
        have hb2 : (0 : Int) ≤ min ((Rl.rowOf (s.data.toList.take (k + 1))).n : Int) 1 := by omega
        have hb3 : min ((Rl.rowOf (s.data.toList.take (k + 1))).n : Int) 1 ≤ 1 := by omega
        have hb4 : (Sp.told room (s.data.toList.take k) : Int) + (T.size : Int) ≤ 1500 := by omega
        clear hpv hdn hbc hts hval hSU hmin hT
        generalize ((Crc.sumOf (Rl.join (Sp.at_ room (s.data.toList.take k)).now)).toNat : Int) = m at *
        generalize ((Rl.join (Sp.at_ room (s.data.toList.take k)).now).length : Int) = j at *
        generalize (((Rl.rowOf (s.data.toList.take (k + 1))).b.toNat : Nat) : Int) = rb at *
        generalize hrn : (Rl.rowOf (s.data.toList.take (k + 1))).n = rn at *
        generalize hT0 : Sp.told room (s.data.toList.take k) = T0 at *
        clear hrn hT0
        go_wp2_with fail
        (with_reducible refine (HP.out).mono ?_)
        rintro e w2 ⟨rfl, v2, h1, h2⟩
        have HS2 := Lib.hid h1
        have HO2 := Lib.hid (HS.out.outs HO.out h2)
        have HB2 := Lib.hid (sp_below HB.out HS.out ⟨HB.out.size, HL1.out.1, HL1.out.2.1, HL1.out.2.2.1, HL1.out.2.2.2⟩ h2)
        clear h1 h2 HS HO HB HP
        go_upto_region 10 with (fail)
        have HS3 := Lib.hid (show SpT (w2.alloc (.cells #[.string T, .int .u32 m, .int .i64 j] 37)) B b sb pb v2 room (s.data.toList.take (k + 1)) from HS2.out.low ((Below.refl _ _).alloc (Nat.le_refl _) _))
        have HO3 := Lib.hid (HO2.out.alloc (.cells #[.string T, .int .u32 m, .int .i64 j] 37))
        have HB3 := Lib.hid (HB2.out.alloc HB2.out.size (.cells #[.string T, .int .u32 m, .int .i64 j] 37))
        have HR3 := Lib.hid (Has.new w2 #[.string T, .int .u32 m, .int .i64 j] 37)
        have HT3 := Lib.hid (show w2.alloc (.cells #[.string T, .int .u32 m, .int .i64 j] 37) = w2.alloc (.cells #[.string T, .int .u32 m, .int .i64 j] 37) from rfl)
        have HOX := Lib.hid (blkown_not HO2.out (Nat.le_refl w2.heap.size))
        clear HS2 HO2 HB2 HT3
        generalize w2.heap.size = r at *
        generalize w2.alloc (.cells #[.string T, .int .u32 m, .int .i64 j] 37) = w3 at *
        have c0 := HR3.out.cell 0; have c1 := HR3.out.cell 1; have c2 := HR3.out.cell 2
        simp only [List.getElem?_toArray, List.getElem?_cons_zero, List.getElem?_cons_succ] at c0 c1 c2
        have hz3 : w.heap.size ≤ w3.heap.size := HB3.out.size
        have HA3 := Lib.hid (show SpT (w3.alloc (.cells #[.string T, .int .u32 m, .int .i64 j] 37)) B b sb pb v2 room (s.data.toList.take (k + 1)) from HS3.out.low ((Below.refl _ _).alloc (Nat.le_refl _) _))
        go_wp2_with (at_builtin; refine appendS Try.underlying27 info_blk rfl (by decide) rfl _ _ rfl w.heap.size _ _ _ rfl HO3.out #[.string T, .int .u32 m, .int .i64 j] rfl (by intro u hu; simp at hu; rcases hu with rfl | rfl | rfl <;> rfl) _ rfl rfl (by unfold maxLen; omega) (by omega) hz3 ?_)
        intro g cap w4 ho hc hb4 _ _ _
        have HR4 := Lib.hid (HR3.out.chg hc (fun hx => HOX.out (by simpa using hx)))
        have d0 := HR4.out.cell 0
        simp only [List.getElem?_toArray, List.getElem?_cons_zero] at d0
        have HS4 := Lib.hid (show SpT w4 B b sb pb v2 room (s.data.toList.take (k + 1)) from HS3.out.grew HO3.out hc)
        have HO4 := Lib.hid (show w4.ownsRow w.heap.size 37 3 (.slice (some ⟨g, 0, none⟩) ((Sp.at_ room (s.data.toList.take k)).done.length + 1) cap) (Sp.at_ room (s.data.toList.take (k + 1))).done.length ((Sp.at_ room (s.data.toList.take (k + 1))).done.flatMap bcells) from by rw [HDN.out, List.length_append, List.flatMap_append, List.flatMap_cons, HBC.out]; simpa using ho)
        have HB4 := Lib.hid (HB3.out.trans hb4)
        clear HS3 HO3 HB3 HR3 HA3 ho hc c0 c1 c2 HBC HDN HOX HR4
        generalize (Sp.at_ room (s.data.toList.take k)).done.length + 1 = dl at *
        go_wp2_with fail
        (with_reducible refine (HSU.out _).mono ?_)
        rintro e w5 ⟨rfl, hb5⟩
        have HS5 := Lib.hid (HS4.out.low hb5)
        have HO5 := Lib.hid (ownsRow_keep HO4.out hb5)
        have HB5 := Lib.hid (HB4.out.trans (hb5.mono HB4.out.size))
        clear HS4 HO4 HB4 hb5 HSU
        go_upto_region 16 with (fail)
        have HS6 := Lib.hid (show SpT (w5.alloc (.cells #[.int .u8 rb, .int .i64 (rn : Int)] 50)) B b sb pb v2 room (s.data.toList.take (k + 1)) from HS5.out.low ((Below.refl _ _).alloc (Nat.le_refl _) _))
        have HO6 := Lib.hid (HO5.out.alloc (.cells #[.int .u8 rb, .int .i64 (rn : Int)] 50))
        have HB6 := Lib.hid (HB5.out.alloc HB5.out.size (.cells #[.int .u8 rb, .int .i64 (rn : Int)] 50))
        have HR6 := Lib.hid (Has.new w5 #[.int .u8 rb, .int .i64 (rn : Int)] 50)
        clear HS5 HO5 HB5
        generalize w5.heap.size = q at *
        generalize w5.alloc (.cells #[.int .u8 rb, .int .i64 (rn : Int)] 50) = w6 at *
        have x1 : ∀ x : Later w6, x.at.cell? ⟨q, 1, none⟩ = some (.int .i64 (rn : Int)) := fun x => x.cell (HR6.out.cell 1)
        have HVX := Lib.hid (fun x : Later w6 => later_call (x := x) (HHD.out x.at _ (HS6.out.low x.below)))
        clear HHD HR6
        refine region_later 11 (by kernel_rfl) (by kernel_rfl) ?_
        simp only [List.take_succ_cons, List.take_zero, List.drop_succ_cons, List.drop_zero]
        repeat (go_big_quiet_step (exact HVX.out _))
        refine wpQuiet_nil ?_
        rintro w' ⟨x, rfl⟩
        have HX := Lib.hid (show OfAt w x.at s room (k + 1) B b sb pb (.slice (some ⟨g, 0, none⟩) dl cap) from ⟨⟨v2, HS6.out.low x.below⟩, ownsRow_keep HO6.out x.below, HB6.out.trans (x.below.mono HB6.out.size)⟩)
        clear x1 HVX HS6 HO6 HB6
        generalize x.at = w7 at *
        go_wp2
        go_roundw
        case rel => exact ⟨k + 1, by go_num, hlt, by rw [HTS.out]; go_num, HX.out⟩
        case measure => simp [intOf]; omega
    · have hkp : k = s.size := by omega
      subst hkp
      have hte : s.data.toList.take s.size = s.data.toList := List.take_of_length_le (by rw [llen]; exact Nat.le_refl _)
      rw [hte] at HS HO
      have hlt' : ¬ (s.size : Int) < (s.size : Int) := by omega
      have HP := Lib.hid (tend_walk wr B b sb pb v room s.data.toList HS.out h5 hm (by rw [llen]; omega))
      have HP2 := Lib.hid (fun w v h => tend_walk w B b sb pb v room [] h h5 hm (by decide))
      rw [show (Sp.at_ room []).now = [] from rfl, show Rl.rowOf [] = Rl.row0 from rfl, endL_nil room] at HP2
      have HHD := Lib.hid (fun w v (h : SpT w B b sb pb v room []) => sheld_walk w B b sb pb v [] room Rl.row0 h (by decide) (by decide))
      rw [show (Sp.body []).length + min Rl.row0.n 1 = 0 from rfl] at HHD
      have hel := HEL.out (Sp.at_ room s.data.toList).now (Rl.rowOf s.data.toList)
      have hdl := HDL.out s.data.toList
      rw [llen] at hdl
      have HLe := Lib.hid (show L.length = (Sp.at_ room s.data.toList).done.length + (endL room (Sp.at_ room s.data.toList).now (Rl.rowOf s.data.toList)).length ∧ L.flatMap bcells = (Sp.at_ room s.data.toList).done.flatMap bcells ++ (endL room (Sp.at_ room s.data.toList).now (Rl.rowOf s.data.toList)).flatMap bcells from
        ⟨by rw [HE.out, List.length_append], by rw [HE.out, List.flatMap_append]⟩)
      have HON := Lib.hid (bcells_one (endL room (Sp.at_ room s.data.toList).now (Rl.rowOf s.data.toList)))
      clear hte hlt
      generalize endL room (Sp.at_ room s.data.toList).now (Rl.rowOf s.data.toList) = E at *
      generalize (Sp.at_ room s.data.toList).done = D at *
      go_wp2_with fail
      refine (HP.out).mono ?_
      rintro e w2 ⟨ends, v2, rfl, h1, h2, h3⟩
      have HO2 := Lib.hid (HS.out.outs HO.out h3)
      have HB2 := Lib.hid (sp_below HB.out HS.out ⟨HB.out.size, HL1.out.1, HL1.out.2.1, HL1.out.2.2.1, HL1.out.2.2.2⟩ h3)
      have HU2 := Lib.hid h1
      have HS2 := Lib.hid h2
      clear h1 h2 h3 HS HO HB HP
      have hz2 : w.heap.size ≤ w2.heap.size := HB2.out.size
      go_wp2_with (at_builtin; refine appendRow Try.underlying27 info_blk rfl (by decide) rfl _ _ rfl w.heap.size _ _ _ _ _ _ _ rfl rfl HO2.out HU2.out HON.out (by unfold maxLen; omega) (by omega) hz2 ?_)
      intro v3 w3 ho hc hb3
      have HS3 := Lib.hid (show SpT w3 B b sb pb v2 room [] from HS2.out.grew HO2.out hc)
      have HO3 := Lib.hid (show w3.ownsRow w.heap.size 37 3 v3 L.length (L.flatMap bcells) from by rw [HLe.out.1, HLe.out.2]; exact ho)
      have HB3 := Lib.hid (HB2.out.trans hb3)
      clear ho hc hb3 HO2 HU2 HB2 HS2 HLe
      obtain ⟨a, c, rfl, hr1, -⟩ := rowS_owns HO3.out
      have HR1 := Lib.hid hr1
      clear hr1
      go_wp2_with fail
      (with_reducible refine (HRF.out _).mono ?_)
      rintro e w4 ⟨out2, rfl, ho, hb4⟩
      obtain ⟨a2, c2, rfl, hr2, -⟩ := rowS_owns ho
      have HR2 := Lib.hid hr2
      have HR1' := Lib.hid (HR1.out.keep hb4)
      have HS4 := Lib.hid (show SpT w4 B b sb pb v2 room [] from HS3.out.low hb4)
      have HB4 := Lib.hid (HB3.out.trans (hb4.mono HB3.out.size))
      clear ho hr2 hb4 HR1 HB3 HS3 HO3
      have HSX := Lib.hid (HSA.out _ _ _ _ _ HR1'.out HR2.out)
      clear HSA
      go_wp2_with fail
      (with_reducible refine (HSX.out).mono ?_)
      rintro e w5 ⟨rfl, hb5⟩
      have HS5 := Lib.hid (show SpT w5 B b sb pb v2 room [] from HS4.out.low hb5)
      have HB5 := Lib.hid (HB4.out.trans (hb5.mono HB4.out.size))
      clear hb5 HSX HS4 HB4
      go_wp2_with fail
      (with_reducible refine (HHD.out _ _ HS5.out).mono ?_)
      rintro e w6 ⟨rfl, hb6⟩
      have HS6 := Lib.hid (show SpT w6 B b sb pb v2 room [] from HS5.out.low hb6)
      have HB6 := Lib.hid (HB5.out.trans (hb6.mono HB5.out.size))
      clear hb6 HS5 HB5 HHD
      go_wp2_with fail
      (with_reducible refine (HP2.out _ _ HS6.out).mono ?_)
      rintro e w7 ⟨out3, v3, rfl, h1, h2, h3⟩
      obtain ⟨a3, c3, rfl, -, -⟩ := rowS_owns h1
      have HB7 := Lib.hid (sp_below HB6.out HS6.out ⟨HB6.out.size, HL1.out.1, HL1.out.2.1, HL1.out.2.2.1, HL1.out.2.2.2⟩ h3)
      clear h1 h2 h3 HS6 HB6 HP2
      go_wp2_with fail
      (with_reducible refine (five_walk _).mono ?_)
      rintro e w8 ⟨rfl, hb8⟩
      have HB8 := Lib.hid (HB7.out.trans (hb8.mono HB7.out.size))
      clear hb8
      go_wp2
      go_ret
      exact ⟨rfl, HB8.out⟩
set_option maxRecDepth 100000 in
set_option maxHeartbeats 800000 in
theorem splitBytes_walk (s : ByteArray) (n : Int) (w : World) (_ : s.size ≤ maxLen) (_ : (Lit.int .i64 n).wf = true) : Calls Try.prog 7 #[.string s, .int .i64 n] w fun e w' => e = .returned (.bool true) ∧ Below w.heap.size w w' := by
  by_cases hl : 300 < s.size
  · have hl' : (300 : Int) < (s.size : Int) := by omega
    clear hl
    go_enter Try.func7, Try.ntmps7
    go_wp2_with fail
    (with_reducible refine (five_walk _).mono ?_)
    rintro e w2 ⟨rfl, hb2⟩
    go_wp2
    go_ret
    exact ⟨rfl, hb2⟩
  · by_cases hr : roomOk n = true
    · obtain ⟨room, rfl⟩ : ∃ room : Nat, n = (room : Int) := ⟨n.toNat, by have := of_decide_eq_true hr; omega⟩
      exact splitBytes_in s room w hr (by omega)
    · have hr' : roomOk n = false := by simpa using hr
      have HRO := Lib.hid (fun w => refroom_walk n w)
      rw [hr'] at HRO
      have hl' : ¬ (300 : Int) < (s.size : Int) := by omega
      clear hr hr' hl
      go_enter Try.func7, Try.ntmps7
      go_wp2_with fail
      (with_reducible refine (HRO.out _).mono ?_)
      rintro e w2 ⟨rfl, rfl⟩
      go_wp2_with fail
      (with_reducible refine (five_walk _).mono ?_)
      rintro e w4 ⟨rfl, hb4⟩
      go_wp2
      go_ret
      exact ⟨rfl, hb4⟩
end Go.Proofs.Ytaldcdgafljedaa
