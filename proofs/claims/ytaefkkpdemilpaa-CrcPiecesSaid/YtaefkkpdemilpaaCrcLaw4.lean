/- Walk of the law CrcPieces. -/
import Derived.Test.YtaefkkpdemilpaaCrcNine
import Derived.Test.YtaefkkpdemilpaaRowAt
namespace Go.Proofs.Ytaefkkpdemilpaa
open Go.RowKit

theorem run_append (l : List UInt8) (x : ByteArray) (m : ByteArray) (h : l = m.data.toList) : Crc.run (Crc.run (BitVec.allOnes 32) l) x.data.toList = Crc.run (BitVec.allOnes 32) (m ++ x).data.toList := by
  subst h
  simp [Crc.run, List.foldl_append]
theorem run_one (s : BitVec 32) (x : ByteArray) (h : x.size = 1) : Crc.step s (x[0]'(by omega)) = Crc.run s x.data.toList := by
  have : x.data.toList = [x[0]'(by omega)] := by
    apply List.ext_getElem
    · simpa using h
    · intro i h1 h2
      have : i = 0 := by simp at h2; omega
      subst this
      rfl
  rw [this]; rfl

set_option maxRecDepth 100000 in
set_option maxHeartbeats 1000000 in
theorem crcPieces_walk (ss : List ByteArray) (a : Option Addr) (len cap : Nat) (reset : Int) (w : World) (h : RowAt w a len cap (ss.map Value.string)) (hss : ∀ s ∈ ss, s.size ≤ maxLen) (_hr : (Lit.int .i64 reset).wf = true) :
    Calls Try.prog 6 #[.slice a len cap, .int .i64 reset] w fun e w' => e = .returned (.bool true) ∧ Below w.heap.size w w' := by
  have hlen : ss.length = len := by simpa using h.length
  have hm := Nat.le_trans h.le h.max
  unfold maxLen at hm
  by_cases hsmall : len ≤ 20
  · have Hr := Lib.hid h
    have Hl := Lib.hid hlen
    have Hss := Lib.hid hss
    clear h hlen hss
    go_enter Try.func6, Try.ntmps6
    go_wp2_with fail
    refine (new_walk _).mono ?_
    rintro e w1 ⟨b, rfl, hb0, hs1, hb⟩
    go_wp2_with fail
    go_loopw [6, 16] (fun v i wr => ∃ (k : Nat) (m : ByteArray), k ≤ len ∧ i = .int .i64 k ∧ v = .string m ∧ SumAt wr b (Crc.run (BitVec.allOnes 32) m.data.toList) ∧ Below w.heap.size w wr ∧ m.size ≤ 100 * k) (fun _ i _ => len - (intOf i).toNat)
    case atStart => exact ⟨0, ⟨#[]⟩, Nat.zero_le _, rfl, rfl, hs1, hb, by decide⟩
    case round =>
      obtain ⟨k, m, hk, rfl, rfl, hsum, hbr, hms⟩ := hrel
      by_cases hlt : k < len
      · obtain ⟨p, off, ha, hcell⟩ := (Hr.out.keep hbr).at k hlt
        have hkl : k < ss.length := by rw [Hl.out]; exact hlt
        have hget : (ss.map Value.string).getD k undef = .string ss[k] := by simp [hkl]
        rw [hget] at hcell
        have hxs := Hss.out _ (List.getElem_mem hkl)
        subst ha
        clear hget
        generalize ss[k] = x at *
        unfold maxLen at hxs
        have HS := Lib.hid hsum
        have HB := Lib.hid hbr
        clear hsum hbr
        by_cases hx : x.size ≤ 100
        · have hxi : ¬ (100 : Int) < (x.size : Int) := by omega
          by_cases hrst : (k : Int) = reset
          · have hq : ((k : Int) == reset) = true := by simpa using hrst
            clear hrst
            by_cases hone : x.size = 1
            · have hone2 : ((x.size : Int) == 1) = true := by simp [hone]
              have Hone := Lib.hid hone
              have hpos : 0 < x.size := by omega
              clear hone
              go_wp2_with fail
              refine (reset_walk b _ _ HS.out).mono ?_
              rintro e w2 ⟨rfl, hs2, hc2⟩
              have hb2 := below_of_chg HB.out HB.out.size hc2 (by simpa using hb0)
              clear hc2
              go_wp2_with fail
              refine (put_walk b _ (x[0]'(by have := Hone.out; omega)) _ hs2).mono ?_
              rw [run_one _ _ Hone.out]
              rintro e w3 ⟨rfl, hs3, hc3⟩
              have e0 : BitVec.allOnes 32 = Crc.run (BitVec.allOnes 32) (⟨#[]⟩ : ByteArray).data.toList := rfl
              rw [e0, run_append _ x ⟨#[]⟩ rfl] at hs3
              clear e0
              have hb3 := below_of_chg hb2 (hb2).size hc3 (by simpa using hb0)
              clear hc3
              obtain ⟨st, hst⟩ : ∃ st, st = Crc.run (BitVec.allOnes 32) ((⟨#[]⟩ : ByteArray) ++ x).data.toList := ⟨_, rfl⟩
              rw [← hst] at hs3
              have Hst := Lib.hid hst
              have Hs3 := Lib.hid hs3
              clear hst hs3
              go_wp2_with fail
              refine (value_walk b _ _ Hs3.out).mono ?_
              rintro e w4 ⟨rfl, rfl⟩
              go_wp2_with fail
              refine (refof_walk _ _ (by rw [ByteArray.size_append]; have e1 : (⟨#[]⟩ : ByteArray).size = 0 := rfl; unfold maxLen; omega)).mono ?_
              rintro e w5 ⟨rfl, rfl⟩
              rw [show Crc.sumOf ((⟨#[]⟩ : ByteArray) ++ x).data.toList = ~~~ st from by rw [Hst.out]; rfl]
              unfold Go.Proofs.Ytaefkkpdemilpaa.u32
              go_wp2
              go_roundw
              case rel => exact ⟨k + 1, (⟨#[]⟩ : ByteArray) ++ x, by omega, by go_num, rfl, (by rw [← Hst.out]; exact Hs3.out), hb3, by rw [ByteArray.size_append]; have e1 : (⟨#[]⟩ : ByteArray).size = 0 := rfl; omega⟩
              case measure => simp [intOf]; omega
            · have hone2 : ((x.size : Int) == 1) = false := by simp; omega
              clear hone
              go_wp2_with fail
              refine (reset_walk b _ _ HS.out).mono ?_
              rintro e w2 ⟨rfl, hs2, hc2⟩
              have hb2 := below_of_chg HB.out HB.out.size hc2 (by simpa using hb0)
              clear hc2
              go_wp2_with fail
              refine (text_walk b _ x _ (by unfold maxLen; omega) hs2).mono ?_
              rintro e w3 ⟨rfl, hs3, hc3⟩
              have e0 : BitVec.allOnes 32 = Crc.run (BitVec.allOnes 32) (⟨#[]⟩ : ByteArray).data.toList := rfl
              rw [e0, run_append _ x ⟨#[]⟩ rfl] at hs3
              clear e0
              have hb3 := below_of_chg hb2 (hb2).size hc3 (by simpa using hb0)
              clear hc3
              obtain ⟨st, hst⟩ : ∃ st, st = Crc.run (BitVec.allOnes 32) ((⟨#[]⟩ : ByteArray) ++ x).data.toList := ⟨_, rfl⟩
              rw [← hst] at hs3
              have Hst := Lib.hid hst
              have Hs3 := Lib.hid hs3
              clear hst hs3
              go_wp2_with fail
              refine (value_walk b _ _ Hs3.out).mono ?_
              rintro e w4 ⟨rfl, rfl⟩
              go_wp2_with fail
              refine (refof_walk _ _ (by rw [ByteArray.size_append]; have e1 : (⟨#[]⟩ : ByteArray).size = 0 := rfl; unfold maxLen; omega)).mono ?_
              rintro e w5 ⟨rfl, rfl⟩
              rw [show Crc.sumOf ((⟨#[]⟩ : ByteArray) ++ x).data.toList = ~~~ st from by rw [Hst.out]; rfl]
              unfold Go.Proofs.Ytaefkkpdemilpaa.u32
              go_wp2
              go_roundw
              case rel => exact ⟨k + 1, (⟨#[]⟩ : ByteArray) ++ x, by omega, by go_num, rfl, (by rw [← Hst.out]; exact Hs3.out), hb3, by rw [ByteArray.size_append]; have e1 : (⟨#[]⟩ : ByteArray).size = 0 := rfl; omega⟩
              case measure => simp [intOf]; omega
          · have hq : ((k : Int) == reset) = false := by simpa using hrst
            clear hrst
            by_cases hone : x.size = 1
            · have hone2 : ((x.size : Int) == 1) = true := by simp [hone]
              have Hone := Lib.hid hone
              have hpos : 0 < x.size := by omega
              clear hone
              go_wp2_with fail
              refine (put_walk b _ (x[0]'(by have := Hone.out; omega)) _ HS.out).mono ?_
              rw [run_one _ _ Hone.out]
              rintro e w3 ⟨rfl, hs3, hc3⟩
              rw [run_append _ x m rfl] at hs3
              have hb3 := below_of_chg HB.out (HB.out).size hc3 (by simpa using hb0)
              clear hc3
              obtain ⟨st, hst⟩ : ∃ st, st = Crc.run (BitVec.allOnes 32) (m ++ x).data.toList := ⟨_, rfl⟩
              rw [← hst] at hs3
              have Hst := Lib.hid hst
              have Hs3 := Lib.hid hs3
              clear hst hs3
              go_wp2_with fail
              refine (value_walk b _ _ Hs3.out).mono ?_
              rintro e w4 ⟨rfl, rfl⟩
              go_wp2_with fail
              refine (refof_walk _ _ (by rw [ByteArray.size_append]; have e1 : (⟨#[]⟩ : ByteArray).size = 0 := rfl; unfold maxLen; omega)).mono ?_
              rintro e w5 ⟨rfl, rfl⟩
              rw [show Crc.sumOf (m ++ x).data.toList = ~~~ st from by rw [Hst.out]; rfl]
              unfold Go.Proofs.Ytaefkkpdemilpaa.u32
              go_wp2
              go_roundw
              case rel => exact ⟨k + 1, m ++ x, by omega, by go_num, rfl, (by rw [← Hst.out]; exact Hs3.out), hb3, by rw [ByteArray.size_append]; have e1 : (⟨#[]⟩ : ByteArray).size = 0 := rfl; omega⟩
              case measure => simp [intOf]; omega
            · have hone2 : ((x.size : Int) == 1) = false := by simp; omega
              clear hone
              go_wp2_with fail
              refine (text_walk b _ x _ (by unfold maxLen; omega) HS.out).mono ?_
              rintro e w3 ⟨rfl, hs3, hc3⟩
              rw [run_append _ x m rfl] at hs3
              have hb3 := below_of_chg HB.out (HB.out).size hc3 (by simpa using hb0)
              clear hc3
              obtain ⟨st, hst⟩ : ∃ st, st = Crc.run (BitVec.allOnes 32) (m ++ x).data.toList := ⟨_, rfl⟩
              rw [← hst] at hs3
              have Hst := Lib.hid hst
              have Hs3 := Lib.hid hs3
              clear hst hs3
              go_wp2_with fail
              refine (value_walk b _ _ Hs3.out).mono ?_
              rintro e w4 ⟨rfl, rfl⟩
              go_wp2_with fail
              refine (refof_walk _ _ (by rw [ByteArray.size_append]; have e1 : (⟨#[]⟩ : ByteArray).size = 0 := rfl; unfold maxLen; omega)).mono ?_
              rintro e w5 ⟨rfl, rfl⟩
              rw [show Crc.sumOf (m ++ x).data.toList = ~~~ st from by rw [Hst.out]; rfl]
              unfold Go.Proofs.Ytaefkkpdemilpaa.u32
              go_wp2
              go_roundw
              case rel => exact ⟨k + 1, m ++ x, by omega, by go_num, rfl, (by rw [← Hst.out]; exact Hs3.out), hb3, by rw [ByteArray.size_append]; have e1 : (⟨#[]⟩ : ByteArray).size = 0 := rfl; omega⟩
              case measure => simp [intOf]; omega
        · go_wp2_with fail
          refine (nine_walk _).mono ?_
          rintro e w3 ⟨rfl, hb2⟩
          go_wp2
          go_ret
          exact ⟨rfl, HB.out.trans (hb2.mono HB.out.size)⟩
      · obtain ⟨st, hst⟩ : ∃ st, st = Crc.run (BitVec.allOnes 32) m.data.toList := ⟨_, rfl⟩
        rw [← hst] at hsum
        have Hst := Lib.hid hst
        have HS := Lib.hid hsum
        have HB := Lib.hid hbr
        clear hsum hbr hst
        go_wp2_with fail
        refine (value_walk b _ _ HS.out).mono ?_
        rintro e w4 ⟨rfl, rfl⟩
        go_wp2_with fail
        refine (refof_walk _ _ (by unfold maxLen; omega)).mono ?_
        rintro e w5 ⟨rfl, rfl⟩
        rw [show Crc.sumOf m.data.toList = ~~~ st from by rw [Hst.out]; rfl]
        unfold Go.Proofs.Ytaefkkpdemilpaa.u32
        go_wp2_with fail
        refine (nine_walk _).mono ?_
        rintro e w3 ⟨rfl, hb2⟩
        go_wp2
        go_ret
        exact ⟨rfl, HB.out.trans (hb2.mono HB.out.size)⟩
  · go_enter Try.func6, Try.ntmps6
    go_wp2_with fail
    refine (nine_walk _).mono ?_
    rintro e w3 ⟨rfl, hb2⟩
    go_wp2
    go_ret
    exact ⟨rfl, hb2⟩
end Go.Proofs.Ytaefkkpdemilpaa
