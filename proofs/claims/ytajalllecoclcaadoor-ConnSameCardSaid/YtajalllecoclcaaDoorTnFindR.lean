/- The reference: the tenant with a token. -/
import Derived.Test.YtajalllecoclcaaDoorTnWalk2
namespace Go.Proofs.YtajalllecoclcaaDoor
open Go.RowKit
set_option linter.unusedVariables false
set_option linter.unusedSimpArgs false

theorem tbset1 {B : Nat} {w w' : World} (h : Below B w w') (b i : Nat) (hb : B ≤ b) (v : Value) : Below B w (w'.setCell ⟨b, i, none⟩ v) := h.setCell hb v
set_option maxRecDepth 100000 in
set_option maxHeartbeats 1600000 in
theorem reffind_walk (l : List Tn.Ten) (key : ByteArray) (a : Option Addr) (len cap : Nat) (w : World) (hl : l.length = len) (hr : RowS w 5 a len cap (l.flatMap tncells)) (h100 : len ≤ 1000) :
    Calls Tryd.prog 49 #[.slice a len cap, .string key] w fun r w' => r = .returned (.int .i64 (Tn.find l key)) ∧ Below w.heap.size w w' := by
  have HR := Lib.hid hr
  have HA := Lib.hid (fun k h => Tn.findL_at key l k h)
  have HE := Lib.hid (fun k h => Tn.findL_end key l k h)
  have HS := Lib.hid (show Tn.findL key (l.drop 0) 0 = Tn.find l key by rw [List.drop_zero]; rfl)
  generalize Tn.find l key = R at *
  subst hl
  clear hr
  go_enter Tryd.func49, Tryd.ntmps49
  go_wp2_with fail
  go_loopw [9] (fun vi wr => ∃ (k : Nat), k ≤ l.length ∧ vi = .int .i64 k ∧ Tn.findL key (l.drop k) k = R ∧ Below w.heap.size w wr) (fun i _ => l.length - (intOf i).toNat)
  case atStart => exact ⟨0, Nat.zero_le _, rfl, HS.out, Below.refl _ _⟩
  case round =>
    obtain ⟨k, hk', rfl, hag, hB⟩ := hrel
    have HB := Lib.hid hB
    clear hB
    by_cases hlt : k < l.length
    · have hlt' : (k : Int) < (l.length : Int) := by omega
      obtain ⟨b, off, rfl, hb, a0, a1, a2, a3, a4⟩ := (HR.out.keep HB.out).ten k hlt hlt
      rw [HA.out k hlt] at hag
      generalize l[k] = x at *
      obtain ⟨n2, k2, m2, s2, q2⟩ := x
      simp only at a0 a1 a2 a3 a4 hag
      go_upto_region 4 with (fail)
      have HB1 := Lib.hid (HB.out.alloc HB.out.size (.cells #[.string n2, .string k2, .int .i64 m2, .int .i64 s2, .int .i64 q2] 61))
      have HX := Has.new wr #[.string n2, .string k2, .int .i64 m2, .int .i64 s2, .int .i64 q2] 61
      clear a0 a1 a2 a3 a4 HB hb
      generalize wr.heap.size = p at *
      generalize wr.alloc (.cells #[.string n2, .string k2, .int .i64 m2, .int .i64 s2, .int .i64 q2] 61) = w5 at *
      have x1 := HX.cell 1
      simp only [List.getElem?_toArray, List.getElem?_cons_zero, List.getElem?_cons_succ] at x1
      clear HX
      have e := tstr_eq k2 key
      by_cases c : k2 = key
      · have HF := Lib.hid (show (k : Int) = R by rw [← hag, if_pos c])
        rw [decide_eq_true c] at e
        clear c hag
        go_wp2
        (try simp only [Exit.inBlock, Exit.then])
        go_ret
        exact ⟨by rw [← HF.out]; rfl, HB1.out⟩
      · have HF := Lib.hid (show Tn.findL key (l.drop (k + 1)) (k + 1) = R by rw [← hag, if_neg c])
        rw [decide_eq_false c] at e
        clear c hag
        go_wp2_with fail
        go_roundw
        case rel => exact ⟨k + 1, hlt, by go_num, HF.out, HB1.out⟩
        case measure => simp [intOf]; omega
    · have hlt' : ¬ (k : Int) < (l.length : Int) := by omega
      rw [HE.out k (by omega)] at hag
      have HF := Lib.hid hag.symm
      clear hag
      go_wp2
      go_ret
      exact ⟨by rw [HF.out]; rfl, HB.out⟩
end Go.Proofs.YtajalllecoclcaaDoor
