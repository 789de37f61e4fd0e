/- Texts rune by rune: Text; the reference's Is, Bytes. -/
import Derived.Test.YtdbcdacekejjjaaDoorTokWalk4
import Derived.Test.YtdbcdacekejjjaaDoorTokMath3
namespace Go.Proofs.YtdbcdacekejjjaaDoor
open Go.RowKit
set_option linter.unusedVariables false
set_option linter.unusedSimpArgs false

set_option maxRecDepth 100000 in
set_option maxHeartbeats 400000 in
theorem refis_walk (n : Int) (w : World) : Calls Tryd.prog 21 #[.int .i64 n] w fun e w' => e = .returned (.bool (decide (Tk.isR n))) ∧ w = w' := by
  by_cases c1 : 0 ≤ n
  · have e1 : decide (0 ≤ n) = true := by simpa using c1
    by_cases c2 : n ≤ 1114111
    · have e2 : decide (n ≤ 1114111) = true := by simpa using c2
      by_cases c3 : n < 55296
      · have e3 : decide (n < 55296) = true := by simpa using c3
        rw [decide_eq_true (show Tk.isR n from .inl ⟨c1, c3⟩)]
        clear c1 c2 c3
        go_enter Tryd.func21, Tryd.ntmps21
        go_wp2
        go_ret
        exact ⟨rfl, rfl⟩
      · have e3 : decide (n < 55296) = false := by simpa using c3
        by_cases c4 : 57343 < n
        · have e4 : decide (57343 < n) = true := by simpa using c4
          rw [decide_eq_true (show Tk.isR n from .inr ⟨c4, c2⟩)]
          clear c1 c2 c3 c4
          go_enter Tryd.func21, Tryd.ntmps21
          go_wp2
          go_ret
          exact ⟨rfl, rfl⟩
        · have e4 : decide (57343 < n) = false := by simpa using c4
          rw [decide_eq_false (show ¬ Tk.isR n by unfold Tk.isR; omega)]
          clear c1 c2 c3 c4
          go_enter Tryd.func21, Tryd.ntmps21
          go_wp2
          go_ret
          exact ⟨rfl, rfl⟩
    · have e2 : decide (n ≤ 1114111) = false := by simpa using c2
      rw [decide_eq_false (show ¬ Tk.isR n by unfold Tk.isR; omega)]
      clear c1 c2
      go_enter Tryd.func21, Tryd.ntmps21
      go_wp2
      go_ret
      exact ⟨rfl, rfl⟩
  · have e1 : decide (0 ≤ n) = false := by simpa using c1
    rw [decide_eq_false (show ¬ Tk.isR n by unfold Tk.isR; omega)]
    clear c1
    go_enter Tryd.func21, Tryd.ntmps21
    go_wp2
    go_ret
    exact ⟨rfl, rfl⟩
theorem enc_cv (n : Int) (cs : List Value) (hc : cs = Lib.runeCells n) (w : World) : (convert 46 9 (.slice (some ⟨w.heap.size, 0, none⟩) cs.length cs.length)).run Tryd.prog (w.alloc (.cells cs.toArray 5)) = .ok (.string (Fr.bs (Tk.enc n))) (w.alloc (.cells cs.toArray 5)) := by
  subst hc
  have hl := Lib.runeCells_le n
  have hr := rowAt_lit w (Lib.runeCells n) 5 (by unfold maxLen; omega)
  rw [← Lib.byteCells_encodeRune] at hr ⊢
  exact convert_row (bs := Tk.enc n) Tryd.underlying46 Tryd.underlying5 Tryd.underlying9 hr
set_option maxRecDepth 100000 in
set_option maxHeartbeats 400000 in
theorem refbytes_walk (n : Int) (w : World) (h : Tk.isR n) : Calls Tryd.prog 22 #[.int .i64 n] w fun e w' => e = .returned (.string (Fr.bs (Tk.enc n))) ∧ Below w.heap.size w w' := by
  rcases Tk.isR_cases n h with ⟨h0, h1⟩ | ⟨h0, h1⟩ | h3 | ⟨h0, h1⟩
  · have e1 : decide (n < 128) = true := by simp; omega
    have hcv : (convert 46 9 (.slice (some ⟨w.heap.size, 0, none⟩) 1 1)).run Tryd.prog (w.alloc (.cells #[Value.int IntKind.u8 n] 5)) = .ok (.string (Fr.bs (Tk.enc n))) (w.alloc (.cells #[Value.int IntKind.u8 n] 5)) := enc_cv n [Value.int IntKind.u8 n] (by unfold Lib.runeCells; rw [Lib.encodeRuneZ_one h0 h1]; rfl) w
    generalize Fr.bs (Tk.enc n) = T at *
    clear h
    go_enter Tryd.func22, Tryd.ntmps22
    go_wp2
    go_ret
    exact ⟨rfl, (Below.refl _ _).alloc (Nat.le_refl _) _⟩
  · have e1 : decide (n < 128) = false := by simp; omega
    have e2 : decide (n < 2048) = true := by simp; omega
    have hcv : (convert 46 9 (.slice (some ⟨w.heap.size, 0, none⟩) 2 2)).run Tryd.prog (w.alloc (.cells #[Value.int IntKind.u8 (192 + n / 64), Value.int IntKind.u8 (128 + n % 64)] 5)) = .ok (.string (Fr.bs (Tk.enc n))) (w.alloc (.cells #[Value.int IntKind.u8 (192 + n / 64), Value.int IntKind.u8 (128 + n % 64)] 5)) := enc_cv n [Value.int IntKind.u8 (192 + n / 64), Value.int IntKind.u8 (128 + n % 64)] (by unfold Lib.runeCells; rw [Lib.encodeRuneZ_two h0 h1]; rfl) w
    generalize Fr.bs (Tk.enc n) = T at *
    clear h
    go_enter Tryd.func22, Tryd.ntmps22
    go_wp2
    go_ret
    exact ⟨rfl, (Below.refl _ _).alloc (Nat.le_refl _) _⟩
  · have h0 : 2048 ≤ n := by omega
    have h1 : n ≤ 65535 := by omega
    have e1 : decide (n < 128) = false := by simp; omega
    have e2 : decide (n < 2048) = false := by simp; omega
    have e3 : decide (n < 65536) = true := by simp; omega
    have hcv : (convert 46 9 (.slice (some ⟨w.heap.size, 0, none⟩) 3 3)).run Tryd.prog (w.alloc (.cells #[Value.int IntKind.u8 (224 + n / 4096), Value.int IntKind.u8 (128 + n / 64 % 64), Value.int IntKind.u8 (128 + n % 64)] 5)) = .ok (.string (Fr.bs (Tk.enc n))) (w.alloc (.cells #[Value.int IntKind.u8 (224 + n / 4096), Value.int IntKind.u8 (128 + n / 64 % 64), Value.int IntKind.u8 (128 + n % 64)] 5)) := enc_cv n [Value.int IntKind.u8 (224 + n / 4096), Value.int IntKind.u8 (128 + n / 64 % 64), Value.int IntKind.u8 (128 + n % 64)] (by unfold Lib.runeCells; rw [Lib.encodeRuneZ_three h3]; rfl) w
    generalize Fr.bs (Tk.enc n) = T at *
    clear h h3
    go_enter Tryd.func22, Tryd.ntmps22
    go_wp2
    go_ret
    exact ⟨rfl, (Below.refl _ _).alloc (Nat.le_refl _) _⟩
  · have e1 : decide (n < 128) = false := by simp; omega
    have e2 : decide (n < 2048) = false := by simp; omega
    have e3 : decide (n < 65536) = false := by simp; omega
    have hcv : (convert 46 9 (.slice (some ⟨w.heap.size, 0, none⟩) 4 4)).run Tryd.prog (w.alloc (.cells #[Value.int IntKind.u8 (240 + n / 262144), Value.int IntKind.u8 (128 + n / 4096 % 64), Value.int IntKind.u8 (128 + n / 64 % 64), Value.int IntKind.u8 (128 + n % 64)] 5)) = .ok (.string (Fr.bs (Tk.enc n))) (w.alloc (.cells #[Value.int IntKind.u8 (240 + n / 262144), Value.int IntKind.u8 (128 + n / 4096 % 64), Value.int IntKind.u8 (128 + n / 64 % 64), Value.int IntKind.u8 (128 + n % 64)] 5)) := enc_cv n [Value.int IntKind.u8 (240 + n / 262144), Value.int IntKind.u8 (128 + n / 4096 % 64), Value.int IntKind.u8 (128 + n / 64 % 64), Value.int IntKind.u8 (128 + n % 64)] (by unfold Lib.runeCells; rw [Lib.encodeRuneZ_four h0 h1]; rfl) w
    generalize Fr.bs (Tk.enc n) = T at *
    clear h
    go_enter Tryd.func22, Tryd.ntmps22
    go_wp2
    go_ret
    exact ⟨rfl, (Below.refl _ _).alloc (Nat.le_refl _) _⟩
theorem own_grown {w w' : World} {B : Nat} {E : TypeId} {v : Value} {n : Nat} {xs : List Value} (h : w.ownsRow B E 1 v n xs) (hB : B ≤ w.heap.size) (hg : ∃ o, (w.alloc o).grownBy w' v.ownBlock) : Chg v.ownBlock.toList w w' ∧ Below B w w' := by
  obtain ⟨o, hg⟩ := hg
  have hc := chg_grown hg
  have h1 : Chg v.ownBlock.toList w w' := (below_chg ((Below.refl w.heap.size w).alloc (Nat.le_refl _) o) _).trans hc
  refine ⟨h1, below_of_chg (Below.refl B w) hB h1 (fun k hk => ?_)⟩
  obtain ⟨_, h⟩ := h
  rcases h with ⟨rfl, _⟩ | ⟨g, cap, cur, rfl, hb, _⟩
  · simp [Value.ownBlock] at hk
  · simp [Value.ownBlock] at hk; subst hk; exact hb
theorem text_take (ns : List Int) (k : Nat) (h : k < ns.length) : Lib.byteCells (Tk.text (ns.take (k + 1))) = Lib.byteCells (Tk.text (ns.take k)) ++ Lib.runeCells ns[k] := by
  rw [List.take_add_one, List.getElem?_eq_getElem h]
  unfold Tk.text
  rw [List.flatMap_append, ← Lib.byteCells_encodeRune]
  unfold Lib.byteCells
  rw [List.map_append]
  simp [Tk.enc]
theorem byteCells_len (l : List UInt8) : (Lib.byteCells l).length = l.length := by unfold Lib.byteCells; simp
def intI (n : Int) : Value := .int .i64 n
theorem intI_get (ns : List Int) (k : Nat) (h : k < ns.length) : (ns.map intI).getD k undef = .int .i64 ns[k] := by
  rw [List.getD, List.getElem?_map, List.getElem?_eq_getElem h]; rfl
/-- what Text tells -/
def textV (ns : List Int) : Value := if ns.all (fun n => decide (Tk.isR n)) = true then .tuple #[.string (Fr.bs (Tk.text ns)), .int .i64 0] else .tuple #[.string ⟨#[]⟩, .int .i64 1]
theorem all_bad (ns : List Int) (k : Nat) (h : k < ns.length) (hb : ¬ Tk.isR ns[k]) : textV ns = .tuple #[.string ⟨#[]⟩, .int .i64 1] := by
  unfold textV
  rw [if_neg]
  rw [List.all_eq_true]
  exact fun hx => hb (of_decide_eq_true (hx _ (List.getElem_mem h)))
theorem all_good (ns : List Int) (h : ∀ n ∈ ns, Tk.isR n) : textV ns = .tuple #[.string (Fr.bs (Tk.text ns)), .int .i64 0] := by
  unfold textV
  rw [if_pos]
  rw [List.all_eq_true]
  exact fun x hx => decide_eq_true (h x hx)
set_option maxRecDepth 100000 in
set_option maxHeartbeats 2000000 in
theorem ttext_walk (ns : List Int) (a : Option Addr) (c : Nat) (w : World) (hr : RowAt w a ns.length c (ns.map intI)) (hl : ns.length ≤ 1000) :
    Calls Tryd.prog 20 #[.slice a ns.length c] w fun e w' => e = .returned (textV ns) ∧ Below w.heap.size w w' := by
  have HR := Lib.hid hr
  clear hr
  have HBD := Lib.hid (all_bad ns)
  have HGD := Lib.hid (all_good ns)
  generalize hV : textV ns = V at *
  clear hV
  have hlb : (ns.length : Int) ≤ 1000 := by omega
  have HTT := Lib.hid (text_take ns)
  have HTL := Lib.hid (fun k => Tk.text_len_le (ns.take k))
  go_enter Tryd.func20, Tryd.ntmps20
  go_wp2_with fail
  go_loopw [4, 9] (fun x i wr => ∃ k : Nat, i = .int .i64 (k : Int) ∧ k ≤ ns.length ∧ (∀ n ∈ ns.take k, Tk.isR n) ∧ wr.ownsRow w.heap.size 5 1 x (Tk.text (ns.take k)).length (Lib.byteCells (Tk.text (ns.take k))) ∧ Below w.heap.size w wr) (fun _ i _ => ns.length - (intOf i).toNat)
  case atStart => exact ⟨0, rfl, Nat.zero_le _, fun n hn => by simp at hn, World.ownsRow_nil _ _ _ _, Below.refl _ _⟩
  case round =>
    obtain ⟨k, rfl, hk, hgood, hown, hbr⟩ := hrel
    have HG := Lib.hid hgood
    have HO := Lib.hid hown
    have HB := Lib.hid hbr
    by_cases hlt : k < ns.length
    · have hlt' : (k : Int) < (ns.length : Int) := by omega
      obtain ⟨ab, ao, ha, a0⟩ := (HR.out.keep hbr).at k hlt
      subst ha
      rw [intI_get ns k hlt] at a0
      have htt := HTT.out k hlt
      have htl := HTL.out k
      have htl2 := HTL.out (k + 1)
      rw [List.length_take] at htl htl2
      have hbk := HBD.out k hlt
      have hgk : Tk.isR ns[k] → ∀ n ∈ ns.take (k + 1), Tk.isR n := fun h n hn => by
        rw [List.take_add_one, List.getElem?_eq_getElem hlt] at hn
        rcases List.mem_append.1 hn with hn | hn
        · exact HG.out n hn
        · simp at hn; rw [hn]; exact h
      have HGK := Lib.hid hgk
      have HBK := Lib.hid hbk
      have hkb : (k : Int) ≤ 1000 := by omega
      have hln := congrArg List.length htt
      rw [byteCells_len, List.length_append, byteCells_len] at hln
      have HT2 := Lib.hid htt
      have HLN := Lib.hid hln
      clear hgk hbk hgood hown hbr htt hln
      generalize ns[k] = n at *
      by_cases c1 : n < 0
      · have e1 : decide (n < 0) = true := by simpa using c1
        have HV := Lib.hid (HBK.out (by unfold Tk.isR; omega))
        clear c1
        go_wp2
        go_ret2
        exact ⟨by rw [HV.out]; rfl, HB.out⟩
      · have e1 : decide (n < 0) = false := by simpa using c1
        by_cases c2 : 1114111 < n
        · have e2 : decide (1114111 < n) = true := by simpa using c2
          have HV := Lib.hid (HBK.out (by unfold Tk.isR; omega))
          clear c1 c2
          go_wp2
          go_ret2
          exact ⟨by rw [HV.out]; rfl, HB.out⟩
        · have e2 : decide (1114111 < n) = false := by simpa using c2
          by_cases c3 : 55296 ≤ n
          · have e3 : decide (55296 ≤ n) = true := by simpa using c3
            by_cases c4 : n ≤ 57343
            · have e4 : decide (n ≤ 57343) = true := by simpa using c4
              have HV := Lib.hid (HBK.out (by unfold Tk.isR; omega))
              clear c1 c2 c3 c4
              go_wp2
              go_ret2
              exact ⟨by rw [HV.out]; rfl, HB.out⟩
            · have e4 : decide (n ≤ 57343) = false := by simpa using c4
              have HNG := Lib.hid (HGK.out (by unfold Tk.isR; omega))
              have HAP := Lib.hid (fun w1 v (h : w1.ownsRow w.heap.size 5 1 v (Tk.text (ns.take k)).length (Lib.byteCells (Tk.text (ns.take k)))) (hB : w.heap.size ≤ w1.heap.size) => Tryd.utf8_AppendRune_plain w.heap.size v (Tk.text (ns.take k)).length _ n (by omega) (by omega) w1 h (by omega) hB)
              have hn1 : 0 ≤ n := by omega
              have hn2 : n ≤ 1114111 := by omega
              clear c1 c2 c3 c4
              go_wp2_with fail
              (with_reducible refine (HAP.out _ _ HO.out HB.out.size).mono ?_)
              rintro e w2 ⟨v2, rfl, ho, hg⟩
              have HO2 := Lib.hid (show w2.ownsRow w.heap.size 5 1 v2 (Tk.text (ns.take (k + 1))).length (Lib.byteCells (Tk.text (ns.take (k + 1)))) by rw [HT2.out, HLN.out]; exact ho)
              have HB2 := Lib.hid (HB.out.trans (own_grown HO.out HB.out.size hg).2)
              clear ho hg HO HB HAP
              go_wp2
              go_roundw
              case rel => exact ⟨k + 1, by go_num, hlt, HNG.out, HO2.out, HB2.out⟩
              case measure => simp [intOf]; omega
          · have e3 : decide (55296 ≤ n) = false := by simpa using c3
            have HNG := Lib.hid (HGK.out (by unfold Tk.isR; omega))
            have HAP := Lib.hid (fun w1 v (h : w1.ownsRow w.heap.size 5 1 v (Tk.text (ns.take k)).length (Lib.byteCells (Tk.text (ns.take k)))) (hB : w.heap.size ≤ w1.heap.size) => Tryd.utf8_AppendRune_plain w.heap.size v (Tk.text (ns.take k)).length _ n (by omega) (by omega) w1 h (by omega) hB)
            have hn1 : 0 ≤ n := by omega
            have hn2 : n ≤ 1114111 := by omega
            clear c1 c2 c3
            go_wp2_with fail
            (with_reducible refine (HAP.out _ _ HO.out HB.out.size).mono ?_)
            rintro e w2 ⟨v2, rfl, ho, hg⟩
            have HO2 := Lib.hid (show w2.ownsRow w.heap.size 5 1 v2 (Tk.text (ns.take (k + 1))).length (Lib.byteCells (Tk.text (ns.take (k + 1)))) by rw [HT2.out, HLN.out]; exact ho)
            have HB2 := Lib.hid (HB.out.trans (own_grown HO.out HB.out.size hg).2)
            clear ho hg HO HB HAP
            go_wp2
            go_roundw
            case rel => exact ⟨k + 1, by go_num, hlt, HNG.out, HO2.out, HB2.out⟩
            case measure => simp [intOf]; omega
    · have hlt' : ¬ (k : Int) < (ns.length : Int) := by omega
      rw [List.take_of_length_le (by omega : ns.length ≤ k)] at *
      have HV := Lib.hid (HGD.out HG.out)
      obtain ⟨ax, cx, rfl, hrow, -⟩ := rowAt_owns HO.out
      have hcv := convert_row (bs := Tk.text ns) Tryd.underlying46 Tryd.underlying5 Tryd.underlying9 hrow
      have HX := Lib.hid (show (⟨(Tk.text ns).toArray⟩ : ByteArray) = Fr.bs (Tk.text ns) from rfl)
      rw [HX.out] at hcv
      generalize Fr.bs (Tk.text ns) = T at *
      clear hgood hown hbr hrow
      go_wp2
      go_ret2
      exact ⟨by rw [HV.out]; rfl, HB.out⟩
end Go.Proofs.YtdbcdacekejjjaaDoor
