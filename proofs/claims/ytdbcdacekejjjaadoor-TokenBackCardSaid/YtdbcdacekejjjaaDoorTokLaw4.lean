/- TokenTexts, TokenBack. -/
import Derived.Test.YtdbcdacekejjjaaDoorTokWalk5
import Derived.Test.YtdbcdacekejjjaaDoorTokLaw2
namespace Go.Proofs.YtdbcdacekejjjaaDoor
open Go.RowKit
set_option linter.unusedVariables false
set_option linter.unusedSimpArgs false

theorem text_take2 (ns : List Int) (k : Nat) (h : k < ns.length) : Fr.bs (Tk.text (ns.take k)) ++ Fr.bs (Tk.enc ns[k]) = Fr.bs (Tk.text (ns.take (k + 1))) := by
  rw [bs_app, List.take_add_one, List.getElem?_eq_getElem h]
  unfold Tk.text
  rw [List.flatMap_append]
  simp
theorem runes_ints (ns : List Int) (h : ∀ n ∈ ns, Tk.isR n) : (Tk.runes (Tk.text ns)).map intV = ns.map intI ∧ (Tk.runes (Tk.text ns)).length = ns.length := by
  have e := Tk.runes_text ns h
  refine ⟨?_, ?_⟩
  · have : (Tk.runes (Tk.text ns)).map intV = ((Tk.runes (Tk.text ns)).map (·.1)).map intI := by rw [List.map_map]; rfl
    rw [this, e]
  · have := congrArg List.length e
    rwa [List.length_map] at this
theorem all_not (ns : List Int) (h : ¬ ∀ n ∈ ns, Tk.isR n) : textV ns = .tuple #[.string ⟨#[]⟩, .int .i64 1] := by
  unfold textV
  rw [if_neg]
  rw [List.all_eq_true]
  exact fun hx => h (fun n hn => of_decide_eq_true (hx n hn))
set_option maxRecDepth 100000 in
set_option maxHeartbeats 2000000 in
theorem ttexts_good (ns : List Int) (a : Option Addr) (c : Nat) (w : World) (hr : RowAt w a ns.length c (ns.map intI)) (hl : ns.length ≤ 100) (hT : Tabs w) (hall : ∀ n ∈ ns, Tk.isR n) :
    Calls Tryd.prog 7 #[.slice a ns.length c] w fun e w' => e = .returned (.bool true) ∧ Below w.heap.size w w' := by
  have HT := Lib.hid hT
  clear hT
  have HR := Lib.hid hr
  have HX := Lib.hid (ttext_walk ns a c)
  have hlb : (ns.length : Int) ≤ 100 := by omega
  have hl' : ¬ (100 : Int) < (ns.length : Int) := by omega
  clear hr
  have HALL := Lib.hid hall
  have hRI := runes_ints ns hall
  have htl0 := Tk.text_len_le ns
  have HV := Lib.hid (all_good ns hall)
  have HRN := Lib.hid (fun w h => runes_walk (Fr.bs (Tk.text ns)) w h (by rw [bs_size]; omega))
  rw [Fr.list_bs, hRI.1, hRI.2] at HRN
  have HX1 := Lib.hid (HX.out w HR.out (by omega))
  rw [HV.out] at HX1
  have HTE := Lib.hid (show Fr.bs (Tk.text (ns.take ns.length)) = Fr.bs (Tk.text ns) by rw [List.take_length])
  clear hl hall hRI HX HV
  generalize hTX : Fr.bs (Tk.text ns) = TX at *
  clear hTX
  go_enter Tryd.func7, Tryd.ntmps7
  go_wp2_with fail
  (with_reducible refine (HX1.out).mono ?_)
  rintro e w1 ⟨rfl, hb1⟩
  have HR1 := Lib.hid (HR.out.keep hb1)
  have HB1 := Lib.hid hb1
  clear hb1 HX1
  go_wp2_with fail
  go_loopw [5, 19] (fun x i wr => ∃ k : Nat, i = .int .i64 (k : Int) ∧ k ≤ ns.length ∧ (∀ n ∈ ns.take k, Tk.isR n) ∧ x = .string (Fr.bs (Tk.text (ns.take k))) ∧ Below w1.heap.size w1 wr) (fun _ i _ => ns.length - (intOf i).toNat)
  case atStart => exact ⟨0, rfl, Nat.zero_le _, fun n hn => by simp at hn, rfl, Below.refl _ _⟩
  case round =>
    obtain ⟨k, rfl, hk, hgood, rfl, hbr⟩ := hrel
    have HG := Lib.hid hgood
    have HB := Lib.hid hbr
    clear hgood
    by_cases hlt : k < ns.length
    · have hlt' : (k : Int) < (ns.length : Int) := by omega
      obtain ⟨ab, ao, ha, a0⟩ := (HR1.out.keep hbr).at k hlt
      subst ha
      rw [intI_get ns k hlt] at a0
      have hkb : (k : Int) ≤ 100 := by omega
      have HTT := Lib.hid (text_take2 ns k hlt)
      have htl := Tk.text_len_le (ns.take k)
      rw [List.length_take] at htl
      have hz1 := bs_size (Tk.text (ns.take k))
      have hz2 := bs_size (Tk.enc ns[k])
      have hel := Tk.enc_len ns[k]
      have HGK := Lib.hid (show Tk.isR ns[k] → ∀ n ∈ ns.take (k + 1), Tk.isR n from fun h n hn => by
        rw [List.take_add_one, List.getElem?_eq_getElem hlt] at hn
        rcases List.mem_append.1 hn with hn | hn
        · exact HG.out n hn
        · simp at hn; rw [hn]; exact h)
      have HMEM := Lib.hid (List.getElem_mem hlt)
      have HIS := Lib.hid (fun w => refis_walk ns[k] w)
      have HBY := Lib.hid (fun w (h : Tk.isR (ns[k]'hlt)) => refbytes_walk (ns[k]'hlt) w h)
      clear hbr
      generalize ns[k] = n at *
      generalize Fr.bs (Tk.text (ns.take k)) = S at *
      generalize Fr.bs (Tk.enc n) = S2 at *
      have hcat : S.size + S2.size ≤ 10000000 := by omega
      have hn := HALL.out n HMEM.out
      rw [decide_eq_true hn] at HIS
      have HGN := Lib.hid (HGK.out hn)
      have HBYN := Lib.hid (fun w => HBY.out w hn)
      clear hn HBY HGK
      go_wp2_with fail
      (with_reducible refine (HIS.out _).mono ?_)
      rintro e w3 ⟨rfl, rfl⟩
      go_wp2_with fail
      (with_reducible refine (HBYN.out _).mono ?_)
      rintro e w4 ⟨rfl, hb4⟩
      have HB4 := Lib.hid (HB.out.trans (hb4.mono HB.out.size))
      clear hb4 HB
      go_wp2
      go_roundw
      case rel => exact ⟨k + 1, by go_num, hlt, HGN.out, by rw [← HTT.out], HB4.out⟩
      case measure => simp [intOf]; omega
    · have hlt' : ¬ (k : Int) < (ns.length : Int) := by omega
      have hke : k = ns.length := by omega
      subst hke
      rw [HTE.out]
      have HB2 := Lib.hid (HB1.out.trans (hbr.mono HB1.out.size))
      have HR2 := Lib.hid (HR1.out.keep hbr)
      clear hbr HB HR1
      go_wp2_with fail
      (with_reducible refine (HRN.out _ (HT.out.keep HB2.out)).mono ?_)
      rintro e w3 ⟨v, rfl, ho, hb3⟩
      obtain ⟨ax, cx, rfl, hrow, -⟩ := rowAt_owns ho
      have HB3 := Lib.hid (HB2.out.trans (hb3.mono HB2.out.size))
      have HIN := Lib.hid (ints_walk ax a ns.length cx c _ w3 hrow (HR2.out.keep hb3) (fun i hi => ⟨_, intI_get ns i hi⟩) (by omega))
      clear ho hrow hb3 HRN HR2
      go_wp2_with fail
      (with_reducible refine (HIN.out).mono ?_)
      rintro e w4 ⟨rfl, hb4⟩
      have HB4 := Lib.hid (HB3.out.trans (hb4.mono HB3.out.size))
      clear hb4 HIN
      go_wp2_with fail
      (with_reducible refine (tfour_walk _ (HT.out.keep HB4.out)).mono ?_)
      rintro e w5 ⟨rfl, hb5⟩
      have HB5 := Lib.hid (HB4.out.trans (hb5.mono HB4.out.size))
      clear hb5
      go_wp2
      go_ret
      exact ⟨rfl, HB5.out⟩
set_option maxRecDepth 100000 in
set_option maxHeartbeats 2000000 in
theorem ttexts_bad (ns : List Int) (a : Option Addr) (c : Nat) (w : World) (hr : RowAt w a ns.length c (ns.map intI)) (hl : ns.length ≤ 100) (hT : Tabs w) (hall : ¬ ∀ n ∈ ns, Tk.isR n) :
    Calls Tryd.prog 7 #[.slice a ns.length c] w fun e w' => e = .returned (.bool true) ∧ Below w.heap.size w w' := by
  have HT := Lib.hid hT
  clear hT
  have HR := Lib.hid hr
  have HX := Lib.hid (ttext_walk ns a c)
  have hlb : (ns.length : Int) ≤ 100 := by omega
  have hl' : ¬ (100 : Int) < (ns.length : Int) := by omega
  clear hr
  have HALL := Lib.hid hall
  have HV := Lib.hid (all_not ns hall)
  have HX1 := Lib.hid (HX.out w HR.out (by omega))
  rw [HV.out] at HX1
  clear hl hall HX HV
  go_enter Tryd.func7, Tryd.ntmps7
  go_wp2_with fail
  (with_reducible refine (HX1.out).mono ?_)
  rintro e w1 ⟨rfl, hb1⟩
  have HR1 := Lib.hid (HR.out.keep hb1)
  have HB1 := Lib.hid hb1
  clear hb1 HX1
  go_wp2_with fail
  go_loopw [5, 19] (fun x i wr => ∃ k : Nat, i = .int .i64 (k : Int) ∧ k ≤ ns.length ∧ (∀ n ∈ ns.take k, Tk.isR n) ∧ x = .string (Fr.bs (Tk.text (ns.take k))) ∧ Below w1.heap.size w1 wr) (fun _ i _ => ns.length - (intOf i).toNat)
  case atStart => exact ⟨0, rfl, Nat.zero_le _, fun n hn => by simp at hn, rfl, Below.refl _ _⟩
  case round =>
    obtain ⟨k, rfl, hk, hgood, rfl, hbr⟩ := hrel
    have HG := Lib.hid hgood
    have HB := Lib.hid hbr
    clear hgood
    by_cases hlt : k < ns.length
    · have hlt' : (k : Int) < (ns.length : Int) := by omega
      obtain ⟨ab, ao, ha, a0⟩ := (HR1.out.keep hbr).at k hlt
      subst ha
      rw [intI_get ns k hlt] at a0
      have hkb : (k : Int) ≤ 100 := by omega
      have HTT := Lib.hid (text_take2 ns k hlt)
      have htl := Tk.text_len_le (ns.take k)
      rw [List.length_take] at htl
      have hz1 := bs_size (Tk.text (ns.take k))
      have hz2 := bs_size (Tk.enc ns[k])
      have hel := Tk.enc_len ns[k]
      have HGK := Lib.hid (show Tk.isR ns[k] → ∀ n ∈ ns.take (k + 1), Tk.isR n from fun h n hn => by
        rw [List.take_add_one, List.getElem?_eq_getElem hlt] at hn
        rcases List.mem_append.1 hn with hn | hn
        · exact HG.out n hn
        · simp at hn; rw [hn]; exact h)
      have HMEM := Lib.hid (List.getElem_mem hlt)
      have HIS := Lib.hid (fun w => refis_walk ns[k] w)
      have HBY := Lib.hid (fun w (h : Tk.isR (ns[k]'hlt)) => refbytes_walk (ns[k]'hlt) w h)
      clear hbr
      generalize ns[k] = n at *
      generalize Fr.bs (Tk.text (ns.take k)) = S at *
      generalize Fr.bs (Tk.enc n) = S2 at *
      have hcat : S.size + S2.size ≤ 10000000 := by omega
      by_cases hn : Tk.isR n
      · rw [decide_eq_true hn] at HIS
        have HGN := Lib.hid (HGK.out hn)
        have HBYN := Lib.hid (fun w => HBY.out w hn)
        clear hn HBY HGK
        go_wp2_with fail
        (with_reducible refine (HIS.out _).mono ?_)
        rintro e w3 ⟨rfl, rfl⟩
        go_wp2_with fail
        (with_reducible refine (HBYN.out _).mono ?_)
        rintro e w4 ⟨rfl, hb4⟩
        have HB4 := Lib.hid (HB.out.trans (hb4.mono HB.out.size))
        clear hb4 HB
        go_wp2
        go_roundw
        case rel => exact ⟨k + 1, by go_num, hlt, HGN.out, by rw [← HTT.out], HB4.out⟩
        case measure => simp [intOf]; omega
      · rw [decide_eq_false hn] at HIS
        have HB2 := Lib.hid (HB1.out.trans (HB.out.mono HB1.out.size))
        clear hn HBY HGK
        go_wp2_with fail
        (with_reducible refine (HIS.out _).mono ?_)
        rintro e w3 ⟨rfl, rfl⟩
        go_wp2_with fail
        (with_reducible refine (tfour_walk _ (HT.out.keep HB2.out)).mono ?_)
        rintro e w5 ⟨rfl, hb5⟩
        have HB5 := Lib.hid (HB2.out.trans (hb5.mono HB2.out.size))
        clear hb5
        go_wp2
        go_ret
        exact ⟨rfl, HB5.out⟩
    · exfalso
      refine HALL.out (fun n hn => HG.out n ?_)
      rw [List.take_of_length_le (by omega : ns.length ≤ k)]
      exact hn
set_option maxRecDepth 100000 in
set_option maxHeartbeats 400000 in
theorem tokenTexts_walk (ns : List Int) (a : Option Addr) (len c : Nat) (w : World) (hr : RowAt w a len c (ns.map (Value.int .i64))) (_ : ∀ n ∈ ns, (Lit.int .i64 n).wf = true) (hT : Tabs w) :
    Calls Tryd.prog 7 #[.slice a len c] w fun e w' => e = .returned (.bool true) ∧ Below w.heap.size w w' := by
  have hlen := hr.length
  rw [List.length_map] at hlen
  subst hlen
  by_cases hl : 100 < ns.length
  · have hl' : (100 : Int) < (ns.length : Int) := by omega
    have HT := Lib.hid hT
    clear hl hT hr
    go_enter Tryd.func7, Tryd.ntmps7
    go_wp2_with fail
    (with_reducible refine (tfour_walk _ HT.out).mono ?_)
    rintro e w1 ⟨rfl, hb1⟩
    go_wp2
    go_ret
    exact ⟨rfl, hb1⟩
  · by_cases hall : ∀ n ∈ ns, Tk.isR n
    · exact ttexts_good ns a c w hr (by omega) hT hall
    · exact ttexts_bad ns a c w hr (by omega) hT hall
end Go.Proofs.YtdbcdacekejjjaaDoor
