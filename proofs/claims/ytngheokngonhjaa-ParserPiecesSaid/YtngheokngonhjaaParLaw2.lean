/- The law of a parser's acts. -/
import Derived.Test.YtngheokngonhjaaParActs
import Derived.Deep.CutRange
namespace Go.Proofs.Ytngheokngonhjaa
open Go.RowKit
set_option linter.unusedVariables false
set_option linter.unusedSimpArgs false

/-- what the loop's parser is -/
structure PIn (room : Nat) (p : Ps) : Prop where
  rm : p.room = room
  size : p.s.size ≤ room
  wrong : p.wrong ≠ 3
  gone : p.wrong ≠ 0 → p.s = ⟨#[]⟩
theorem PIn.start (room : Nat) : PIn room ⟨room, ⟨#[]⟩, 0⟩ := ⟨rfl, Nat.zero_le _, (by decide : (0 : Int) ≠ 3), fun h => absurd rfl h⟩
theorem PIn.feed {room : Nat} {p : Ps} (h : PIn room p) (s : ByteArray) : PIn room (feed p s) :=
  ⟨(feed_room p s).trans h.rm, by have := feed_le p s (by rw [h.rm]; exact h.size); rwa [h.rm] at this, by rw [feed_wrong]; exact h.wrong, fun hw => by
    rw [feed_wrong] at hw
    unfold Go.Proofs.Ytngheokngonhjaa.feed
    rw [if_neg hw]; exact h.gone hw⟩
theorem PIn.next {room : Nat} {p : Ps} (h : PIn room p) : PIn room (nextP p) := by
  refine ⟨(nextP_room p).trans h.rm, Nat.le_trans (nextP_size p) h.size, ?_, ?_⟩
  · unfold nextP
    split
    · exact h.wrong
    · split
      · exact (by decide : (0 : Int) ≠ 3)
      · split
        · exact h.wrong
        · assumption
  · unfold nextP
    split
    · exact h.gone
    · split
      · exact fun h => absurd rfl h
      · split
        · exact h.gone
        · exact fun _ => rfl
theorem feed_kept (p : Ps) (s : ByteArray) (h : p.wrong ≠ 0 → p.s = ⟨#[]⟩) : (feed p s).s = p.s ++ s.extract 0 (feedN p s) := by
  unfold feed
  split
  · rfl
  · rename_i hw
    have : feedN p s = 0 := by unfold feedN; rw [if_neg hw]
    rw [this]
    apply Fr.bs_inj; simp

/-- the loop's state -/
structure ActAt (w wr : World) (room : Nat) (b : Nat) (p : Ps) : Prop where
  pt : PAt wr b p
  bl : Below w.heap.size w wr
  pin : PIn room p
  le : w.heap.size ≤ b

theorem ActAt.keep {w wr w' : World} {room b : Nat} {p : Ps} (h : ActAt w wr room b p) (k : Below wr.heap.size wr w') : ActAt w w' room b p :=
  ⟨PAt.keep h.pt k, h.bl.trans (k.mono h.bl.size), h.pin, h.le⟩
theorem ActAt.step {w wr w' : World} {room b : Nat} {p q : Ps} (h : ActAt w wr room b p) (hq : PAt w' b q) (k : Chg [b] wr w') (hp : PIn room q) : ActAt w w' room b q :=
  ⟨hq, h.bl.trans (k.below h.bl.size (by simpa using h.le)), hp, h.le⟩
/-- what Next and the reference tell, in a way the walk can take -/
theorem next_ref (t : ByteArray) (room : Nat) : (∃ f len, rnext t room = ⟨f, len, 0⟩ ∧ len ≤ t.size ∧ nextV ⟨room, t, 0⟩ = ⟨f, true, 0⟩ ∧ nextP ⟨room, t, 0⟩ = ⟨room, t.extract len t.size, 0⟩) ∨
    (rnext t room = Fr.none_ 3 ∧ nextV ⟨room, t, 0⟩ = ⟨zeroF, false, 0⟩ ∧ nextP ⟨room, t, 0⟩ = ⟨room, t, 0⟩) ∨
    ∃ er, (er = 2 ∨ er = 35) ∧ rnext t room = Fr.none_ er ∧ nextV ⟨room, t, 0⟩ = ⟨zeroF, false, er⟩ ∧ nextP ⟨room, t, 0⟩ = ⟨room, ⟨#[]⟩, er⟩ := by
  have h1 : nextV ⟨room, t, 0⟩ = if (rnext t room).err = 0 then ⟨(rnext t room).f, true, 0⟩ else if (rnext t room).err = 3 then ⟨zeroF, false, 0⟩ else ⟨zeroF, false, (rnext t room).err⟩ := by
    unfold nextV; rw [if_neg (nn rfl)]
  have h2 : nextP ⟨room, t, 0⟩ = if (rnext t room).err = 0 then ⟨room, t.extract (rnext t room).len t.size, 0⟩ else if (rnext t room).err = 3 then ⟨room, t, 0⟩ else ⟨room, ⟨#[]⟩, (rnext t room).err⟩ := by
    unfold nextP; rw [if_neg (nn rfl)]
  have hl := rnext_len t room
  rw [h1, h2]
  rcases rnext_err t room with h | h | h | h
  · refine .inl ⟨(rnext t room).f, (rnext t room).len, ?_, (hl h).2, ?_, ?_⟩
    · rw [← h]
    · rw [if_pos h]
    · rw [if_pos h]
  · exact .inr (.inr ⟨2, .inl rfl, h, by rw [h]; rfl, by rw [h]; rfl⟩)
  · exact .inr (.inl ⟨h, by rw [h]; rfl, by rw [h]; rfl⟩)
  · exact .inr (.inr ⟨35, .inr rfl, h, by rw [h]; rfl, by rw [h]; rfl⟩)

theorem sets5_has {w : World} {c : Nat} {a0 a1 a2 a3 a4 : Value} {T : TypeId} (h : Has w c #[a0, a1, a2, a3, a4] T) (v0 v1 v2 v3 v4 : Value) :
    Has (((((w.setCell ⟨c, 0, none⟩ v0).setCell ⟨c, 1, none⟩ v1).setCell ⟨c, 2, none⟩ v2).setCell ⟨c, 3, none⟩ v3).setCell ⟨c, 4, none⟩ v4) c #[v0, v1, v2, v3, v4] T :=
  ((((h.setCell 0 v0).setCell 1 v1).setCell 2 v2).setCell 3 v3).setCell 4 v4
theorem sets5_other {w : World} {b c : Nat} {cs : Array Value} {T : TypeId} (h : Has w b cs T) (hb : b ≠ c) (v0 v1 v2 v3 v4 : Value) :
    Has (((((w.setCell ⟨c, 0, none⟩ v0).setCell ⟨c, 1, none⟩ v1).setCell ⟨c, 2, none⟩ v2).setCell ⟨c, 3, none⟩ v3).setCell ⟨c, 4, none⟩ v4) b cs T :=
  ((((h.setCell_other ⟨c, 0, none⟩ v0 hb).setCell_other ⟨c, 1, none⟩ v1 hb).setCell_other ⟨c, 2, none⟩ v2 hb).setCell_other ⟨c, 3, none⟩ v3 hb).setCell_other ⟨c, 4, none⟩ v4 hb
theorem sets5_below {w wr : World} {B c : Nat} (h : Below B w wr) (hb : B ≤ c) (v0 v1 v2 v3 v4 : Value) :
    Below B w (((((wr.setCell ⟨c, 0, none⟩ v0).setCell ⟨c, 1, none⟩ v1).setCell ⟨c, 2, none⟩ v2).setCell ⟨c, 3, none⟩ v3).setCell ⟨c, 4, none⟩ v4) :=
  ((((h.setCell (p := ⟨c, 0, none⟩) hb v0).setCell (p := ⟨c, 1, none⟩) hb v1).setCell (p := ⟨c, 2, none⟩) hb v2).setCell (p := ⟨c, 3, none⟩) hb v3).setCell (p := ⟨c, 4, none⟩) hb v4
theorem ActAt.sets5 {w wr : World} {room b : Nat} {p : Ps} (h : ActAt w wr room b p) (c : Nat) (hc : b < c) (v0 v1 v2 v3 v4 : Value) :
    ActAt w (((((wr.setCell ⟨c, 0, none⟩ v0).setCell ⟨c, 1, none⟩ v1).setCell ⟨c, 2, none⟩ v2).setCell ⟨c, 3, none⟩ v3).setCell ⟨c, 4, none⟩ v4) room b p :=
  ⟨sets5_other h.pt (by omega) _ _ _ _ _, sets5_below h.bl (by have := h.le; omega) _ _ _ _ _, h.pin, h.le⟩

set_option maxRecDepth 100000 in
set_option maxHeartbeats 1600000 in
theorem parserActs_big (room : Int) (l : List Ac) (a : Option Addr) (len cap : Nat) (w : World) (hl : l.length = len) (h : 40 < len) :
    Calls Try.prog 4 #[.int .i64 room, .slice a len cap] w fun e w' => e = .returned (.bool true) ∧ Below w.heap.size w w' := by
  have h' : (40 : Int) < (len : Int) := by omega
  clear hl h
  go_enter Try.func4, Try.ntmps4
  go_wp2_with fail
  (with_reducible refine (end34_walk _).mono ?_)
  rintro e w1 ⟨rfl, hb1⟩
  go_wp2
  go_ret
  exact ⟨rfl, hb1⟩
set_option maxRecDepth 100000 in
set_option maxHeartbeats 1600000 in
theorem parserActs_bad (room : Int) (l : List Ac) (a : Option Addr) (len cap : Nat) (w : World) (hl : l.length = len) (h : ¬ 40 < len) (hr : ¬ (9 ≤ room ∧ room ≤ 65545)) :
    Calls Try.prog 4 #[.int .i64 room, .slice a len cap] w fun e w' => e = .returned (.bool true) ∧ Below w.heap.size w w' := by
  have h' : ¬ (40 : Int) < (len : Int) := by omega
  have HM := Lib.hid (fun w => may34 room w)
  rw [decide_eq_false hr] at HM
  have HN := Lib.hid (fun w => new_bad room w (by omega))
  clear hl h hr
  go_enter Try.func4, Try.ntmps4
  go_wp2_with fail
  (with_reducible refine (HN.out _).mono ?_)
  rintro e w1 ⟨rfl, rfl⟩
  go_wp2_with fail
  (with_reducible refine (HM.out _).mono ?_)
  rintro e w1 ⟨rfl, rfl⟩
  go_wp2_with fail
  (with_reducible refine (end34_walk _).mono ?_)
  rintro e w1 ⟨rfl, hb1⟩
  go_wp2
  go_ret
  exact ⟨rfl, hb1⟩
set_option maxRecDepth 100000 in
set_option maxHeartbeats 4000000 in
theorem parserActs_good (room : Nat) (l : List Ac) (a : Option Addr) (len cap : Nat) (w : World) (hl : l.length = len) (h : ¬ 40 < len) (h9 : 9 ≤ room) (hm : room ≤ 65545) (hrow : RowS w 2 a len cap (l.flatMap acells)) (hz : ∀ x ∈ l, x.s.size ≤ maxLen) :
    Calls Try.prog 4 #[.int .i64 (room : Int), .slice a len cap] w fun e w' => e = .returned (.bool true) ∧ Below w.heap.size w w' := by
  have h' : ¬ (40 : Int) < (len : Int) := by omega
  have HM := Lib.hid (fun w => may34 (room : Int) w)
  rw [decide_eq_true (by omega)] at HM
  have HN := Lib.hid (fun w => new_ok room w h9 hm)
  have HW := Lib.hid hrow
  have HL := Lib.hid hl
  have HZ := Lib.hid hz
  clear hl hrow hz h
  go_enter Try.func4, Try.ntmps4
  go_wp2_with fail
  (with_reducible refine (HN.out _).mono ?_)
  rintro e w1 ⟨rfl, hp1, hb1⟩
  have HA := Lib.hid (ActAt.mk hp1 hb1 (PIn.start room) (Nat.le_refl _))
  clear hp1 hb1
  go_wp2_with fail
  (with_reducible refine (HM.out _).mono ?_)
  rintro e w1 ⟨rfl, rfl⟩
  go_wp2_with fail
  go_loopw [39, 7, 8] (fun i s e wr => ∃ (k : Nat) (p : Ps), i = .int .i64 k ∧ k ≤ len ∧ s = .string p.s ∧ e = .int .i64 p.wrong ∧ ActAt w wr room w.heap.size p) (fun i _ _ _ => len - (intOf i).toNat)
  case atStart => exact ⟨0, ⟨room, ⟨#[]⟩, 0⟩, rfl, Nat.zero_le _, rfl, rfl, HA.out⟩
  case round =>
    obtain ⟨k, p, rfl, hk, rfl, rfl, hat⟩ := hrel
    have HA1 := Lib.hid hat
    clear hat
    by_cases hlt : k < len
    · have hkl : k < l.length := by rw [HL.out]; exact hlt
      obtain ⟨ab, ao, rfl, hab, hac⟩ := (HW.out.keep HA1.out.bl).at k hlt
      have a0 := hac 0 (by decide); have a1 := hac 1 (by decide)
      rw [flat_get acells 2 (fun _ => rfl) l k 0 hkl (by decide)] at a0
      rw [flat_get acells 2 (fun _ => rfl) l k 1 hkl (by decide)] at a1
      generalize l[k] = x at *
      obtain ⟨nx, s⟩ := x
      simp only [acells, List.getD_cons_zero, List.getD_cons_succ, Nat.add_zero] at a0 a1
      simp only [← Nat.add_assoc] at a1
      have hlt' : (k : Int) < (len : Int) := by omega
      clear hac hkl
      go_upto_region 11 with (fail)
      have HA2 := Lib.hid (HA1.out.keep ((Below.refl wr.heap.size wr).alloc (Nat.le_refl _) (.cells #[.bool nx, .string s] 43)))
      have HX := Lib.hid (Has.new wr #[.bool nx, .string s] 43)
      generalize wr.alloc (.cells #[.bool nx, .string s] 43) = w2 at *
      have hxb : w.heap.size < wr.heap.size := HA1.out.pt.lt
      generalize wr.heap.size = xb at *
      have x0 := HX.out.cell 0; have x1 := HX.out.cell 1
      simp only [List.getElem?_toArray, List.getElem?_cons_zero, List.getElem?_cons_succ] at x0 x1
      obtain ⟨rm, t, wg⟩ := p
      obtain rfl : room = rm := HA2.out.pin.rm.symm
      have hts := HA2.out.pin.size
      simp only at hts
      clear a0 a1 HA1 hab
      by_cases hs : 100 < s.size
      · have hs' : (100 : Int) < (s.size : Int) := by omega
        go_wp2_with fail
        (with_reducible refine (end34_walk _).mono ?_)
        rintro e w3 ⟨rfl, hb3⟩
        have K3 := Lib.hid (HA2.out.bl.trans (hb3.mono HA2.out.bl.size))
        clear hb3
        go_wp2
        go_ret
        exact ⟨rfl, K3.out⟩
      · have hs' : ¬ (100 : Int) < (s.size : Int) := by omega
        cases nx with
        | false =>
          by_cases hw : wg = 0
          · subst hw
            have hN : (if (room : Int) - (t.size : Int) < (s.size : Int) then (room : Int) - (t.size : Int) else (s.size : Int)) = (feedN ⟨room, t, 0⟩ s : Int) := by
              show _ = ((if (0 : Int) = 0 then min s.size (room - t.size) else 0 : Nat) : Int)
              rw [if_pos rfl]; split <;> omega
            have hns := feedN_le ⟨room, t, 0⟩ s
            have hwr : (-1000000 : Int) < (room : Int) - (t.size : Int) ∧ (room : Int) - (t.size : Int) < 1000000 := by omega
            have hww : wrap64 ((room : Int) - (t.size : Int)) = (room : Int) - (t.size : Int) := by unfold wrap64; omega
            have HF := Lib.hid (fun b w h => feed_walk b ⟨room, t, 0⟩ s w h hm hts (by omega))
            have hfe : feed ⟨room, t, 0⟩ s = ⟨room, t ++ s.extract 0 (feedN ⟨room, t, 0⟩ s), 0⟩ := rfl
            have HP := Lib.hid (HA2.out.pin.feed s)
            have hts2 := HP.out.size
            rw [hfe] at HF HP hts2
            have hsl := run_slice_to Try.underlying9 s _ _ rfl hns
            generalize feedN ⟨room, t, 0⟩ s = n at *
            generalize s.extract 0 n = u at *
            simp only [ByteArray.size_append] at hts2
            have hcat : t.size + u.size ≤ 1100000 := by omega
            go_wp2_with fail
            (with_reducible refine (HF.out _ _ HA2.out.pt).mono ?_)
            rintro e w3 ⟨rfl, hp3, hc3⟩
            have HA3 := Lib.hid (HA2.out.step hp3 hc3 HP.out)
            have HX3 := Lib.hid (HX.out.chg hc3 (by simp; omega))
            clear hp3 hc3 x0 x1
            have x0 := HX3.out.cell 0; have x1 := HX3.out.cell 1
            simp only [List.getElem?_toArray, List.getElem?_cons_zero, List.getElem?_cons_succ] at x0 x1
            go_wp2_with fail
            (with_reducible refine (held_walk _ _ _ HA3.out.pt).mono ?_)
            rintro e w8 ⟨rfl, rfl⟩
            go_wp2_with fail
            (with_reducible refine (failed_walk _ _ _ HA3.out.pt).mono ?_)
            rintro e w8 ⟨rfl, rfl⟩
            go_wp2
            go_roundw
            case rel => exact ⟨k + 1, _, by go_num, hlt, rfl, rfl, HA3.out⟩
            case measure => simp [intOf]; omega
          · have hw' : (wg == 0) = false := by simpa using hw
            have hfe : feedN ⟨room, t, wg⟩ s = 0 ∧ feed ⟨room, t, wg⟩ s = ⟨room, t, wg⟩ := ⟨if_neg hw, if_neg hw⟩
            have HF := Lib.hid (fun b w h => feed_walk b ⟨room, t, wg⟩ s w h hm hts (by omega))
            rw [hfe.1, hfe.2] at HF
            have hsl := run_slice_to Try.underlying9 s 0 0 rfl (Nat.zero_le _)
            have hnil : t ++ s.extract 0 0 = t := by apply Fr.bs_inj; simp
            have HNL := Lib.hid hnil
            generalize s.extract 0 0 = u at *
            have hu0 : u.size = 0 := by
              have := congrArg ByteArray.size HNL.out
              rw [ByteArray.size_append] at this
              omega
            have HU0 := Lib.hid hu0
            have hcat : t.size + u.size ≤ 1100000 := by omega
            clear hu0 HU0
            go_wp2_with fail
            (with_reducible refine (HF.out _ _ HA2.out.pt).mono ?_)
            rintro e w3 ⟨rfl, hp3, hc3⟩
            have HA3 := Lib.hid (HA2.out.step hp3 hc3 HA2.out.pin)
            have HX3 := Lib.hid (HX.out.chg hc3 (by simp; omega))
            clear hp3 hc3 x0 x1
            have x0 := HX3.out.cell 0; have x1 := HX3.out.cell 1
            simp only [List.getElem?_toArray, List.getElem?_cons_zero, List.getElem?_cons_succ] at x0 x1

            go_wp2_with fail
            (with_reducible refine (held_walk _ _ _ HA3.out.pt).mono ?_)
            rintro e w8 ⟨rfl, rfl⟩
            go_wp2_with fail
            (with_reducible refine (failed_walk _ _ _ HA3.out.pt).mono ?_)
            rintro e w8 ⟨rfl, rfl⟩
            go_wp2
            go_roundw
            case rel => exact ⟨k + 1, ⟨room, t, wg⟩, by go_num, hlt, rfl, rfl, HA3.out⟩
            case measure => simp [intOf]; omega
        | true =>
          by_cases hw : wg = 0
          · subst hw
            have HR := Lib.hid (fun w => refnext_walk t room w (by omega))
            have HN2 := Lib.hid (fun b w h => next_walk b ⟨room, t, 0⟩ w h hm hts)
            have HP2 := Lib.hid HA2.out.pin.next
            rcases next_ref t room with ⟨⟨ft, fj, fd⟩, fl, hr, hll, hv, hp⟩ | ⟨hr, hv, hp⟩ | ⟨er, her, hr, hv, hp⟩
            · rw [hv, hp] at HN2
              rw [hr] at HR
              rw [hp] at HP2
              simp only [fv, gv] at HN2 HR
              clear hv hp hr
              go_wp2_with fail
              (with_reducible refine (HN2.out _ _ HA2.out.pt).mono ?_)
              rintro e w3 ⟨rfl, hp3, hc3⟩
              have HA3 := Lib.hid (HA2.out.step hp3 hc3 HP2.out)
              clear hp3 hc3 x0 x1
              go_upto_region 22 with (fail)
              have HA4 := Lib.hid ((HA3.out.keep ((Below.refl w3.heap.size w3).alloc (Nat.le_refl _) (.cells #[.int .i64 ft, .int .i64 fj, .string fd] 33))).keep ((Below.refl _ _).alloc (Nat.le_refl _) (.cells #[.int .i64 0, .int .i64 0, .string ⟨#[]⟩, .int .i64 0, .int .i64 0] 45)))
              have HF4 := Lib.hid ((Has.new w3 #[.int .i64 ft, .int .i64 fj, .string fd] 33).alloc (.cells #[.int .i64 0, .int .i64 0, .string ⟨#[]⟩, .int .i64 0, .int .i64 0] 45))
              have HG4 := Lib.hid (Has.new (w3.alloc (.cells #[.int .i64 ft, .int .i64 fj, .string fd] 33)) #[.int .i64 0, .int .i64 0, .string ⟨#[]⟩, .int .i64 0, .int .i64 0] 45)
              rw [World.size_alloc] at HG4
              have hfb : w.heap.size < w3.heap.size := HA3.out.pt.lt
              generalize (w3.alloc (.cells #[.int .i64 ft, .int .i64 fj, .string fd] 33)).alloc (.cells #[.int .i64 0, .int .i64 0, .string ⟨#[]⟩, .int .i64 0, .int .i64 0] 45) = w4 at *
              generalize w3.heap.size = fb at *
              go_wp2_with fail
              (with_reducible refine (HR.out _).mono ?_)
              rintro e w5 ⟨rfl, hb5⟩
              have HA5 := Lib.hid (HA4.out.keep hb5)
              have HF5 := Lib.hid (HF4.out.below hb5 HF4.out.lt)
              have HG5 := Lib.hid (HG4.out.below hb5 HG4.out.lt)
              clear hb5
              have g0 := HG5.out.cell 0; have g1 := HG5.out.cell 1; have g2 := HG5.out.cell 2; have g3 := HG5.out.cell 3; have g4 := HG5.out.cell 4
              have q0 := HG5.out.free 0; have q1 := HG5.out.free 1; have q2 := HG5.out.free 2; have q3 := HG5.out.free 3; have q4 := HG5.out.free 4
              simp only [List.getElem?_toArray, List.getElem?_cons_zero, List.getElem?_cons_succ] at g0 g1 g2 g3 g4
              go_upto_region 24 with (fail)
              have HA6 := Lib.hid (HA5.out.sets5 (fb + 1) (by omega) (.int .i64 ft) (.int .i64 fj) (.string fd) (.int .i64 (fl : Int)) (.int .i64 0))
              have HF6 := Lib.hid (sets5_other HF5.out (show fb ≠ fb + 1 by omega) (.int .i64 ft) (.int .i64 fj) (.string fd) (.int .i64 (fl : Int)) (.int .i64 0))
              have HG6 := Lib.hid (sets5_has HG5.out (.int .i64 ft) (.int .i64 fj) (.string fd) (.int .i64 (fl : Int)) (.int .i64 0))
              generalize (((((w5.setCell ⟨fb + 1, 0, none⟩ (.int .i64 ft)).setCell ⟨fb + 1, 1, none⟩ (.int .i64 fj)).setCell ⟨fb + 1, 2, none⟩ (.string fd)).setCell ⟨fb + 1, 3, none⟩ (.int .i64 (fl : Int))).setCell ⟨fb + 1, 4, none⟩ (.int .i64 0)) = w6 at *
              clear g0 g1 g2 g3 g4 q0 q1 q2 q3 q4
              have f0 := HF6.out.cell 0; have f1 := HF6.out.cell 1; have f2 := HF6.out.cell 2
              have g0 := HG6.out.cell 0; have g1 := HG6.out.cell 1; have g2 := HG6.out.cell 2; have g3 := HG6.out.cell 3; have g4 := HG6.out.cell 4
              simp only [List.getElem?_toArray, List.getElem?_cons_zero, List.getElem?_cons_succ] at f0 f1 f2 g0 g1 g2 g3 g4
              have hsl := run_slice_from Try.underlying9 t fl (fl : Int) rfl hll
              have htx : (t.extract fl t.size).size ≤ 1000000 := by rw [ByteArray.size_extract]; omega
              go_wp2_with fail
              (with_reducible refine (held_walk _ _ _ HA6.out.pt).mono ?_)
              rintro e w8 ⟨rfl, rfl⟩
              go_wp2_with fail
              (with_reducible refine (failed_walk _ _ _ HA6.out.pt).mono ?_)
              rintro e w8 ⟨rfl, rfl⟩
              go_wp2
              go_roundw
              case rel => exact ⟨k + 1, ⟨room, t.extract fl t.size, 0⟩, by go_num, hlt, rfl, rfl, HA6.out⟩
              case measure => simp [intOf]; omega
            · rw [hv, hp] at HN2
              rw [hr] at HR
              rw [hp] at HP2
              simp only [fv, zeroF, gv, Fr.none_, Fr.bs] at HN2 HR
              clear hv hp hr
              go_wp2_with fail
              (with_reducible refine (HN2.out _ _ HA2.out.pt).mono ?_)
              rintro e w3 ⟨rfl, hp3, hc3⟩
              have HA3 := Lib.hid (HA2.out.step hp3 hc3 HP2.out)
              clear hp3 hc3 x0 x1
              go_upto_region 22 with (fail)
              have HA4 := Lib.hid ((HA3.out.keep ((Below.refl w3.heap.size w3).alloc (Nat.le_refl _) (.cells #[.int .i64 0, .int .i64 0, .string ⟨#[]⟩] 33))).keep ((Below.refl _ _).alloc (Nat.le_refl _) (.cells #[.int .i64 0, .int .i64 0, .string ⟨#[]⟩, .int .i64 0, .int .i64 0] 45)))
              have HF4 := Lib.hid ((Has.new w3 #[.int .i64 0, .int .i64 0, .string ⟨#[]⟩] 33).alloc (.cells #[.int .i64 0, .int .i64 0, .string ⟨#[]⟩, .int .i64 0, .int .i64 0] 45))
              have HG4 := Lib.hid (Has.new (w3.alloc (.cells #[.int .i64 0, .int .i64 0, .string ⟨#[]⟩] 33)) #[.int .i64 0, .int .i64 0, .string ⟨#[]⟩, .int .i64 0, .int .i64 0] 45)
              rw [World.size_alloc] at HG4
              have hfb : w.heap.size < w3.heap.size := HA3.out.pt.lt
              generalize (w3.alloc (.cells #[.int .i64 0, .int .i64 0, .string ⟨#[]⟩] 33)).alloc (.cells #[.int .i64 0, .int .i64 0, .string ⟨#[]⟩, .int .i64 0, .int .i64 0] 45) = w4 at *
              generalize w3.heap.size = fb at *
              go_wp2_with fail
              (with_reducible refine (HR.out _).mono ?_)
              rintro e w5 ⟨rfl, hb5⟩
              have HA5 := Lib.hid (HA4.out.keep hb5)
              have HF5 := Lib.hid (HF4.out.below hb5 HF4.out.lt)
              have HG5 := Lib.hid (HG4.out.below hb5 HG4.out.lt)
              clear hb5
              have g0 := HG5.out.cell 0; have g1 := HG5.out.cell 1; have g2 := HG5.out.cell 2; have g3 := HG5.out.cell 3; have g4 := HG5.out.cell 4
              have q0 := HG5.out.free 0; have q1 := HG5.out.free 1; have q2 := HG5.out.free 2; have q3 := HG5.out.free 3; have q4 := HG5.out.free 4
              simp only [List.getElem?_toArray, List.getElem?_cons_zero, List.getElem?_cons_succ] at g0 g1 g2 g3 g4
              go_upto_region 24 with (fail)
              have HA6 := Lib.hid (HA5.out.sets5 (fb + 1) (by omega) (.int .i64 0) (.int .i64 0) (.string ⟨#[]⟩) (.int .i64 ((0 : Nat) : Int)) (.int .i64 3))
              have HF6 := Lib.hid (sets5_other HF5.out (show fb ≠ fb + 1 by omega) (.int .i64 0) (.int .i64 0) (.string ⟨#[]⟩) (.int .i64 ((0 : Nat) : Int)) (.int .i64 3))
              have HG6 := Lib.hid (sets5_has HG5.out (.int .i64 0) (.int .i64 0) (.string ⟨#[]⟩) (.int .i64 ((0 : Nat) : Int)) (.int .i64 3))
              generalize (((((w5.setCell ⟨fb + 1, 0, none⟩ (.int .i64 0)).setCell ⟨fb + 1, 1, none⟩ (.int .i64 0)).setCell ⟨fb + 1, 2, none⟩ (.string ⟨#[]⟩)).setCell ⟨fb + 1, 3, none⟩ (.int .i64 ((0 : Nat) : Int))).setCell ⟨fb + 1, 4, none⟩ (.int .i64 3)) = w6 at *
              clear g0 g1 g2 g3 g4 q0 q1 q2 q3 q4
              have f0 := HF6.out.cell 0; have f1 := HF6.out.cell 1; have f2 := HF6.out.cell 2
              have g0 := HG6.out.cell 0; have g1 := HG6.out.cell 1; have g2 := HG6.out.cell 2; have g3 := HG6.out.cell 3; have g4 := HG6.out.cell 4
              simp only [List.getElem?_toArray, List.getElem?_cons_zero, List.getElem?_cons_succ] at f0 f1 f2 g0 g1 g2 g3 g4

              go_wp2_with fail
              (with_reducible refine (held_walk _ _ _ HA6.out.pt).mono ?_)
              rintro e w8 ⟨rfl, rfl⟩
              go_wp2_with fail
              (with_reducible refine (failed_walk _ _ _ HA6.out.pt).mono ?_)
              rintro e w8 ⟨rfl, rfl⟩
              go_wp2
              go_roundw
              case rel => exact ⟨k + 1, ⟨room, t, 0⟩, by go_num, hlt, rfl, rfl, HA6.out⟩
              case measure => simp [intOf]; omega
            · rcases her with rfl | rfl
              · rw [hv, hp] at HN2
                rw [hr] at HR
                rw [hp] at HP2
                simp only [fv, zeroF, gv, Fr.none_, Fr.bs] at HN2 HR
                clear hv hp hr
                go_wp2_with fail
                (with_reducible refine (HN2.out _ _ HA2.out.pt).mono ?_)
                rintro e w3 ⟨rfl, hp3, hc3⟩
                have HA3 := Lib.hid (HA2.out.step hp3 hc3 HP2.out)
                clear hp3 hc3 x0 x1
                go_upto_region 22 with (fail)
                have HA4 := Lib.hid ((HA3.out.keep ((Below.refl w3.heap.size w3).alloc (Nat.le_refl _) (.cells #[.int .i64 0, .int .i64 0, .string ⟨#[]⟩] 33))).keep ((Below.refl _ _).alloc (Nat.le_refl _) (.cells #[.int .i64 0, .int .i64 0, .string ⟨#[]⟩, .int .i64 0, .int .i64 0] 45)))
                have HF4 := Lib.hid ((Has.new w3 #[.int .i64 0, .int .i64 0, .string ⟨#[]⟩] 33).alloc (.cells #[.int .i64 0, .int .i64 0, .string ⟨#[]⟩, .int .i64 0, .int .i64 0] 45))
                have HG4 := Lib.hid (Has.new (w3.alloc (.cells #[.int .i64 0, .int .i64 0, .string ⟨#[]⟩] 33)) #[.int .i64 0, .int .i64 0, .string ⟨#[]⟩, .int .i64 0, .int .i64 0] 45)
                rw [World.size_alloc] at HG4
                have hfb : w.heap.size < w3.heap.size := HA3.out.pt.lt
                generalize (w3.alloc (.cells #[.int .i64 0, .int .i64 0, .string ⟨#[]⟩] 33)).alloc (.cells #[.int .i64 0, .int .i64 0, .string ⟨#[]⟩, .int .i64 0, .int .i64 0] 45) = w4 at *
                generalize w3.heap.size = fb at *
                go_wp2_with fail
                (with_reducible refine (HR.out _).mono ?_)
                rintro e w5 ⟨rfl, hb5⟩
                have HA5 := Lib.hid (HA4.out.keep hb5)
                have HF5 := Lib.hid (HF4.out.below hb5 HF4.out.lt)
                have HG5 := Lib.hid (HG4.out.below hb5 HG4.out.lt)
                clear hb5
                have g0 := HG5.out.cell 0; have g1 := HG5.out.cell 1; have g2 := HG5.out.cell 2; have g3 := HG5.out.cell 3; have g4 := HG5.out.cell 4
                have q0 := HG5.out.free 0; have q1 := HG5.out.free 1; have q2 := HG5.out.free 2; have q3 := HG5.out.free 3; have q4 := HG5.out.free 4
                simp only [List.getElem?_toArray, List.getElem?_cons_zero, List.getElem?_cons_succ] at g0 g1 g2 g3 g4
                go_upto_region 24 with (fail)
                have HA6 := Lib.hid (HA5.out.sets5 (fb + 1) (by omega) (.int .i64 0) (.int .i64 0) (.string ⟨#[]⟩) (.int .i64 ((0 : Nat) : Int)) (.int .i64 2))
                have HF6 := Lib.hid (sets5_other HF5.out (show fb ≠ fb + 1 by omega) (.int .i64 0) (.int .i64 0) (.string ⟨#[]⟩) (.int .i64 ((0 : Nat) : Int)) (.int .i64 2))
                have HG6 := Lib.hid (sets5_has HG5.out (.int .i64 0) (.int .i64 0) (.string ⟨#[]⟩) (.int .i64 ((0 : Nat) : Int)) (.int .i64 2))
                generalize (((((w5.setCell ⟨fb + 1, 0, none⟩ (.int .i64 0)).setCell ⟨fb + 1, 1, none⟩ (.int .i64 0)).setCell ⟨fb + 1, 2, none⟩ (.string ⟨#[]⟩)).setCell ⟨fb + 1, 3, none⟩ (.int .i64 ((0 : Nat) : Int))).setCell ⟨fb + 1, 4, none⟩ (.int .i64 2)) = w6 at *
                clear g0 g1 g2 g3 g4 q0 q1 q2 q3 q4
                have f0 := HF6.out.cell 0; have f1 := HF6.out.cell 1; have f2 := HF6.out.cell 2
                have g0 := HG6.out.cell 0; have g1 := HG6.out.cell 1; have g2 := HG6.out.cell 2; have g3 := HG6.out.cell 3; have g4 := HG6.out.cell 4
                simp only [List.getElem?_toArray, List.getElem?_cons_zero, List.getElem?_cons_succ] at f0 f1 f2 g0 g1 g2 g3 g4

                go_wp2_with fail
                (with_reducible refine (held_walk _ _ _ HA6.out.pt).mono ?_)
                rintro e w8 ⟨rfl, rfl⟩
                go_wp2_with fail
                (with_reducible refine (failed_walk _ _ _ HA6.out.pt).mono ?_)
                rintro e w8 ⟨rfl, rfl⟩
                go_wp2
                go_roundw
                case rel => exact ⟨k + 1, ⟨room, ⟨#[]⟩, 2⟩, by go_num, hlt, rfl, rfl, HA6.out⟩
                case measure => simp [intOf]; omega
              · rw [hv, hp] at HN2
                rw [hr] at HR
                rw [hp] at HP2
                simp only [fv, zeroF, gv, Fr.none_, Fr.bs] at HN2 HR
                clear hv hp hr
                go_wp2_with fail
                (with_reducible refine (HN2.out _ _ HA2.out.pt).mono ?_)
                rintro e w3 ⟨rfl, hp3, hc3⟩
                have HA3 := Lib.hid (HA2.out.step hp3 hc3 HP2.out)
                clear hp3 hc3 x0 x1
                go_upto_region 22 with (fail)
                have HA4 := Lib.hid ((HA3.out.keep ((Below.refl w3.heap.size w3).alloc (Nat.le_refl _) (.cells #[.int .i64 0, .int .i64 0, .string ⟨#[]⟩] 33))).keep ((Below.refl _ _).alloc (Nat.le_refl _) (.cells #[.int .i64 0, .int .i64 0, .string ⟨#[]⟩, .int .i64 0, .int .i64 0] 45)))
                have HF4 := Lib.hid ((Has.new w3 #[.int .i64 0, .int .i64 0, .string ⟨#[]⟩] 33).alloc (.cells #[.int .i64 0, .int .i64 0, .string ⟨#[]⟩, .int .i64 0, .int .i64 0] 45))
                have HG4 := Lib.hid (Has.new (w3.alloc (.cells #[.int .i64 0, .int .i64 0, .string ⟨#[]⟩] 33)) #[.int .i64 0, .int .i64 0, .string ⟨#[]⟩, .int .i64 0, .int .i64 0] 45)
                rw [World.size_alloc] at HG4
                have hfb : w.heap.size < w3.heap.size := HA3.out.pt.lt
                generalize (w3.alloc (.cells #[.int .i64 0, .int .i64 0, .string ⟨#[]⟩] 33)).alloc (.cells #[.int .i64 0, .int .i64 0, .string ⟨#[]⟩, .int .i64 0, .int .i64 0] 45) = w4 at *
                generalize w3.heap.size = fb at *
                go_wp2_with fail
                (with_reducible refine (HR.out _).mono ?_)
                rintro e w5 ⟨rfl, hb5⟩
                have HA5 := Lib.hid (HA4.out.keep hb5)
                have HF5 := Lib.hid (HF4.out.below hb5 HF4.out.lt)
                have HG5 := Lib.hid (HG4.out.below hb5 HG4.out.lt)
                clear hb5
                have g0 := HG5.out.cell 0; have g1 := HG5.out.cell 1; have g2 := HG5.out.cell 2; have g3 := HG5.out.cell 3; have g4 := HG5.out.cell 4
                have q0 := HG5.out.free 0; have q1 := HG5.out.free 1; have q2 := HG5.out.free 2; have q3 := HG5.out.free 3; have q4 := HG5.out.free 4
                simp only [List.getElem?_toArray, List.getElem?_cons_zero, List.getElem?_cons_succ] at g0 g1 g2 g3 g4
                go_upto_region 24 with (fail)
                have HA6 := Lib.hid (HA5.out.sets5 (fb + 1) (by omega) (.int .i64 0) (.int .i64 0) (.string ⟨#[]⟩) (.int .i64 ((0 : Nat) : Int)) (.int .i64 35))
                have HF6 := Lib.hid (sets5_other HF5.out (show fb ≠ fb + 1 by omega) (.int .i64 0) (.int .i64 0) (.string ⟨#[]⟩) (.int .i64 ((0 : Nat) : Int)) (.int .i64 35))
                have HG6 := Lib.hid (sets5_has HG5.out (.int .i64 0) (.int .i64 0) (.string ⟨#[]⟩) (.int .i64 ((0 : Nat) : Int)) (.int .i64 35))
                generalize (((((w5.setCell ⟨fb + 1, 0, none⟩ (.int .i64 0)).setCell ⟨fb + 1, 1, none⟩ (.int .i64 0)).setCell ⟨fb + 1, 2, none⟩ (.string ⟨#[]⟩)).setCell ⟨fb + 1, 3, none⟩ (.int .i64 ((0 : Nat) : Int))).setCell ⟨fb + 1, 4, none⟩ (.int .i64 35)) = w6 at *
                clear g0 g1 g2 g3 g4 q0 q1 q2 q3 q4
                have f0 := HF6.out.cell 0; have f1 := HF6.out.cell 1; have f2 := HF6.out.cell 2
                have g0 := HG6.out.cell 0; have g1 := HG6.out.cell 1; have g2 := HG6.out.cell 2; have g3 := HG6.out.cell 3; have g4 := HG6.out.cell 4
                simp only [List.getElem?_toArray, List.getElem?_cons_zero, List.getElem?_cons_succ] at f0 f1 f2 g0 g1 g2 g3 g4

                go_wp2_with fail
                (with_reducible refine (held_walk _ _ _ HA6.out.pt).mono ?_)
                rintro e w8 ⟨rfl, rfl⟩
                go_wp2_with fail
                (with_reducible refine (failed_walk _ _ _ HA6.out.pt).mono ?_)
                rintro e w8 ⟨rfl, rfl⟩
                go_wp2
                go_roundw
                case rel => exact ⟨k + 1, ⟨room, ⟨#[]⟩, 35⟩, by go_num, hlt, rfl, rfl, HA6.out⟩
                case measure => simp [intOf]; omega
          · have hw' : (wg == 0) = false := by simpa using hw
            have h3 : (wg == 3) = false := beq_eq_false_iff_ne.2 HA2.out.pin.wrong
            obtain rfl : t = ⟨#[]⟩ := HA2.out.pin.gone hw
            have HN2 := Lib.hid (fun b w h => next_walk b ⟨room, ⟨#[]⟩, wg⟩ w h hm hts)
            obtain ⟨e1, e2⟩ := next_wrong ⟨room, ⟨#[]⟩, wg⟩ hw
            rw [e1, e2] at HN2
            simp only [fv, zeroF] at HN2
            clear e1 e2
            go_wp2_with fail
            (with_reducible refine (HN2.out _ _ HA2.out.pt).mono ?_)
            rintro e w3 ⟨rfl, hp3, hc3⟩
            have HA3 := Lib.hid (HA2.out.step hp3 hc3 HA2.out.pin)
            clear hp3 hc3 x0 x1
            go_upto_region 22 with (fail)
            have HA4 := Lib.hid ((HA3.out.keep ((Below.refl w3.heap.size w3).alloc (Nat.le_refl _) (.cells #[.int .i64 0, .int .i64 0, .string ⟨#[]⟩] 33))).keep ((Below.refl _ _).alloc (Nat.le_refl _) (.cells #[.int .i64 0, .int .i64 0, .string ⟨#[]⟩, .int .i64 0, .int .i64 wg] 45)))
            have HF4 := Lib.hid ((Has.new w3 #[.int .i64 0, .int .i64 0, .string ⟨#[]⟩] 33).alloc (.cells #[.int .i64 0, .int .i64 0, .string ⟨#[]⟩, .int .i64 0, .int .i64 wg] 45))
            have HG4 := Lib.hid (Has.new (w3.alloc (.cells #[.int .i64 0, .int .i64 0, .string ⟨#[]⟩] 33)) #[.int .i64 0, .int .i64 0, .string ⟨#[]⟩, .int .i64 0, .int .i64 wg] 45)
            rw [World.size_alloc] at HG4
            generalize (w3.alloc (.cells #[.int .i64 0, .int .i64 0, .string ⟨#[]⟩] 33)).alloc (.cells #[.int .i64 0, .int .i64 0, .string ⟨#[]⟩, .int .i64 0, .int .i64 wg] 45) = w4 at *
            generalize w3.heap.size = fb at *
            have f0 := HF4.out.cell 0; have f1 := HF4.out.cell 1; have f2 := HF4.out.cell 2
            have g0 := HG4.out.cell 0; have g1 := HG4.out.cell 1; have g2 := HG4.out.cell 2; have g3 := HG4.out.cell 3; have g4 := HG4.out.cell 4
            simp only [List.getElem?_toArray, List.getElem?_cons_zero, List.getElem?_cons_succ] at f0 f1 f2 g0 g1 g2 g3 g4
            go_wp2_with fail
            (with_reducible refine (held_walk _ _ _ HA4.out.pt).mono ?_)
            rintro e w8 ⟨rfl, rfl⟩
            go_wp2_with fail
            (with_reducible refine (failed_walk _ _ _ HA4.out.pt).mono ?_)
            rintro e w8 ⟨rfl, rfl⟩
            go_wp2
            go_roundw
            case rel => exact ⟨k + 1, ⟨room, ⟨#[]⟩, wg⟩, by go_num, hlt, rfl, rfl, HA4.out⟩
            case measure => simp [intOf]; omega
    · have hlt' : ¬ (k : Int) < (len : Int) := by omega
      go_wp2_with fail
      (with_reducible refine (held_walk _ _ _ HA1.out.pt).mono ?_)
      rintro e w2 ⟨rfl, rfl⟩
      go_wp2_with fail
      (with_reducible refine (end34_walk _).mono ?_)
      rintro e w3 ⟨rfl, hb3⟩
      have K3 := Lib.hid (HA1.out.bl.trans (hb3.mono HA1.out.bl.size))
      clear hb3
      go_wp2
      go_ret
      exact ⟨rfl, K3.out⟩
theorem parserActs_walk (room : Int) (l : List Ac) (a : Option Addr) (len cap : Nat) (w : World) (_ : (Lit.int .i64 room).wf = true) (hl : l.length = len) (hrow : RowS w 2 a len cap (l.flatMap acells)) (hz : ∀ x ∈ l, x.s.size ≤ maxLen) :
    Calls Try.prog 4 #[.int .i64 room, .slice a len cap] w fun e w' => e = .returned (.bool true) ∧ Below w.heap.size w w' := by
  by_cases h : 40 < len
  · exact parserActs_big room l a len cap w hl h
  · by_cases hr : 9 ≤ room ∧ room ≤ 65545
    · obtain ⟨n, rfl⟩ := Int.eq_ofNat_of_zero_le (show 0 ≤ room by omega)
      exact parserActs_good n l a len cap w hl h (by omega) (by omega) hrow hz
    · exact parserActs_bad room l a len cap w hl h hr
end Go.Proofs.Ytngheokngonhjaa
