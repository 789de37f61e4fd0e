/- The law of bytes in pieces. -/
import Derived.Test.YtngheokngonhjaaParLaw2
import Derived.Test.YtngheokngonhjaaParRef2
import Derived.Test.YtngheokngonhjaaFrameSame
import Derived.OwnWalk
namespace Go.Proofs.Ytngheokngonhjaa
open Go.RowKit
set_option linter.unusedVariables false
set_option linter.unusedSimpArgs false

theorem next_w0 (p : Ps) (h : (nextP p).wrong = 0) : p.wrong = 0 := by
  by_cases hw : p.wrong = 0
  · exact hw
  · rw [(next_wrong p hw).2] at h; exact h
/-- what the loops' variables hold -/
structure PieceAt (w wr : World) (s : ByteArray) (R : List Fr.Frm × Nat × Int) (room b : Nat) (p : Ps) (at_ : Nat) (v : Value) (fs : List Fr.Frm) : Prop where
  pt : PAt wr b p
  bl : Below w.heap.size w wr
  le : w.heap.size ≤ b
  rm : p.room = room
  size : p.s.size ≤ room
  far : Far s R p at_ fs
  own : wr.ownsRow (b + 1) 33 3 v fs.length (fs.flatMap fcells)
theorem PieceAt.keep {w wr w' : World} {s : ByteArray} {R : List Fr.Frm × Nat × Int} {room b : Nat} {p : Ps} {at_ : Nat} {v : Value} {fs : List Fr.Frm} (h : PieceAt w wr s R room b p at_ v fs) (k : Below wr.heap.size wr w') : PieceAt w w' s R room b p at_ v fs :=
  ⟨PAt.keep h.pt k, h.bl.trans (k.mono h.bl.size), h.le, h.rm, h.size, h.far, ownsRow_keep h.own k⟩
theorem PieceAt.feed {w wr w' : World} {s : ByteArray} {R : List Fr.Frm × Nat × Int} {room b : Nat} {p : Ps} {at_ : Nat} {v : Value} {fs : List Fr.Frm} (h : PieceAt w wr s R room b p at_ v fs) (e : Nat) (he : e ≤ s.size) (hae : at_ ≤ e)
    (hp : PAt w' b (feed p (s.extract at_ e))) (hc : Chg [b] wr w') : PieceAt w w' s R room b (feed p (s.extract at_ e)) (at_ + feedN p (s.extract at_ e)) v fs :=
  ⟨hp, h.bl.trans (hc.below h.bl.size (by simpa using h.le)), h.le, (feed_room _ _).trans h.rm, by have := feed_le p (s.extract at_ e) (by rw [h.rm]; exact h.size); rwa [h.rm] at this, h.far.feed e he hae,
   ownsRow_chg h.own hc (fun g hg hm => by have := (h.own.lt g hg).1; simp at hm; omega)⟩
theorem PieceAt.next {w wr w' : World} {s : ByteArray} {R : List Fr.Frm × Nat × Int} {room b : Nat} {p : Ps} {at_ : Nat} {v : Value} {fs : List Fr.Frm} (h : PieceAt w wr s R room b p at_ v fs)
    (hp : PAt w' b (nextP p)) (hc : Chg [b] wr w') (hno : (nextV p).ok = false) : PieceAt w w' s R room b (nextP p) at_ v fs :=
  ⟨hp, h.bl.trans (hc.below h.bl.size (by simpa using h.le)), h.le, (nextP_room _).trans h.rm, Nat.le_trans (nextP_size p) h.size, by have := h.far.next; rwa [hno] at this,
   ownsRow_chg h.own hc (fun g hg hm => by have := (h.own.lt g hg).1; simp at hm; omega)⟩
theorem PieceAt.app {w wr w3 w4 w5 : World} {s : ByteArray} {R : List Fr.Frm × Nat × Int} {room b : Nat} {p : Ps} {at_ : Nat} {v v' : Value} {fs : List Fr.Frm} (h : PieceAt w wr s R room b p at_ v fs)
    (hp : PAt w3 b (nextP p)) (hc : Chg [b] wr w3) (k34 : Below w3.heap.size w3 w4) (k45 : Below (b + 1) w4 w5) (hok : (nextV p).ok = true)
    (ho : w5.ownsRow (b + 1) 33 3 v' (fs.length + 1) (fs.flatMap fcells ++ fcells (nextV p).f)) : PieceAt w w5 s R room b (nextP p) at_ v' (fs ++ [(nextV p).f]) := by
  have h3 := h.bl.trans (hc.below h.bl.size (by simpa using h.le))
  have h4 := h3.trans (k34.mono h3.size)
  refine ⟨Has.below (PAt.keep hp k34) k45 (Nat.lt_succ_self _), h4.trans (k45.mono (Nat.le_succ_of_le h.le)), h.le, (nextP_room _).trans h.rm, Nat.le_trans (nextP_size p) h.size, by have := h.far.next; rwa [hok] at this, ?_⟩
  rw [List.length_append, List.flatMap_append]
  simpa using ho

theorem PieceAt.own' {w wr w3 w4 : World} {s : ByteArray} {R : List Fr.Frm × Nat × Int} {room b : Nat} {p : Ps} {at_ : Nat} {v : Value} {fs : List Fr.Frm} (h : PieceAt w wr s R room b p at_ v fs)
    (hc : Chg [b] wr w3) (k : Below w3.heap.size w3 w4) : w4.ownsRow (b + 1) 33 3 v fs.length (fs.flatMap fcells) :=
  ownsRow_keep (ownsRow_chg h.own hc (fun g hg hm => by have := (h.own.lt g hg).1; simp at hm; omega)) k

set_option maxRecDepth 100000 in
set_option maxHeartbeats 1600000 in
theorem parserPieces_out (room : Int) (s : ByteArray) (zs : List Int) (a : Option Addr) (len cap : Nat) (w : World) (h : 300 < s.size ∨ ¬ (9 ≤ room ∧ room ≤ 65545) ∨ 20 < len) :
    Calls Try.prog 3 #[.int .i64 room, .string s, .slice a len cap] w fun e w' => e = .returned (.bool true) ∧ Below w.heap.size w w' := by
  by_cases h1 : 300 < s.size
  · have h' : (300 : Int) < (s.size : Int) := by omega
    have h2 : decide ((300 : Int) < (s.size : Int)) = true := by simpa using h'
    clear h
    go_enter Try.func3, Try.ntmps3
    go_wp2_with fail
    (with_reducible refine (end34_walk _).mono ?_)
    rintro e w1 ⟨rfl, hb1⟩
    go_wp2
    go_ret
    exact ⟨rfl, hb1⟩
  · have h' : ¬ (300 : Int) < (s.size : Int) := by omega
    have h2 : decide ((300 : Int) < (s.size : Int)) = false := by simpa using h'
    have HM := Lib.hid (fun w => may34 room w)
    by_cases hr : 9 ≤ room ∧ room ≤ 65545
    · rw [decide_eq_true hr] at HM
      have h3 : (20 : Int) < (len : Int) := by omega
      have h4 : decide ((20 : Int) < (len : Int)) = true := by simpa using h3
      clear h hr
      go_enter Try.func3, Try.ntmps3
      go_wp2_with fail
      (with_reducible refine (HM.out _).mono ?_)
      rintro e w1 ⟨rfl, rfl⟩
      go_wp2_with fail
      (with_reducible refine (end34_walk _).mono ?_)
      rintro e w1 ⟨rfl, hb1⟩
      go_wp2
      go_ret
      exact ⟨rfl, hb1⟩
    · rw [decide_eq_false hr] at HM
      clear h hr
      go_enter Try.func3, Try.ntmps3
      go_wp2_with fail
      (with_reducible refine (HM.out _).mono ?_)
      rintro e w1 ⟨rfl, rfl⟩
      go_wp2_with fail
      (with_reducible refine (end34_walk _).mono ?_)
      rintro e w1 ⟨rfl, hb1⟩
      go_wp2
      go_ret
      exact ⟨rfl, hb1⟩

theorem clamp (z : Int) : ∃ y x : Int, (if z < 0 then 0 else z) = y ∧ (if 300 < y then 300 else y) = x ∧ 0 ≤ x ∧ x ≤ 300 := by
  refine ⟨_, _, rfl, rfl, ?_⟩
  split <;> split <;> omega
set_option maxRecDepth 100000 in
set_option maxHeartbeats 4000000 in
theorem parserPieces_in (room : Nat) (s : ByteArray) (zs : List Int) (a : Option Addr) (len cap : Nat) (w : World) (hs : s.size ≤ 300) (h9 : 9 ≤ room) (hm : room ≤ 65545) (hl : len ≤ 20) (hrow : RowAt w a len cap (zs.map (Value.int .i64))) (hz : ∀ n ∈ zs, (Lit.int .i64 n).wf = true) :
    Calls Try.prog 3 #[.int .i64 (room : Int), .string s, .slice a len cap] w fun e w' => e = .returned (.bool true) ∧ Below w.heap.size w w' := by
  have h1 : ¬ (300 : Int) < (s.size : Int) := by omega
  have h2 : decide ((300 : Int) < (s.size : Int)) = false := by simpa using h1
  have h3 : ¬ (20 : Int) < (len : Int) := by omega
  have h4 : decide ((20 : Int) < (len : Int)) = false := by simpa using h3
  have HM := Lib.hid (fun w => may34 (room : Int) w)
  rw [decide_eq_true (by omega)] at HM
  have HN := Lib.hid (fun w => new_ok room w h9 hm)
  have HW := Lib.hid hrow
  have HZ := Lib.hid hz
  have HR := Lib.hid (fun w => refall34_walk s room w (by omega))
  have HF := Lib.hid (Far.start s room)
  generalize rrun s room s.size 0 [] = R at *
  clear hrow hz
  go_enter Try.func3, Try.ntmps3
  go_wp2_with fail
  (with_reducible refine (HM.out _).mono ?_)
  rintro e w1 ⟨rfl, rfl⟩
  go_wp2_with fail
  (with_reducible refine (HN.out _).mono ?_)
  rintro e w1 ⟨rfl, hp1, hb1⟩
  have HP := Lib.hid (PieceAt.mk hp1 hb1 (Nat.le_refl _) rfl (Nat.zero_le _) HF.out (World.ownsRow_nil w1 _ _ _))
  clear hp1 hb1 HF
  go_wp2_with fail
  go_loopw [41, 10, 9, 11] (fun i a v e wr => ∃ (k : Nat) (p : Ps) (q : Nat) (fs : List Fr.Frm), i = .int .i64 k ∧ k ≤ 2 * s.size + 2 ∧ a = .int .i64 q ∧ e = .int .i64 p.wrong ∧ PieceAt w wr s R room w.heap.size p q v fs ∧ Quiet_ p ∧ (p.wrong = 0 → min k s.size ≤ q)) (fun i _ _ _ _ => 2 * s.size + 2 - (intOf i).toNat)
  case atStart => exact ⟨0, ⟨room, ⟨#[]⟩, 0⟩, 0, [], rfl, Nat.zero_le _, rfl, rfl, HP.out, fun _ => rnext_empty _ _ rfl, fun _ => by omega⟩
  case round =>
    obtain ⟨k, p, q, fs, rfl, hk, rfl, rfl, hat, hquiet, hq⟩ := hrel
    have HA := Lib.hid hat
    have HQ := Lib.hid hquiet
    have HQ2 := Lib.hid hq
    clear hat hquiet hq
    by_cases hlt : k < 2 * s.size + 2
    · have hlt' : (k : Int) < 2 * (s.size : Int) + 2 := by omega
      by_cases hc : 0 < len
      · have hc' : (0 : Int) < (len : Int) := by omega
        obtain ⟨cb, co, rfl, hcell⟩ := (HW.out.keep HA.out.bl).at (k % len) (Nat.mod_lt _ hc)
        have hml : k % len < len := Nat.mod_lt _ hc
        have hlz : zs.length = len := by simpa using HW.out.length
        obtain ⟨z, hz⟩ : ∃ z, zs[k % len]? = some z := ⟨_, List.getElem?_eq_getElem (by omega)⟩
        have hzw := HZ.out z (List.mem_of_getElem? hz)
        rw [List.getD_eq_getElem?_getD, List.getElem?_map, hz] at hcell
        simp only [Option.map_some, Option.getD_some] at hcell
        have hm0 : ((k : Int) % (len : Int)).toNat = k % len := by omega
        have hm1 : 0 ≤ (k : Int) % (len : Int) := by omega
        have hm2 : (k : Int) % (len : Int) < (len : Int) := by omega
        have hl0 : (len : Int) ≠ 0 := by omega
        clear hz hlz
        obtain ⟨y, x0, hy, hx, hx1, hx2⟩ := clamp z
        go_upto_region 13 with (fail)
        have hx3 : 1 ≤ 1 + x0 ∧ 1 + x0 ≤ 301 := by omega
        clear hx1 hx2
        obtain ⟨hx1, hx2⟩ := hx3
        generalize 1 + x0 = x at *
        clear hx hy
        clear hcell hzw hm0 hm1 hm2 hl0
        obtain ⟨e, he⟩ : ∃ e : Nat, (if (q : Int) + x < (s.size : Int) then (q : Int) + x else (s.size : Int)) = (e : Int) := ⟨((if (q : Int) + x < (s.size : Int) then (q : Int) + x else (s.size : Int))).toNat, by split <;> omega⟩
        have hq0 : q ≤ s.size := HA.out.far.1
        have heb : e ≤ s.size ∧ q ≤ e ∧ (q < s.size → q < e) := by split at he <;> omega
        have hq1 : (q : Int) ≤ 300 := by omega
        have hsl := run_slice_str Try.underlying9 s q e q e rfl rfl heb.2.1 heb.1
        have HFD := Lib.hid (fun b w h => feed_walk b p (s.extract q e) w h (by rw [HA.out.rm]; exact hm) (by rw [HA.out.rm]; exact HA.out.size) (by rw [ByteArray.size_extract]; omega))
        have HST := Lib.hid (fun w' hp hc => HA.out.feed (w' := w') e heb.1 heb.2.1 hp hc)
        have HPG := Lib.hid (show (feed p (s.extract q e)).wrong = 0 → min (k + 1) s.size ≤ q + feedN p (s.extract q e) from fun hw => by
          rw [feed_wrong] at hw
          have h1 := HQ2.out hw
          by_cases hqs : q < s.size
          · have := feed_some p (s.extract q e) (by rw [HA.out.rm]; exact h9) HQ.out hw (by rw [ByteArray.size_extract]; have := heb.2.2 hqs; omega)
            omega
          · omega)
        have hwr := feed_wrong p (s.extract q e)
        generalize hu : s.extract q e = u at *
        generalize feedN p u = m at *
        generalize feed p u = p1 at *
        clear hu heb HQ HQ2
        rw [← hwr]
        clear hwr
        go_wp2_with fail
        (with_reducible refine (HFD.out _ _ HA.out.pt).mono ?_)
        rintro e w2 ⟨rfl, hp2, hc2⟩
        have HA2 := Lib.hid (HST.out _ hp2 hc2)
        clear hp2 hc2 HFD HST HA
        have hm1 : q + m ≤ s.size := HA2.out.far.1
        have hm2 : (q : Int) + (m : Int) ≤ 300 := by omega
        have hm3 : decide ((s.size : Int) < (q : Int) + (m : Int)) = false := by simp; omega
        have hp3 := HA2.out.size
        have hp4 : decide ((room : Int) < (p1.s.size : Int)) = false := by simp; omega
        have hp5 : decide (room < p1.s.size) = false := by simp; omega
        have hm4 : decide (s.size < q + m) = false := by simp; omega
        clear he
        go_wp2_with fail
        (with_reducible refine (held_walk _ _ _ HA2.out.pt).mono ?_)
        rintro e w3 ⟨rfl, rfl⟩
        go_wp2_with fail
        go_loopw [80, 9, 11] (fun j v e w3 => ∃ (jn : Nat) (p2 : Ps) (fs2 : List Fr.Frm), j = .int .i64 jn ∧ jn ≤ 40 ∧ e = .int .i64 p2.wrong ∧ PieceAt w w3 s R room w.heap.size p2 (q + m) v fs2 ∧ p2.s.size + 9 * jn ≤ s.size ∧ (p2.wrong = 0 → min (k + 1) s.size ≤ q + m)) (fun j _ _ _ => 40 - (intOf j).toNat)
        case atStart => exact ⟨0, p1, fs, rfl, Nat.zero_le _, rfl, HA2.out, by have := HA2.out.far.kept; omega, HPG.out⟩
        case round =>
          clear hp3 hp4 hp5 HA2 HPG
          obtain ⟨jn, p2, fs2, rfl, hj, rfl, hat2, hkept, hpg2⟩ := hrel
          have HA3 := Lib.hid hat2
          have HPG2 := Lib.hid hpg2
          have HN2 := Lib.hid (fun b w h => next_walk b p2 w h (by rw [hat2.rm]; exact hm) (by rw [hat2.rm]; exact hat2.size))
          have HPN := Lib.hid (fun w' hp hc hno => hat2.next (w' := w') hp hc hno)
          have HPA := Lib.hid (fun w3 w4 w5 v' hp hc k34 k45 hok ho => hat2.app (w3 := w3) (w4 := w4) (w5 := w5) (v' := v') hp hc k34 k45 hok ho)
          have HNO := Lib.hid (next_no p2)
          have HNY := Lib.hid (next_yes p2)
          have HWP := Lib.hid (fun h => hpg2 (next_w0 p2 h))
          have hfl := hat2.far.len
          have hwz : p2.wrong ≠ 0 → (nextV p2).err = p2.wrong ∧ (nextV p2).ok = false := fun hw => by rw [(next_wrong p2 hw).1]; exact ⟨rfl, rfl⟩
          have HWZ := Lib.hid hwz
          by_cases hj2 : jn < 40
          · have hj3 : (jn : Int) < 40 := by omega
            generalize nextV p2 = V at *
            generalize nextP p2 = P at *
            obtain ⟨⟨ft, fj, fd⟩, ok, er⟩ := V
            simp only [fv] at HN2
            clear hat2 hpg2 hwz
            go_wp2_with fail
            (with_reducible refine (HN2.out _ _ HA3.out.pt).mono ?_)
            rintro e w4 ⟨rfl, hp4, hc4⟩
            go_upto_region 19 with (fail)
            have HF := Lib.hid (Has.new w4 #[.int .i64 ft, .int .i64 fj, .string fd] 33)
            have HK := Lib.hid ((Below.refl w4.heap.size w4).alloc (Nat.le_refl _) (.cells #[.int .i64 ft, .int .i64 fj, .string fd] 33))
            have HP4 := Lib.hid hp4
            have HC4 := Lib.hid hc4
            clear hp4 hc4
            cases ok with
            | false =>
              have hno := HNO.out rfl
              have HA5 := Lib.hid ((HPN.out _ HP4.out HC4.out rfl).keep HK.out)
              obtain ⟨hq1', he1⟩ := hno
              have HQ1 := Lib.hid hq1'
              clear hq1'
              generalize w4.alloc (.cells #[.int .i64 ft, .int .i64 fj, .string fd] 33) = w5 at *
              have HFIN := Lib.hid (show P.wrong = 0 → min (k + 1) s.size ≤ q + m from HWP.out)
              by_cases he : er = 0
              · subst he
                have hw2 : p2.wrong = 0 := Classical.byContradiction (fun h => h (by have := (HWZ.out h).1; exact this.symm))
                rw [hw2]
                have hP : P.wrong = 0 := he1.symm
                clear he1 hw2
                go_wp2
                go_roundw
                case rel => exact ⟨k + 1, P, q + m, fs2, by go_num, by omega, by go_num, by rw [hP], HA5.out, HQ1.out, HFIN.out⟩
                case measure => simp [intOf]; omega
              · have he' : (er == 0) = false := by simpa using he
                go_wp2
                go_roundw
                case rel => exact ⟨k + 1, P, q + m, fs2, by go_num, by omega, by go_num, by rw [← he1], HA5.out, HQ1.out, HFIN.out⟩
                case measure => simp [intOf]; omega
            | true =>
              have hy := HNY.out rfl
              have y1 : P.s.size + 9 ≤ p2.s.size := hy.1
              have y2 : er = 0 := hy.2.1
              have y3 : p2.wrong = 0 := hy.2.2.1
              have y4 : P.wrong = 0 := hy.2.2.2
              subst y2
              have HO5 := Lib.hid (HA3.out.own' HC4.out HK.out)
              have HB5 := Lib.hid (show w.heap.size + 1 ≤ (w4.alloc (.cells #[.int .i64 ft, .int .i64 fj, .string fd] 33)).heap.size from by have := HA3.out.pt.lt; have := HC4.out.size; simp; omega)
              have HPA2 := Lib.hid (fun w6 v' hb ho => HPA.out w4 _ w6 v' HP4.out HC4.out HK.out hb rfl ho)
              have hb4 : w4.heap.size < (w4.alloc (.cells #[.int .i64 ft, .int .i64 fj, .string fd] 33)).heap.size := by simp
              generalize w4.alloc (.cells #[.int .i64 ft, .int .i64 fj, .string fd] 33) = w5 at *
              have f0 := HF.out.cell 0; have f1 := HF.out.cell 1; have f2 := HF.out.cell 2
              simp only [List.getElem?_toArray, List.getElem?_cons_zero, List.getElem?_cons_succ] at f0 f1 f2
              clear hy HN2 HPN HPA HNO HNY HWZ HP4 HC4 HK
              go_wp2_with (at_builtin; refine appendS Try.underlying29 info_frame rfl (by decide) rfl _ _ rfl (w.heap.size + 1) fs2.length _ _ rfl HO5.out #[Value.int .i64 ft, Value.int .i64 fj, Value.string fd] rfl (by intro u hu; simp at hu; rcases hu with rfl | rfl | rfl <;> rfl) _ rfl rfl (by unfold maxLen; omega) (by omega) HB5.out ?_)
              intro g cap' w6 ho hc hb _ _ _
              have HA6 := Lib.hid (HPA2.out _ _ hb ho)
              clear ho hc hb
              have hjn : (jn : Int) < 1000 := by omega
              have Y3 := Lib.hid y3
              have Y4 := Lib.hid y4
              clear y3 y4
              go_wp2
              go_roundw
              case rel => exact ⟨jn + 1, P, fs2 ++ [⟨ft, fj, fd⟩], by go_num, by omega, by rw [Y4.out], HA6.out, by omega, HWP.out⟩
              case measure => simp [intOf]; omega
          · exfalso; omega
      · have hc' : ¬ (0 : Int) < (len : Int) := by omega
        go_upto_region 13 with (fail)
        obtain ⟨e, he⟩ : ∃ e : Nat, (if (q : Int) + 1 < (s.size : Int) then (q : Int) + 1 else (s.size : Int)) = (e : Int) := ⟨((if (q : Int) + 1 < (s.size : Int) then (q : Int) + 1 else (s.size : Int))).toNat, by split <;> omega⟩
        have hq0 : q ≤ s.size := HA.out.far.1
        have heb : e ≤ s.size ∧ q ≤ e ∧ (q < s.size → q < e) := by split at he <;> omega
        have hq1 : (q : Int) ≤ 300 := by omega
        have hsl := run_slice_str Try.underlying9 s q e q e rfl rfl heb.2.1 heb.1
        have HFD := Lib.hid (fun b w h => feed_walk b p (s.extract q e) w h (by rw [HA.out.rm]; exact hm) (by rw [HA.out.rm]; exact HA.out.size) (by rw [ByteArray.size_extract]; omega))
        have HST := Lib.hid (fun w' hp hc => HA.out.feed (w' := w') e heb.1 heb.2.1 hp hc)
        have HPG := Lib.hid (show (feed p (s.extract q e)).wrong = 0 → min (k + 1) s.size ≤ q + feedN p (s.extract q e) from fun hw => by
          rw [feed_wrong] at hw
          have h1 := HQ2.out hw
          by_cases hqs : q < s.size
          · have := feed_some p (s.extract q e) (by rw [HA.out.rm]; exact h9) HQ.out hw (by rw [ByteArray.size_extract]; have := heb.2.2 hqs; omega)
            omega
          · omega)
        have hwr := feed_wrong p (s.extract q e)
        generalize hu : s.extract q e = u at *
        generalize feedN p u = m at *
        generalize feed p u = p1 at *
        clear hu heb HQ HQ2
        rw [← hwr]
        clear hwr
        go_wp2_with fail
        (with_reducible refine (HFD.out _ _ HA.out.pt).mono ?_)
        rintro e w2 ⟨rfl, hp2, hc2⟩
        have HA2 := Lib.hid (HST.out _ hp2 hc2)
        clear hp2 hc2 HFD HST HA
        have hm1 : q + m ≤ s.size := HA2.out.far.1
        have hm2 : (q : Int) + (m : Int) ≤ 300 := by omega
        have hm3 : decide ((s.size : Int) < (q : Int) + (m : Int)) = false := by simp; omega
        have hp3 := HA2.out.size
        have hp4 : decide ((room : Int) < (p1.s.size : Int)) = false := by simp; omega
        have hp5 : decide (room < p1.s.size) = false := by simp; omega
        have hm4 : decide (s.size < q + m) = false := by simp; omega
        clear he
        go_wp2_with fail
        (with_reducible refine (held_walk _ _ _ HA2.out.pt).mono ?_)
        rintro e w3 ⟨rfl, rfl⟩
        go_wp2_with fail
        go_loopw [80, 9, 11] (fun j v e w3 => ∃ (jn : Nat) (p2 : Ps) (fs2 : List Fr.Frm), j = .int .i64 jn ∧ jn ≤ 40 ∧ e = .int .i64 p2.wrong ∧ PieceAt w w3 s R room w.heap.size p2 (q + m) v fs2 ∧ p2.s.size + 9 * jn ≤ s.size ∧ (p2.wrong = 0 → min (k + 1) s.size ≤ q + m)) (fun j _ _ _ => 40 - (intOf j).toNat)
        case atStart => exact ⟨0, p1, fs, rfl, Nat.zero_le _, rfl, HA2.out, by have := HA2.out.far.kept; omega, HPG.out⟩
        case round =>
          clear hp3 hp4 hp5 HA2 HPG
          obtain ⟨jn, p2, fs2, rfl, hj, rfl, hat2, hkept, hpg2⟩ := hrel
          have HA3 := Lib.hid hat2
          have HPG2 := Lib.hid hpg2
          have HN2 := Lib.hid (fun b w h => next_walk b p2 w h (by rw [hat2.rm]; exact hm) (by rw [hat2.rm]; exact hat2.size))
          have HPN := Lib.hid (fun w' hp hc hno => hat2.next (w' := w') hp hc hno)
          have HPA := Lib.hid (fun w3 w4 w5 v' hp hc k34 k45 hok ho => hat2.app (w3 := w3) (w4 := w4) (w5 := w5) (v' := v') hp hc k34 k45 hok ho)
          have HNO := Lib.hid (next_no p2)
          have HNY := Lib.hid (next_yes p2)
          have HWP := Lib.hid (fun h => hpg2 (next_w0 p2 h))
          have hfl := hat2.far.len
          have hwz : p2.wrong ≠ 0 → (nextV p2).err = p2.wrong ∧ (nextV p2).ok = false := fun hw => by rw [(next_wrong p2 hw).1]; exact ⟨rfl, rfl⟩
          have HWZ := Lib.hid hwz
          by_cases hj2 : jn < 40
          · have hj3 : (jn : Int) < 40 := by omega
            generalize nextV p2 = V at *
            generalize nextP p2 = P at *
            obtain ⟨⟨ft, fj, fd⟩, ok, er⟩ := V
            simp only [fv] at HN2
            clear hat2 hpg2 hwz
            go_wp2_with fail
            (with_reducible refine (HN2.out _ _ HA3.out.pt).mono ?_)
            rintro e w4 ⟨rfl, hp4, hc4⟩
            go_upto_region 19 with (fail)
            have HF := Lib.hid (Has.new w4 #[.int .i64 ft, .int .i64 fj, .string fd] 33)
            have HK := Lib.hid ((Below.refl w4.heap.size w4).alloc (Nat.le_refl _) (.cells #[.int .i64 ft, .int .i64 fj, .string fd] 33))
            have HP4 := Lib.hid hp4
            have HC4 := Lib.hid hc4
            clear hp4 hc4
            cases ok with
            | false =>
              have hno := HNO.out rfl
              have HA5 := Lib.hid ((HPN.out _ HP4.out HC4.out rfl).keep HK.out)
              obtain ⟨hq1', he1⟩ := hno
              have HQ1 := Lib.hid hq1'
              clear hq1'
              generalize w4.alloc (.cells #[.int .i64 ft, .int .i64 fj, .string fd] 33) = w5 at *
              have HFIN := Lib.hid (show P.wrong = 0 → min (k + 1) s.size ≤ q + m from HWP.out)
              by_cases he : er = 0
              · subst he
                have hw2 : p2.wrong = 0 := Classical.byContradiction (fun h => h (by have := (HWZ.out h).1; exact this.symm))
                rw [hw2]
                have hP : P.wrong = 0 := he1.symm
                clear he1 hw2
                go_wp2
                go_roundw
                case rel => exact ⟨k + 1, P, q + m, fs2, by go_num, by omega, by go_num, by rw [hP], HA5.out, HQ1.out, HFIN.out⟩
                case measure => simp [intOf]; omega
              · have he' : (er == 0) = false := by simpa using he
                go_wp2
                go_roundw
                case rel => exact ⟨k + 1, P, q + m, fs2, by go_num, by omega, by go_num, by rw [← he1], HA5.out, HQ1.out, HFIN.out⟩
                case measure => simp [intOf]; omega
            | true =>
              have hy := HNY.out rfl
              have y1 : P.s.size + 9 ≤ p2.s.size := hy.1
              have y2 : er = 0 := hy.2.1
              have y3 : p2.wrong = 0 := hy.2.2.1
              have y4 : P.wrong = 0 := hy.2.2.2
              subst y2
              have HO5 := Lib.hid (HA3.out.own' HC4.out HK.out)
              have HB5 := Lib.hid (show w.heap.size + 1 ≤ (w4.alloc (.cells #[.int .i64 ft, .int .i64 fj, .string fd] 33)).heap.size from by have := HA3.out.pt.lt; have := HC4.out.size; simp; omega)
              have HPA2 := Lib.hid (fun w6 v' hb ho => HPA.out w4 _ w6 v' HP4.out HC4.out HK.out hb rfl ho)
              have hb4 : w4.heap.size < (w4.alloc (.cells #[.int .i64 ft, .int .i64 fj, .string fd] 33)).heap.size := by simp
              generalize w4.alloc (.cells #[.int .i64 ft, .int .i64 fj, .string fd] 33) = w5 at *
              have f0 := HF.out.cell 0; have f1 := HF.out.cell 1; have f2 := HF.out.cell 2
              simp only [List.getElem?_toArray, List.getElem?_cons_zero, List.getElem?_cons_succ] at f0 f1 f2
              clear hy HN2 HPN HPA HNO HNY HWZ HP4 HC4 HK
              go_wp2_with (at_builtin; refine appendS Try.underlying29 info_frame rfl (by decide) rfl _ _ rfl (w.heap.size + 1) fs2.length _ _ rfl HO5.out #[Value.int .i64 ft, Value.int .i64 fj, Value.string fd] rfl (by intro u hu; simp at hu; rcases hu with rfl | rfl | rfl <;> rfl) _ rfl rfl (by unfold maxLen; omega) (by omega) HB5.out ?_)
              intro g cap' w6 ho hc hb _ _ _
              have HA6 := Lib.hid (HPA2.out _ _ hb ho)
              clear ho hc hb
              have hjn : (jn : Int) < 1000 := by omega
              have Y3 := Lib.hid y3
              have Y4 := Lib.hid y4
              clear y3 y4
              go_wp2
              go_roundw
              case rel => exact ⟨jn + 1, P, fs2 ++ [⟨ft, fj, fd⟩], by go_num, by omega, by rw [Y4.out], HA6.out, by omega, HWP.out⟩
              case measure => simp [intOf]; omega
          · exfalso; omega
    · have hlt' : ¬ (k : Int) < 2 * (s.size : Int) + 2 := by omega
      have hq0 := HA.out.far.1
      have hfl := HA.out.far.len
      obtain ⟨e1, e2⟩ := HA.out.far.all HQ.out (fun hw => by have := HQ2.out hw; omega)
      rw [e1, e2] at HR
      clear e1 e2
      go_wp2_with fail
      (with_reducible refine (HR.out _).mono ?_)
      rintro e w2 ⟨v2, rfl, ho2, hb2⟩
      obtain ⟨a2, c2, rfl, hr2, _⟩ := rowS_owns ho2
      have HA2 := Lib.hid (HA.out.keep hb2)
      have hal := (Below.refl w2.heap.size w2).alloc (Nat.le_refl _) (.cells #[Value.slice a2 fs.length c2, .int .i64 (R.2.1 : Int), .int .i64 p.wrong] 37)
      have HA3 := Lib.hid (HA2.out.keep hal)
      have HS2 := Lib.hid (hr2.keep hal)
      obtain ⟨a1, c1, rfl, hr1, _⟩ := rowS_owns HA3.out.own
      have HS1 := Lib.hid hr1
      clear ho2 hb2 hr2 hr1 hal
      go_wp2_with fail
      (with_reducible refine (same_walk fs _ _ _ _ _ _ HS1.out HS2.out rfl (by omega)).mono ?_)
      rintro e w3 ⟨rfl, hb3⟩
      have HB3 := Lib.hid (HA3.out.bl.trans (hb3.mono HA3.out.bl.size))
      have hc3 : w3.cell? ⟨w2.heap.size, 2, none⟩ = some (.int .i64 p.wrong) := ((Has.new w2 #[Value.slice a2 fs.length c2, .int .i64 (R.2.1 : Int), .int .i64 p.wrong] 37).below hb3 (by simp)).cell 2
      clear hb3
      go_wp2_with fail
      (with_reducible refine (end34_walk _).mono ?_)
      rintro e w4 ⟨rfl, hb4⟩
      have HB4 := Lib.hid (HB3.out.trans (hb4.mono HB3.out.size))
      clear hb4
      go_wp2
      go_ret
      exact ⟨rfl, HB4.out⟩

theorem parserPieces_walk (room : Int) (s : ByteArray) (zs : List Int) (a : Option Addr) (len cap : Nat) (w : World) (_ : (Lit.int .i64 room).wf = true) (_ : s.size ≤ maxLen) (hrow : RowAt w a len cap (zs.map (Value.int .i64))) (hz : ∀ n ∈ zs, (Lit.int .i64 n).wf = true) :
    Calls Try.prog 3 #[.int .i64 room, .string s, .slice a len cap] w fun e w' => e = .returned (.bool true) ∧ Below w.heap.size w w' := by
  by_cases h : 300 < s.size ∨ ¬ (9 ≤ room ∧ room ≤ 65545) ∨ 20 < len
  · exact parserPieces_out room s zs a len cap w h
  · obtain ⟨n, rfl⟩ := Int.eq_ofNat_of_zero_le (show 0 ≤ room by omega)
    exact parserPieces_in n s zs a len cap w (by omega) (by omega) (by omega) (by omega) hrow hz
end Go.Proofs.Ytngheokngonhjaa
