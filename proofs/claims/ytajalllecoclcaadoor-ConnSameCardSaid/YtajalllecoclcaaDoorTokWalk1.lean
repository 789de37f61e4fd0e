/- Texts rune by rune: told, may, Len. -/
import Derived.Test.YtajalllecoclcaaDoorTokRef3
import Derived.Test.YtajalllecoclcaaDoorShelf
import Derived.Lib.OthersKept
import Derived.WalkSmall
namespace Go.Proofs.YtajalllecoclcaaDoor
open Go.RowKit
set_option linter.unusedVariables false
set_option linter.unusedSimpArgs false

/-- the two tables of unicode/utf8 lie as they were laid -/
def Tabs (w : World) : Prop := Lib.Utf8Tabs 0 1 w
theorem Tabs.keep {w w' : World} (h : Tabs w) (hb : Below w.heap.size w w') : Tabs w' := Utf8Tabs_below h hb
/-- a string's iterator, in the first block that the call made -/
structure ItAt (w wr : World) (s : ByteArray) (p : Nat) : Prop where
  it : wr.heap[w.heap.size]? = some (.stringIter s p)
  below : Below w.heap.size w wr
theorem ItAt.start (w : World) (s : ByteArray) : ItAt w (w.iter s 0) s 0 := ⟨w.iter_heap s 0, (Below.refl _ _).alloc (Nat.le_refl _) _⟩
theorem ItAt.next {w wr : World} {s : ByteArray} {p : Nat} (h : ItAt w wr s p) (q : Nat) : ItAt w (wr.iterAt w.heap.size s q) s q :=
  ⟨Lib.iterAt_heap wr _ s p q h.it, Lib.below_iterAt h.below (Nat.le_refl _) s q⟩
theorem ItAt.lt {w wr : World} {s : ByteArray} {p : Nat} (h : ItAt w wr s p) : w.heap.size < wr.heap.size := (Array.getElem?_eq_some_iff.1 h.it).1
theorem ItAt.keep {w wr w' : World} {s : ByteArray} {p : Nat} (h : ItAt w wr s p) (k : Below wr.heap.size wr w') : ItAt w w' s p :=
  ⟨(k.block _ h.lt).trans h.it, h.below.trans (k.mono h.below.size)⟩
theorem ItAt.own {w wr w' : World} {s : ByteArray} {p : Nat} (h : ItAt w wr s p) {E : TypeId} {k : Nat} {v : Value} {n : Nat} {xs : List Value} (ho : wr.ownsRow w.heap.size E k v n xs) (c : Chg v.ownBlock.toList wr w') (hb : Below w.heap.size wr w') : ItAt w w' s p := by
  refine ⟨(c.block _ h.lt ?_).trans h.it, h.below.trans hb⟩
  intro hm
  obtain ⟨_, ho⟩ := ho
  rcases ho with ⟨rfl, _⟩ | ⟨g, cap, cur, rfl, _, hg, _⟩
  · simp [Value.ownBlock] at hm
  · simp [Value.ownBlock] at hm
    have h1 := h.it
    rw [hm] at h1
    have := hg.symm.trans h1
    cases this
theorem own_next {w wr : World} {s : ByteArray} {p : Nat} (h : ItAt w wr s p) {E : TypeId} {k : Nat} {v : Value} {n : Nat} {xs : List Value} (ho : wr.ownsRow w.heap.size E k v n xs) (q : Nat) : (wr.iterAt w.heap.size s q).ownsRow w.heap.size E k v n xs := by
  obtain ⟨h1, ho⟩ := ho
  refine ⟨h1, ?_⟩
  rcases ho with ⟨a, b⟩ | ⟨g, cap, cur, a, b, c, d⟩
  · exact .inl ⟨a, b⟩
  · refine .inr ⟨g, cap, cur, a, b, ?_, d⟩
    rw [Lib.iterAt_other _ _ _ _ _ (fun e => by rw [e, h.it] at c; cases c)]
    exact c
theorem ItAt.pos {w wr : World} {s : ByteArray} {p : Nat} (h : ItAt w wr s p) : wr.iterPos w.heap.size = p := by
  unfold World.iterPos
  rw [h.it]
theorem decGo (s : ByteArray) (p : Nat) (h : p < s.size) : Lib.decodeGo (s.extract p s.size) = Tk.d (s.data.toList.drop p) := by
  unfold Lib.decodeGo
  rw [if_neg (by rw [ByteArray.size_extract]; omega), Tk.decode_d, list_from, List.drop_zero]
set_option maxRecDepth 100000 in
set_option maxHeartbeats 400000 in
theorem told_walk (s : ByteArray) (p : Nat) (w : World) (hT : Tabs w) (hp : p < s.size) :
    Calls Tryd.prog 60 #[.string s, .int .i64 (p : Int), .int .i32 ((Tk.d (s.data.toList.drop p)).1 : Int)] w fun e w' => e = .returned (.int .i64 (Tk.num (Tk.d (s.data.toList.drop p)))) ∧ Below w.heap.size w w' := by
  have HD := Lib.hid (Tryd.utf8_DecodeRuneInString (s.extract p s.size) w hT)
  rw [decGo s p hp] at HD
  have hdb := Tk.d_at s.data.toList p (by rw [llen]; exact hp)
  have hn : Tk.num (Tk.d (s.data.toList.drop p)) = if (Tk.d (s.data.toList.drop p)).1 = 65533 ∧ (Tk.d (s.data.toList.drop p)).2 = 1 then -1 else ((Tk.d (s.data.toList.drop p)).1 : Int) := rfl
  generalize Tk.num (Tk.d (s.data.toList.drop p)) = N at *
  generalize (Tk.d (s.data.toList.drop p)).1 = c at *
  generalize (Tk.d (s.data.toList.drop p)).2 = k at *
  have hsl := run_slice_from Tryd.underlying9 s p (p : Int) rfl (by omega)
  generalize s.extract p s.size = u at *
  have hcb : (c : Int) ≤ 1114111 := by omega
  clear hdb
  by_cases h1 : c = 65533
  · subst h1
    by_cases h2 : k = 1
    · rw [if_pos ⟨rfl, h2⟩] at hn
      subst hn h2
      clear hcb hp
      go_enter Tryd.func60, Tryd.ntmps60
      go_wp2_with fail
      (with_reducible refine (HD.out).mono ?_)
      rintro e w1 ⟨rfl, hb⟩
      go_wp2
      go_ret
      exact ⟨rfl, hb⟩
    · rw [if_neg (fun x => h2 x.2)] at hn
      subst hn
      have h2' : ((k : Int) == 1) = false := by simpa using (by omega : (k : Int) ≠ 1)
      clear h2 hp
      go_enter Tryd.func60, Tryd.ntmps60
      go_wp2_with fail
      (with_reducible refine (HD.out).mono ?_)
      rintro e w1 ⟨rfl, hb⟩
      go_wp2
      go_ret
      exact ⟨rfl, hb⟩
  · rw [if_neg (fun x => h1 x.1)] at hn
    subst hn
    have h1' : ((c : Int) == 65533) = false := by simpa using (by omega : (c : Int) ≠ 65533)
    clear h1 hp HD
    go_enter Tryd.func60, Tryd.ntmps60
    go_wp2
    go_ret
    exact ⟨rfl, Below.refl _ _⟩
def mayB (n : Int) : Bool := decide (32 < n ∧ (n < 127 ∨ 160 < n) ∧ n ≠ 58 ∧ n ≠ 35)
set_option maxRecDepth 100000 in
set_option maxHeartbeats 400000 in
theorem tkmay_walk (n : Int) (w : World) : Calls Tryd.prog 61 #[.int .i64 n] w fun e w' => e = .returned (.bool (mayB n)) ∧ w = w' := by
  unfold mayB
  by_cases c1 : 32 < n
  · have e1 : decide (32 < n) = true := by simpa using c1
    by_cases c2 : n < 127
    · have e2 : decide (n < 127) = true := by simpa using c2
      by_cases c4 : n = 58
      · subst c4
        go_enter Tryd.func61, Tryd.ntmps61
        go_wp2
        go_ret
        exact ⟨rfl, rfl⟩
      · have e4 : (n != 58) = true := by simpa using c4
        by_cases c5 : n = 35
        · subst c5
          go_enter Tryd.func61, Tryd.ntmps61
          go_wp2
          go_ret
          exact ⟨rfl, rfl⟩
        · have e5 : (n != 35) = true := by simpa using c5
          rw [decide_eq_true ⟨c1, .inl c2, c4, c5⟩]
          clear c1 c2 c4 c5
          go_enter Tryd.func61, Tryd.ntmps61
          go_wp2
          go_ret
          exact ⟨rfl, rfl⟩
    · have e2 : decide (n < 127) = false := by simpa using c2
      by_cases c3 : 160 < n
      · have e3 : decide (160 < n) = true := by simpa using c3
        have e4 : (n != 58) = true := by simp; omega
        have e5 : (n != 35) = true := by simp; omega
        rw [decide_eq_true ⟨c1, .inr c3, by omega, by omega⟩]
        clear c1 c2 c3
        go_enter Tryd.func61, Tryd.ntmps61
        go_wp2
        go_ret
        exact ⟨rfl, rfl⟩
      · have e3 : decide (160 < n) = false := by simpa using c3
        rw [decide_eq_false (by omega)]
        clear c1 c2 c3
        go_enter Tryd.func61, Tryd.ntmps61
        go_wp2
        go_ret
        exact ⟨rfl, rfl⟩
  · have e1 : decide (32 < n) = false := by simpa using c1
    rw [decide_eq_false (by omega)]
    clear c1
    go_enter Tryd.func61, Tryd.ntmps61
    go_wp2
    go_ret
    exact ⟨rfl, rfl⟩
set_option maxRecDepth 100000 in
set_option maxHeartbeats 400000 in
theorem tkrefmay_walk (n : Int) (w : World) : Calls Tryd.prog 59 #[.int .i64 n] w fun e w' => e = .returned (.bool (mayB n)) ∧ w = w' := by
  unfold mayB
  by_cases c1 : 32 < n
  · have e1 : decide (32 < n) = true := by simpa using c1
    by_cases c2 : n < 127
    · have e2 : decide (n < 127) = true := by simpa using c2
      by_cases c4 : n = 58
      · subst c4
        go_enter Tryd.func59, Tryd.ntmps59
        go_wp2
        go_ret
        exact ⟨rfl, rfl⟩
      · have e4 : (n != 58) = true := by simpa using c4
        by_cases c5 : n = 35
        · subst c5
          go_enter Tryd.func59, Tryd.ntmps59
          go_wp2
          go_ret
          exact ⟨rfl, rfl⟩
        · have e5 : (n != 35) = true := by simpa using c5
          rw [decide_eq_true ⟨c1, .inl c2, c4, c5⟩]
          clear c1 c2 c4 c5
          go_enter Tryd.func59, Tryd.ntmps59
          go_wp2
          go_ret
          exact ⟨rfl, rfl⟩
    · have e2 : decide (n < 127) = false := by simpa using c2
      by_cases c3 : 160 < n
      · have e3 : decide (160 < n) = true := by simpa using c3
        have e4 : (n != 58) = true := by simp; omega
        have e5 : (n != 35) = true := by simp; omega
        rw [decide_eq_true ⟨c1, .inr c3, by omega, by omega⟩]
        clear c1 c2 c3
        go_enter Tryd.func59, Tryd.ntmps59
        go_wp2
        go_ret
        exact ⟨rfl, rfl⟩
      · have e3 : decide (160 < n) = false := by simpa using c3
        rw [decide_eq_false (by omega)]
        clear c1 c2 c3
        go_enter Tryd.func59, Tryd.ntmps59
        go_wp2
        go_ret
        exact ⟨rfl, rfl⟩
  · have e1 : decide (32 < n) = false := by simpa using c1
    rw [decide_eq_false (by omega)]
    clear c1
    go_enter Tryd.func59, Tryd.ntmps59
    go_wp2
    go_ret
    exact ⟨rfl, rfl⟩
set_option maxRecDepth 100000 in
set_option maxHeartbeats 800000 in
theorem len_walk (s : ByteArray) (w : World) (hs : s.size ≤ 1000000) : Calls Tryd.prog 56 #[.string s] w fun e w' => e = .returned (.int .i64 ((Tk.runes s.data.toList).length : Int)) ∧ Below w.heap.size w w' := by
  have hlen := Tk.runes_le s.data.toList
  rw [llen] at hlen
  have HAT := Lib.hid (Tk.runes_at s.data.toList)
  have HD := Lib.hid (Tk.d_at s.data.toList)
  have HEND := Lib.hid (Tk.runes_end s.data.toList)
  have H0 := Lib.hid (show (Tk.runes s.data.toList).length = 0 + (Tk.runes (s.data.toList.drop 0)).length by rw [List.drop_zero]; omega)
  generalize (Tk.runes s.data.toList).length = R at *
  go_enter Tryd.func56, Tryd.ntmps56
  go_wp2_with fail
  go_loopw [3] (fun x wr => ∃ p n : Nat, x = .int .i64 (n : Int) ∧ R = n + (Tk.runes (s.data.toList.drop p)).length ∧ ItAt w wr s p) (fun _ w' => s.size - w'.iterPos w.heap.size)
  case atStart => exact ⟨0, 0, rfl, H0.out, ItAt.start w s⟩
  case round =>
    obtain ⟨p, n, rfl, hr, hit⟩ := hrel
    have HI := Lib.hid hit
    by_cases hp : p < s.size
    · have hd := HD.out p (by rw [llen]; exact hp)
      have hnx : ∀ ty, (Instr.next (.pointer (some ⟨w.heap.size, 0, none⟩)) true ty).run Tryd.prog wr = _ := fun ty => Lib.run_next_any_at wr w.heap.size s p ty hit.it hp
      rw [Tk.decode_d] at hnx
      rw [HAT.out p (by rw [llen]; exact hp), List.length_cons] at hr
      have hnb : (n : Int) ≤ 1000000 := by omega
      have HR := Lib.hid hr
      have HN := Lib.hid (hit.next (p + (Tk.d (s.data.toList.drop p)).2))
      rw [llen] at hd
      clear hr hit
      generalize (Tk.d (s.data.toList.drop p)).1 = c at *
      generalize (Tk.d (s.data.toList.drop p)).2 = k at *
      obtain ⟨hd1, hd2, -⟩ := hd
      generalize hwn : wr.iterAt w.heap.size s (p + k) = w3 at *
      clear hwn
      go_wp2
      go_roundw
      case rel => exact ⟨p + k, n + 1, by go_num, by have := HR.out; omega, HN.out⟩
      case measure => rw [HN.out.pos, HI.out.pos]; omega
    · have hnx : ∀ ty, (Instr.next (.pointer (some ⟨w.heap.size, 0, none⟩)) true ty).run Tryd.prog wr = _ := fun ty => Lib.run_next_end_at wr w.heap.size s p ty hit.it hp
      rw [HEND.out p (by rw [llen]; omega), List.length_nil, Nat.add_zero] at hr
      subst hr
      clear hit
      go_wp2
      go_ret
      exact ⟨rfl, HI.out.below⟩
end Go.Proofs.YtajalllecoclcaaDoor
