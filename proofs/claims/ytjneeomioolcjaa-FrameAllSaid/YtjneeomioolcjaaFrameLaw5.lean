/- The law of all frames. -/
import Derived.Test.YtjneeomioolcjaaFrameSame
import Derived.Test.YtjneeomioolcjaaFrameAll2
import Derived.Test.YtjneeomioolcjaaFrameLaw1
namespace Go.Proofs.Ytjneeomioolcjaa
open Go.RowKit

theorem Fr.run_length (s : ByteArray) : ∀ (n p : Nat) (fs : List Fr.Frm), (Fr.run s n p fs).1.length ≤ fs.length + n
  | 0, p, fs => by simp [Fr.run]
  | n + 1, p, fs => by
    unfold Fr.run
    split
    · show fs.length ≤ _; omega
    · split
      · show fs.length ≤ _; omega
      · have := Fr.run_length s n (p + (Fr.dec (s.extract p s.size)).len) (fs ++ [(Fr.dec (s.extract p s.size)).f])
        rw [List.length_append] at this
        simp at this
        omega

set_option maxRecDepth 100000 in
set_option maxHeartbeats 2000000 in
theorem frameAll_walk (s : ByteArray) (w : World) (_ : s.size ≤ maxLen) :
    Calls Try.prog 7 #[.string s] w fun e w' => e = .returned (.bool true) ∧ Below w.heap.size w w' := by
  have HE := Lib.hid (fun w => end_walk w)
  by_cases hl : 300 < s.size
  · have hl' : (300 : Int) < (s.size : Int) := by omega
    go_enter Try.func7, Try.ntmps7
    go_wp2_with fail
    refine (HE.out _).mono ?_
    rintro e w1 ⟨rfl, hb1⟩
    go_wp2
    go_ret
    exact ⟨rfl, hb1⟩
  · have hl' : ¬ (300 : Int) < (s.size : Int) := by omega
    have H1 := Lib.hid (xall_walk s w (by omega))
    have H2 := Lib.hid (fun w => refall_walk s w (by omega))
    have hlen := Fr.run_length s s.size 0 []
    generalize Fr.run s s.size 0 [] = R at *
    obtain ⟨fs, p, er⟩ := R
    simp only [List.length_nil, Nat.zero_add] at H1 H2 hlen
    have Hlen := Lib.hid (show fs.length ≤ 300 by omega)
    clear hlen hl
    go_enter Try.func7, Try.ntmps7
    go_wp2_with fail
    refine H1.out.mono ?_
    rintro e w1 ⟨v1, rfl, ho1, hb1⟩
    obtain ⟨a1, c1, rfl, hr1, _⟩ := rowS_owns ho1
    have Hr1 := Lib.hid hr1
    have Hb1 := Lib.hid hb1
    clear ho1 hr1 hb1
    go_wp2_with fail
    refine (H2.out _).mono ?_
    rintro e w2 ⟨v2, rfl, ho2, hb2⟩
    obtain ⟨a2, c2, rfl, hr2, _⟩ := rowS_owns ho2
    have hal := (Below.refl w2.heap.size w2).alloc (Nat.le_refl _) (.cells #[Value.slice a2 fs.length c2, .int .i64 (p : Int), .int .i64 er] 51)
    have Hr2 := Lib.hid (hr2.keep hal)
    have Hr3 := Lib.hid ((Hr1.out.keep hb2).keep hal)
    have Hb2 := Lib.hid (Hb1.out.trans (hb2.mono Hb1.out.size))
    have Hb3 := Lib.hid (Hb2.out.trans (hal.mono Hb2.out.size))
    clear ho2 hr2 hb2 hal
    go_wp2_with fail
    refine (same_walk fs _ _ _ _ _ _ Hr3.out Hr2.out rfl (by have := Hlen.out; omega)).mono ?_
    rintro e w3 ⟨rfl, hb4⟩
    have Hb4 := Lib.hid (Hb3.out.trans (hb4.mono Hb3.out.size))
    clear hb4
    go_wp2_with fail
    refine (HE.out _).mono ?_
    rintro e w4 ⟨rfl, hb5⟩
    have Hb5 := Lib.hid (Hb4.out.trans (hb5.mono Hb4.out.size))
    clear hb5
    go_wp2
    go_ret
    exact ⟨rfl, Hb5.out⟩
end Go.Proofs.Ytjneeomioolcjaa
