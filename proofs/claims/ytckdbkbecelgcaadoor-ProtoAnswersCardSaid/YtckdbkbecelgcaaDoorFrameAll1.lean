/- The frames with which bytes begin. -/
import Derived.Test.YtckdbkbecelgcaaDoorFrameWalk6
import Derived.Test.YtckdbkbecelgcaaDoorRowS
import Derived.OwnWalk
namespace Go.Proofs.YtckdbkbecelgcaaDoor
open Go.RowKit

namespace Fr
/-- all frames behind p, with fuel n; fs: those ahead -/
def run (s : ByteArray) : Nat → Nat → List Frm → List Frm × Nat × Int
  | 0, p, fs => (fs, p, 0)
  | n + 1, p, fs => if s.size ≤ p then (fs, p, 0) else if (dec (s.extract p s.size)).err ≠ 0 then (fs, p, (dec (s.extract p s.size)).err) else run s n (p + (dec (s.extract p s.size)).len) (fs ++ [(dec (s.extract p s.size)).f])
theorem run_end (s : ByteArray) (n p : Nat) (fs : List Frm) (h : s.size ≤ p) : run s n p fs = (fs, p, 0) := by
  cases n with
  | zero => rfl
  | succ n => unfold run; rw [if_pos h]
/-- one frame further -/
theorem run_step (s : ByteArray) (n p : Nat) (fs : List Frm) (h : p < s.size) (he : (dec (s.extract p s.size)).err = 0) : run s (n + 1) p fs = run s n (p + (dec (s.extract p s.size)).len) (fs ++ [(dec (s.extract p s.size)).f]) := by
  conv => lhs; unfold run
  rw [if_neg (by omega), if_neg (by simpa using he)]
theorem run_stop (s : ByteArray) (n p : Nat) (fs : List Frm) (h : p < s.size) (he : (dec (s.extract p s.size)).err ≠ 0) : run s (n + 1) p fs = (fs, p, (dec (s.extract p s.size)).err) := by
  conv => lhs; unfold run
  rw [if_neg (by omega), if_pos he]
theorem dec_len (s : ByteArray) (p : Nat) (h : p < s.size) (he : (dec (s.extract p s.size)).err = 0) : 9 ≤ (dec (s.extract p s.size)).len ∧ p + (dec (s.extract p s.size)).len ≤ s.size := by
  have h1 := enc_dec _ he
  have hs : (s.extract p s.size).size = s.size - p := by rw [ByteArray.size_extract]; omega
  omega
end Fr
/-- a frame's cells -/
def fcells (f : Fr.Frm) : List Value := [.int .i64 f.t, .int .i64 f.j, .string f.d]
theorem fcells_len (fs : List Fr.Frm) : (fs.flatMap fcells).length = fs.length * 3 := by
  induction fs with
  | nil => rfl
  | cons f fs ih => simp [fcells, ih]; omega
theorem info_frame : (Tryd.prog.info? 23).map (fun i => (i.zero, i.size, i.bytes)) = some (some (.agg #[.int .i64 0, .int .i64 0, .string ⟨#[]⟩]), 3, 32) := by kernel_rfl

set_option maxRecDepth 100000 in
set_option maxHeartbeats 2000000 in
theorem xall_walk (s : ByteArray) (w : World) (hS : s.size ≤ 1000) :
    Calls Tryd.prog 38 #[.string s] w fun e w' => ∃ v, e = .returned (.tuple #[v, .int .i64 ((Fr.run s s.size 0 []).2.1 : Nat), .int .i64 (Fr.run s s.size 0 []).2.2]) ∧
      w'.ownsRow w.heap.size 23 3 v (Fr.run s s.size 0 []).1.length ((Fr.run s s.size 0 []).1.flatMap fcells) ∧ Below w.heap.size w w' := by
  generalize hR : Fr.run s s.size 0 [] = R
  have HR := Lib.hid hR
  clear hR
  have HS := Lib.hid hS
  go_enter Tryd.func38, Tryd.ntmps38
  go_wp2
  go_loopw [5, 6] (fun v i wr => ∃ (p n : Nat) (fs : List Fr.Frm), p ≤ s.size ∧ s.size ≤ p + n ∧ i = .int .i64 p ∧ Fr.run s n p fs = R ∧ fs.length ≤ p ∧ wr.ownsRow w.heap.size 23 3 v fs.length (fs.flatMap fcells) ∧ Below w.heap.size w wr) (fun _ i _ => s.size - (intOf i).toNat)
  case atStart => exact ⟨0, s.size, [], Nat.zero_le _, by omega, rfl, HR.out, Nat.le_refl _, World.ownsRow_nil _ _ _ _, Below.refl _ _⟩
  case round =>
    obtain ⟨p, n, fs, hp, hpn, rfl, hrun, hfp, hown, hbr⟩ := hrel
    by_cases hlt : p < s.size
    · have HD := Lib.hid (fun w => xdec_walk (s.extract p s.size) w (by rw [ByteArray.size_extract]; omega))
      have hsl := run_slice_from Tryd.underlying9 s p (p : Int) rfl (by omega)
      have hlt' : (p : Int) < (s.size : Int) := by omega
      obtain ⟨n, rfl⟩ : ∃ n', n = n' + 1 := ⟨n - 1, by omega⟩
      have hst := Fr.run_step s n p fs hlt
      have hsp := Fr.run_stop s n p fs hlt
      have hdl := Fr.dec_len s p hlt
      generalize hg : Fr.dec (s.extract p s.size) = g at *
      obtain ⟨⟨t, j, d⟩, len, er⟩ := g
      simp only [fv] at HD hst hsp hdl
      have Hown := Lib.hid hown
      have Hbr := Lib.hid hbr
      have Hrun := Lib.hid hrun
      clear hown hbr hrun hg
      by_cases he : er = 0
      · obtain ⟨hl9, hle⟩ := hdl he
        have Hst := Lib.hid (hst he)
        subst he
        clear hst hsp hdl
        go_wp2_with fail
        refine (HD.out _).mono ?_
        rintro e w1 ⟨rfl, hb1⟩
        have hown1 := (ownsRow_keep Hown.out hb1).alloc (.cells #[Value.int .i64 t, Value.int .i64 j, Value.string d] 23)
        have hb2 := Hbr.out.trans (((hb1.trans ((Below.refl w1.heap.size w1).alloc (Nat.le_refl _) (.cells #[Value.int .i64 t, Value.int .i64 j, Value.string d] 23) |>.mono hb1.size))).mono Hbr.out.size)
        have Hown1 := Lib.hid hown1
        have Hb2 := Lib.hid hb2
        clear hb1 hown1 hb2 Hown Hbr
        go_wp2_with (at_builtin; refine appendS Tryd.underlying85 info_frame rfl (by decide) rfl _ _ rfl w.heap.size fs.length _ _ rfl Hown1.out #[Value.int .i64 t, Value.int .i64 j, Value.string d] rfl (by intro u hu; simp at hu; rcases hu with rfl | rfl | rfl <;> rfl) _ rfl (by simp) (by unfold maxLen; have := HS.out; omega) (by have := HS.out; omega) Hb2.out.size ?_)
        intro g cap' w3 ho hc hb3 _ _ _
        have ho2 : w3.ownsRow w.heap.size 23 3 (.slice (some ⟨g, 0, none⟩) (fs.length + 1) cap') (fs ++ [Fr.Frm.mk t j d]).length ((fs ++ [Fr.Frm.mk t j d]).flatMap fcells) := by
          rw [List.length_append, List.flatMap_append]
          exact ho
        have hb4 := Hb2.out.trans hb3
        have hrun2 : Fr.run s n (p + len) (fs ++ [⟨t, j, d⟩]) = R := Hst.out.symm.trans Hrun.out
        clear ho hc hb3 Hown1 Hb2 Hst Hrun
        have hwl : wrap64 ((p : Int) + (len : Int)) = ((p + len : Nat) : Int) := by unfold wrap64; have := HS.out; omega
        go_wp2
        go_roundw
        case rel => exact ⟨p + len, n, fs ++ [⟨t, j, d⟩], hle, by omega, by go_num, hrun2, by rw [List.length_append]; show fs.length + 1 ≤ _; omega, ho2, hb4⟩
        case measure => simp [intOf]; omega
      · have hR2 := Lib.hid ((hsp he).symm.trans Hrun.out)
        have he' : (er == 0) = false := by simpa using he
        clear hst hsp hdl Hrun
        go_wp2_with fail
        refine (HD.out _).mono ?_
        rintro e w1 ⟨rfl, hb1⟩
        have hown1 := (ownsRow_keep Hown.out hb1).alloc (.cells #[Value.int .i64 t, Value.int .i64 j, Value.string d] 23)
        have hb2 := Hbr.out.trans (((hb1.trans ((Below.refl w1.heap.size w1).alloc (Nat.le_refl _) (.cells #[Value.int .i64 t, Value.int .i64 j, Value.string d] 23) |>.mono hb1.size))).mono Hbr.out.size)
        have Hown1 := Lib.hid hown1
        have Hb2 := Lib.hid hb2
        clear hb1 hown1 hb2 Hown Hbr
        go_wp2
        (try simp only [Exit.inBlock, Exit.then])
        refine bodyPost_ret (results_tmp3 rfl _ _ _) rfl ?_
        rw [← hR2.out]
        exact ⟨_, rfl, Hown1.out, Hb2.out⟩
    · have hR2 := Lib.hid ((Fr.run_end s n p fs (by omega)).symm.trans hrun)
      have Hown := Lib.hid hown
      have Hbr := Lib.hid hbr
      have hlt' : ¬ ((p : Int) < (s.size : Int)) := by omega
      clear hown hbr hrun
      go_wp2
      (try simp only [Exit.inBlock, Exit.then])
      refine bodyPost_ret (results_tmp3 rfl _ _ _) rfl ?_
      rw [← hR2.out]
      exact ⟨_, rfl, Hown.out, Hbr.out⟩
end Go.Proofs.YtckdbkbecelgcaaDoor
