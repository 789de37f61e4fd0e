/- Walks of the laws CrcNil, CrcTable. -/
import Derived.Test.YtaefkkpdemilpaaCrcNine
import Derived.Test.YtaefkkpdemilpaaLater
namespace Go.Proofs.Ytaefkkpdemilpaa
open Go.RowKit

set_option maxRecDepth 100000 in
set_option maxHeartbeats 400000 in
theorem crcNil_walk (c : Int) (s : ByteArray) (w : World) (hc0 : (Lit.int .u8 c).wf = true) (hs : s.size ≤ maxLen) :
    Calls Try.prog 7 #[.int .u8 c, .string s] w fun e w' => e = .returned (.bool true) ∧ Below w.heap.size w w' := by
  obtain ⟨c, rfl⟩ : ∃ d : UInt8, c = (d.toNat : Int) := by
    have hx : 0 ≤ c ∧ c ≤ 255 := by simpa [Lit.wf, IntKind.min, IntKind.max, IntKind.signed, IntKind.bits] using hc0
    exact ⟨UInt8.ofNat c.toNat, by simp [UInt8.toNat_ofNat']; omega⟩
  have hs2 := hs
  unfold maxLen at hs2
  have Hs := Lib.hid hs
  clear hs hc0
  by_cases hlt : s.size ≤ 500
  · go_enter Try.func7, Try.ntmps7
    go_wp2_with fail
    refine (put_nil c _).mono ?_
    rintro e w1 ⟨rfl, rfl⟩
    go_wp2_with fail
    refine (text_nil _ _ Hs.out).mono ?_
    rintro e w1 ⟨rfl, rfl⟩
    go_wp2_with fail
    refine (reset_nil _).mono ?_
    rintro e w1 ⟨rfl, rfl⟩
    go_wp2_with fail
    refine (value_nil _).mono ?_
    rintro e w1 ⟨rfl, rfl⟩
    go_wp2_with fail
    refine (nine_walk _).mono ?_
    rintro e w3 ⟨rfl, hb2⟩
    go_wp2
    go_ret
    exact ⟨rfl, hb2⟩
  · go_enter Try.func7, Try.ntmps7
    go_wp2_with fail
    refine (nine_walk _).mono ?_
    rintro e w3 ⟨rfl, hb2⟩
    go_wp2
    go_ret
    exact ⟨rfl, hb2⟩

set_option maxRecDepth 100000 in
theorem xstep_nil (s : BitVec 32) (c : UInt8) (w : World) :
    Calls Try.prog 19 #[.pointer none, u32 s, u8 c] w fun e w' => e = .returned (.tuple #[.int .u32 0, .int .i64 7]) ∧ w = w' := by
  go_enter Try.func19, Try.ntmps19
  go_wp2
  go_ret2
  exact ⟨rfl, rfl⟩
set_option maxRecDepth 100000 in
theorem xstep_walk (b : Nat) (s : BitVec 32) (c : UInt8) (w : World) (ht : TabAt w b) :
    Calls Try.prog 19 #[.pointer (some ⟨b, 0, none⟩), u32 s, u8 c] w fun e w' => e = .returned (.tuple #[u32 (Crc.step s c), .int .i64 0]) ∧ w = w' := by
  have h := step_walk b s c w ht
  have H := Lib.hid h
  clear h ht
  go_enter Try.func19, Try.ntmps19
  go_wp2_with fail
  refine H.out.mono ?_
  rintro e w1 ⟨rfl, rfl⟩
  go_wp2
  go_ret2
  exact ⟨rfl, rfl⟩

theorem tabCells_at (i : Nat) (h : i < 256) : (tabCells 256)[i]? = some (u32 (Crc.tab i)) := by
  unfold tabCells
  rw [List.getElem?_toArray, List.getElem?_map, List.getElem?_range h]; simp [h]
theorem tab_up (c : UInt8) : Crc.tab c.toNat = Crc.Zn 8 (Crc.up c) := rfl

set_option maxRecDepth 100000 in
set_option maxHeartbeats 800000 in
theorem crcTable_walk (s c : Int) (w : World) (hs0 : (Lit.int .u32 s).wf = true) (hc0 : (Lit.int .u8 c).wf = true) :
    Calls Try.prog 8 #[.int .u32 s, .int .u8 c] w fun e w' => e = .returned (.bool true) ∧ Below w.heap.size w w' := by
  obtain ⟨c, rfl⟩ : ∃ d : UInt8, c = (d.toNat : Int) := by
    have hx : 0 ≤ c ∧ c ≤ 255 := by simpa [Lit.wf, IntKind.min, IntKind.max, IntKind.signed, IntKind.bits] using hc0
    exact ⟨UInt8.ofNat c.toNat, by simp [UInt8.toNat_ofNat']; omega⟩
  obtain ⟨s, rfl⟩ : ∃ d : BitVec 32, s = (d.toNat : Int) := by
    have hx : 0 ≤ s ∧ s ≤ 4294967295 := by simpa [Lit.wf, IntKind.min, IntKind.max, IntKind.signed, IntKind.bits] using hs0
    exact ⟨BitVec.ofNat 32 s.toNat, by rw [BitVec.toNat_ofNat]; omega⟩
  clear hc0 hs0
  have hal := run_zero_tab
  go_enter Try.func8, Try.ntmps8
  go_wp2_with fail
  refine (table_walk _).mono ?_
  rintro e w1 ⟨rfl, hb1⟩
  have Hb1 := Lib.hid hb1
  clear hb1
  generalize hT : tabCells 256 = T
  have hTs : T.size = 256 := by subst hT; kernel_rfl
  have hTc : T.all (·.oneCell') = true := by subst hT; kernel_rfl
  have HT := Lib.hid hT
  clear hT
  go_wp2_with (refine wpList_store_row rfl 37 _ _ rfl w1.heap.size T rfl rfl _ (tabCells 0) (Has.new _ _ _) (by rw [hTs]; kernel_rfl) (by rw [hTs]; kernel_rfl) hTc ?_)
  obtain ⟨B, hB⟩ : ∃ B, B = w1.heap.size := ⟨_, rfl⟩
  have hm : ((w1.alloc (.cells (tabCells 0) 37)).setRow B T).heap[B]? = some (.cells T 37 (0, 0)) := by rw [hB]; exact setRow_heap _ _ _ _ _ _ (Has.new _ _ _)
  have hbl : Below w.heap.size w ((w1.alloc (.cells (tabCells 0) 37)).setRow B T) := by
    refine Hb1.out.trans ⟨rfl, rfl, rfl, by simp, fun k hk => ?_⟩
    have := Hb1.out.size
    rw [setRow_other _ _ _ _ (by omega)]
    exact Go.heap_alloc_old w1 _ (by omega)
  have hsz : B < ((w1.alloc (.cells (tabCells 0) 37)).setRow B T).heap.size := by simp; omega
  rw [← hB]
  clear hB Hb1
  generalize (w1.alloc (.cells (tabCells 0) 37)).setRow B T = w2 at *
  have htab : TabAt w2 B := fun i hi => by
    rw [cell_of_row _ _ _ _ _ _ hm, ← HT.out]
    exact tabCells_at i hi
  have Htab := Lib.hid htab
  have Hbl := Lib.hid hbl
  clear htab hbl hm hTs hTc HT
  refine (xstep_walk B s c _ Htab.out).mono ?_
  rintro e w3 ⟨rfl, rfl⟩
  unfold u32
  go_wp2_with fail
  refine (xstep_nil s c _).mono ?_
  rintro e w3 ⟨rfl, rfl⟩
  have hcl : c.toNat < 256 := c.toNat_lt
  have hcell : ∀ x : Later w2, x.at.cell? ⟨B, c.toNat, none⟩ = some (.int .u32 ((Crc.tab c.toNat).toNat : Int)) := fun x => x.cell (Htab.out _ hcl)
  go_wp2_with fail
  refine region_later 27 (by kernel_rfl) (by kernel_rfl) ?_
  simp only [List.take_succ_cons, List.take_zero, List.drop_succ_cons, List.drop_zero]
  have hi0 : (0 : Int) ≤ (c.toNat : Int) := by omega
  have hi1 : (c.toNat : Int) < 256 := by omega
  have Hb := Lib.hid (fun x : Later w2 => later_same (x := x) (bits_walk (Crc.up c) x.at))
  have Hs := Lib.hid (fun x : Later w2 => later_same (x := x) (refstep_walk s c x.at))
  have Hn := Lib.hid (fun x : Later w2 => later_call (x := x) (nine_walk x.at))
  rw [← tab_up] at Hb
  unfold u32 at Hb Hs
  rw [← up_int] at Hb
  repeat (go_big_quiet_step ((first | exact Hb.out _ | exact Hs.out _ | exact Hn.out _)))
  refine wpQuiet_nil ?_
  rintro w' ⟨x, rfl⟩
  have hb4 := x.below
  clear Hb Hs Hn hcell
  generalize x.at = w4 at *
  go_wp2
  go_ret
  exact ⟨rfl, Hbl.out.trans (hb4.mono Hbl.out.size)⟩
end Go.Proofs.Ytaefkkpdemilpaa
