/- Decode and Length; the reference's Decode. -/
import Derived.Test.YtmomcaghfkgoeaaRleUnpack
namespace Go.Proofs.Ytmomcaghfkgoeaa
open Go.RowKit
set_option linter.unusedVariables false
set_option linter.unusedSimpArgs false

theorem info_u8 : (Try.prog.info? 5).map (fun i => (i.zero, i.size, i.bytes)) = some (some (.int .u8 0), 1, 1) := by kernel_rfl

/-- the closure of Decode: the bytes so far -/
structure DeAt (w0 : World) (ob : Nat) (acc : List UInt8) (w : World) : Prop where
  ex : ∃ v, Has w ob #[v] 24 ∧ w.ownsRow (ob + 1) 5 1 v acc.length (acc.map vB)
  bl : Below ob w0 w
theorem DeAt.keep {w0 : World} {ob : Nat} {acc : List UInt8} {w w' : World} (h : DeAt w0 ob acc w) (k : Below w.heap.size w w') : DeAt w0 ob acc w' := by
  obtain ⟨⟨v, h1, h2⟩, h3⟩ := h
  exact ⟨⟨v, h1.below k h1.lt, ownsRow_keep h2 k⟩, h3.trans (k.mono (Nat.le_of_lt h1.lt))⟩
set_option maxRecDepth 100000 in
set_option maxHeartbeats 800000 in
theorem decodeClo (w0 : World) (ob : Nat) (acc : List UInt8) (b : UInt8) (n : Nat) (w : World) (hn : n ≤ 255) (hl : acc.length ≤ 3000000) (h : DeAt w0 ob acc w) :
    Calls Try.prog 26 #[.int .u8 (b.toNat : Int), .int .i64 (n : Int), .pointer (some ⟨ob, 0, none⟩)] w fun e w' => e = .returned (.tuple #[]) ∧ DeAt w0 ob (acc ++ List.replicate n b) w' := by
  have HH := Lib.hid h
  clear h
  go_enter Try.func26, Try.ntmps26
  go_wp2_with fail
  go_loopw [6] (fun i wr => ∃ k : Nat, i = .int .i64 k ∧ k ≤ n ∧ DeAt w0 ob (acc ++ List.replicate k b) wr) (fun i _ => n - (intOf i).toNat)
  case atStart => exact ⟨0, rfl, Nat.zero_le _, by rw [List.replicate_zero, List.append_nil]; exact HH.out⟩
  case round =>
    obtain ⟨k, rfl, hk, h⟩ := hrel
    by_cases hlt : k < n
    · have hlt' : (k : Int) < (n : Int) := by omega
      obtain ⟨⟨v, h1, h2⟩, h3⟩ := h
      have hal : (acc ++ List.replicate k b).length = acc.length + k := by simp
      have HE := Lib.hid (show acc ++ List.replicate (k + 1) b = (acc ++ List.replicate k b) ++ [b] by rw [List.replicate_succ', List.append_assoc])
      generalize acc ++ List.replicate k b = ac at *
      have HA := Lib.hid h1
      have HO := Lib.hid h2
      have HB := Lib.hid h3
      have HS := Lib.hid (show ob + 1 ≤ wr.heap.size from h1.lt)
      have c0 := h1.cell 0
      simp only [List.getElem?_toArray, List.getElem?_cons_zero] at c0
      have hlx := h1.lt
      have hac : ac.length ≤ 4000000 := by omega
      clear h1 h2 h3 hal
      go_wp2_with (at_builtin; refine append1 Try.underlying24 info_u8 rfl rfl _ _ rfl (ob + 1) ac.length _ _ rfl HO.out (.int .u8 (b.toNat : Int)) rfl rfl (by unfold maxLen; omega) (by omega) HS.out ?_)
      intro g cap' w3 ho hc hb3 _ _ _
      have q0 := HA.out.below hb3 (Nat.lt_succ_self _)
      have HF := Lib.hid (show DeAt w0 ob (ac ++ [b]) (w3.setCell ⟨ob, 0, none⟩ (.slice (some ⟨g, 0, none⟩) (ac.length + 1) cap')) from
        ⟨⟨_, q0.setCell 0 _, own_set (by rw [List.length_append, List.map_append]; exact ho) _ _ (Nat.lt_succ_self _)⟩, (HB.out.trans (hb3.mono (Nat.le_succ _))).setCell (p := ⟨ob, 0, none⟩) (Nat.le_refl _) _⟩)
      have d0 := q0.cell 0
      have f0 := q0.free 0
      simp only [List.getElem?_toArray, List.getElem?_cons_zero] at d0
      clear ho hc hb3 q0 c0
      go_wp2
      go_roundw
      case rel => exact ⟨k + 1, by go_num, hlt, by rw [HE.out]; exact HF.out⟩
      case measure => simp [intOf]; omega
    · have hlt' : ¬ (k : Int) < (n : Int) := by omega
      obtain rfl : k = n := by omega
      have H2 := Lib.hid h
      clear h
      go_wp2
      refine bodyPost_end (v := .tuple #[]) (by simp [results, Try.results26, go_sem]) rfl ⟨rfl, H2.out⟩

/-- no bytes, if there is a fault -/
def outB (R : List UInt8 × Int) : ByteArray := if R.2 = 0 then Fr.bs R.1 else ⟨#[]⟩
set_option maxRecDepth 100000 in
set_option maxHeartbeats 800000 in
theorem decode_walk (s : ByteArray) (w : World) (hs : s.size ≤ 10100) :
    Calls Try.prog 11 #[.string s] w fun e w' => e = .returned (.tuple #[.string (outB (Rl.dec s.data.toList)), .int .i64 (Rl.dec s.data.toList).2]) ∧ Below w.heap.size w w' := by
  have hmf : ∀ (fn : Fn) (first cap : Array Value) (w : World), (Instr.makeFunc fn first cap).run Try.prog w = .ok (.func fn first cap) w := fun _ _ _ _ => rfl
  have HE := Lib.hid (fun w1 h => unpack_decode s ⟨w.heap.size, 0, none⟩ w1 hs (DeAt w w.heap.size) (fun _ _ n h => h.keep (below_drewN (Below.refl _ _) n)) (fun _ _ _ h k => h.keep k) (fun acc b n w' h1 h2 h => decodeClo w w.heap.size acc b n w' h1 h2 h) h)
  have H0 := Lib.hid (show DeAt w w.heap.size [] (w.alloc (.cells #[.slice none 0 0] 24)) from ⟨⟨_, Has.new w _ _, World.ownsRow_nil _ _ _ _⟩, (Below.refl _ _).alloc (Nat.le_refl _) _⟩)
  generalize hR : Rl.dec s.data.toList = R at *
  have HO := Lib.hid (show outB R = if R.2 = 0 then Fr.bs R.1 else ⟨#[]⟩ from rfl)
  generalize outB R = O at *
  obtain ⟨r1, r2⟩ := R
  simp only at HO HE ⊢
  clear hR
  go_enter Try.func11, Try.ntmps11
  go_wp2_with fail
  (with_reducible refine (HE.out _ H0.out).mono ?_)
  rintro e w1 ⟨rfl, acc, ⟨⟨v, h1, h2⟩, h3⟩, h4, h5⟩
  obtain ⟨a, cc, rfl, hrow, _⟩ := rowAt_owns h2
  have HB := Lib.hid h3
  have hcv := convert_row (bs := acc) Try.underlying24 Try.underlying5 Try.underlying9 hrow
  have c0 := h1.cell 0
  simp only [List.getElem?_toArray, List.getElem?_cons_zero] at c0
  have H4 := Lib.hid h4
  clear h1 h2 h3 h4 hrow
  by_cases h0 : r2 = 0
  · have HX := Lib.hid (show O = ⟨acc.toArray⟩ by rw [HO.out, if_pos h0, H4.out h0]; rfl)
    subst h0
    generalize (⟨acc.toArray⟩ : ByteArray) = X at *
    go_wp2
    go_ret2
    exact ⟨by rw [HX.out]; rfl, HB.out⟩
  · have HX := Lib.hid (show O = ⟨#[]⟩ by rw [HO.out, if_neg h0])
    have h0' : (r2 == 0) = false := by simpa using h0
    go_wp2
    go_ret2
    exact ⟨by rw [HX.out]; rfl, HB.out⟩

/-- the closure of Length -/
structure LeAt (w0 : World) (ob : Nat) (acc : List UInt8) (w : World) : Prop where
  has : Has w ob #[.int .i64 (acc.length : Int)] 3
  bl : Below ob w0 w
theorem LeAt.keep {w0 : World} {ob : Nat} {acc : List UInt8} {w w' : World} (h : LeAt w0 ob acc w) (k : Below w.heap.size w w') : LeAt w0 ob acc w' :=
  ⟨h.has.below k h.has.lt, h.bl.trans (k.mono (Nat.le_of_lt h.has.lt))⟩
set_option maxRecDepth 100000 in
set_option maxHeartbeats 800000 in
theorem lengthClo (w0 : World) (ob : Nat) (acc : List UInt8) (b : UInt8) (n : Nat) (w : World) (hn : n ≤ 255) (hl : acc.length ≤ 3000000) (h : LeAt w0 ob acc w) :
    Calls Try.prog 27 #[.int .u8 (b.toNat : Int), .int .i64 (n : Int), .pointer (some ⟨ob, 0, none⟩)] w fun e w' => e = .returned (.tuple #[]) ∧ LeAt w0 ob (acc ++ List.replicate n b) w' := by
  have HL := Lib.hid (show ((acc ++ List.replicate n b).length : Int) = (acc.length : Int) + (n : Int) by simp)
  have HS := Lib.hid (show Has (w.setCell ⟨ob, 0, none⟩ (.int .i64 ((acc.length : Int) + (n : Int)))) ob #[.int .i64 ((acc.length : Int) + (n : Int))] 3 from h.has.setCell 0 _)
  have HB := Lib.hid (h.bl.setCell (p := ⟨ob, 0, none⟩) (Nat.le_refl _) (.int .i64 ((acc.length : Int) + (n : Int))))
  have c0 := h.has.cell 0
  have f0 := h.has.free 0
  simp only [List.getElem?_toArray, List.getElem?_cons_zero] at c0
  generalize acc.length = m at *
  clear h
  go_enter Try.func27, Try.ntmps27
  go_wp2
  refine bodyPost_end (v := .tuple #[]) (by simp [results, Try.results27, go_sem]) rfl ⟨rfl, ⟨by rw [HL.out]; exact HS.out, HB.out⟩⟩

def outN (R : List UInt8 × Int) : Nat := if R.2 = 0 then R.1.length else 0
set_option maxRecDepth 100000 in
set_option maxHeartbeats 800000 in
theorem length_walk (s : ByteArray) (w : World) (hs : s.size ≤ 10100) :
    Calls Try.prog 12 #[.string s] w fun e w' => e = .returned (.tuple #[.int .i64 (outN (Rl.dec s.data.toList) : Int), .int .i64 (Rl.dec s.data.toList).2]) ∧ Below w.heap.size w w' := by
  have hmf : ∀ (fn : Fn) (first cap : Array Value) (w : World), (Instr.makeFunc fn first cap).run Try.prog w = .ok (.func fn first cap) w := fun _ _ _ _ => rfl
  have HE := Lib.hid (fun w1 h => unpack_length s ⟨w.heap.size, 0, none⟩ w1 hs (LeAt w w.heap.size) (fun _ _ n h => h.keep (below_drewN (Below.refl _ _) n)) (fun _ _ _ h k => h.keep k) (fun acc b n w' h1 h2 h => lengthClo w w.heap.size acc b n w' h1 h2 h) h)
  have H0 := Lib.hid (show LeAt w w.heap.size [] (w.alloc (.cells #[.int .i64 0] 3)) from ⟨Has.new w _ _, (Below.refl _ _).alloc (Nat.le_refl _) _⟩)
  generalize hR : Rl.dec s.data.toList = R at *
  have HO := Lib.hid (show outN R = if R.2 = 0 then R.1.length else 0 from rfl)
  generalize outN R = O at *
  obtain ⟨r1, r2⟩ := R
  simp only at HO HE ⊢
  clear hR
  go_enter Try.func12, Try.ntmps12
  go_wp2_with fail
  (with_reducible refine (HE.out _ H0.out).mono ?_)
  rintro e w1 ⟨rfl, acc, ⟨h1, h3⟩, h4, h5⟩
  have HB := Lib.hid h3
  have c0 := h1.cell 0
  simp only [List.getElem?_toArray, List.getElem?_cons_zero] at c0
  have H4 := Lib.hid h4
  clear h1 h3 h4
  by_cases h0 : r2 = 0
  · have HX := Lib.hid (show O = acc.length by rw [HO.out, if_pos h0, H4.out h0])
    subst h0
    generalize acc.length = X at *
    go_wp2
    go_ret2
    exact ⟨by rw [HX.out]; rfl, HB.out⟩
  · have HX := Lib.hid (show O = 0 by rw [HO.out, if_neg h0])
    have h0' : (r2 == 0) = false := by simpa using h0
    go_wp2
    go_ret2
    exact ⟨by rw [HX.out]; rfl, HB.out⟩
end Go.Proofs.Ytmomcaghfkgoeaa
