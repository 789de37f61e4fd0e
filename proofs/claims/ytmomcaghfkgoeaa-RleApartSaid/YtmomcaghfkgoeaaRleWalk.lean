/- The closures; Pieces, Encode, Size. -/
import Derived.Test.YtmomcaghfkgoeaaRleEach
namespace Go.Proofs.Ytmomcaghfkgoeaa
open Go.RowKit
set_option linter.unusedVariables false
set_option linter.unusedSimpArgs false

/-- the closure of Pieces: the row so far -/
def PcAt (w0 : World) (ob : Nat) (ps : List Rl.Pc) (w : World) : Prop :=
  ∃ v, Has w ob #[v] 27 ∧ w.ownsRow (ob + 1) 30 2 v ps.length (ps.flatMap pcells) ∧ Below ob w0 w
theorem PcAt.drewN {w0 : World} {ob : Nat} {ps : List Rl.Pc} {w : World} (h : PcAt w0 ob ps w) (n : Nat) : PcAt w0 ob ps (w.drewN n) := by
  obtain ⟨v, h1, h2, h3⟩ := h
  exact ⟨v, h1.drewN n, ownsRow_keep h2 (below_drewN (Below.refl _ _) n), below_drewN h3 n⟩
set_option maxRecDepth 100000 in
set_option maxHeartbeats 800000 in
theorem piecesClo (w0 : World) (ob : Nat) (ps : List Rl.Pc) (p : Rl.Pc) (w : World) (hl : ps.length < 100000) (h : PcAt w0 ob ps w) :
    Calls Try.prog 24 #[.agg #[.int .u8 (p.b.toNat : Int), .int .i64 (p.n : Int)], .pointer (some ⟨ob, 0, none⟩)] w fun e w' => e = .returned (.tuple #[]) ∧ PcAt w0 ob (ps ++ [p]) w' := by
  obtain ⟨v, h1, h2, h3⟩ := h
  obtain ⟨b, n⟩ := p
  have hlt := h1.lt
  have HA := Lib.hid (h1.alloc (.cells #[.int .u8 (b.toNat : Int), .int .i64 (n : Int)] 30))
  have HO := Lib.hid (ownsRow_keep h2 ((Below.refl w.heap.size w).alloc (Nat.le_refl _) (.cells #[.int .u8 (b.toNat : Int), .int .i64 (n : Int)] 30)))
  have HX := Lib.hid (Has.new w #[.int .u8 (b.toNat : Int), .int .i64 (n : Int)] 30)
  have HB := Lib.hid (h3.alloc (show ob ≤ w.heap.size by omega) (.cells #[.int .u8 (b.toNat : Int), .int .i64 (n : Int)] 30))
  have HS := Lib.hid (show ob + 1 ≤ (w.alloc (.cells #[.int .u8 (b.toNat : Int), .int .i64 (n : Int)] 30)).heap.size by simp; omega)
  clear h1 h2 h3
  go_enter Try.func24, Try.ntmps24
  go_upto_region 1 with (fail)
  generalize w.alloc (.cells #[.int .u8 (b.toNat : Int), .int .i64 (n : Int)] 30) = w1 at *
  have x0 := HX.out.cell 0; have x1 := HX.out.cell 1
  have o0 := HA.out.cell 0
  simp only [List.getElem?_toArray, List.getElem?_cons_zero, List.getElem?_cons_succ] at x0 x1 o0
  have hlx := HX.out.lt
  go_wp2_with (at_builtin; refine appendS Try.underlying27 info_piece rfl (by decide) rfl _ _ rfl (ob + 1) ps.length _ _ rfl HO.out #[Value.int .u8 (b.toNat : Int), Value.int .i64 (n : Int)] rfl (by intro u hu; simp at hu; rcases hu with rfl | rfl <;> rfl) _ rfl rfl (by unfold maxLen; omega) (by omega) HS.out ?_)
  intro g cap' w3 ho hc hb3 _ _ _
  have q0 := HA.out.below hb3 (Nat.lt_succ_self _)
  have HF := Lib.hid (show PcAt w0 ob (ps ++ [⟨b, n⟩]) (w3.setCell ⟨ob, 0, none⟩ (.slice (some ⟨g, 0, none⟩) (ps.length + 1) cap')) from
    ⟨_, q0.setCell 0 _, own_set (by rw [List.length_append, List.flatMap_append]; exact ho) _ _ (Nat.lt_succ_self _), (HB.out.trans (hb3.mono (Nat.le_succ _))).setCell (p := ⟨ob, 0, none⟩) (Nat.le_refl _) _⟩)
  have c0 := q0.cell 0
  have f0 := q0.free 0
  simp only [List.getElem?_toArray, List.getElem?_cons_zero, List.getElem?_cons_succ] at c0
  clear ho hc hb3 q0
  go_wp2
  refine bodyPost_end (v := .tuple #[]) (by simp [results, Try.results24, go_sem]) rfl ⟨rfl, HF.out⟩

set_option maxRecDepth 100000 in
set_option maxHeartbeats 800000 in
theorem pieces_walk (s : ByteArray) (w : World) (hs : s.size ≤ 100000) :
    Calls Try.prog 10 #[.string s] w fun e w' => ∃ v, e = .returned v ∧ w'.ownsRow w.heap.size 30 2 v (Rl.pcs s.data.toList).length ((Rl.pcs s.data.toList).flatMap pcells) ∧ Below w.heap.size w w' := by
  have hmf : ∀ (fn : Fn) (first cap : Array Value) (w : World), (Instr.makeFunc fn first cap).run Try.prog w = .ok (.func fn first cap) w := fun _ _ _ _ => rfl
  have HE := Lib.hid (fun w1 h => each_pieces s ⟨w.heap.size, 0, none⟩ w1 hs (PcAt w w.heap.size) (fun _ _ n h => h.drewN n) (fun ps p w' h1 h2 h3 h => piecesClo w w.heap.size ps p w' h3 h) h)
  have H0 := Lib.hid (show PcAt w w.heap.size [] (w.alloc (.cells #[.slice none 0 0] 27)) from ⟨_, Has.new w _ _, World.ownsRow_nil _ _ _ _, (Below.refl _ _).alloc (Nat.le_refl _) _⟩)
  go_enter Try.func10, Try.ntmps10
  go_wp2_with fail
  (with_reducible refine (HE.out _ H0.out).mono ?_)
  rintro e w1 ⟨rfl, v, h1, h2, h3⟩
  have HO := Lib.hid h2
  have HB := Lib.hid h3
  have c0 := h1.cell 0
  simp only [List.getElem?_toArray, List.getElem?_cons_zero] at c0
  clear h1 h2 h3
  go_wp2
  go_ret
  exact ⟨_, rfl, ownsRow_mono HO.out (Nat.le_succ _), HB.out⟩

theorem strCells_bs (l : List UInt8) : Lib.strCells (Fr.bs l) = Lib.byteCells l := by unfold Lib.strCells Lib.byteCells; rw [Fr.list_bs]
theorem byteCells_app (a b : List UInt8) : Lib.byteCells (a ++ b) = Lib.byteCells a ++ Lib.byteCells b := by unfold Lib.byteCells; rw [List.map_append]
theorem builder_keep {T e : TypeId} {B b : Nat} {bs : List Value} {w w' : World} (h : Lib.IsBuilderF T e B b bs w) (k : Below w.heap.size w w') : Lib.IsBuilderF T e B b bs w' := by
  have one : ∀ p, Lib.BuilderAtF T e B b p bs w → Lib.BuilderAtF T e B b p bs w' := fun p hp => by
    have hlt := hp.lt
    obtain ⟨hB, v, hb, hown, hne⟩ := hp
    exact ⟨hB, v, (k.block b hlt).trans hb, hown.kept (row := some w.heap.size) ⟨k.os, k.tape, k.output, k.size, fun i hi _ => k.block i hi⟩ (Or.inr (fun e => by
      obtain ⟨c, fz, hh⟩ := Lib.ownsRowF_kind hown _ e
      rw [Array.getElem?_eq_none (Nat.le_refl _)] at hh
      cases hh)), hne⟩
  exact h.imp (one _) (one _)
theorem write_walk (B b : Nat) (bs : List Value) (s : ByteArray) (w : World) (h : Lib.IsBuilderF 45 5 B b bs w) (hlen : bs.length + s.size ≤ 140737488355328) (hBw : B ≤ w.heap.size) :
    Calls Try.prog 21 #[.pointer (some ⟨b, 0, none⟩), .string s] w fun e w' => e = .returned (.tuple #[.int .i64 s.size, .nilIface]) ∧ Lib.IsBuilderF 45 5 B b (bs ++ Lib.strCells s) w' ∧ Below B w w' :=
  (Any.Builder_WriteString_k { Try.lays105 with } Try.Builder_Extra_105 B b bs s w h hlen hBw).mono fun e w' ⟨h1, h2, h3, _⟩ => ⟨h1, .inr h2, h3⟩

/-- the closure of Encode: the bytes so far -/
structure EnAt (w0 : World) (ob : Nat) (ps : List Rl.Pc) (w : World) : Prop where
  bd : Lib.IsBuilderF 45 5 ob ob (Lib.byteCells (ps.flatMap Rl.text)) w
  bl : Below ob w0 w
  lt : ob < w.heap.size
theorem EnAt.keep {w0 : World} {ob : Nat} {ps : List Rl.Pc} {w w' : World} (h : EnAt w0 ob ps w) (k : Below w.heap.size w w') : EnAt w0 ob ps w' :=
  ⟨builder_keep h.bd k, h.bl.trans (k.mono (Nat.le_of_lt h.lt)), Nat.lt_of_lt_of_le h.lt k.size⟩
theorem flat_text_le (ps : List Rl.Pc) : (ps.flatMap Rl.text).length ≤ 5 * ps.length := by
  induction ps with
  | nil => exact Nat.le_refl _
  | cons p ps ih => have := Rl.text_le p; rw [List.flatMap_cons, List.length_append, List.length_cons]; omega
set_option maxRecDepth 100000 in
set_option maxHeartbeats 800000 in
theorem encodeClo (w0 : World) (ob : Nat) (ps : List Rl.Pc) (p : Rl.Pc) (w : World) (hn : p.n ≤ 255) (hl : ps.length < 100000) (h : EnAt w0 ob ps w) :
    Calls Try.prog 20 #[.agg #[.int .u8 (p.b.toNat : Int), .int .i64 (p.n : Int)], .pointer (some ⟨ob, 0, none⟩)] w fun e w' => e = .returned (.tuple #[]) ∧ EnAt w0 ob (ps ++ [p]) w' := by
  obtain ⟨b, n⟩ := p
  have HK := Lib.hid (h.keep ((Below.refl w.heap.size w).alloc (Nat.le_refl _) (.cells #[.int .u8 (b.toNat : Int), .int .i64 (n : Int)] 30)))
  have HX := Lib.hid (Has.new w #[.int .u8 (b.toNat : Int), .int .i64 (n : Int)] 30)
  have HT := Lib.hid (fun w => xtext_walk b n w hn)
  have hle := flat_text_le ps
  have htl := Rl.text_le ⟨b, n⟩
  have HF := Lib.hid (show (ps ++ [Rl.Pc.mk b n]).flatMap Rl.text = ps.flatMap Rl.text ++ Rl.text ⟨b, n⟩ by simp)
  clear h
  go_enter Try.func20, Try.ntmps20
  go_upto_region 1 with (fail)
  generalize w.alloc (.cells #[.int .u8 (b.toNat : Int), .int .i64 (n : Int)] 30) = w1 at *
  have x0 := HX.out.cell 0; have x1 := HX.out.cell 1
  simp only [List.getElem?_toArray, List.getElem?_cons_zero, List.getElem?_cons_succ] at x0 x1
  go_wp2_with fail
  (with_reducible refine (HT.out _).mono ?_)
  rintro e w2 ⟨rfl, hb2⟩
  have HK2 := Lib.hid (HK.out.keep hb2)
  clear hb2
  go_wp2_with fail
  (with_reducible refine (write_walk ob ob _ (Fr.bs (Rl.text ⟨b, n⟩)) _ HK2.out.bd (by rw [Lib.byteCells_length, bs_size]; omega) (Nat.le_of_lt HK2.out.lt)).mono ?_)
  rintro e w3 ⟨rfl, h1, h2⟩
  rw [strCells_bs, ← byteCells_app, ← HF.out] at h1
  have HR := Lib.hid (show EnAt w0 ob (ps ++ [⟨b, n⟩]) w3 from ⟨h1, HK2.out.bl.trans h2, Nat.lt_of_lt_of_le HK2.out.lt h2.size⟩)
  clear h1 h2
  go_wp2
  refine bodyPost_end (v := .tuple #[]) (by simp [results, Try.results20, go_sem]) rfl ⟨rfl, HR.out⟩

set_option maxRecDepth 100000 in
set_option maxHeartbeats 800000 in
theorem encode_walk (s : ByteArray) (w : World) (hs : s.size ≤ 100000) :
    Calls Try.prog 9 #[.string s] w fun e w' => e = .returned (.string (Fr.bs (Rl.enc s.data.toList))) ∧ Below w.heap.size w w' := by
  have hmf : ∀ (fn : Fn) (first cap : Array Value) (w : World), (Instr.makeFunc fn first cap).run Try.prog w = .ok (.func fn first cap) w := fun _ _ _ _ => rfl
  have HE := Lib.hid (fun w1 h => each_encode s ⟨w.heap.size, 0, none⟩ w1 hs (EnAt w w.heap.size) (fun _ _ n h => h.keep (below_drewN (Below.refl _ _) n)) (fun ps p w' h1 h2 h3 h => encodeClo w w.heap.size ps p w' h2 h3 h) h)
  have H0 := Lib.hid (show EnAt w w.heap.size [] (w.alloc (.cells #[.pointer none, .slice none 0 0] 45)) from
    ⟨.inl ⟨Nat.le_refl _, _, Has.new w _ _, World.ownsRowF_of (World.ownsRow_nil _ _ _ _), by simp [Value.ownBlock]⟩, (Below.refl _ _).alloc (Nat.le_refl _) _, by simp⟩)
  go_enter Try.func9, Try.ntmps9
  go_wp2_with fail
  (with_reducible refine (HE.out _ H0.out).mono ?_)
  rintro e w1 ⟨rfl, h1, h2, h3⟩
  have HS := Lib.hid (Try.Builder_String_any_k w.heap.size w.heap.size _ w1 h1 (Nat.le_of_lt h3))
  have HB := Lib.hid h2
  clear h1 h2 h3
  go_wp2_with fail
  refine (HS.out).mono ?_
  rintro e w2 ⟨rfl, _, hb2, _⟩
  have HB2 := Lib.hid (HB.out.trans hb2)
  clear hb2
  go_wp2
  go_ret
  exact ⟨rfl, HB2.out⟩

/-- the closure of Size: how many bytes so far -/
def tlen (ps : List Rl.Pc) : Nat := (ps.flatMap Rl.text).length
def SzAt (w0 : World) (ob : Nat) (ps : List Rl.Pc) (w : World) : Prop :=
  Has w ob #[.int .i64 (tlen ps : Int)] 3 ∧ Below ob w0 w
set_option maxRecDepth 100000 in
set_option maxHeartbeats 800000 in
theorem sizeClo (w0 : World) (ob : Nat) (ps : List Rl.Pc) (p : Rl.Pc) (w : World) (hn : p.n ≤ 255) (hl : ps.length < 100000) (h : SzAt w0 ob ps w) :
    Calls Try.prog 30 #[.agg #[.int .u8 (p.b.toNat : Int), .int .i64 (p.n : Int)], .pointer (some ⟨ob, 0, none⟩)] w fun e w' => e = .returned (.tuple #[]) ∧ SzAt w0 ob (ps ++ [p]) w' := by
  obtain ⟨h1, h2⟩ := h
  obtain ⟨b, n⟩ := p
  have hlt := h1.lt
  have HA := Lib.hid (h1.alloc (.cells #[.int .u8 (b.toNat : Int), .int .i64 (n : Int)] 30))
  have HX := Lib.hid (Has.new w #[.int .u8 (b.toNat : Int), .int .i64 (n : Int)] 30)
  have HB := Lib.hid (h2.alloc (show ob ≤ w.heap.size by omega) (.cells #[.int .u8 (b.toNat : Int), .int .i64 (n : Int)] 30))
  have HT := Lib.hid (fun w => xtext_walk b n w hn)
  have hle : tlen ps ≤ 5 * ps.length := flat_text_le ps
  have htl := Rl.text_le ⟨b, n⟩
  have hz := bs_size (Rl.text ⟨b, n⟩)
  have HF := Lib.hid (show (ps ++ [Rl.Pc.mk b n]).flatMap Rl.text = ps.flatMap Rl.text ++ Rl.text ⟨b, n⟩ by simp)
  generalize hS : Fr.bs (Rl.text ⟨b, n⟩) = S at *
  have HL := Lib.hid (show (tlen (ps ++ [Rl.Pc.mk b n]) : Int) = (tlen ps : Int) + (S.size : Int) by unfold tlen; rw [HF.out, List.length_append, hz]; omega)
  have hzs : S.size ≤ 5 := by omega
  generalize tlen ps = m at *
  clear h1 h2 hS hz htl
  go_enter Try.func30, Try.ntmps30
  go_upto_region 1 with (fail)
  generalize w.alloc (.cells #[.int .u8 (b.toNat : Int), .int .i64 (n : Int)] 30) = w1 at *
  have d0 : ∀ x : Later w1, x.at.cell? ⟨ob, 0, none⟩ = some (.int .i64 (m : Int)) := fun x => x.cell (HA.out.cell 0)
  have e0 : ∀ x : Later w1, x.at.cell? ⟨w.heap.size, 0, none⟩ = some (.int .u8 (b.toNat : Int)) := fun x => x.cell (HX.out.cell 0)
  have e1 : ∀ x : Later w1, x.at.cell? ⟨w.heap.size, 1, none⟩ = some (.int .i64 (n : Int)) := fun x => x.cell (HX.out.cell 1)
  have HC := Lib.hid (fun x : Later w1 => later_call (x := x) (HT.out x.at))
  have hw : wrap64 ((m : Int) + (S.size : Int)) = (m : Int) + (S.size : Int) := by unfold wrap64; omega
  have hw2 : 0 ≤ (m : Int) + (S.size : Int) ∧ (m : Int) + (S.size : Int) ≤ 10000000 := by omega
  refine region_later 5 (by kernel_rfl) (by kernel_rfl) ?_
  simp only [List.take_succ_cons, List.take_zero, List.drop_succ_cons, List.drop_zero]
  repeat (go_big_quiet_step (exact HC.out _))
  refine wpQuiet_nil ?_
  rintro w' ⟨x, rfl⟩
  have q0 := HA.out.below x.below HA.out.lt
  have HR := Lib.hid (show SzAt w0 ob (ps ++ [⟨b, n⟩]) (x.at.setCell ⟨ob, 0, none⟩ (.int .i64 ((m : Int) + (S.size : Int)))) from by
    refine ⟨?_, (HB.out.trans (x.below.mono (Nat.le_of_lt HA.out.lt))).setCell (p := ⟨ob, 0, none⟩) (Nat.le_refl _) _⟩
    rw [HL.out]; exact q0.setCell 0 _)
  have c0 := q0.cell 0
  have f0 := q0.free 0
  simp only [List.getElem?_toArray, List.getElem?_cons_zero, List.getElem?_cons_succ] at c0
  clear d0 e0 e1 q0
  generalize x.at = w2 at *
  go_wp2
  refine bodyPost_end (v := .tuple #[]) (by simp [results, Try.results30, go_sem]) rfl ⟨rfl, HR.out⟩

set_option maxRecDepth 100000 in
set_option maxHeartbeats 800000 in
theorem size_walk (s : ByteArray) (w : World) (hs : s.size ≤ 100000) :
    Calls Try.prog 18 #[.string s] w fun e w' => e = .returned (.int .i64 ((Rl.enc s.data.toList).length : Int)) ∧ Below w.heap.size w w' := by
  have hmf : ∀ (fn : Fn) (first cap : Array Value) (w : World), (Instr.makeFunc fn first cap).run Try.prog w = .ok (.func fn first cap) w := fun _ _ _ _ => rfl
  have HE := Lib.hid (fun w1 h => each_size s ⟨w.heap.size, 0, none⟩ w1 hs (SzAt w w.heap.size) (fun _ _ n h => ⟨h.1.drewN n, below_drewN h.2 n⟩) (fun ps p w' h1 h2 h3 h => sizeClo w w.heap.size ps p w' h2 h3 h) h)
  have H0 := Lib.hid (show SzAt w w.heap.size [] (w.alloc (.cells #[.int .i64 0] 3)) from ⟨Has.new w _ _, (Below.refl _ _).alloc (Nat.le_refl _) _⟩)
  go_enter Try.func18, Try.ntmps18
  go_wp2_with fail
  (with_reducible refine (HE.out _ H0.out).mono ?_)
  rintro e w1 ⟨rfl, h1, h2⟩
  have HB := Lib.hid h2
  have c0 := h1.cell 0
  simp only [List.getElem?_toArray, List.getElem?_cons_zero] at c0
  clear h1 h2
  go_wp2
  go_ret
  exact ⟨rfl, HB.out⟩
end Go.Proofs.Ytmomcaghfkgoeaa
