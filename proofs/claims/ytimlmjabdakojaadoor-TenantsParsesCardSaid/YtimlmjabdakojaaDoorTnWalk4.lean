/- A table as text. -/
import Derived.Test.YtimlmjabdakojaaDoorTnWalk2
import Derived.Test.YtimlmjabdakojaaDoorTnWalk3
import Derived.Test.YtimlmjabdakojaaDoorTnShelf
namespace Go.Proofs.YtimlmjabdakojaaDoor
open Go.RowKit
set_option linter.unusedVariables false
set_option linter.unusedSimpArgs false

theorem tstrCells_app (a b : List UInt8) : Lib.byteCells a ++ Lib.strCells (Fr.bs b) = Lib.byteCells (a ++ b) := by
  unfold Lib.strCells Lib.byteCells
  rw [List.map_append, Fr.list_bs]
theorem tbuilder_keep {T e : TypeId} {B b : Nat} {bs : List Value} {w w' : World} (h : Lib.IsBuilderF T e B b bs w) (k : Below w.heap.size w w') : Lib.IsBuilderF T e B b bs w' := by
  have one : ∀ p, Lib.BuilderAtF T e B b p bs w → Lib.BuilderAtF T e B b p bs w' := fun p hp => by
    have hlt := hp.lt
    obtain ⟨hB, v, hb, hown, hne⟩ := hp
    exact ⟨hB, v, (k.block b hlt).trans hb, hown.kept (row := some w.heap.size) ⟨k.os, k.tape, k.output, k.size, fun i hi _ => k.block i hi⟩ (Or.inr (fun e => by
      obtain ⟨c, fz, hh⟩ := Lib.ownsRowF_kind hown _ e
      rw [Array.getElem?_eq_none (Nat.le_refl _)] at hh
      cases hh)), hne⟩
  exact h.imp (one _) (one _)
/-- the builder at block b holds o -/
structure BdAt (B b : Nat) (w0 : World) (o : List UInt8) (w : World) : Prop where
  bd : Lib.IsBuilderF 59 5 B b (Lib.byteCells o) w
  bl : Below w0.heap.size w0 w
  lt : b < w.heap.size
  le : w0.heap.size ≤ B
  lo : B ≤ b
theorem BdAt.keep {B b : Nat} {w0 : World} {o : List UInt8} {w w' : World} (h : BdAt B b w0 o w) (k : Below w.heap.size w w') : BdAt B b w0 o w' :=
  ⟨tbuilder_keep h.bd k, h.bl.trans (k.mono h.bl.size), Nat.lt_of_lt_of_le h.lt k.size, h.le, h.lo⟩
theorem tn_line_len (t : Tn.Ten) (hm : Tn.may t = true) (h1 : t.name.size ≤ 100000) (h2 : t.tok.size ≤ 100000) : (Tn.lineL t).length ≤ 300000 := by
  obtain ⟨_, _, o3, o4, o5, _⟩ := Tn.may_ok hm
  have l3 := dg_len _ o3; have l4 := dg_len _ o4; have l5 := dg_len _ o5
  have e1 : t.name.data.toList.length = t.name.size := by simp
  have e2 : t.tok.data.toList.length = t.tok.size := by simp
  unfold Tn.lineL
  simp only [List.length_append, List.length_cons]
  omega
set_option maxRecDepth 100000 in
set_option maxHeartbeats 3000000 in
theorem tntext_walk (l : List Tn.Ten) (a : Option Addr) (len cap : Nat) (w : World) (hl : l.length = len) (hr : RowS w 5 a len cap (l.flatMap tncells)) (h100 : len ≤ 1000) (hz : tnSmall l) (hT : Tabs w) :
    Calls Tryd.prog 16 #[.slice a len cap] w fun r w' => r = .returned (.tuple #[.string (if (Tn.check l).2 = 0 then Fr.bs (Tn.textL l) else ⟨#[]⟩), .int .i64 (Tn.check l).2]) ∧ Below w.heap.size w w' := by
  have HC := Lib.hid (fun w hr hT => check_walk l a len cap w hl hr h100 hz hT)
  have HR := Lib.hid hr
  have HT := Lib.hid hT
  have hok := Tn.check_ok l
  by_cases h0 : (Tn.check l).2 = 0
  · obtain ⟨_, h16, hck⟩ := hok h0
    have hmay := Tn.chk_may l [] hck
    rw [if_pos h0, h0]
    rw [h0] at HC
    have HSP := Lib.hid (fun k (h : k < l.length) => show Tn.textL (l.take (k + 1)) = Tn.textL (l.take k) ++ (Tn.lineL l[k] ++ [10]) by
      unfold Tn.textL
      rw [List.take_add_one, List.getElem?_eq_getElem h, List.flatMap_append]
      simp)
    have HZ := Lib.hid (fun k (h : k < l.length) => hz l[k] (List.getElem_mem h))
    have HMY := Lib.hid (fun k (h : k < l.length) => hmay l[k] (List.getElem_mem h))
    have HE := Lib.hid (show Tn.textL (l.take l.length) = Tn.textL l by rw [List.take_length])
    generalize (Tn.check l).1 = c1 at *
    generalize hTXT : Tn.textL l = TX at *
    subst hl
    clear hr hT hok h0 hck hmay hz hTXT
    go_enter Tryd.func16, Tryd.ntmps16
    go_wp2_with fail
    with_reducible refine (HC.out _ HR.out HT.out).mono ?_
    rintro r1 w1 ⟨rfl, hb1⟩
    have HB1 := Lib.hid hb1
    clear hb1 HC HT
    go_upto_region 5 with (fail)
    have H0 := Lib.hid (show BdAt w1.heap.size w1.heap.size w (Tn.textL (l.take 0)) (w1.alloc (.cells #[.pointer none, .slice none 0 0] 59)) from
      ⟨.inl ⟨Nat.le_refl _, _, Has.new w1 _ _, World.ownsRowF_of (World.ownsRow_nil _ _ _ _), by simp [Value.ownBlock]⟩, HB1.out.alloc HB1.out.size _, by simp, HB1.out.size, Nat.le_refl _⟩)
    generalize w1.heap.size = q at *
    generalize w1.alloc (.cells #[.pointer none, .slice none 0 0] 59) = w2 at *
    clear HB1
    go_wp2_with fail
    go_loopw [19] (fun i wr => ∃ (k : Nat), k ≤ l.length ∧ i = .int .i64 k ∧ (Tn.textL (l.take k)).length ≤ k * 400000 ∧ BdAt q q w (Tn.textL (l.take k)) wr) (fun i _ => l.length - (intOf i).toNat)
    case atStart => exact ⟨0, Nat.zero_le _, rfl, by simp [Tn.textL], H0.out⟩
    case round =>
      obtain ⟨k, hk, rfl, hlen, hat⟩ := hrel
      have HAT := Lib.hid hat
      clear hat H0
      by_cases hlt : k < l.length
      · obtain ⟨b, off, rfl, hb, a0, a1, a2, a3, a4⟩ := (HR.out.keep HAT.out.bl).ten k hlt hlt
        have hsp := HSP.out k hlt
        have hzk := HZ.out k hlt
        have hmk := HMY.out k hlt
        generalize l[k] = x at *
        have hll := tn_line_len x hmk hzk.1 hzk.2
        have HLN := Lib.hid (fun w => line_walk x hmk hzk.1 hzk.2 w)
        have hcat : ¬ 9223372036854775807 < (Fr.bs (Tn.lineL x)).size + (⟨#[10]⟩ : ByteArray).size := by
          rw [← Fr.size_list, Fr.list_bs]
          show ¬ 9223372036854775807 < _ + 1
          omega
        have HLL := Lib.hid (show (Tn.textL (l.take (k + 1))).length ≤ (k + 1) * 400000 by
          rw [hsp, List.length_append, List.length_append]
          show _ + (_ + 1) ≤ _
          omega)
        have HLB := Lib.hid (show (Lib.byteCells (Tn.textL (l.take k))).length + (Fr.bs (Tn.lineL x) ++ (⟨#[10]⟩ : ByteArray)).size ≤ 140737488355328 by
          rw [Lib.byteCells_length, ByteArray.size_append, ← Fr.size_list, Fr.list_bs]
          show _ + (_ + 1) ≤ _
          omega)
        have HSP2 := Lib.hid (show Lib.byteCells (Tn.textL (l.take k)) ++ Lib.strCells (Fr.bs (Tn.lineL x) ++ (⟨#[10]⟩ : ByteArray)) = Lib.byteCells (Tn.textL (l.take (k + 1))) by
          rw [show (⟨#[10]⟩ : ByteArray) = Fr.bs [10] from rfl, bs_app, tstrCells_app, hsp])
        generalize Fr.bs (Tn.lineL x) = LX at *
        obtain ⟨n2, k2, m2, s2, q2⟩ := x
        simp only at a0 a1 a2 a3 a4 HLN
        have hk1 : (k : Int) < (l.length : Int) := by omega
        clear hsp hzk hmk hll hlen
        go_upto_region 8 with (fail)
        have ha := (Below.refl wr.heap.size wr).alloc (Nat.le_refl _) (.cells #[.string n2, .string k2, .int .i64 m2, .int .i64 s2, .int .i64 q2] 26)
        have HX := Has.new wr #[.string n2, .string k2, .int .i64 m2, .int .i64 s2, .int .i64 q2] 26
        have HAT1 := Lib.hid (HAT.out.keep ha)
        clear a0 a1 a2 a3 a4 HAT ha hb
        generalize wr.heap.size = p at *
        generalize wr.alloc (.cells #[.string n2, .string k2, .int .i64 m2, .int .i64 s2, .int .i64 q2] 26) = w5 at *
        have x0 := HX.cell 0; have x1 := HX.cell 1; have x2 := HX.cell 2; have x3 := HX.cell 3; have x4 := HX.cell 4
        simp only [List.getElem?_toArray, List.getElem?_cons_zero, List.getElem?_cons_succ] at x0 x1 x2 x3 x4
        clear HX
        go_wp2_with fail
        (with_reducible refine (HLN.out _).mono ?_)
        rintro e w6 ⟨rfl, hb6⟩
        have HAT6 := Lib.hid (HAT1.out.keep hb6)
        clear hb6 HAT1 x0 x1 x2 x3 x4
        go_wp2_with fail
        (with_reducible refine (bwrite_walk q q _ (LX ++ (⟨#[10]⟩ : ByteArray)) _ HAT6.out.bd HLB.out (Nat.le_of_lt HAT6.out.lt)).mono ?_)
        rintro e w7 ⟨rfl, h1, h2, h3⟩
        rw [HSP2.out] at h1
        have HAT7 := Lib.hid (show BdAt q q w (Tn.textL (l.take (k + 1))) w7 from ⟨h1, HAT6.out.bl.trans (h2.mono HAT6.out.le), Nat.lt_of_lt_of_le HAT6.out.lt h2.size, HAT6.out.le, HAT6.out.lo⟩)
        clear h1 h2 h3 HAT6 HSP2 HLB
        go_wp2
        go_roundw
        case rel => exact ⟨k + 1, hlt, by go_num, HLL.out, HAT7.out⟩
        case measure => simp [intOf]; omega
      · have hlt' : ¬ ((k : Int) < (l.length : Int)) := by omega
        have hke : k = l.length := by omega
        subst hke
        rw [HE.out] at HAT
        have HS := Lib.hid (Tryd.Builder_String_any_k q q TX wr HAT.out.bd (Nat.le_of_lt HAT.out.lt))
        go_wp2_with fail
        refine (HS.out).mono ?_
        rintro e w2 ⟨rfl, _, hb2, _⟩
        have HB2 := Lib.hid (HAT.out.bl.trans (hb2.mono HAT.out.le))
        clear hb2
        go_wp2
        refine bodyPost_ret (results_tmp2 rfl _ _ _) rfl ?_
        exact ⟨rfl, HB2.out⟩
  · rw [if_neg h0]
    have h0' : ((Tn.check l).2 == 0) = false := by simpa using h0
    generalize (Tn.check l).2 = c2 at *
    generalize (Tn.check l).1 = c1 at *
    clear hr hT hok hz
    go_enter Tryd.func16, Tryd.ntmps16
    go_wp2_with fail
    with_reducible refine (HC.out _ HR.out HT.out).mono ?_
    rintro r1 w1 ⟨rfl, hb1⟩
    have HB := Lib.hid hb1
    clear hb1 HC
    go_wp2
    refine bodyPost_ret (results_tmp2 rfl _ _ _) rfl ?_
    exact ⟨rfl, HB.out⟩
end Go.Proofs.YtimlmjabdakojaaDoor
