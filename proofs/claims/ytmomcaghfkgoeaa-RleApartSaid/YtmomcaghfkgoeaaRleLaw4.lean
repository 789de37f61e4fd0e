/- The law of pieces side by side. -/
import Derived.Test.YtmomcaghfkgoeaaRleLaw1
namespace Go.Proofs.Ytmomcaghfkgoeaa
open Go.RowKit
set_option linter.unusedVariables false
set_option linter.unusedSimpArgs false

def joinp (ps : List Rl.Pc) : List UInt8 := ps.flatMap (fun p => List.replicate p.n p.b)
theorem Rl.apart_next : ∀ (ps : List Rl.Pc), Rl.Apart ps → ∀ i (h : i + 1 < ps.length), ps[i].b ≠ ps[i + 1].b ∨ ps[i].n = 255
  | [], _, i, h => by simp at h
  | [a], _, i, h => by simp at h
  | a :: b :: l, ha, 0, h => ha.2.2.1
  | a :: b :: l, ha, i + 1, h => Rl.apart_next (b :: l) ha.2.2.2 i (by simpa using h)
/-- the bytes of a piece -/
theorem piece_bytes (s : ByteArray) (p : Nat) (b : UInt8) (n : Nat) (rest : List UInt8) (h : s.data.toList.drop p = List.replicate n b ++ rest) (hp : p ≤ s.size) : p + n ≤ s.size ∧ (∀ j (hj : j < n) (hs : p + j < s.size), s[p + j] = b) ∧ s.data.toList.drop (p + n) = rest := by
  have hl := congrArg List.length h
  rw [List.length_drop, llen, List.length_append, List.length_replicate] at hl
  refine ⟨by omega, fun j hj hs => ?_, ?_⟩
  · have h2 : (s.data.toList.drop p)[j]? = some b := by
      rw [h, List.getElem?_append_left (by rw [List.length_replicate]; exact hj), List.getElem?_replicate, if_pos hj]
    rw [List.getElem?_drop, List.getElem?_eq_getElem (by rw [llen]; exact hs), lget s (p + j) hs] at h2
    exact Option.some.inj h2
  · rw [← List.drop_drop, h, List.drop_append_of_le_length (by simp), List.drop_of_length_le (by simp), List.nil_append]

set_option maxRecDepth 100000 in
set_option maxHeartbeats 3000000 in
theorem rleApart_in (s : ByteArray) (w : World) (hl : ¬ 2000 < s.size) :
    Calls Try.prog 4 #[.string s] w fun e w' => e = .returned (.bool true) ∧ Below w.heap.size w w' := by
  have hl' : ¬ (2000 : Int) < (s.size : Int) := by omega
  have H1 := Lib.hid (fun w => pieces_walk s w (by omega))
  have hlen := Rl.pcs_length s.data.toList
  rw [llen] at hlen
  have HG := Lib.hid (Rl.pcs_good s.data.toList)
  have HN := Lib.hid (Rl.apart_next _ (Rl.pcs_apart s.data.toList))
  have HJ := Lib.hid (show s.data.toList.drop 0 = joinp ((Rl.pcs s.data.toList).drop 0) from (Rl.pcs_join s.data.toList).symm)
  generalize Rl.pcs s.data.toList = R at *
  go_enter Try.func4, Try.ntmps4
  go_wp2_with fail
  (with_reducible refine (H1.out _).mono ?_)
  rintro e w2 ⟨v1, rfl, ho1, hb2⟩
  obtain ⟨a1, c1, rfl, hr1, _⟩ := rowS_owns ho1
  have HR1 := Lib.hid hr1
  have HB2 := Lib.hid hb2
  clear ho1 hb2 hr1
  go_wp2_with fail
  go_loopw [16, 3] (fun i x wr => ∃ k p : Nat, i = .int .i64 k ∧ k ≤ R.length ∧ x = .int .i64 p ∧ p ≤ s.size ∧ s.data.toList.drop p = joinp (R.drop k) ∧ Below w2.heap.size w2 wr) (fun i _ _ => R.length - (intOf i).toNat)
  case atStart => exact ⟨0, 0, rfl, Nat.zero_le _, rfl, Nat.zero_le _, HJ.out, Below.refl _ _⟩
  case round =>
    obtain ⟨k, p, rfl, hk, rfl, hp, hd, hbr⟩ := hrel
    by_cases hlt : k < R.length
    · have hlt' : (k : Int) < (R.length : Int) := by omega
      obtain ⟨ba, oa, rfl, hba, hca⟩ := (HR1.out.keep hbr).at k hlt
      have a0 := hca 0 (by decide); have a1 := hca 1 (by decide)
      rw [flat_get2 R k 0 hlt (by decide)] at a0
      rw [flat_get2 R k 1 hlt (by decide)] at a1
      have hg := HG.out _ (List.getElem_mem hlt)
      have HPREV := Lib.hid (show ∀ m, k = m + 1 → ∃ (q : Rl.Pc), (q.b ≠ R[k].b ∨ q.n = 255) ∧ wr.cell? ⟨ba, oa + m * 2, none⟩ = some (.int .u8 (q.b.toNat : Int)) ∧ wr.cell? ⟨ba, oa + m * 2 + 1, none⟩ = some (.int .i64 (q.n : Int)) from fun m hm => by
        subst hm
        obtain ⟨ba2, oa2, he, _, hca2⟩ := (HR1.out.keep hbr).at m (by omega)
        cases he
        have d0 := hca2 0 (by decide); have d1 := hca2 1 (by decide)
        rw [flat_get2 R m 0 (by omega) (by decide)] at d0
        rw [flat_get2 R m 1 (by omega) (by decide)] at d1
        exact ⟨R[m], HN.out m hlt, d0, d1⟩)
      rw [List.drop_eq_getElem_cons hlt] at hd
      generalize R[k] = pc at *
      obtain ⟨pb, pn⟩ := pc
      obtain ⟨g1, g2, g3⟩ := piece_bytes s p pb pn (joinp (R.drop (k + 1))) hd hp
      have HG2 := Lib.hid g2
      have HG3 := Lib.hid g3
      simp only [pcells, List.getD_cons_zero, List.getD_cons_succ, Nat.add_zero] at a0 a1 hg
      simp only [← Nat.add_assoc] at a1
      have HBR := Lib.hid hbr
      have e1 : decide ((pn : Int) < 1) = false := by simp; omega
      have e2 : decide ((255 : Int) < (pn : Int)) = false := by simp; omega
      have e3 : decide ((s.size : Int) < (p : Int) + (pn : Int)) = false := by simp; omega
      have e4 : (p : Int) + (pn : Int) ≤ 2000 := by omega
      have hk9 : (k : Int) ≤ 2000 := by omega
      clear hca hbr hd g2 g3
      go_upto_region 8 with (fail)
      have HY := Lib.hid (Has.new wr #[.int .u8 (pb.toNat : Int), .int .i64 (pn : Int)] 30)
      have HK := Lib.hid ((Below.refl wr.heap.size wr).alloc (Nat.le_refl _) (.cells #[.int .u8 (pb.toNat : Int), .int .i64 (pn : Int)] 30))
      have HBR2 := Lib.hid (HBR.out.alloc HBR.out.size (.cells #[.int .u8 (pb.toNat : Int), .int .i64 (pn : Int)] 30))
      generalize wr.alloc (.cells #[.int .u8 (pb.toNat : Int), .int .i64 (pn : Int)] 30) = w5 at *
      have m0 := HY.out.cell 0; have m1 := HY.out.cell 1
      simp only [List.getElem?_toArray, List.getElem?_cons_zero, List.getElem?_cons_succ] at m0 m1
      clear a0 a1
      obtain ⟨wo, rfl⟩ : ∃ wo : World, wo = wr := ⟨_, rfl⟩
      have hba' : ba < wo.heap.size := hba
      go_wp2_with fail
      go_loopw [40] (fun i wr => ∃ j : Nat, i = .int .i64 j ∧ j ≤ pn ∧ Below w5.heap.size w5 wr) (fun i _ => pn - (intOf i).toNat)
      case atStart => exact ⟨0, rfl, Nat.zero_le _, Below.refl _ _⟩
      case round =>
        obtain ⟨j, rfl, hj, hbr⟩ := hrel
        have HY2 := Lib.hid (HY.out.below hbr HY.out.lt)
        have n0 := HY2.out.cell 0; have n1 := HY2.out.cell 1
        simp only [List.getElem?_toArray, List.getElem?_cons_zero, List.getElem?_cons_succ] at n0 n1
        have HBR3 := Lib.hid hbr
        clear hbr m0 m1
        by_cases hjl : j < pn
        · have hjl' : (j : Int) < (pn : Int) := by omega
          obtain ⟨q, hq⟩ : ∃ q, q = p + j := ⟨_, rfl⟩
          have hqs : q < s.size := by omega
          have hqs' : (q : Int) < (s.size : Int) := by omega
          have hqw : wrap64 ((p : Int) + (j : Int)) = (q : Int) := by unfold wrap64; omega
          have hqq : (p : Int) + (j : Int) = (q : Int) := by omega
          have hqb : (q : Int) ≤ 2000 := by omega
          have hsb : s[q] = pb := by subst hq; exact HG2.out j hjl (by omega)
          have hne : ((s[q].toNat : Int) != (pb.toNat : Int)) = false := by rw [hsb]; simp
          clear hq hsb
          go_wp2_with fail
          go_quiet (fail)
          go_wp2
          go_roundw
          case rel => exact ⟨j + 1, by go_num, hjl, below_drewN HBR3.out _⟩
          case measure => simp [intOf]; omega
        · have hjl' : ¬ (j : Int) < (pn : Int) := by omega
          have HBR4 := Lib.hid (HBR2.out.trans (HBR3.out.mono HBR2.out.size))
          have HD2 := Lib.hid (show s.data.toList.drop (p + pn) = joinp (R.drop (k + 1)) from HG3.out)
          have hcat : (p : Int) + (pn : Int) = ((p + pn : Nat) : Int) := by omega
          by_cases hk0 : 0 < k
          · have c0 : decide ((0 : Int) < (k : Int)) = true := by simp; omega
            obtain ⟨m, hm⟩ : ∃ m, k = m + 1 := ⟨k - 1, by omega⟩
            obtain ⟨q, hq, d0, d1⟩ := HPREV.out m hm
            have hmw : wrap64 ((k : Int) - 1) = (m : Int) := by unfold wrap64; omega
            have hmm : (k : Int) - 1 = (m : Int) := by omega
            have hmr : m < R.length := by omega
            have hmr' : (m : Int) < (R.length : Int) := by omega
            have x0 : wr.cell? ⟨ba, oa + m * 2, none⟩ = some (.int .u8 (q.b.toNat : Int)) := by
              rw [HBR3.out.cell (p := ⟨ba, oa + m * 2, none⟩) (Nat.lt_of_lt_of_le hba' HK.out.size), HK.out.cell (p := ⟨ba, oa + m * 2, none⟩) hba']; exact d0
            have x1 : wr.cell? ⟨ba, oa + m * 2 + 1, none⟩ = some (.int .i64 (q.n : Int)) := by
              rw [HBR3.out.cell (p := ⟨ba, oa + m * 2 + 1, none⟩) (Nat.lt_of_lt_of_le hba' HK.out.size), HK.out.cell (p := ⟨ba, oa + m * 2 + 1, none⟩) hba']; exact d1
            have hmb : (m : Int) ≤ 2000 := by omega
            obtain ⟨qb, qn⟩ := q
            simp only at hq x0 x1
            clear d0 d1 hm hcat
            by_cases hqe : qb = pb
            · have h255 : qn = 255 := hq.resolve_left (fun h => h hqe)
              have c1 := u8_eq _ _ hqe
              have c2 : ((qn : Int) != 255) = false := by rw [h255]; rfl
              clear hq hqe h255
              go_wp2_with fail
              go_quiet (fail)
              clear hmw hmm
              go_wp2
              go_roundw
              case rel => exact ⟨k + 1, p + pn, by go_num, hlt, by go_num, g1, HD2.out, below_drewN HBR4.out _⟩
              case measure => simp [intOf]; omega
            · have c1 := u8_ne _ _ hqe
              clear hq hqe
              go_wp2_with fail
              go_quiet (fail)
              clear hmw hmm
              go_wp2
              go_roundw
              case rel => exact ⟨k + 1, p + pn, by go_num, hlt, by go_num, g1, HD2.out, below_drewN HBR4.out _⟩
              case measure => simp [intOf]; omega
          · have c0 : decide ((0 : Int) < (k : Int)) = false := by simp; omega
            clear hcat
            go_wp2_with fail
            go_quiet (fail)
            go_wp2
            go_roundw
            case rel => exact ⟨k + 1, p + pn, by go_num, hlt, by go_num, g1, HD2.out, below_drewN HBR4.out _⟩
            case measure => simp [intOf]; omega
    · have hlt' : ¬ (k : Int) < (R.length : Int) := by omega
      have hRk : R.drop k = [] := List.drop_of_length_le (by omega)
      rw [hRk] at hd
      have hps : p = s.size := by
        have := congrArg List.length hd
        rw [List.length_drop, llen] at this
        simp [joinp] at this
        omega
      have hpe : ((p : Int) == (s.size : Int)) = true := by rw [hps]; simp
      have HB4 := Lib.hid (HB2.out.trans (hbr.mono HB2.out.size))
      clear hbr hd hps hRk
      go_wp2_with fail
      (with_reducible refine (six_walk _).mono ?_)
      rintro e w8 ⟨rfl, hb8⟩
      have HB8 := Lib.hid (HB4.out.trans (hb8.mono HB4.out.size))
      clear hb8
      go_wp2
      go_ret
      exact ⟨rfl, HB8.out⟩
set_option maxRecDepth 100000 in
set_option maxHeartbeats 800000 in
theorem rleApart_walk (s : ByteArray) (w : World) (_ : s.size ≤ maxLen) :
    Calls Try.prog 4 #[.string s] w fun e w' => e = .returned (.bool true) ∧ Below w.heap.size w w' := by
  by_cases hl : 2000 < s.size
  · have hl' : (2000 : Int) < (s.size : Int) := by omega
    clear hl
    go_enter Try.func4, Try.ntmps4
    go_wp2_with fail
    (with_reducible refine (six_walk _).mono ?_)
    rintro e w1 ⟨rfl, hb1⟩
    go_wp2
    go_ret
    exact ⟨rfl, hb1⟩
  · exact rleApart_in s w hl
end Go.Proofs.Ytmomcaghfkgoeaa
