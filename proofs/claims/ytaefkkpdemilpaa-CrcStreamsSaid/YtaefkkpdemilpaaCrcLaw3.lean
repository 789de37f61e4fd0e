/- Walk of the law CrcStreams. -/
import Derived.Test.YtaefkkpdemilpaaCrcLaw2
namespace Go.Proofs.Ytaefkkpdemilpaa
open Go.RowKit

theorem info_u32 : (Try.prog.info? 23).map (fun i => (i.zero, i.size, i.bytes)) = some (some (.int .u32 0), 1, 4) := by kernel_rfl
theorem u32_beq (x y : BitVec 32) : (((x.toNat : Int)) == (y.toNat : Int)) = decide (x = y) := by
  rw [Bool.eq_iff_iff, beq_iff_eq, decide_eq_true_eq, Int.ofNat_inj, BitVec.toNat_inj]

/-- the three ways of 'same' -/
inductive Way (bs : List (BitVec 32)) (at_ : Int) (blk : BitVec 32) : Prop where
  | neg (h : at_ < 0)
  | past (h : (bs.length : Int) ≤ at_)
  | mid (j : Nat) (h : j < bs.length) (e : at_ = j)

set_option maxRecDepth 100000 in
set_option maxHeartbeats 1000000 in
theorem crcStreams_core (t blk : BitVec 32) (bs : List (BitVec 32)) (a : Option Addr) (len cap : Nat) (at_ : Int) (w : World) (h : RowAt w a len cap (bs.map u32)) :
    Calls Try.prog 9 #[.agg #[u32 t, u32 blk], .slice a len cap, .int .i64 at_] w fun e w' => e = .returned (.bool true) ∧ Below w.heap.size w w' := by
  have hlen : bs.length = len := by simpa using h.length
  have hm := Nat.le_trans h.le h.max
  unfold maxLen at hm
  by_cases hsmall : len ≤ 200
  · have Hr := Lib.hid h
    have Hl := Lib.hid hlen
    clear h hlen
    go_enter Try.func9, Try.ntmps9
    unfold u32
    go_wp2_with fail
    refine (combine_walk t blk _).mono ?_
    rintro e w1 ⟨rfl, rfl⟩
    unfold u32
    go_wp2_with fail
    refine (refcombine_walk t blk _).mono ?_
    rintro e w1 ⟨rfl, rfl⟩
    unfold u32
    have hr1 : RowAt (w.alloc (.cells #[Value.int .u32 (t.toNat : Int), Value.int .u32 (blk.toNat : Int)] 46)) a len cap (bs.map u32) := Hr.out.keep ((Below.refl _ _).alloc (Nat.le_refl _) _)
    have hbel : Below w.heap.size w (w.alloc (.cells #[Value.int .u32 (t.toNat : Int), Value.int .u32 (blk.toNat : Int)] 46)) := (Below.refl _ _).alloc (Nat.le_refl _) _
    have hsz : (w.alloc (.cells #[Value.int .u32 (t.toNat : Int), Value.int .u32 (blk.toNat : Int)] 46)).heap.size = w.heap.size + 1 := by simp
    generalize w.alloc (.cells #[Value.int .u32 (t.toNat : Int), Value.int .u32 (blk.toNat : Int)] 46) = w1 at *
    have Hsz := Lib.hid hsz
    have Hbel := Lib.hid hbel
    have Hr1 := Lib.hid hr1
    clear hr1 hbel hsz
    go_wp2_with fail
    refine (stream_walk bs a len cap _ Hr1.out).mono ?_
    rintro e w2 ⟨rfl, rfl⟩
    unfold u32
    go_wp2_with fail
    refine (refstream_walk bs a len cap _ Hr1.out).mono ?_
    rintro e w2 ⟨rfl, rfl⟩
    unfold u32
    go_wp2_with fail
    go_loopw [9, 37] (fun v i wr => ∃ k : Nat, k ≤ len ∧ i = .int .i64 k ∧ wr.ownsRow w.heap.size 23 1 v k (((othOf bs at_ blk).take k).map u32) ∧ Below w.heap.size w wr) (fun _ i _ => len - (intOf i).toNat)
    case atStart => exact ⟨0, Nat.zero_le _, rfl, World.ownsRow_nil _ _ _ _, Hbel.out⟩
    case round =>
      obtain ⟨k, hk, rfl, hown, hbr⟩ := hrel
      by_cases hlt : k < len
      · obtain ⟨b, off, ha, hcell⟩ := (Hr.out.keep hbr).at k hlt
        have hkl : k < bs.length := by rw [Hl.out]; exact hlt
        have hget : (bs.map u32).getD k undef = .int .u32 ((bs[k].toNat : Nat) : Int) := by simp [hkl, u32]
        rw [hget] at hcell
        have ht := Lib.hid (othOf_take bs at_ blk k hkl)
        subst ha
        clear hget
        generalize bs[k] = x at *
        generalize hX : ((othOf bs at_ blk).take k).map u32 = xs at *
        have HX := Lib.hid hX
        have Hown := Lib.hid hown
        have Hbr := Lib.hid hbr
        clear hown hbr hX
        by_cases hk2 : (k : Int) = at_
        · have hq : ((k : Int) == at_) = true := by simpa using hk2
          rw [if_pos hk2] at ht
          clear hk2
          go_wp2_with (at_builtin; refine append1 Try.underlying47 info_u32 rfl rfl _ _ rfl w.heap.size k _ _ rfl Hown.out _ rfl rfl (by unfold maxLen; omega) (by omega) Hbr.out.size ?_)
          intro g cap' w2 ho hc hb2 _ _ _
          have ho2 : w2.ownsRow w.heap.size 23 1 (.slice (some ⟨g, 0, none⟩) (k + 1) cap') (k + 1) (((othOf bs at_ blk).take (k + 1)).map u32) := by
            rw [ht.out, List.map_append, HX.out]; exact ho
          have hb3 := Hbr.out.trans hb2
          clear ho hc hb2 Hown Hbr HX ht
          go_wp2
          go_roundw
          case rel => exact ⟨k + 1, by omega, by go_num, ho2, hb3⟩
          case measure => simp [intOf]; omega
        · have hq : ((k : Int) == at_) = false := by simpa using hk2
          rw [if_neg hk2] at ht
          clear hk2
          go_wp2_with (at_builtin; refine append1 Try.underlying47 info_u32 rfl rfl _ _ rfl w.heap.size k _ _ rfl Hown.out _ rfl rfl (by unfold maxLen; omega) (by omega) Hbr.out.size ?_)
          intro g cap' w2 ho hc hb2 _ _ _
          have ho2 : w2.ownsRow w.heap.size 23 1 (.slice (some ⟨g, 0, none⟩) (k + 1) cap') (k + 1) (((othOf bs at_ blk).take (k + 1)).map u32) := by
            rw [ht.out, List.map_append, HX.out]; exact ho
          have hb3 := Hbr.out.trans hb2
          clear ho hc hb2 Hown Hbr HX ht
          go_wp2
          go_roundw
          case rel => exact ⟨k + 1, by omega, by go_num, ho2, hb3⟩
          case measure => simp [intOf]; omega
      · have hfin : (othOf bs at_ blk).take k = othOf bs at_ blk := List.take_of_length_le (by rw [othOf_length, Hl.out]; omega)
        rw [hfin] at hown
        obtain rfl : k = len := by omega
        obtain ⟨a2, cap2, rfl, hrow2, _⟩ := rowAt_owns hown
        have hrow1 := Hr.out.keep hbr
        have hway : Way bs at_ blk := by
          by_cases h1 : at_ < 0
          · exact .neg h1
          · by_cases h2 : (bs.length : Int) ≤ at_
            · exact .past h2
            · exact .mid at_.toNat (by omega) (by omega)
        have Hrow1 := Lib.hid hrow1
        have Hrow2 := Lib.hid hrow2
        have Hbr := Lib.hid hbr
        clear hown hbr hfin hrow1 hrow2 hk hlt
        rcases hway with hw | hw | ⟨j, hj, rfl⟩
        · have hs : othOf bs at_ blk = bs := othOf_same _ _ _ (fun i _ e => by omega)
          rw [hs] at Hrow2
          clear hs
          go_wp2_with fail
          refine (stream_walk bs _ _ cap _ Hrow1.out).mono ?_
          rintro e w2 ⟨rfl, rfl⟩
          unfold u32
          go_wp2_with fail
          refine (stream_walk bs _ _ cap2 _ Hrow2.out).mono ?_
          rintro e w2 ⟨rfl, rfl⟩
          unfold u32
          go_wp2_with fail
          refine (nine_walk _).mono ?_
          rintro e w3 ⟨rfl, hb2⟩
          go_wp2
          go_ret
          exact ⟨rfl, Hbr.out.trans (hb2.mono Hbr.out.size)⟩
        · have hs : othOf bs at_ blk = bs := othOf_same _ _ _ (fun i _ e => by omega)
          rw [hs] at Hrow2
          have hnn : ¬ at_ < 0 := by omega
          have hle : (k : Int) ≤ at_ := by have := Hl.out; omega
          clear hs hw
          go_wp2_with fail
          refine (stream_walk bs _ _ cap _ Hrow1.out).mono ?_
          rintro e w2 ⟨rfl, rfl⟩
          unfold u32
          go_wp2_with fail
          refine (stream_walk bs _ _ cap2 _ Hrow2.out).mono ?_
          rintro e w2 ⟨rfl, rfl⟩
          unfold u32
          go_wp2_with fail
          refine (nine_walk _).mono ?_
          rintro e w3 ⟨rfl, hb2⟩
          go_wp2
          go_ret
          exact ⟨rfl, Hbr.out.trans (hb2.mono Hbr.out.size)⟩
        · have hjk : j < k := by rw [← Hl.out]; exact hj
          obtain ⟨b, off, ha, hcell⟩ := Hrow1.out.at j hjk
          have hget : (bs.map u32).getD j undef = .int .u32 ((bs[j].toNat : Nat) : Int) := by simp [hj, u32]
          rw [hget] at hcell
          subst ha
          clear hget
          have d0 : decide ((j : Int) < 0) = false := by simp
          have d1 : decide (k ≤ j) = false := by simp; omega
          by_cases heq : bs[j] = blk
          · have hs : othOf bs (j : Int) blk = bs := othOf_same _ _ _ (fun i _ e => by have hij : i = j := (by omega); subst hij; exact heq)
            rw [hs] at Hrow2
            rw [heq] at hcell
            clear hs heq
            go_wp2_with fail
            refine (stream_walk bs _ _ cap _ Hrow1.out).mono ?_
            rintro e w2 ⟨rfl, rfl⟩
            unfold u32
            go_wp2_with fail
            refine (stream_walk bs _ _ cap2 _ Hrow2.out).mono ?_
            rintro e w2 ⟨rfl, rfl⟩
            unfold u32
            go_wp2_with fail
            refine (nine_walk _).mono ?_
            rintro e w3 ⟨rfl, hb2⟩
            go_wp2
            go_ret
            exact ⟨rfl, Hbr.out.trans (hb2.mono Hbr.out.size)⟩
          · have hd := othOf_diff bs j blk hj heq
            have hb1 : ((bs[j].toNat : Int) == (blk.toNat : Int)) = false := by rw [u32_beq]; simpa using heq
            have hb2 : (((streamOf bs).toNat : Int) == ((streamOf (othOf bs (j : Int) blk)).toNat : Int)) = false := by rw [u32_beq]; simpa using hd
            clear hd heq
            generalize bs[j] = x at *
            go_wp2_with fail
            refine (stream_walk bs _ _ cap _ Hrow1.out).mono ?_
            rintro e w2 ⟨rfl, rfl⟩
            unfold u32
            go_wp2_with fail
            refine (stream_walk (othOf bs (j : Int) blk) _ _ cap2 _ Hrow2.out).mono ?_
            rintro e w2 ⟨rfl, rfl⟩
            unfold u32
            go_wp2_with fail
            refine (nine_walk _).mono ?_
            rintro e w3 ⟨rfl, hb9⟩
            go_wp2
            go_ret
            exact ⟨rfl, Hbr.out.trans (hb9.mono Hbr.out.size)⟩
  · go_enter Try.func9, Try.ntmps9
    unfold u32
    go_wp2_with fail
    refine (nine_walk _).mono ?_
    rintro e w3 ⟨rfl, hb2⟩
    go_wp2
    go_ret
    exact ⟨rfl, ((Below.refl _ _).alloc (Nat.le_refl _) _).trans (hb2.mono (by simp))⟩

theorem u32_of (n : Int) (h : (Lit.int .u32 n).wf = true) : Value.int .u32 n = u32 (BitVec.ofNat 32 n.toNat) := by
  have hx : 0 ≤ n ∧ n ≤ 4294967295 := by simpa [Lit.wf, IntKind.min, IntKind.max, IntKind.signed, IntKind.bits] using h
  unfold u32
  rw [BitVec.toNat_ofNat]
  have : ((n.toNat % 2 ^ 32 : Nat) : Int) = n := by omega
  rw [this]
theorem crcStreams_walk (q z : List Int) (a : Option Addr) (len cap : Nat) (at_ : Int) (w : World) (hq : q.length = 2) (hqw : ∀ n ∈ q, (Lit.int .u32 n).wf = true)
    (h : RowAt w a len cap (z.map (Value.int .u32))) (hz : ∀ n ∈ z, (Lit.int .u32 n).wf = true) (_hat : (Lit.int .i64 at_).wf = true) :
    Calls Try.prog 9 #[.agg (q.map (Value.int .u32)).toArray, .slice a len cap, .int .i64 at_] w fun e w' => e = .returned (.bool true) ∧ Below w.heap.size w w' := by
  obtain ⟨x, y, rfl⟩ : ∃ x y, q = [x, y] := by
    match q, hq with
    | [x, y], _ => exact ⟨x, y, rfl⟩
  have e : z.map (Value.int .u32) = (z.map fun n => BitVec.ofNat 32 n.toNat).map u32 := by
    rw [List.map_map]
    exact List.map_congr_left fun n hn => u32_of n (hz n hn)
  rw [e] at h
  have := crcStreams_core (BitVec.ofNat 32 x.toNat) (BitVec.ofNat 32 y.toNat) _ a len cap at_ w h
  rw [← u32_of x (hqw x (by simp)), ← u32_of y (hqw y (by simp))] at this
  exact this
end Go.Proofs.Ytaefkkpdemilpaa
