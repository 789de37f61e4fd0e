/- Splitters: a piece is taken into the block that was begun last. -/
import Derived.Test.YtaldcdgafljedaaSplWalk1
import Derived.Test.YtaldcdgafljedaaRowS
namespace Go.Proofs.Ytaldcdgafljedaa
open Go.RowKit
set_option linter.unusedVariables false
set_option linter.unusedSimpArgs false

theorem sinfo_u8 : (Try.prog.info? 5).map (fun i => (i.zero, i.size, i.bytes)) = some (some (.int .u8 0), 1, 1) := by kernel_rfl
theorem spCells (l : List UInt8) : Lib.strCells (Fr.bs l) = Lib.byteCells l := by unfold Lib.strCells Lib.byteCells; rw [Fr.list_bs]
theorem spCells_app (a b : List UInt8) : Lib.byteCells (a ++ b) = Lib.byteCells a ++ Lib.byteCells b := by unfold Lib.byteCells; rw [List.map_append]
theorem sp_wrap (j p : Nat) (hj : j ≤ 1000000) (hp : p ≤ 255) : wrap64 ((j : Int) + (p : Int)) = (j : Int) + (p : Int) := by unfold wrap64; omega
theorem sp_room (d t : Nat) (hd : d ≤ 10000000) (ht : t ≤ 5) : d + t ≤ maxLen ∧ d + t ≤ 140737488355328 := by unfold maxLen; omega
theorem sp_k (k n : Nat) (hk : k ≤ n) (hn : n ≤ 255) : (k : Int) ≤ 255 := by omega
theorem sp_low (j p : Nat) : 0 ≤ (j : Int) + (p : Int) := by omega
theorem sp_high (j p : Nat) (hj : j ≤ 1000000) (hp : p ≤ 255) : (j : Int) + (p : Int) ≤ 10000000 := by omega
theorem own_has {w : World} {B k : Nat} {E T : TypeId} {v : Value} {n : Nat} {xs : List Value} {b : Nat} {cs : Array Value} (h : w.ownsRow B E k v n xs) (hh : Has w b cs T) (hE : E ≠ T) : b ∉ v.ownBlock.toList := by
  intro hm
  obtain ⟨_, h⟩ := h
  rcases h with ⟨rfl, _⟩ | ⟨g, cap, cur, rfl, _, hg, _⟩
  · simp [Value.ownBlock] at hm
  · simp [Value.ownBlock] at hm
    subst hm
    have := hg.symm.trans hh
    injection this with this
    injection this with _ ht _
    exact hE ht
theorem own_two {w : World} {B B' k k' : Nat} {E T : TypeId} {v u : Value} {n m : Nat} {xs ys : List Value} (h : w.ownsRow B E k v n xs) (hh : w.ownsRow B' T k' u m ys) (hE : E ≠ T) : ∀ b ∈ u.ownBlock.toList, b ∉ v.ownBlock.toList := by
  intro b hb
  obtain ⟨_, hh⟩ := hh
  rcases hh with ⟨rfl, _⟩ | ⟨g, cap, cur, rfl, _, hg, _⟩
  · simp [Value.ownBlock] at hb
  · simp [Value.ownBlock] at hb
    subst hb
    exact own_has h hg hE
theorem sput (b : Nat) (s : BitVec 32) (c : UInt8) (w : World) (h : SumAt w b s) :
    Calls Try.prog 43 #[.pointer (some ⟨b, 0, none⟩), .int .u8 (c.toNat : Int)] w fun e w' => e = .returned (.tuple #[]) ∧ SumAt w' b (Crc.step s c) ∧ Chg [b] w w' := sumput_walk b s c w h
theorem run_rep (x : BitVec 32) (c : UInt8) (k : Nat) : Crc.step (Crc.run x (List.replicate k c)) c = Crc.run x (List.replicate (k + 1) c) := by
  rw [List.replicate_succ', run_snoc]
theorem run_two (x : BitVec 32) (a b : List UInt8) : Crc.run (Crc.run x a) b = Crc.run x (a ++ b) := by
  unfold Crc.run; rw [List.foldl_append]

theorem SumAt.oth {w : World} {b : Nat} {s : BitVec 32} (h : SumAt w b s) (p : Addr) (v : Value) (hp : b ≠ p.block) : SumAt (w.setCell p v) b s := by
  unfold SumAt at *; exact Has.setCell_other h p v hp
theorem SumAt.grow {w w' : World} {b : Nat} {s : BitVec 32} {S : List Nat} (h : SumAt w b s) (k : Chg S w w') (hb : b ∉ S) : SumAt w' b s := by
  unfold SumAt at *; exact Has.chg h k hb
theorem SumAt.low {w w' : World} {b : Nat} {s : BitVec 32} (h : SumAt w b s) (k : Below w.heap.size w w') : SumAt w' b s := by
  unfold SumAt at *; exact Has.below h k (Has.lt h)
theorem KAt.oth {w : World} {b : Nat} {r : Rl.Pc} (h : KAt w b r) (p : Addr) (v : Value) (hp : b ≠ p.block) : KAt (w.setCell p v) b r := by
  unfold KAt at *; exact Has.setCell_other h p v hp
theorem KAt.grow {w w' : World} {b : Nat} {r : Rl.Pc} {S : List Nat} (h : KAt w b r) (k : Chg S w w') (hb : b ∉ S) : KAt w' b r := by
  unfold KAt at *; exact Has.chg h k hb
theorem u8_ne_sum : 5 ≠ 80 := by decide
theorem u8_ne_pk : 5 ≠ 82 := by decide
theorem own_sum {w : World} {B k : Nat} {v : Value} {n : Nat} {xs : List Value} {b : Nat} {s : BitVec 32} (h : w.ownsRow B 5 k v n xs) (hh : SumAt w b s) : b ∉ v.ownBlock.toList := by
  unfold SumAt at hh; exact own_has h hh u8_ne_sum
theorem own_pk {w : World} {B k : Nat} {v : Value} {n : Nat} {xs : List Value} {b : Nat} {r : Rl.Pc} (h : w.ownsRow B 5 k v n xs) (hh : KAt w b r) : b ∉ v.ownBlock.toList := by
  unfold KAt at hh; exact own_has h hh u8_ne_pk
/-- a splitter's parts while a piece is taken in -/
structure TkAt (w0 wr : World) (B b sb pb q : Nat) (v : Value) (cs : Array Value) (n : Nat) (xs : List Value) (X : BitVec 32) (row p : Rl.Pc) (S : List Nat) : Prop where
  cs : Has wr b cs 69
  own : wr.ownsRow B 5 1 v n xs
  sum : SumAt wr sb X
  pk : KAt wr pb row
  pc : Has wr q (rcells p) 50
  chg : Chg S w0 wr
theorem TkAt.below {w0 wr wx : World} {B b sb pb q : Nat} {v : Value} {cs : Array Value} {n : Nat} {xs : List Value} {X : BitVec 32} {row p : Rl.Pc} {S : List Nat} (h : TkAt w0 wr B b sb pb q v cs n xs X row p S) (k : Below wr.heap.size wr wx) :
    TkAt w0 wx B b sb pb q v cs n xs X row p S :=
  ⟨Has.below h.cs k (Has.lt h.cs), ownsRow_keep h.own k, h.sum.low k, Has.below h.pk k (Has.lt h.pk), Has.below h.pc k (Has.lt h.pc), h.chg.trans (below_chg k S)⟩
theorem TkAt.put {w0 wr wx : World} {B b sb pb q : Nat} {v : Value} {cs : Array Value} {n : Nat} {xs : List Value} {X Y : BitVec 32} {row p : Rl.Pc} {S : List Nat} (h : TkAt w0 wr B b sb pb q v cs n xs X row p S) (k : Chg [sb] wr wx) (hy : SumAt wx sb Y)
    (hne : b ≠ sb ∧ pb ≠ sb ∧ q ≠ sb) (hS : sb ∈ S) : TkAt w0 wx B b sb pb q v cs n xs Y row p S :=
  ⟨Has.chg h.cs k (by simp; exact hne.1), ownsRow_chg h.own k (fun g hg hm => by
      have := own_sum h.own h.sum
      simp at hm; subst hm
      exact this (by simp [hg])), hy, Has.chg h.pk k (by simp; exact hne.2.1), Has.chg h.pc k (by simp; exact hne.2.2), h.chg.trans (k.mono (fun j _ hj => by simp at hj; subst hj; exact hS))⟩
set_option maxRecDepth 100000 in
set_option maxHeartbeats 1600000 in
theorem take_walk (w : World) (B b sb pb : Nat) (v : Value) (now : List Rl.Pc) (room : Nat) (row p : Rl.Pc) (h : SpAt w B b sb pb v now room row) (hp : 1 ≤ p.n ∧ p.n ≤ 255) (hl : (Rl.join now).length ≤ 1000000) (hl2 : (Sp.body now).length ≤ 10000000) :
    Calls Try.prog 38 #[.pointer (some ⟨b, 0, none⟩), .agg #[.int .u8 (p.b.toNat : Int), .int .i64 (p.n : Int)]] w fun e w' => e = .returned (.tuple #[]) ∧ ∃ v', SpAt w' B b sb pb v' (now ++ [p]) room row ∧ Chg ([b, sb] ++ v.ownBlock.toList) w w' := by
  obtain ⟨pB, pn⟩ := p
  obtain ⟨hcs, hown, hsum, hpk, hlt, hne, hB⟩ := h
  have hj : Rl.join (now ++ [⟨pB, pn⟩]) = Rl.join now ++ List.replicate pn pB := by rw [Rl.join_app]; unfold Rl.join; simp
  have hbd : Sp.body (now ++ [⟨pB, pn⟩]) = Sp.body now ++ Rl.text ⟨pB, pn⟩ := by rw [Sp.body_app, Sp.body_one]
  have HSP : ∀ w' v', Has w' b (scells v' sb (Rl.join (now ++ [⟨pB, pn⟩])).length room pb) 69 → w'.ownsRow B 5 1 v' (Sp.body (now ++ [⟨pB, pn⟩])).length (Lib.byteCells (Sp.body (now ++ [⟨pB, pn⟩]))) → SumAt w' sb (Crc.run (BitVec.allOnes 32) (Rl.join (now ++ [⟨pB, pn⟩]))) → KAt w' pb row → B ≤ w'.heap.size → SpAt w' B b sb pb v' (now ++ [⟨pB, pn⟩]) room row := fun w' v' h1 h2 h3 h4 h5 => ⟨h1, h2, h3, h4, hlt, hne, h5⟩
  rw [hj, hbd, List.length_append, List.length_append, List.length_replicate, ← run_two, spCells_app, ← bs_size (Rl.text ⟨pB, pn⟩), ← spCells (Rl.text ⟨pB, pn⟩)] at HSP
  have HS := Lib.hid HSP
  have HP := Lib.hid (fun w => piece_walk pB pn w hp.1 hp.2)
  have hbs := bs_size (Rl.text ⟨pB, pn⟩)
  have htl := Rl.text_le ⟨pB, pn⟩
  clear HSP hj hbd
  generalize Rl.join now = J at *
  generalize Sp.body now = D at *
  generalize hT : Fr.bs (Rl.text ⟨pB, pn⟩) = T at *
  generalize Crc.run (BitVec.allOnes 32) J = X at *
  have hT5 : T.size ≤ 5 := by omega
  have HK := Lib.hid (show TkAt w (w.alloc (.cells (rcells ⟨pB, pn⟩) 50)) B b sb pb w.heap.size v (scells v sb J.length room pb) D.length (Lib.byteCells D) X row ⟨pB, pn⟩ ([b, sb] ++ v.ownBlock.toList) from
    ⟨Has.alloc hcs _, hown.alloc _, Has.alloc hsum _, Has.alloc hpk _, Has.new w _ _, (Chg.refl _ w).alloc _⟩)
  have hql : b < w.heap.size ∧ sb < w.heap.size ∧ pb < w.heap.size := ⟨Has.lt hcs, Has.lt hsum, Has.lt hpk⟩
  generalize hq : w.heap.size = q at *
  obtain ⟨i0, hi, hz0, hz1, hz2⟩ := info_parts sinfo_u8
  clear hcs hown hsum hpk hbs htl hT
  go_enter Try.func38, Try.ntmps38
  go_upto_region 1 with (fail)
  simp only [rcells] at HK
  generalize hw1 : w.alloc (.cells #[.int .u8 (pB.toNat : Int), .int .i64 (pn : Int)] 50) = w1 at *
  have hz : w1.heap.size = q + 1 := by rw [← hw1, World.size_alloc, hq]
  clear hw1
  have x0 := HK.out.pc.cell 0; have x1 := HK.out.pc.cell 1
  simp only [rcells, List.getElem?_toArray, List.getElem?_cons_zero, List.getElem?_cons_succ] at x0 x1
  go_wp2_with fail
  (with_reducible refine (HP.out _).mono ?_)
  rintro e w2 ⟨rfl, hb2⟩
  have HK2 := Lib.hid (HK.out.below hb2)
  have hzz := hb2.size
  clear HK x0 x1 hb2
  have HO2 := Lib.hid HK2.out.own
  have c0 := HK2.out.cs.cell 0; have c1 := HK2.out.cs.cell 1; have c2 := HK2.out.cs.cell 2
  have f0 := HK2.out.cs.free 0; have f2 := HK2.out.cs.free 2
  simp only [scells, ptr, List.getElem?_toArray, List.getElem?_cons_zero, List.getElem?_cons_succ] at c0 c1 c2
  have hqb : q ≠ b := Nat.ne_of_gt hql.1
  have hbq : b ≠ q := Nat.ne_of_lt hql.1
  have hrm := sp_room D.length T.size hl2 hT5
  have hBw2 : B ≤ w2.heap.size := Nat.le_trans hB (Nat.le_trans (Nat.le_trans (Nat.le_succ q) (Nat.le_of_eq hz.symm)) hzz)
  have hw := sp_wrap J.length pn hl hp.2
  have hw2 := sp_low J.length pn
  have hw3 := sp_high J.length pn hl hp.2
  go_wp2_with (at_builtin; refine Lib.wpList_append_own_string _ rfl _ _ 59 9 rfl B 5 i0 Try.underlying59 Try.underlying9 hi hz0 hz1 hz2 v D.length (Lib.byteCells D) rfl HO2.out T rfl hrm.1 hrm.2 hBw2 ?_; clear hrm hBw2; intro v' w3 how3 hgr hnil; clear hnil; obtain ⟨a', cap', rfl, -⟩ := rowS_owns how3; have k3 := Lib.hid (chg_grown hgr); have b3 := HK2.out.cs.chg k3.out (own_has HO2.out HK2.out.cs (by decide)); have q3 := HK2.out.pc.chg k3.out (own_has HO2.out HK2.out.pc (by decide)); have hb3 := Lib.hid b3; have hq3 := Lib.hid q3; have ho3 := Lib.hid how3; clear c0 c1 c2 f0 f2 hgr how3; have c0 := b3.cell 0; have c1 := b3.cell 1; have c2 := b3.cell 2; have f0 := b3.free 0; have f2 := b3.free 2; have x0 := q3.cell 0; have x1 := q3.cell 1; clear b3 q3; simp only [scells, ptr, rcells, List.getElem?_toArray, List.getElem?_cons_zero, List.getElem?_cons_succ] at c0 c1 c2 x0 x1)
  have HK4 := Lib.hid (show TkAt w (w3.setCell ⟨b, 0, none⟩ (.slice a' (D.length + T.size) cap')) B b sb pb q (.slice a' (D.length + T.size) cap') (scells (.slice a' (D.length + T.size) cap') sb J.length room pb) (D.length + T.size) (Lib.byteCells D ++ Lib.strCells T) X row ⟨pB, pn⟩ ([b, sb] ++ v.ownBlock.toList) from
    ⟨hb3.out.setCell 0 _, own_set ho3.out _ _ hlt.1, (HK2.out.sum.grow k3.out (own_sum HO2.out HK2.out.sum)).oth _ _ (fun e => hne.1 e.symm), (HK2.out.pk.grow k3.out (own_pk HO2.out HK2.out.pk)).oth _ _ (fun e => hne.2.1 e.symm), hq3.out.setCell_other _ _ hqb,
      (HK2.out.chg.trans (k3.out.mono (fun j _ hj => List.mem_append_right _ hj))).setCell ⟨b, 0, none⟩ _ (.inl (by simp))⟩)
  clear c0 c1 c2 x0 x1 f0 f2 hb3 hq3 ho3 k3 HK2 HO2
  generalize w3.setCell ⟨b, 0, none⟩ (.slice a' (D.length + T.size) cap') = w4 at *
  have d2 : ∀ x : Later w4, x.at.cell? ⟨b, 2, none⟩ = some (.int .i64 (J.length : Int)) := fun x => x.cell (HK4.out.cs.cell 2)
  have e1 : ∀ x : Later w4, x.at.cell? ⟨q, 1, none⟩ = some (.int .i64 (pn : Int)) := fun x => x.cell (HK4.out.pc.cell 1)
  refine region_later 9 (by kernel_rfl) (by kernel_rfl) ?_
  simp only [List.take_succ_cons, List.take_zero, List.drop_succ_cons, List.drop_zero]
  repeat (go_big_quiet_step (fail))
  refine wpQuiet_nil ?_
  rintro w' ⟨x, rfl⟩
  have HK5 := Lib.hid (HK4.out.below x.below)
  clear d2 e1 HK4
  generalize x.at = w5 at *
  have c2 := HK5.out.cs.cell 2; have f2 := HK5.out.cs.free 2
  have x1 := HK5.out.pc.cell 1
  simp only [scells, rcells, List.getElem?_toArray, List.getElem?_cons_zero, List.getElem?_cons_succ] at c2 x1
  have HK6 := Lib.hid (show TkAt w (w5.setCell ⟨b, 2, none⟩ (.int .i64 ((J.length : Int) + (pn : Int)))) B b sb pb q (.slice a' (D.length + T.size) cap') (scells (.slice a' (D.length + T.size) cap') sb (J.length + pn) room pb) (D.length + T.size) (Lib.byteCells D ++ Lib.strCells T) X row ⟨pB, pn⟩ ([b, sb] ++ v.ownBlock.toList) from
    ⟨by have := HK5.out.cs.setCell 2 (.int .i64 ((J.length : Int) + (pn : Int))); rw [show (J.length : Int) + (pn : Int) = ((J.length + pn : Nat) : Int) by omega] at this ⊢; exact this, own_set HK5.out.own _ _ hlt.1, HK5.out.sum.oth _ _ (fun e => hne.1 e.symm), HK5.out.pk.oth _ _ (fun e => hne.2.1 e.symm), HK5.out.pc.setCell_other _ _ hqb,
      HK5.out.chg.setCell ⟨b, 2, none⟩ _ (.inl (by simp))⟩)
  clear HK5
  go_wp2
  clear hw hw2 hw3
  go_loopw [31] (fun i wr => ∃ k : Nat, k ≤ pn ∧ i = .int .i64 (k : Int) ∧ TkAt w wr B b sb pb q (.slice a' (D.length + T.size) cap') (scells (.slice a' (D.length + T.size) cap') sb (J.length + pn) room pb) (D.length + T.size) (Lib.byteCells D ++ Lib.strCells T) (Crc.run X (List.replicate k pB)) row ⟨pB, pn⟩ ([b, sb] ++ v.ownBlock.toList)) (fun i _ => pn - (intOf i).toNat)
  case atStart => exact ⟨0, Nat.zero_le _, rfl, HK6.out⟩
  case round =>
    obtain ⟨k, hk, rfl, hr⟩ := hrel
    have HR := Lib.hid hr
    have hkb := sp_k k pn hk hp.2
    clear hr
    by_cases hlk : k < pn
    · have d1 : ∀ x : Later wr, x.at.cell? ⟨b, 1, none⟩ = some (.pointer (some ⟨sb, 0, none⟩)) := fun x => x.cell (HR.out.cs.cell 1)
      have e0 : ∀ x : Later wr, x.at.cell? ⟨q, 0, none⟩ = some (.int .u8 (pB.toNat : Int)) := fun x => x.cell (HR.out.pc.cell 0)
      go_wp2_with fail
      refine region_later 6 (by kernel_rfl) (by kernel_rfl) ?_
      simp only [List.take_succ_cons, List.take_zero, List.drop_succ_cons, List.drop_zero]
      repeat (go_big_quiet_step (fail))
      refine wpQuiet_nil ?_
      rintro w' ⟨x, rfl⟩
      have HX := Lib.hid (HR.out.below x.below)
      clear d1 e0
      generalize x.at = w6 at *
      have HPUT := Lib.hid (sput sb (Crc.run X (List.replicate k pB)) pB w6 HX.out.sum)
      go_wp2_with fail
      (with_reducible refine (HPUT.out).mono ?_)
      rintro e w7 ⟨rfl, hs7, hc7⟩
      have HN := Lib.hid (HX.out.put hc7 (by rw [run_rep] at hs7; exact hs7) ⟨hne.1, fun e => hne.2.2 e.symm, Nat.ne_of_gt hql.2.1⟩ (by simp))
      clear hs7 hc7 HX HR HPUT
      go_wp2
      go_roundw
      case rel => exact ⟨k + 1, hlk, by go_num, HN.out⟩
      case measure => simp [intOf]; omega
    · have hkp : k = pn := Nat.le_antisymm hk (Nat.not_lt.1 hlk)
      have hr2 := HR.out
      rw [hkp] at hr2
      have HE := Lib.hid hr2
      clear hr2 HR hkp
      have hBw : B ≤ wr.heap.size := Nat.le_trans (Nat.le_trans hB (Nat.le_of_eq hq.symm)) HE.out.chg.size
      go_wp2
      go_end0
      exact ⟨rfl, _, HS.out _ _ HE.out.cs HE.out.own HE.out.sum HE.out.pk hBw, HE.out.chg⟩
end Go.Proofs.Ytaldcdgafljedaa
