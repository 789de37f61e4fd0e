/- Splitters: a room, a new one. -/
import Derived.Test.YtaldcdgafljedaaSplMath
import Derived.Test.YtaldcdgafljedaaFeedWalk2
import Derived.Test.YtaldcdgafljedaaCrcWalk3
import Derived.Lib.AppendStr
namespace Go.Proofs.Ytaldcdgafljedaa
open Go.RowKit
set_option linter.unusedVariables false
set_option linter.unusedSimpArgs false

def roomOk (n : Int) : Bool := decide (5 ≤ n ∧ n ≤ 900000)
def roomOf (l u : Int) : Int × Int := if l < 1 ∨ 9 < l ∨ u < 24 ∨ 100000 < u then (0, 1) else (l * u - 19, 0)
set_option maxRecDepth 100000 in
set_option maxHeartbeats 800000 in
theorem sroom_walk (l u : Int) (w : World) : Calls Try.prog 9 #[.int .i64 l, .int .i64 u] w fun e w' => e = .returned (.tuple #[.int .i64 (roomOf l u).1, .int .i64 (roomOf l u).2]) ∧ w = w' := by
  unfold roomOf
  by_cases h1 : l < 1
  · rw [if_pos (.inl h1)]
    have e1 : decide (l < 1) = true := by simpa using h1
    go_enter Try.func9, Try.ntmps9
    go_wp2
    go_ret2
    exact ⟨rfl, rfl⟩
  · have e1 : decide (l < 1) = false := by simpa using h1
    by_cases h2 : 9 < l
    · rw [if_pos (.inr (.inl h2))]
      have e2 : decide (9 < l) = true := by simpa using h2
      go_enter Try.func9, Try.ntmps9
      go_wp2
      go_ret2
      exact ⟨rfl, rfl⟩
    · have e2 : decide (9 < l) = false := by simpa using h2
      by_cases h3 : u < 24
      · rw [if_pos (.inr (.inr (.inl h3)))]
        have e3 : decide (u < 24) = true := by simpa using h3
        go_enter Try.func9, Try.ntmps9
        go_wp2
        go_ret2
        exact ⟨rfl, rfl⟩
      · have e3 : decide (u < 24) = false := by simpa using h3
        by_cases h4 : 100000 < u
        · rw [if_pos (.inr (.inr (.inr h4)))]
          have e4 : decide (100000 < u) = true := by simpa using h4
          go_enter Try.func9, Try.ntmps9
          go_wp2
          go_ret2
          exact ⟨rfl, rfl⟩
        · have e4 : decide (100000 < u) = false := by simpa using h4
          rw [if_neg (by omega)]
          have hm1 : 0 ≤ l * u := Int.mul_nonneg (by omega) (by omega)
          have hm2 : l * u ≤ 9 * 100000 := Int.mul_le_mul (by omega) (by omega) (by omega) (by omega)
          go_enter Try.func9, Try.ntmps9
          go_wp2
          go_ret2
          exact ⟨rfl, rfl⟩
set_option maxRecDepth 100000 in
set_option maxHeartbeats 800000 in
theorem refroom_walk (n : Int) (w : World) : Calls Try.prog 12 #[.int .i64 n] w fun e w' => e = .returned (.bool (roomOk n)) ∧ w = w' := by
  unfold roomOk
  by_cases h1 : 5 ≤ n
  · have e1 : decide (5 ≤ n) = true := by simpa using h1
    by_cases h2 : n ≤ 900000
    · have e2 : decide (n ≤ 900000) = true := by simpa using h2
      have e3 : decide (5 ≤ n ∧ n ≤ 900000) = true := by simpa using And.intro h1 h2
      rw [e3]
      clear e3 h1 h2
      go_enter Try.func12, Try.ntmps12
      go_wp2
      go_ret
      exact ⟨rfl, rfl⟩
    · have e2 : decide (n ≤ 900000) = false := by simpa using h2
      have e3 : decide (5 ≤ n ∧ n ≤ 900000) = false := by simpa using fun _ => by omega
      rw [e3]
      clear e3 h1 h2
      go_enter Try.func12, Try.ntmps12
      go_wp2
      go_ret
      exact ⟨rfl, rfl⟩
  · have e1 : decide (5 ≤ n) = false := by simpa using h1
    have e3 : decide (5 ≤ n ∧ n ≤ 900000) = false := by simpa using fun h => absurd h h1
    rw [e3]
    clear e3 h1
    go_enter Try.func12, Try.ntmps12
    go_wp2
    go_ret
    exact ⟨rfl, rfl⟩

def scells (v : Value) (sb n room pb : Nat) : Array Value := #[v, ptr sb, .int .i64 (n : Int), .int .i64 (room : Int), ptr pb]
/-- a splitter in block b: its sum in sb, its packer in pb, its begun block's bytes at v, a row of its own that lies from B on -/
structure SpAt (w : World) (B b sb pb : Nat) (v : Value) (now : List Rl.Pc) (room : Nat) (row : Rl.Pc) : Prop where
  cs : Has w b (scells v sb (Rl.join now).length room pb) 69
  own : w.ownsRow B 5 1 v (Sp.body now).length (Lib.byteCells (Sp.body now))
  sum : SumAt w sb (Crc.run (BitVec.allOnes 32) (Rl.join now))
  pk : KAt w pb row
  lt : b < B ∧ sb < B ∧ pb < B
  ne : b ≠ sb ∧ b ≠ pb ∧ sb ≠ pb
  hB : B ≤ w.heap.size
set_option maxRecDepth 100000 in
set_option maxHeartbeats 800000 in
theorem snew_bad (n : Int) (w : World) (h : roomOk n = false) : Calls Try.prog 18 #[.int .i64 n] w fun e w' => e = .returned (.tuple #[.pointer none, .int .i64 1]) ∧ w = w' := by
  by_cases h1 : n < 5
  · have e1 : decide (n < 5) = true := by simpa using h1
    clear h
    go_enter Try.func18, Try.ntmps18
    go_wp2
    go_ret2
    exact ⟨rfl, rfl⟩
  · have e1 : decide (n < 5) = false := by simpa using h1
    have e2 : decide (900000 < n) = true := by
      unfold roomOk at h
      have := of_decide_eq_false h
      simp; omega
    clear h
    go_enter Try.func18, Try.ntmps18
    go_wp2
    go_ret2
    exact ⟨rfl, rfl⟩
set_option maxRecDepth 100000 in
set_option maxHeartbeats 1600000 in
theorem snew_walk (n : Nat) (w : World) (h : roomOk n = true) : Calls Try.prog 18 #[.int .i64 (n : Int)] w fun e w' => ∃ b sb pb, e = .returned (.tuple #[ptr b, .int .i64 0]) ∧
    SpAt w' w'.heap.size b sb pb (.slice none 0 0) [] n Rl.row0 ∧ w.heap.size ≤ b ∧ w.heap.size ≤ sb ∧ w.heap.size ≤ pb ∧ Below w.heap.size w w' := by
  have hh := of_decide_eq_true h
  have e1 : decide ((n : Int) < 5) = false := by simp; omega
  have e2 : decide (900000 < (n : Int)) = false := by simp; omega
  clear hh h
  go_enter Try.func18, Try.ntmps18
  go_wp2_with fail
  (with_reducible refine (new_walk _).mono ?_)
  rintro e w1 ⟨sb, rfl, hsb, hs1, hb1⟩
  have hslt := Has.lt hs1
  go_wp2_with fail
  (with_reducible refine (newPacker_walk _).mono ?_)
  rintro e w2 ⟨rfl, hk2, hb2⟩
  have HS := Lib.hid (Has.below hs1 hb2 hslt)
  have HK := Lib.hid hk2
  have HB := Lib.hid (hb1.trans (hb2.mono hb1.size))
  have HL := Lib.hid hb2.size
  have HKL := Lib.hid (Has.lt hk2)
  have hz1 := hb1.size
  clear hs1 hk2 hb1 hb2
  go_wp2
  go_ret2
  refine ⟨w2.heap.size, sb, w1.heap.size, rfl, ⟨Has.new w2 _ _, World.ownsRow_nil _ _ _ _, Has.alloc HS.out _, Has.alloc HK.out _, ?_, ?_, Nat.le_refl _⟩, ?_, hsb, by omega, HB.out.alloc HB.out.size _⟩
  all_goals (have h1 := HL.out; have h2 := HKL.out; (try rw [World.size_alloc]); omega)
end Go.Proofs.Ytaldcdgafljedaa
