/- Plain mathematics of a text that is cut between two runes. No program in sight. -/
import Derived.Test.YtajalllecoclcaaDoorTokMath2
namespace Go.Proofs.YtajalllecoclcaaDoor.Tk
open Go

theorem at_take (l : List UInt8) (C i : Nat) (h : i < C) : at_ (l.take C) i = at_ l i := by
  unfold at_
  rw [List.getD, List.getD, List.getElem?_take_of_lt h]
theorem d_of1 (l : List UInt8) (h : at_ l 0 < 128) : d l = (at_ l 0, 1) := by unfold d Lib.decodeN; rw [if_pos h]
theorem d_of2 (l : List UInt8) (z : Nat) (h1 : at_ l 0 / 32 = 6) (h2 : 1 < l.length) (h3 : at_ l 1 / 64 = 2) (hz : z = at_ l 0 % 32 * 64 + at_ l 1 % 64) (hg : z ≥ 128) : d l = (z, 2) := by
  unfold d Lib.decodeN
  rw [if_neg (by omega), if_pos ⟨h1, h2, h3⟩, if_pos (by rw [← hz]; exact hg), ← hz]
theorem d_of3 (l : List UInt8) (z : Nat) (h1 : at_ l 0 / 16 = 14) (h2 : 2 < l.length) (h3 : at_ l 1 / 64 = 2) (h4 : at_ l 2 / 64 = 2) (hz : z = at_ l 0 % 16 * 4096 + at_ l 1 % 64 * 64 + at_ l 2 % 64) (hg : z ≥ 2048 ∧ (z < 55296 ∨ (57344 ≤ z ∧ z ≤ 1114111))) : d l = (z, 3) := by
  unfold d Lib.decodeN
  rw [if_neg (by omega), if_neg (by omega), if_pos ⟨h1, ⟨by omega, h3⟩, h2, h4⟩, if_pos (by rw [← hz]; exact hg), ← hz]
theorem d_of4 (l : List UInt8) (z : Nat) (h1 : at_ l 0 / 8 = 30) (h2 : 3 < l.length) (h3 : at_ l 1 / 64 = 2) (h4 : at_ l 2 / 64 = 2) (h5 : at_ l 3 / 64 = 2) (hz : z = at_ l 0 % 8 * 262144 + at_ l 1 % 64 * 4096 + at_ l 2 % 64 * 64 + at_ l 3 % 64) (hg : z ≥ 65536 ∧ (z < 55296 ∨ (57344 ≤ z ∧ z ≤ 1114111))) : d l = (z, 4) := by
  unfold d Lib.decodeN
  rw [if_neg (by omega), if_neg (by omega), if_neg (by omega), if_pos ⟨h1, ⟨by omega, h3⟩, ⟨by omega, h4⟩, h2, h5⟩, if_pos (by rw [← hz]; exact hg), ← hz]
/-- a rune reads the same, whatever is cut off behind it -/
theorem d_take (l : List UInt8) (C : Nat) (hC : (d l).2 ≤ C) (h1C : 1 ≤ C) : d (l.take C) = d l := by
  have hl : (l.take C).length = min C l.length := List.length_take
  rcases d_cases l with e | ⟨h1, e⟩ | ⟨z, h1, h2, h3, hz, hg, e⟩ | ⟨z, h1, h2, h3, h4, hz, hg, e⟩ | ⟨z, h1, h2, h3, h4, h5, hz, hg, e⟩
  · have a0 := at_take l C 0 (by omega)
    rcases d_cases (l.take C) with e' | ⟨h1, e'⟩ | ⟨z, h1, h2, h3, hz, hg, e'⟩ | ⟨z, h1, h2, h3, h4, hz, hg, e'⟩ | ⟨z, h1, h2, h3, h4, h5, hz, hg, e'⟩
    · rw [e, e']
    · rw [a0] at h1
      rw [d_of1 l h1, d_of1 _ (by rw [a0]; exact h1), a0]
    · have a1 := at_take l C 1 (by omega)
      rw [a0] at h1 hz; rw [a1] at h3 hz
      rw [e', d_of2 l z h1 (by omega) h3 hz hg]
    · have a1 := at_take l C 1 (by omega); have a2 := at_take l C 2 (by omega)
      rw [a0] at h1 hz; rw [a1] at h3 hz; rw [a2] at h4 hz
      rw [e', d_of3 l z h1 (by omega) h3 h4 hz hg]
    · have a1 := at_take l C 1 (by omega); have a2 := at_take l C 2 (by omega); have a3 := at_take l C 3 (by omega)
      rw [a0] at h1 hz; rw [a1] at h3 hz; rw [a2] at h4 hz; rw [a3] at h5 hz
      rw [e', d_of4 l z h1 (by omega) h3 h4 h5 hz hg]
  · have a0 := at_take l C 0 (by omega)
    rw [d_of1 l h1, d_of1 _ (by rw [a0]; exact h1), a0]
  · rw [e] at hC ⊢
    have hC' : 2 ≤ C := hC
    rw [d_of2 (l.take C) z (by rw [at_take l C 0 (by omega)]; exact h1) (by omega) (by rw [at_take l C 1 (by omega)]; exact h3) (by rw [at_take l C 0 (by omega), at_take l C 1 (by omega)]; exact hz) hg]
  · rw [e] at hC ⊢
    have hC' : 3 ≤ C := hC
    rw [d_of3 (l.take C) z (by rw [at_take l C 0 (by omega)]; exact h1) (by omega) (by rw [at_take l C 1 (by omega)]; exact h3) (by rw [at_take l C 2 (by omega)]; exact h4) (by rw [at_take l C 0 (by omega), at_take l C 1 (by omega), at_take l C 2 (by omega)]; exact hz) hg]
  · rw [e] at hC ⊢
    have hC' : 4 ≤ C := hC
    rw [d_of4 (l.take C) z (by rw [at_take l C 0 (by omega)]; exact h1) (by omega) (by rw [at_take l C 1 (by omega)]; exact h3) (by rw [at_take l C 2 (by omega)]; exact h4) (by rw [at_take l C 3 (by omega)]; exact h5) (by rw [at_take l C 0 (by omega), at_take l C 1 (by omega), at_take l C 2 (by omega), at_take l C 3 (by omega)]; exact hz) hg]
theorem runes_take (l : List UInt8) (k C : Nat) (h : 0 < l.length) (hk : (d l).2 = k) : (runes (l.take (k + C))).length = 1 + (runes ((l.drop k).take C)).length := by
  have hb := d_bd l h
  have e := d_take l (k + C) (by omega) (by omega)
  rw [runes_cons (l.take (k + C)) (by rw [List.length_take]; omega), List.length_cons, e, hk, List.drop_take, Nat.add_sub_cancel_left]
  omega
end Go.Proofs.YtajalllecoclcaaDoor.Tk
