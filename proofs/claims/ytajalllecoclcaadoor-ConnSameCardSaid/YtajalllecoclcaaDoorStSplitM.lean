/- A text cut at each byte of one kind. No program in sight. -/
import Derived.Test.YtajalllecoclcaaDoorStMath
namespace Go.Proofs.YtajalllecoclcaaDoor.St
open Go

/-- cut at every c -/
def splitC (c : UInt8) : List UInt8 → List (List UInt8)
  | [] => [[]]
  | b :: l => if b = c then [] :: splitC c l else (b :: (splitC c l).headD []) :: (splitC c l).tail
theorem splitC_ne (c : UInt8) (l : List UInt8) : splitC c l ≠ [] := by
  cases l with
  | nil => exact List.cons_ne_nil _ _
  | cons b l => unfold splitC; split <;> exact List.cons_ne_nil _ _
theorem splitC_piece (c : UInt8) (l : List UInt8) : ∀ p : List UInt8, (∀ b ∈ p, b ≠ c) → splitC c (p ++ c :: l) = p :: splitC c l
  | [], _ => by rw [List.nil_append, splitC, if_pos rfl]
  | b :: p, h => by
    rw [List.cons_append, splitC, if_neg (h b (List.mem_cons_self ..)), splitC_piece c l p (fun x hx => h x (List.mem_cons_of_mem _ hx))]
    rfl
theorem splitC_last (c : UInt8) : ∀ p : List UInt8, (∀ b ∈ p, b ≠ c) → splitC c p = [p]
  | [], _ => rfl
  | b :: p, h => by
    rw [splitC, if_neg (h b (List.mem_cons_self ..)), splitC_last c p (fun x hx => h x (List.mem_cons_of_mem _ hx))]
    rfl
end Go.Proofs.YtajalllecoclcaaDoor.St
