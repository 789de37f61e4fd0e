/- The law of all frames. -/
import Derived.Test.YtckdbkbecelgcaaDoorFrameSame
import Derived.Test.YtckdbkbecelgcaaDoorFrameAll2
import Derived.Test.YtckdbkbecelgcaaDoorFrameLaw1
namespace Go.Proofs.YtckdbkbecelgcaaDoor
open Go.RowKit

theorem Fr.run_length (s : ByteArray) : ∀ (n p : Nat) (fs : List Fr.Frm), (Fr.run s n p fs).1.length ≤ fs.length + n
  | 0, p, fs => by simp [Fr.run]
  | n + 1, p, fs => by
    unfold Fr.run
    split
    · show fs.length ≤ _; omega
    · split
      · show fs.length ≤ _; omega
      · have := Fr.run_length s n (p + (Fr.dec (s.extract p s.size)).len) (fs ++ [(Fr.dec (s.extract p s.size)).f])
        rw [List.length_append] at this
        simp at this
        omega

end Go.Proofs.YtckdbkbecelgcaaDoor
