/- All of the reference. -/
import Derived.Test.YtngheokngonhjaaFrameAll1
import Derived.Test.YtngheokngonhjaaFrameWalk6
namespace Go.Proofs.Ytngheokngonhjaa
open Go.RowKit

/-- what a row of frames holds, at two blocks -/
structure AllAt (w wr : World) (v : Value) (p : Nat) (fs : List Fr.Frm) : Prop where
  r0 : Has wr w.heap.size #[.slice none 0 0, .int .i64 0, .int .i64 0] 37
  r1 : Has wr (w.heap.size + 1) #[v, .int .i64 (p : Int), .int .i64 0] 37
  own : wr.ownsRow (w.heap.size + 2) 33 3 v fs.length (fs.flatMap fcells)
  below : Below w.heap.size w wr
theorem AllAt.keep {w wr w' : World} {v : Value} {p : Nat} {fs : List Fr.Frm} (h : AllAt w wr v p fs) (hb : Below wr.heap.size wr w') : AllAt w w' v p fs :=
  ⟨h.r0.below hb h.r0.lt, h.r1.below hb h.r1.lt, ownsRow_keep h.own hb, h.below.trans (hb.mono h.below.size)⟩

end Go.Proofs.Ytngheokngonhjaa
