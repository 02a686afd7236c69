/-
  A drawn region walked in its text's order, where an operation may be passed over by its guard: steps of the held walk as tactics.
-/
import Derived.Test.YtohmeobfiomfdaaOver
namespace Go.Proofs.Ytohmeobfiomfdaa
open Go.RowKit

theorem cell_drew (w : World) (a : Addr) : w.drew.cell? a = w.cell? a := rfl
theorem frozen_drew (w : World) (a : Addr) : w.drew.frozen? a = w.frozen? a := rfl

end Go.Proofs.Ytohmeobfiomfdaa
