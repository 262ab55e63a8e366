/- The facts of the row of the law FnExactChangesOf, each by itself: so the kernel needs less room. -/
import Derived.Test.YtajhmldalehbjaaGreatRows
import Derived.ProofKit
namespace Go.Proofs.YtajhmldalehbjaaGreat.fnExactChangesOf
open Go.ChangeShapes Go.WideShapes Go.ChangeAt Go.RowKit
theorem h_name : Tryz.pinned.checked.prog.funcNamed Rows.fnExactChangesOfRow.func = some 4 := by kernel_rfl
theorem h_place : (Rows.fnExactChangesOfRow.inPlace == Tryz.pinned.checked.prog.inPlace 4) = true := by kernel_rfl
theorem h_unf : (Rows.fnExactChangesOfRow.unfollowed == Tryz.pinned.checked.prog.unfollowed 4) = true := by kernel_rfl
theorem h_rec : (Rows.fnExactChangesOfRow.recurses == Tryz.pinned.checked.prog.recurses 4) = true := by kernel_rfl
theorem h_named : (Rows.fnExactChangesOfRow.named == Tryz.pinned.checked.prog.varsNamed 4) = true := by kernel_rfl
theorem h_laid : laidOutB Tryz.pinned.checked.prog = true := by kernel_rfl
theorem h_rowed : mapsRowed Tryz.pinned.checked.prog = true := by kernel_rfl
theorem h_heard : Tryz.pinned.checked.prog.stopsHeard = true := by kernel_rfl
theorem h_enter : Tryz.pinned.checked.prog.mayEnter = true := by kernel_rfl
theorem h_lifted : (Rows.fnExactChangesOfRow.lifted == Tryz.pinned.checked.prog.liftsFinal) = true := by kernel_rfl
theorem closed : joinedFacts Tryz.pinned.checked.prog 4 Tryz.f4 Rows.fnExactChangesOfSpec Rows.fnExactChangesOfRow = true := by
  unfold joinedFacts
  rw [h_place, h_unf, h_rec, h_named, h_laid, h_rowed, h_heard, h_enter, h_lifted]
  kernel_rfl
end Go.Proofs.YtajhmldalehbjaaGreat.fnExactChangesOf
