/- The facts of the row of the law FnExactRetriesEarned, each by itself: so the kernel needs less room. -/
import Derived.Test.YtajhmldalehbjaaGreatRows
import Derived.ProofKit
namespace Go.Proofs.YtajhmldalehbjaaGreat.fnExactRetriesEarned
open Go.ChangeShapes Go.WideShapes Go.ChangeAt Go.RowKit
theorem h_name : Tryz.pinned.checked.prog.funcNamed Rows.fnExactRetriesEarnedRow.func = some 6 := by kernel_rfl
theorem h_place : (Rows.fnExactRetriesEarnedRow.inPlace == Tryz.pinned.checked.prog.inPlace 6) = true := by kernel_rfl
theorem h_unf : (Rows.fnExactRetriesEarnedRow.unfollowed == Tryz.pinned.checked.prog.unfollowed 6) = true := by kernel_rfl
theorem h_rec : (Rows.fnExactRetriesEarnedRow.recurses == Tryz.pinned.checked.prog.recurses 6) = true := by kernel_rfl
theorem h_named : (Rows.fnExactRetriesEarnedRow.named == Tryz.pinned.checked.prog.varsNamed 6) = true := by kernel_rfl
theorem h_laid : laidOutB Tryz.pinned.checked.prog = true := by kernel_rfl
theorem h_rowed : mapsRowed Tryz.pinned.checked.prog = true := by kernel_rfl
theorem h_heard : Tryz.pinned.checked.prog.stopsHeard = true := by kernel_rfl
theorem h_enter : Tryz.pinned.checked.prog.mayEnter = true := by kernel_rfl
theorem h_lifted : (Rows.fnExactRetriesEarnedRow.lifted == Tryz.pinned.checked.prog.liftsFinal) = true := by kernel_rfl
theorem closed : joinedFacts Tryz.pinned.checked.prog 6 Tryz.f6 Rows.fnExactRetriesEarnedSpec Rows.fnExactRetriesEarnedRow = true := by
  unfold joinedFacts
  rw [h_place, h_unf, h_rec, h_named, h_laid, h_rowed, h_heard, h_enter, h_lifted]
  kernel_rfl
end Go.Proofs.YtajhmldalehbjaaGreat.fnExactRetriesEarned
