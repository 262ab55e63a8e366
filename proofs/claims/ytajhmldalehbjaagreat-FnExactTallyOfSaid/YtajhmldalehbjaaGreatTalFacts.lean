/- The facts of the row of the law FnExactTallyOf, each by itself: so the kernel needs less room. -/
import Derived.Test.YtajhmldalehbjaaGreatRows
import Derived.ProofKit
namespace Go.Proofs.YtajhmldalehbjaaGreat.fnExactTallyOf
open Go.ChangeShapes Go.WideShapes Go.ChangeAt Go.RowKit
theorem h_name : Tryz.pinned.checked.prog.funcNamed Rows.fnExactTallyOfRow.func = some 7 := by kernel_rfl
theorem h_place : (Rows.fnExactTallyOfRow.inPlace == Tryz.pinned.checked.prog.inPlace 7) = true := by kernel_rfl
theorem h_unf : (Rows.fnExactTallyOfRow.unfollowed == Tryz.pinned.checked.prog.unfollowed 7) = true := by kernel_rfl
theorem h_rec : (Rows.fnExactTallyOfRow.recurses == Tryz.pinned.checked.prog.recurses 7) = true := by kernel_rfl
theorem h_named : (Rows.fnExactTallyOfRow.named == Tryz.pinned.checked.prog.varsNamed 7) = true := by kernel_rfl
theorem h_laid : laidOutB Tryz.pinned.checked.prog = true := by kernel_rfl
theorem h_rowed : mapsRowed Tryz.pinned.checked.prog = true := by kernel_rfl
theorem h_heard : Tryz.pinned.checked.prog.stopsHeard = true := by kernel_rfl
theorem h_enter : Tryz.pinned.checked.prog.mayEnter = true := by kernel_rfl
theorem h_lifted : (Rows.fnExactTallyOfRow.lifted == Tryz.pinned.checked.prog.liftsFinal) = true := by kernel_rfl
theorem closed : joinedFacts Tryz.pinned.checked.prog 7 Tryz.f7 Rows.fnExactTallyOfSpec Rows.fnExactTallyOfRow = true := by
  unfold joinedFacts
  rw [h_place, h_unf, h_rec, h_named, h_laid, h_rowed, h_heard, h_enter, h_lifted]
  kernel_rfl
end Go.Proofs.YtajhmldalehbjaaGreat.fnExactTallyOf
