/- The facts of the row of the law FnExactSameWorld, each by itself: so the kernel needs less room. -/
import Derived.Test.YtiafbadciofohaaGreatRows
import Derived.ProofKit
namespace Go.Proofs.YtiafbadciofohaaGreat.fnExactSameWorld
open Go.ChangeShapes Go.WideShapes Go.ChangeAt Go.RowKit
theorem h_name : Tryz.pinned.checked.prog.funcNamed Rows.fnExactSameWorldRow.func = some 3 := by kernel_rfl
theorem h_place : (Rows.fnExactSameWorldRow.inPlace == Tryz.pinned.checked.prog.inPlace 3) = true := by kernel_rfl
theorem h_unf : (Rows.fnExactSameWorldRow.unfollowed == Tryz.pinned.checked.prog.unfollowed 3) = true := by kernel_rfl
theorem h_rec : (Rows.fnExactSameWorldRow.recurses == Tryz.pinned.checked.prog.recurses 3) = true := by kernel_rfl
theorem h_named : (Rows.fnExactSameWorldRow.named == Tryz.pinned.checked.prog.varsNamed 3) = true := by kernel_rfl
theorem h_laid : laidOutB Tryz.pinned.checked.prog = true := by kernel_rfl
theorem h_rowed : mapsRowed Tryz.pinned.checked.prog = true := by kernel_rfl
theorem h_heard : Tryz.pinned.checked.prog.stopsHeard = true := by kernel_rfl
theorem h_enter : Tryz.pinned.checked.prog.mayEnter = true := by kernel_rfl
theorem h_lifted : (Rows.fnExactSameWorldRow.lifted == Tryz.pinned.checked.prog.liftsFinal) = true := by kernel_rfl
theorem closed : joinedFacts Tryz.pinned.checked.prog 3 Tryz.f3 Rows.fnExactSameWorldSpec Rows.fnExactSameWorldRow = true := by
  unfold joinedFacts
  rw [h_place, h_unf, h_rec, h_named, h_laid, h_rowed, h_heard, h_enter, h_lifted]
  kernel_rfl
end Go.Proofs.YtiafbadciofohaaGreat.fnExactSameWorld
