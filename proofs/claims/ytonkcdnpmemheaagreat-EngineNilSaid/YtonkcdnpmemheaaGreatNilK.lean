/- Closed facts of the row of EngineNil. By an AI agent. -/
import Derived.Test.YtonkcdnpmemheaaGreatRows
import Derived.WalkKit
import Derived.ProofKit
import Derived.OpenShut
set_option linter.all false
namespace Go.Proofs.YtonkcdnpmemheaaGreat.engineNil
open Go.ChangeShapes Go.WideShapes Go.ChangeAt Go.RowKit

theorem own : ownKnob Tryz.prog.godebug = none := by kernel_rfl
theorem k2 : laidOutB Tryz.prog = true := by kernel_rfl
theorem k3 : mapsRowed Tryz.prog = true := by kernel_rfl
theorem k10 : (Rows.engineNilRow.inPlace == Tryz.prog.inPlace 3) = true := by kernel_rfl
theorem k11 : (Rows.engineNilRow.unfollowed == Tryz.prog.unfollowed 3) = true := by kernel_rfl
theorem k12 : (Rows.engineNilRow.recurses == Tryz.prog.recurses 3) = true := by kernel_rfl
theorem k13 : (Rows.engineNilRow.named == Tryz.prog.varsNamed 3) = true := by kernel_rfl
theorem k17 : (Rows.engineNilRow.loops == (Tryz.f3.params.toList ++ Rows.engineNilSpec.plain.varTypes Tryz.prog).any (Tryz.prog.loopsFrom ·)) = true := by kernel_rfl
theorem k22 : (Rows.engineNilRow.plainKeys == Tryz.prog.plainKeys) = true := by kernel_rfl
theorem k23 : Tryz.prog.stopsHeard = true := by kernel_rfl
theorem k24 : Tryz.prog.mayEnter = true := by kernel_rfl
theorem closed : joinedFacts Tryz.prog 3 Tryz.f3 Rows.engineNilSpec Rows.engineNilRow = true := by
  unfold joinedFacts
  rw [k2, k3, k10, k11, k12, k13, k17, k22, k23, k24]
  kernel_rfl
end Go.Proofs.YtonkcdnpmemheaaGreat.engineNil

