/-
  The closed facts on the whole program that each row asks, one declaration each. No condition.
-/
import Derived.Test.YtnljjlaececnkaaGreatDoorRows
import Derived.JoinedOf
import Derived.KernelRfl
import Derived.SevenTiedAt
namespace Go.Proofs.YtnljjlaececnkaaGreatDoor
open Go.ChangeShapes Go.WideShapes
set_option linter.unusedVariables false
theorem jf_out : laidOutB Tryz.pinned.checked.prog = true := by kernel_rfl
theorem jf_maps : mapsRowed Tryz.pinned.checked.prog = true := by kernel_rfl
theorem jf_stops : (Tryz.pinned.checked.prog.stops == []) = true := by kernel_rfl
theorem jf_knobs : (Tryz.pinned.checked.prog.stopKnobs == []) = true := by kernel_rfl
theorem jf_keys : (false == Tryz.pinned.checked.prog.plainKeys) = true := by kernel_rfl
theorem jf_heard : Tryz.pinned.checked.prog.stopsHeard = true := by kernel_rfl
theorem jf_enter : Tryz.pinned.checked.prog.mayEnter = true := by kernel_rfl
theorem jf_lift : (Rows.addrTreeRow.lifted == Tryz.pinned.checked.prog.liftsFinal) = true := by kernel_rfl
theorem jf_make : (Tryz.pinned.checked.prog.make == some Rows.addrTreeRow.make) = true := by kernel_rfl
/-! ### of a card -/
theorem jf_main : Tryz.pinned.checked.prog.mainIs = some (true, "11f230a8d8e2c1745f747872d237d21740fd6a16d7af62534ef2deb61fc91356".toList) := by kernel_rfl
theorem jf_looks : true = Tryz.pinned.checked.prog.looks [] := by kernel_rfl
end Go.Proofs.YtnljjlaececnkaaGreatDoor
