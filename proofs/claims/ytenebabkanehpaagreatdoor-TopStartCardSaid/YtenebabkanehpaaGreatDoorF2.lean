/- What every row of the seat asks of the whole program, once. No condition. -/
import Derived.Test.YtenebabkanehpaaGreatDoorBase
import Derived.Test.YtenebabkanehpaaGreatDoorCards
namespace Go.Proofs.YtenebabkanehpaaGreatDoor.Facts
open Go
set_option maxRecDepth 100000
theorem plainKeys : Tryz.prog.plainKeys = Rows.topTableRow.plainKeys := by kernel_rfl
theorem lifts : Tryz.prog.liftsFinal = Rows.topTableRow.lifted := by kernel_rfl
theorem make : Tryz.prog.make = some Rows.topTableRow.make := by kernel_rfl
theorem looks : true = Tryz.prog.looks [] := by kernel_rfl
theorem mainIs : Tryz.prog.mainIs = some (true, "4d834bd9a63f35c57fa18cff7d9169fa068c5b99ab2025c958f1c08b8ac563ed".toList) := by kernel_rfl
end Go.Proofs.YtenebabkanehpaaGreatDoor.Facts
