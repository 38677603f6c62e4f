/- The table with these contracts. No condition. -/
import Derived.Test.YtenebabkanehpaaGreatDoorRTopIndirectx5
import Derived.Test.YtenebabkanehpaaGreatDoorRTopIndirectx8
import Derived.Test.YtenebabkanehpaaGreatDoorAAw
namespace Go.Proofs.YtenebabkanehpaaGreatDoor
open Go Go.Sx Go.Gx
theorem cTopIndirect5_holds : cTopIndirect5.holds tAw4 20000 200 22 = true := by
  have h := hTopIndirect5
  simp only [Bool.and_eq_true] at h
  exact h.1
theorem cTopIndirect6_holds : cTopIndirect6.holds tTopIndirect5 20000 200 24 = true := by
  have h := hTopIndirect5
  simp only [Bool.and_eq_true] at h
  exact h.2.1
theorem cTopIndirect7_holds : cTopIndirect7.holds tTopIndirect6 20000 200 22 = true := by
  have h := hTopIndirect5
  simp only [Bool.and_eq_true] at h
  exact h.2.2.1
theorem cTopIndirect8_holds : cTopIndirect8.holds tTopIndirect7 20000 200 24 = true := by
  have h := hTopIndirect8
  simp only [Bool.and_eq_true] at h
  exact h.1
theorem tTopIndirect5_ok : TabOk Tryz.prog tTopIndirect5 := TabOk.con tAw4_ok tAw4_ok cTopIndirect5_holds
theorem tTopIndirect6_ok : TabOk Tryz.prog tTopIndirect6 := TabOk.con tTopIndirect5_ok tTopIndirect5_ok cTopIndirect6_holds
theorem tTopIndirect7_ok : TabOk Tryz.prog tTopIndirect7 := TabOk.con tTopIndirect6_ok tTopIndirect6_ok cTopIndirect7_holds
theorem tTopIndirect8_ok : TabOk Tryz.prog tTopIndirect8 := TabOk.con tTopIndirect7_ok tTopIndirect7_ok cTopIndirect8_holds
end Go.Proofs.YtenebabkanehpaaGreatDoor
