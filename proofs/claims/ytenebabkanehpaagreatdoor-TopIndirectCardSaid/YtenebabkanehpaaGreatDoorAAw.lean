/- The table with these contracts. No condition. -/
import Derived.Test.YtenebabkanehpaaGreatDoorRAwx0
namespace Go.Proofs.YtenebabkanehpaaGreatDoor
open Go Go.Sx Go.Gx
theorem cAw0_holds : cAw0.holds tb0 20000 200 22 = true := by
  have h := hAw0
  simp only [Bool.and_eq_true] at h
  exact h.1
theorem cAw1_holds : cAw1.holds tAw0 20000 200 24 = true := by
  have h := hAw0
  simp only [Bool.and_eq_true] at h
  exact h.2.1
theorem cAw2_holds : cAw2.holds tAw1 20000 200 22 = true := by
  have h := hAw0
  simp only [Bool.and_eq_true] at h
  exact h.2.2.1
theorem cAw3_holds : cAw3.holds tAw2 20000 200 24 = true := by
  have h := hAw0
  simp only [Bool.and_eq_true] at h
  exact h.2.2.2.1
theorem cAw4_holds : cAw4.holds tAw3 20000 200 10 = true := by
  have h := hAw0
  simp only [Bool.and_eq_true] at h
  exact h.2.2.2.2.1
theorem tAw0_ok : TabOk Tryz.prog tAw0 := TabOk.con tb0_ok tb0_ok cAw0_holds
theorem tAw1_ok : TabOk Tryz.prog tAw1 := TabOk.con tAw0_ok tAw0_ok cAw1_holds
theorem tAw2_ok : TabOk Tryz.prog tAw2 := TabOk.con tAw1_ok tAw1_ok cAw2_holds
theorem tAw3_ok : TabOk Tryz.prog tAw3 := TabOk.con tAw2_ok tAw2_ok cAw3_holds
theorem tAw4_ok : TabOk Tryz.prog tAw4 := TabOk.con tAw3_ok tAw3_ok cAw4_holds
end Go.Proofs.YtenebabkanehpaaGreatDoor
