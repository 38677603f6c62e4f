/- The table with these contracts. No condition. -/
import Derived.Test.YtenebabkanehpaaGreatDoorRBwx0
namespace Go.Proofs.YtenebabkanehpaaGreatDoor
open Go Go.Sx Go.Gx
theorem cBw0_holds : cBw0.holds tb0 20000 200 22 = true := by
  have h := hBw0
  simp only [Bool.and_eq_true] at h
  exact h.1
theorem cBw1_holds : cBw1.holds tBw0 20000 200 276 = true := by
  have h := hBw0
  simp only [Bool.and_eq_true] at h
  exact h.2.1
theorem cBw2_holds : cBw2.holds tBw1 20000 200 282 = true := by
  have h := hBw0
  simp only [Bool.and_eq_true] at h
  exact h.2.2.1
theorem cBw3_holds : cBw3.holds tBw2 20000 200 24 = true := by
  have h := hBw0
  simp only [Bool.and_eq_true] at h
  exact h.2.2.2.1
theorem cBw4_holds : cBw4.holds tBw3 20000 200 160 = true := by
  have h := hBw0
  simp only [Bool.and_eq_true] at h
  exact h.2.2.2.2.1
theorem cBw5_holds : cBw5.holds tBw4 20000 200 161 = true := by
  have h := hBw0
  simp only [Bool.and_eq_true] at h
  exact h.2.2.2.2.2.1
theorem cBw6_holds : cBw6.holds tBw5 20000 200 24 = true := by
  have h := hBw0
  simp only [Bool.and_eq_true] at h
  exact h.2.2.2.2.2.2.1
theorem cBw7_holds : cBw7.holds tBw6 20000 200 10 = true := by
  have h := hBw0
  simp only [Bool.and_eq_true] at h
  exact h.2.2.2.2.2.2.2.1
theorem tBw0_ok : TabOk Tryz.prog tBw0 := TabOk.con tb0_ok tb0_ok cBw0_holds
theorem tBw1_ok : TabOk Tryz.prog tBw1 := TabOk.con tBw0_ok tBw0_ok cBw1_holds
theorem tBw2_ok : TabOk Tryz.prog tBw2 := TabOk.con tBw1_ok tBw1_ok cBw2_holds
theorem tBw3_ok : TabOk Tryz.prog tBw3 := TabOk.con tBw2_ok tBw2_ok cBw3_holds
theorem tBw4_ok : TabOk Tryz.prog tBw4 := TabOk.con tBw3_ok tBw3_ok cBw4_holds
theorem tBw5_ok : TabOk Tryz.prog tBw5 := TabOk.con tBw4_ok tBw4_ok cBw5_holds
theorem tBw6_ok : TabOk Tryz.prog tBw6 := TabOk.con tBw5_ok tBw5_ok cBw6_holds
theorem tBw7_ok : TabOk Tryz.prog tBw7 := TabOk.con tBw6_ok tBw6_ok cBw7_holds
end Go.Proofs.YtenebabkanehpaaGreatDoor
