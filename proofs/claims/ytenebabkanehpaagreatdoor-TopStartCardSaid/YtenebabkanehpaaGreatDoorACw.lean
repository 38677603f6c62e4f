/- The table with these contracts. No condition. -/
import Derived.Test.YtenebabkanehpaaGreatDoorRCwx0
namespace Go.Proofs.YtenebabkanehpaaGreatDoor
open Go Go.Sx Go.Gx
theorem cCw0_holds : cCw0.holds tb0 20000 200 28 = true := by
  have h := hCw0
  simp only [Bool.and_eq_true] at h
  exact h.1
theorem cCw1_holds : cCw1.holds tCw0 20000 200 22 = true := by
  have h := hCw0
  simp only [Bool.and_eq_true] at h
  exact h.2.1
theorem cCw2_holds : cCw2.holds tCw1 20000 200 276 = true := by
  have h := hCw0
  simp only [Bool.and_eq_true] at h
  exact h.2.2.1
theorem cCw3_holds : cCw3.holds tCw2 20000 200 282 = true := by
  have h := hCw0
  simp only [Bool.and_eq_true] at h
  exact h.2.2.2.1
theorem cCw4_holds : cCw4.holds tCw3 20000 200 24 = true := by
  have h := hCw0
  simp only [Bool.and_eq_true] at h
  exact h.2.2.2.2.1
theorem cCw5_holds : cCw5.holds tCw4 20000 200 160 = true := by
  have h := hCw0
  simp only [Bool.and_eq_true] at h
  exact h.2.2.2.2.2.1
theorem cCw6_holds : cCw6.holds tCw5 20000 200 161 = true := by
  have h := hCw0
  simp only [Bool.and_eq_true] at h
  exact h.2.2.2.2.2.2.1
theorem cCw7_holds : cCw7.holds tCw6 20000 200 24 = true := by
  have h := hCw0
  simp only [Bool.and_eq_true] at h
  exact h.2.2.2.2.2.2.2.1
theorem cCw8_holds : cCw8.holds tCw7 20000 200 10 = true := by
  have h := hCw0
  simp only [Bool.and_eq_true] at h
  exact h.2.2.2.2.2.2.2.2.1
theorem tCw0_ok : TabOk Tryz.prog tCw0 := TabOk.con tb0_ok tb0_ok cCw0_holds
theorem tCw1_ok : TabOk Tryz.prog tCw1 := TabOk.con tCw0_ok tCw0_ok cCw1_holds
theorem tCw2_ok : TabOk Tryz.prog tCw2 := TabOk.con tCw1_ok tCw1_ok cCw2_holds
theorem tCw3_ok : TabOk Tryz.prog tCw3 := TabOk.con tCw2_ok tCw2_ok cCw3_holds
theorem tCw4_ok : TabOk Tryz.prog tCw4 := TabOk.con tCw3_ok tCw3_ok cCw4_holds
theorem tCw5_ok : TabOk Tryz.prog tCw5 := TabOk.con tCw4_ok tCw4_ok cCw5_holds
theorem tCw6_ok : TabOk Tryz.prog tCw6 := TabOk.con tCw5_ok tCw5_ok cCw6_holds
theorem tCw7_ok : TabOk Tryz.prog tCw7 := TabOk.con tCw6_ok tCw6_ok cCw7_holds
theorem tCw8_ok : TabOk Tryz.prog tCw8 := TabOk.con tCw7_ok tCw7_ok cCw8_holds
end Go.Proofs.YtenebabkanehpaaGreatDoor
