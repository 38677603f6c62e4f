/- The table with these contracts. No condition. -/
import Derived.Test.YtenebabkanehpaaGreatDoorRTableAx9
import Derived.Test.YtenebabkanehpaaGreatDoorRTableAx20
import Derived.Test.YtenebabkanehpaaGreatDoorRTableAx27
import Derived.Test.YtenebabkanehpaaGreatDoorACw
namespace Go.Proofs.YtenebabkanehpaaGreatDoor
open Go Go.Sx Go.Gx
theorem cTableA9_holds : cTableA9.holds tCw8 20000 200 28 = true := by
  have h := hTableA9
  simp only [Bool.and_eq_true] at h
  exact h.1
theorem cTableA10_holds : cTableA10.holds tTableA9 20000 200 22 = true := by
  have h := hTableA9
  simp only [Bool.and_eq_true] at h
  exact h.2.1
theorem cTableA11_holds : cTableA11.holds tTableA10 20000 200 24 = true := by
  have h := hTableA9
  simp only [Bool.and_eq_true] at h
  exact h.2.2.1
theorem cTableA12_holds : cTableA12.holds tTableA11 20000 200 160 = true := by
  have h := hTableA9
  simp only [Bool.and_eq_true] at h
  exact h.2.2.2.1
theorem cTableA13_holds : cTableA13.holds tTableA12 20000 200 161 = true := by
  have h := hTableA9
  simp only [Bool.and_eq_true] at h
  exact h.2.2.2.2.1
theorem cTableA14_holds : cTableA14.holds tTableA13 20000 200 24 = true := by
  have h := hTableA9
  simp only [Bool.and_eq_true] at h
  exact h.2.2.2.2.2.1
theorem cTableA15_holds : cTableA15.holds tTableA14 20000 200 28 = true := by
  have h := hTableA9
  simp only [Bool.and_eq_true] at h
  exact h.2.2.2.2.2.2.1
theorem cTableA16_holds : cTableA16.holds tTableA15 20000 200 22 = true := by
  have h := hTableA9
  simp only [Bool.and_eq_true] at h
  exact h.2.2.2.2.2.2.2.1
theorem cTableA17_holds : cTableA17.holds tTableA16 20000 200 24 = true := by
  have h := hTableA9
  simp only [Bool.and_eq_true] at h
  exact h.2.2.2.2.2.2.2.2.1
theorem cTableA18_holds : cTableA18.holds tTableA17 20000 200 160 = true := by
  have h := hTableA9
  simp only [Bool.and_eq_true] at h
  exact h.2.2.2.2.2.2.2.2.2.1
theorem cTableA19_holds : cTableA19.holds tTableA18 20000 200 161 = true := by
  have h := hTableA9
  simp only [Bool.and_eq_true] at h
  exact h.2.2.2.2.2.2.2.2.2.2.1
theorem cTableA20_holds : cTableA20.holds tTableA19 20000 200 24 = true := by
  have h := hTableA20
  simp only [Bool.and_eq_true] at h
  exact h.1
theorem cTableA21_holds : cTableA21.holds tTableA20 20000 200 28 = true := by
  have h := hTableA20
  simp only [Bool.and_eq_true] at h
  exact h.2.1
theorem cTableA22_holds : cTableA22.holds tTableA21 20000 200 22 = true := by
  have h := hTableA20
  simp only [Bool.and_eq_true] at h
  exact h.2.2.1
theorem cTableA23_holds : cTableA23.holds tTableA22 20000 200 24 = true := by
  have h := hTableA20
  simp only [Bool.and_eq_true] at h
  exact h.2.2.2.1
theorem cTableA24_holds : cTableA24.holds tTableA23 20000 200 160 = true := by
  have h := hTableA20
  simp only [Bool.and_eq_true] at h
  exact h.2.2.2.2.1
theorem cTableA25_holds : cTableA25.holds tTableA24 20000 200 161 = true := by
  have h := hTableA20
  simp only [Bool.and_eq_true] at h
  exact h.2.2.2.2.2.1
theorem cTableA26_holds : cTableA26.holds tTableA25 20000 200 24 = true := by
  have h := hTableA20
  simp only [Bool.and_eq_true] at h
  exact h.2.2.2.2.2.2.1
theorem cTableA27_holds : cTableA27.holds tTableA26 20000 200 28 = true := by
  have h := hTableA27
  simp only [Bool.and_eq_true] at h
  exact h.1
theorem cTableA28_holds : cTableA28.holds tTableA27 20000 200 22 = true := by
  have h := hTableA27
  simp only [Bool.and_eq_true] at h
  exact h.2.1
theorem cTableA29_holds : cTableA29.holds tTableA28 20000 200 24 = true := by
  have h := hTableA27
  simp only [Bool.and_eq_true] at h
  exact h.2.2.1
theorem cTableA30_holds : cTableA30.holds tTableA29 20000 200 160 = true := by
  have h := hTableA27
  simp only [Bool.and_eq_true] at h
  exact h.2.2.2.1
theorem cTableA31_holds : cTableA31.holds tTableA30 20000 200 161 = true := by
  have h := hTableA27
  simp only [Bool.and_eq_true] at h
  exact h.2.2.2.2.1
theorem cTableA32_holds : cTableA32.holds tTableA31 20000 200 24 = true := by
  have h := hTableA27
  simp only [Bool.and_eq_true] at h
  exact h.2.2.2.2.2.1
theorem tTableA9_ok : TabOk Tryz.prog tTableA9 := TabOk.con tCw8_ok tCw8_ok cTableA9_holds
theorem tTableA10_ok : TabOk Tryz.prog tTableA10 := TabOk.con tTableA9_ok tTableA9_ok cTableA10_holds
theorem tTableA11_ok : TabOk Tryz.prog tTableA11 := TabOk.con tTableA10_ok tTableA10_ok cTableA11_holds
theorem tTableA12_ok : TabOk Tryz.prog tTableA12 := TabOk.con tTableA11_ok tTableA11_ok cTableA12_holds
theorem tTableA13_ok : TabOk Tryz.prog tTableA13 := TabOk.con tTableA12_ok tTableA12_ok cTableA13_holds
theorem tTableA14_ok : TabOk Tryz.prog tTableA14 := TabOk.con tTableA13_ok tTableA13_ok cTableA14_holds
theorem tTableA15_ok : TabOk Tryz.prog tTableA15 := TabOk.con tTableA14_ok tTableA14_ok cTableA15_holds
theorem tTableA16_ok : TabOk Tryz.prog tTableA16 := TabOk.con tTableA15_ok tTableA15_ok cTableA16_holds
theorem tTableA17_ok : TabOk Tryz.prog tTableA17 := TabOk.con tTableA16_ok tTableA16_ok cTableA17_holds
theorem tTableA18_ok : TabOk Tryz.prog tTableA18 := TabOk.con tTableA17_ok tTableA17_ok cTableA18_holds
theorem tTableA19_ok : TabOk Tryz.prog tTableA19 := TabOk.con tTableA18_ok tTableA18_ok cTableA19_holds
theorem tTableA20_ok : TabOk Tryz.prog tTableA20 := TabOk.con tTableA19_ok tTableA19_ok cTableA20_holds
theorem tTableA21_ok : TabOk Tryz.prog tTableA21 := TabOk.con tTableA20_ok tTableA20_ok cTableA21_holds
theorem tTableA22_ok : TabOk Tryz.prog tTableA22 := TabOk.con tTableA21_ok tTableA21_ok cTableA22_holds
theorem tTableA23_ok : TabOk Tryz.prog tTableA23 := TabOk.con tTableA22_ok tTableA22_ok cTableA23_holds
theorem tTableA24_ok : TabOk Tryz.prog tTableA24 := TabOk.con tTableA23_ok tTableA23_ok cTableA24_holds
theorem tTableA25_ok : TabOk Tryz.prog tTableA25 := TabOk.con tTableA24_ok tTableA24_ok cTableA25_holds
theorem tTableA26_ok : TabOk Tryz.prog tTableA26 := TabOk.con tTableA25_ok tTableA25_ok cTableA26_holds
theorem tTableA27_ok : TabOk Tryz.prog tTableA27 := TabOk.con tTableA26_ok tTableA26_ok cTableA27_holds
theorem tTableA28_ok : TabOk Tryz.prog tTableA28 := TabOk.con tTableA27_ok tTableA27_ok cTableA28_holds
theorem tTableA29_ok : TabOk Tryz.prog tTableA29 := TabOk.con tTableA28_ok tTableA28_ok cTableA29_holds
theorem tTableA30_ok : TabOk Tryz.prog tTableA30 := TabOk.con tTableA29_ok tTableA29_ok cTableA30_holds
theorem tTableA31_ok : TabOk Tryz.prog tTableA31 := TabOk.con tTableA30_ok tTableA30_ok cTableA31_holds
theorem tTableA32_ok : TabOk Tryz.prog tTableA32 := TabOk.con tTableA31_ok tTableA31_ok cTableA32_holds
end Go.Proofs.YtenebabkanehpaaGreatDoor
