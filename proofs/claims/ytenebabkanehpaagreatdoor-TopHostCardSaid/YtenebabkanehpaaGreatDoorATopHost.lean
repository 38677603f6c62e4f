/- The table with these contracts. No condition. -/
import Derived.Test.YtenebabkanehpaaGreatDoorRTopHostx8
import Derived.Test.YtenebabkanehpaaGreatDoorABw
namespace Go.Proofs.YtenebabkanehpaaGreatDoor
open Go Go.Sx Go.Gx
theorem cTopHost8_holds : cTopHost8.holds tBw7 20000 200 22 = true := by
  have h := hTopHost8
  simp only [Bool.and_eq_true] at h
  exact h.1
theorem cTopHost9_holds : cTopHost9.holds tTopHost8 20000 200 24 = true := by
  have h := hTopHost8
  simp only [Bool.and_eq_true] at h
  exact h.2.1
theorem cTopHost10_holds : cTopHost10.holds tTopHost9 20000 200 160 = true := by
  have h := hTopHost8
  simp only [Bool.and_eq_true] at h
  exact h.2.2.1
theorem cTopHost11_holds : cTopHost11.holds tTopHost10 20000 200 161 = true := by
  have h := hTopHost8
  simp only [Bool.and_eq_true] at h
  exact h.2.2.2.1
theorem cTopHost12_holds : cTopHost12.holds tTopHost11 20000 200 24 = true := by
  have h := hTopHost8
  simp only [Bool.and_eq_true] at h
  exact h.2.2.2.2.1
theorem cTopHost13_holds : cTopHost13.holds tTopHost12 20000 200 24 = true := by
  have h := hTopHost8
  simp only [Bool.and_eq_true] at h
  exact h.2.2.2.2.2.1
theorem cTopHost14_holds : cTopHost14.holds tTopHost13 20000 200 24 = true := by
  have h := hTopHost8
  simp only [Bool.and_eq_true] at h
  exact h.2.2.2.2.2.2.1
theorem tTopHost8_ok : TabOk Tryz.prog tTopHost8 := TabOk.con tBw7_ok tBw7_ok cTopHost8_holds
theorem tTopHost9_ok : TabOk Tryz.prog tTopHost9 := TabOk.con tTopHost8_ok tTopHost8_ok cTopHost9_holds
theorem tTopHost10_ok : TabOk Tryz.prog tTopHost10 := TabOk.con tTopHost9_ok tTopHost9_ok cTopHost10_holds
theorem tTopHost11_ok : TabOk Tryz.prog tTopHost11 := TabOk.con tTopHost10_ok tTopHost10_ok cTopHost11_holds
theorem tTopHost12_ok : TabOk Tryz.prog tTopHost12 := TabOk.con tTopHost11_ok tTopHost11_ok cTopHost12_holds
theorem tTopHost13_ok : TabOk Tryz.prog tTopHost13 := TabOk.con tTopHost12_ok tTopHost12_ok cTopHost13_holds
theorem tTopHost14_ok : TabOk Tryz.prog tTopHost14 := TabOk.con tTopHost13_ok tTopHost13_ok cTopHost14_holds
end Go.Proofs.YtenebabkanehpaaGreatDoor
