/- The table with these contracts. No condition. -/
import Derived.Test.YtenebabkanehpaaGreatDoorRTopStartx9
import Derived.Test.YtenebabkanehpaaGreatDoorRTopStartx10
import Derived.Test.YtenebabkanehpaaGreatDoorRTopStartx11
import Derived.Test.YtenebabkanehpaaGreatDoorRTopStartx12
import Derived.Test.YtenebabkanehpaaGreatDoorRTopStartx18
import Derived.Test.YtenebabkanehpaaGreatDoorRTopStartx19
import Derived.Test.YtenebabkanehpaaGreatDoorRTopStartx20
import Derived.Test.YtenebabkanehpaaGreatDoorRTopStartx21
import Derived.Test.YtenebabkanehpaaGreatDoorRTopStartx22
import Derived.Test.YtenebabkanehpaaGreatDoorRTopStartx28
import Derived.Test.YtenebabkanehpaaGreatDoorACw
namespace Go.Proofs.YtenebabkanehpaaGreatDoor
open Go Go.Sx Go.Gx
theorem cTopStart9_holds : cTopStart9.holds tCw8 20000 200 28 = true := by
  have h := hTopStart9
  simp only [Bool.and_eq_true] at h
  exact h.1
theorem cTopStart10_holds : cTopStart10.holds tTopStart9 20000 200 22 = true := by
  have h := hTopStart10
  simp only [Bool.and_eq_true] at h
  exact h.1
theorem cTopStart11_holds : cTopStart11.holds tTopStart10 20000 200 24 = true := by
  have h := hTopStart11
  simp only [Bool.and_eq_true] at h
  exact h.1
theorem cTopStart12_holds : cTopStart12.holds tTopStart11 20000 200 160 = true := by
  have h := hTopStart12
  simp only [Bool.and_eq_true] at h
  exact h.1
theorem cTopStart13_holds : cTopStart13.holds tTopStart12 20000 200 161 = true := by
  have h := hTopStart12
  simp only [Bool.and_eq_true] at h
  exact h.2.1
theorem cTopStart14_holds : cTopStart14.holds tTopStart13 20000 200 161 = true := by
  have h := hTopStart12
  simp only [Bool.and_eq_true] at h
  exact h.2.2.1
theorem cTopStart15_holds : cTopStart15.holds tTopStart14 20000 200 161 = true := by
  have h := hTopStart12
  simp only [Bool.and_eq_true] at h
  exact h.2.2.2.1
theorem cTopStart16_holds : cTopStart16.holds tTopStart15 20000 200 161 = true := by
  have h := hTopStart12
  simp only [Bool.and_eq_true] at h
  exact h.2.2.2.2.1
theorem cTopStart17_holds : cTopStart17.holds tTopStart16 20000 200 161 = true := by
  have h := hTopStart12
  simp only [Bool.and_eq_true] at h
  exact h.2.2.2.2.2.1
theorem cTopStart18_holds : cTopStart18.holds tTopStart17 20000 200 24 = true := by
  have h := hTopStart18
  simp only [Bool.and_eq_true] at h
  exact h.1
theorem cTopStart19_holds : cTopStart19.holds tTopStart18 20000 200 28 = true := by
  have h := hTopStart19
  simp only [Bool.and_eq_true] at h
  exact h.1
theorem cTopStart20_holds : cTopStart20.holds tTopStart19 20000 200 22 = true := by
  have h := hTopStart20
  simp only [Bool.and_eq_true] at h
  exact h.1
theorem cTopStart21_holds : cTopStart21.holds tTopStart20 20000 200 24 = true := by
  have h := hTopStart21
  simp only [Bool.and_eq_true] at h
  exact h.1
theorem cTopStart22_holds : cTopStart22.holds tTopStart21 20000 200 160 = true := by
  have h := hTopStart22
  simp only [Bool.and_eq_true] at h
  exact h.1
theorem cTopStart23_holds : cTopStart23.holds tTopStart22 20000 200 161 = true := by
  have h := hTopStart22
  simp only [Bool.and_eq_true] at h
  exact h.2.1
theorem cTopStart24_holds : cTopStart24.holds tTopStart23 20000 200 161 = true := by
  have h := hTopStart22
  simp only [Bool.and_eq_true] at h
  exact h.2.2.1
theorem cTopStart25_holds : cTopStart25.holds tTopStart24 20000 200 161 = true := by
  have h := hTopStart22
  simp only [Bool.and_eq_true] at h
  exact h.2.2.2.1
theorem cTopStart26_holds : cTopStart26.holds tTopStart25 20000 200 161 = true := by
  have h := hTopStart22
  simp only [Bool.and_eq_true] at h
  exact h.2.2.2.2.1
theorem cTopStart27_holds : cTopStart27.holds tTopStart26 20000 200 161 = true := by
  have h := hTopStart22
  simp only [Bool.and_eq_true] at h
  exact h.2.2.2.2.2.1
theorem cTopStart28_holds : cTopStart28.holds tTopStart27 20000 200 24 = true := by
  have h := hTopStart28
  simp only [Bool.and_eq_true] at h
  exact h.1
theorem tTopStart9_ok : TabOk Tryz.prog tTopStart9 := TabOk.con tCw8_ok tCw8_ok cTopStart9_holds
theorem tTopStart10_ok : TabOk Tryz.prog tTopStart10 := TabOk.con tTopStart9_ok tTopStart9_ok cTopStart10_holds
theorem tTopStart11_ok : TabOk Tryz.prog tTopStart11 := TabOk.con tTopStart10_ok tTopStart10_ok cTopStart11_holds
theorem tTopStart12_ok : TabOk Tryz.prog tTopStart12 := TabOk.con tTopStart11_ok tTopStart11_ok cTopStart12_holds
theorem tTopStart13_ok : TabOk Tryz.prog tTopStart13 := TabOk.con tTopStart12_ok tTopStart12_ok cTopStart13_holds
theorem tTopStart14_ok : TabOk Tryz.prog tTopStart14 := TabOk.con tTopStart13_ok tTopStart13_ok cTopStart14_holds
theorem tTopStart15_ok : TabOk Tryz.prog tTopStart15 := TabOk.con tTopStart14_ok tTopStart14_ok cTopStart15_holds
theorem tTopStart16_ok : TabOk Tryz.prog tTopStart16 := TabOk.con tTopStart15_ok tTopStart15_ok cTopStart16_holds
theorem tTopStart17_ok : TabOk Tryz.prog tTopStart17 := TabOk.con tTopStart16_ok tTopStart16_ok cTopStart17_holds
theorem tTopStart18_ok : TabOk Tryz.prog tTopStart18 := TabOk.con tTopStart17_ok tTopStart17_ok cTopStart18_holds
theorem tTopStart19_ok : TabOk Tryz.prog tTopStart19 := TabOk.con tTopStart18_ok tTopStart18_ok cTopStart19_holds
theorem tTopStart20_ok : TabOk Tryz.prog tTopStart20 := TabOk.con tTopStart19_ok tTopStart19_ok cTopStart20_holds
theorem tTopStart21_ok : TabOk Tryz.prog tTopStart21 := TabOk.con tTopStart20_ok tTopStart20_ok cTopStart21_holds
theorem tTopStart22_ok : TabOk Tryz.prog tTopStart22 := TabOk.con tTopStart21_ok tTopStart21_ok cTopStart22_holds
theorem tTopStart23_ok : TabOk Tryz.prog tTopStart23 := TabOk.con tTopStart22_ok tTopStart22_ok cTopStart23_holds
theorem tTopStart24_ok : TabOk Tryz.prog tTopStart24 := TabOk.con tTopStart23_ok tTopStart23_ok cTopStart24_holds
theorem tTopStart25_ok : TabOk Tryz.prog tTopStart25 := TabOk.con tTopStart24_ok tTopStart24_ok cTopStart25_holds
theorem tTopStart26_ok : TabOk Tryz.prog tTopStart26 := TabOk.con tTopStart25_ok tTopStart25_ok cTopStart26_holds
theorem tTopStart27_ok : TabOk Tryz.prog tTopStart27 := TabOk.con tTopStart26_ok tTopStart26_ok cTopStart27_holds
theorem tTopStart28_ok : TabOk Tryz.prog tTopStart28 := TabOk.con tTopStart27_ok tTopStart27_ok cTopStart28_holds
end Go.Proofs.YtenebabkanehpaaGreatDoor
