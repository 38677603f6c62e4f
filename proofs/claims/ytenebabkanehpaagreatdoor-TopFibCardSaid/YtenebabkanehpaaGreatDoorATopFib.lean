/- The table with these contracts. No condition. -/
import Derived.Test.YtenebabkanehpaaGreatDoorRTopFibx9
import Derived.Test.YtenebabkanehpaaGreatDoorRTopFibx16
import Derived.Test.YtenebabkanehpaaGreatDoorRTopFibx24
import Derived.Test.YtenebabkanehpaaGreatDoorRTopFibx27
import Derived.Test.YtenebabkanehpaaGreatDoorRTopFibx28
import Derived.Test.YtenebabkanehpaaGreatDoorRTopFibx29
import Derived.Test.YtenebabkanehpaaGreatDoorRTopFibx30
import Derived.Test.YtenebabkanehpaaGreatDoorRTopFibx31
import Derived.Test.YtenebabkanehpaaGreatDoorRTopFibx32
import Derived.Test.YtenebabkanehpaaGreatDoorACw
namespace Go.Proofs.YtenebabkanehpaaGreatDoor
open Go Go.Sx Go.Gx
theorem cTopFib9_holds : cTopFib9.holds tCw8 20000 200 28 = true := by
  have h := hTopFib9
  simp only [Bool.and_eq_true] at h
  exact h.1
theorem cTopFib10_holds : cTopFib10.holds tTopFib9 20000 200 22 = true := by
  have h := hTopFib9
  simp only [Bool.and_eq_true] at h
  exact h.2.1
theorem cTopFib11_holds : cTopFib11.holds tTopFib10 20000 200 276 = true := by
  have h := hTopFib9
  simp only [Bool.and_eq_true] at h
  exact h.2.2.1
theorem cTopFib12_holds : cTopFib12.holds tTopFib11 20000 200 282 = true := by
  have h := hTopFib9
  simp only [Bool.and_eq_true] at h
  exact h.2.2.2.1
theorem cTopFib13_holds : cTopFib13.holds tTopFib12 20000 200 24 = true := by
  have h := hTopFib9
  simp only [Bool.and_eq_true] at h
  exact h.2.2.2.2.1
theorem cTopFib14_holds : cTopFib14.holds tTopFib13 20000 200 276 = true := by
  have h := hTopFib9
  simp only [Bool.and_eq_true] at h
  exact h.2.2.2.2.2.1
theorem cTopFib15_holds : cTopFib15.holds tTopFib14 20000 200 160 = true := by
  have h := hTopFib9
  simp only [Bool.and_eq_true] at h
  exact h.2.2.2.2.2.2.1
theorem cTopFib16_holds : cTopFib16.holds tTopFib15 20000 200 161 = true := by
  have h := hTopFib16
  simp only [Bool.and_eq_true] at h
  exact h.1
theorem cTopFib17_holds : cTopFib17.holds tTopFib16 20000 200 24 = true := by
  have h := hTopFib16
  simp only [Bool.and_eq_true] at h
  exact h.2.1
theorem cTopFib18_holds : cTopFib18.holds tTopFib17 20000 200 24 = true := by
  have h := hTopFib16
  simp only [Bool.and_eq_true] at h
  exact h.2.2.1
theorem cTopFib19_holds : cTopFib19.holds tTopFib18 20000 200 24 = true := by
  have h := hTopFib16
  simp only [Bool.and_eq_true] at h
  exact h.2.2.2.1
theorem cTopFib20_holds : cTopFib20.holds tTopFib19 20000 200 282 = true := by
  have h := hTopFib16
  simp only [Bool.and_eq_true] at h
  exact h.2.2.2.2.1
theorem cTopFib21_holds : cTopFib21.holds tTopFib20 20000 200 24 = true := by
  have h := hTopFib16
  simp only [Bool.and_eq_true] at h
  exact h.2.2.2.2.2.1
theorem cTopFib22_holds : cTopFib22.holds tTopFib21 20000 200 24 = true := by
  have h := hTopFib16
  simp only [Bool.and_eq_true] at h
  exact h.2.2.2.2.2.2.1
theorem cTopFib23_holds : cTopFib23.holds tTopFib22 20000 200 24 = true := by
  have h := hTopFib16
  simp only [Bool.and_eq_true] at h
  exact h.2.2.2.2.2.2.2.1
theorem cTopFib24_holds : cTopFib24.holds tTopFib23 20000 200 24 = true := by
  have h := hTopFib24
  simp only [Bool.and_eq_true] at h
  exact h.1
theorem cTopFib25_holds : cTopFib25.holds tTopFib24 20000 200 24 = true := by
  have h := hTopFib24
  simp only [Bool.and_eq_true] at h
  exact h.2.1
theorem cTopFib26_holds : cTopFib26.holds tTopFib25 20000 200 24 = true := by
  have h := hTopFib24
  simp only [Bool.and_eq_true] at h
  exact h.2.2.1
theorem cTopFib27_holds : cTopFib27.holds tTopFib26 20000 200 24 = true := by
  have h := hTopFib27
  simp only [Bool.and_eq_true] at h
  exact h.1
theorem cTopFib28_holds : cTopFib28.holds tTopFib27 20000 200 24 = true := by
  have h := hTopFib28
  simp only [Bool.and_eq_true] at h
  exact h.1
theorem cTopFib29_holds : cTopFib29.holds tTopFib28 20000 200 24 = true := by
  have h := hTopFib29
  simp only [Bool.and_eq_true] at h
  exact h.1
theorem cTopFib30_holds : cTopFib30.holds tTopFib29 20000 200 24 = true := by
  have h := hTopFib30
  simp only [Bool.and_eq_true] at h
  exact h.1
theorem cTopFib31_holds : cTopFib31.holds tTopFib30 20000 200 24 = true := by
  have h := hTopFib31
  simp only [Bool.and_eq_true] at h
  exact h.1
theorem cTopFib32_holds : cTopFib32.holds tTopFib31 20000 200 24 = true := by
  have h := hTopFib32
  simp only [Bool.and_eq_true] at h
  exact h.1
theorem tTopFib9_ok : TabOk Tryz.prog tTopFib9 := TabOk.con tCw8_ok tCw8_ok cTopFib9_holds
theorem tTopFib10_ok : TabOk Tryz.prog tTopFib10 := TabOk.con tTopFib9_ok tTopFib9_ok cTopFib10_holds
theorem tTopFib11_ok : TabOk Tryz.prog tTopFib11 := TabOk.con tTopFib10_ok tTopFib10_ok cTopFib11_holds
theorem tTopFib12_ok : TabOk Tryz.prog tTopFib12 := TabOk.con tTopFib11_ok tTopFib11_ok cTopFib12_holds
theorem tTopFib13_ok : TabOk Tryz.prog tTopFib13 := TabOk.con tTopFib12_ok tTopFib12_ok cTopFib13_holds
theorem tTopFib14_ok : TabOk Tryz.prog tTopFib14 := TabOk.con tTopFib13_ok tTopFib13_ok cTopFib14_holds
theorem tTopFib15_ok : TabOk Tryz.prog tTopFib15 := TabOk.con tTopFib14_ok tTopFib14_ok cTopFib15_holds
theorem tTopFib16_ok : TabOk Tryz.prog tTopFib16 := TabOk.con tTopFib15_ok tTopFib15_ok cTopFib16_holds
theorem tTopFib17_ok : TabOk Tryz.prog tTopFib17 := TabOk.con tTopFib16_ok tTopFib16_ok cTopFib17_holds
theorem tTopFib18_ok : TabOk Tryz.prog tTopFib18 := TabOk.con tTopFib17_ok tTopFib17_ok cTopFib18_holds
theorem tTopFib19_ok : TabOk Tryz.prog tTopFib19 := TabOk.con tTopFib18_ok tTopFib18_ok cTopFib19_holds
theorem tTopFib20_ok : TabOk Tryz.prog tTopFib20 := TabOk.con tTopFib19_ok tTopFib19_ok cTopFib20_holds
theorem tTopFib21_ok : TabOk Tryz.prog tTopFib21 := TabOk.con tTopFib20_ok tTopFib20_ok cTopFib21_holds
theorem tTopFib22_ok : TabOk Tryz.prog tTopFib22 := TabOk.con tTopFib21_ok tTopFib21_ok cTopFib22_holds
theorem tTopFib23_ok : TabOk Tryz.prog tTopFib23 := TabOk.con tTopFib22_ok tTopFib22_ok cTopFib23_holds
theorem tTopFib24_ok : TabOk Tryz.prog tTopFib24 := TabOk.con tTopFib23_ok tTopFib23_ok cTopFib24_holds
theorem tTopFib25_ok : TabOk Tryz.prog tTopFib25 := TabOk.con tTopFib24_ok tTopFib24_ok cTopFib25_holds
theorem tTopFib26_ok : TabOk Tryz.prog tTopFib26 := TabOk.con tTopFib25_ok tTopFib25_ok cTopFib26_holds
theorem tTopFib27_ok : TabOk Tryz.prog tTopFib27 := TabOk.con tTopFib26_ok tTopFib26_ok cTopFib27_holds
theorem tTopFib28_ok : TabOk Tryz.prog tTopFib28 := TabOk.con tTopFib27_ok tTopFib27_ok cTopFib28_holds
theorem tTopFib29_ok : TabOk Tryz.prog tTopFib29 := TabOk.con tTopFib28_ok tTopFib28_ok cTopFib29_holds
theorem tTopFib30_ok : TabOk Tryz.prog tTopFib30 := TabOk.con tTopFib29_ok tTopFib29_ok cTopFib30_holds
theorem tTopFib31_ok : TabOk Tryz.prog tTopFib31 := TabOk.con tTopFib30_ok tTopFib30_ok cTopFib31_holds
theorem tTopFib32_ok : TabOk Tryz.prog tTopFib32 := TabOk.con tTopFib31_ok tTopFib31_ok cTopFib32_holds
end Go.Proofs.YtenebabkanehpaaGreatDoor
