/- The table with these contracts. No condition. -/
import Derived.Test.YtenebabkanehpaaGreatDoorRTopTablex33
import Derived.Test.YtenebabkanehpaaGreatDoorRTopTablex38
import Derived.Test.YtenebabkanehpaaGreatDoorRTopTablex42
import Derived.Test.YtenebabkanehpaaGreatDoorRTopTablex46
import Derived.Test.YtenebabkanehpaaGreatDoorRTopTablex50
import Derived.Test.YtenebabkanehpaaGreatDoorRTopTablex53
import Derived.Test.YtenebabkanehpaaGreatDoorATableA
namespace Go.Proofs.YtenebabkanehpaaGreatDoor
open Go Go.Sx Go.Gx
theorem cTopTable33_holds : cTopTable33.holds tTableA32 20000 200 28 = true := by
  have h := hTopTable33
  simp only [Bool.and_eq_true] at h
  exact h.1
theorem cTopTable34_holds : cTopTable34.holds tTopTable33 20000 200 22 = true := by
  have h := hTopTable33
  simp only [Bool.and_eq_true] at h
  exact h.2.1
theorem cTopTable35_holds : cTopTable35.holds tTopTable34 20000 200 24 = true := by
  have h := hTopTable33
  simp only [Bool.and_eq_true] at h
  exact h.2.2.1
theorem cTopTable36_holds : cTopTable36.holds tTopTable35 20000 200 160 = true := by
  have h := hTopTable33
  simp only [Bool.and_eq_true] at h
  exact h.2.2.2.1
theorem cTopTable37_holds : cTopTable37.holds tTopTable36 20000 200 161 = true := by
  have h := hTopTable33
  simp only [Bool.and_eq_true] at h
  exact h.2.2.2.2.1
theorem cTopTable38_holds : cTopTable38.holds tTopTable37 20000 200 24 = true := by
  have h := hTopTable38
  simp only [Bool.and_eq_true] at h
  exact h.1
theorem cTopTable39_holds : cTopTable39.holds tTopTable38 20000 200 28 = true := by
  have h := hTopTable38
  simp only [Bool.and_eq_true] at h
  exact h.2.1
theorem cTopTable40_holds : cTopTable40.holds tTopTable39 20000 200 22 = true := by
  have h := hTopTable38
  simp only [Bool.and_eq_true] at h
  exact h.2.2.1
theorem cTopTable41_holds : cTopTable41.holds tTopTable40 20000 200 24 = true := by
  have h := hTopTable38
  simp only [Bool.and_eq_true] at h
  exact h.2.2.2.1
theorem cTopTable42_holds : cTopTable42.holds tTopTable41 20000 200 160 = true := by
  have h := hTopTable42
  simp only [Bool.and_eq_true] at h
  exact h.1
theorem cTopTable43_holds : cTopTable43.holds tTopTable42 20000 200 161 = true := by
  have h := hTopTable42
  simp only [Bool.and_eq_true] at h
  exact h.2.1
theorem cTopTable44_holds : cTopTable44.holds tTopTable43 20000 200 24 = true := by
  have h := hTopTable42
  simp only [Bool.and_eq_true] at h
  exact h.2.2.1
theorem cTopTable45_holds : cTopTable45.holds tTopTable44 20000 200 28 = true := by
  have h := hTopTable42
  simp only [Bool.and_eq_true] at h
  exact h.2.2.2.1
theorem cTopTable46_holds : cTopTable46.holds tTopTable45 20000 200 22 = true := by
  have h := hTopTable46
  simp only [Bool.and_eq_true] at h
  exact h.1
theorem cTopTable47_holds : cTopTable47.holds tTopTable46 20000 200 24 = true := by
  have h := hTopTable46
  simp only [Bool.and_eq_true] at h
  exact h.2.1
theorem cTopTable48_holds : cTopTable48.holds tTopTable47 20000 200 160 = true := by
  have h := hTopTable46
  simp only [Bool.and_eq_true] at h
  exact h.2.2.1
theorem cTopTable49_holds : cTopTable49.holds tTopTable48 20000 200 161 = true := by
  have h := hTopTable46
  simp only [Bool.and_eq_true] at h
  exact h.2.2.2.1
theorem cTopTable50_holds : cTopTable50.holds tTopTable49 20000 200 24 = true := by
  have h := hTopTable50
  simp only [Bool.and_eq_true] at h
  exact h.1
theorem cTopTable51_holds : cTopTable51.holds tTopTable50 20000 200 28 = true := by
  have h := hTopTable50
  simp only [Bool.and_eq_true] at h
  exact h.2.1
theorem cTopTable52_holds : cTopTable52.holds tTopTable51 20000 200 22 = true := by
  have h := hTopTable50
  simp only [Bool.and_eq_true] at h
  exact h.2.2.1
theorem cTopTable53_holds : cTopTable53.holds tTopTable52 20000 200 24 = true := by
  have h := hTopTable53
  simp only [Bool.and_eq_true] at h
  exact h.1
theorem cTopTable54_holds : cTopTable54.holds tTopTable53 20000 200 160 = true := by
  have h := hTopTable53
  simp only [Bool.and_eq_true] at h
  exact h.2.1
theorem cTopTable55_holds : cTopTable55.holds tTopTable54 20000 200 161 = true := by
  have h := hTopTable53
  simp only [Bool.and_eq_true] at h
  exact h.2.2.1
theorem cTopTable56_holds : cTopTable56.holds tTopTable55 20000 200 24 = true := by
  have h := hTopTable53
  simp only [Bool.and_eq_true] at h
  exact h.2.2.2.1
theorem tTopTable33_ok : TabOk Tryz.prog tTopTable33 := TabOk.con tTableA32_ok tTableA32_ok cTopTable33_holds
theorem tTopTable34_ok : TabOk Tryz.prog tTopTable34 := TabOk.con tTopTable33_ok tTopTable33_ok cTopTable34_holds
theorem tTopTable35_ok : TabOk Tryz.prog tTopTable35 := TabOk.con tTopTable34_ok tTopTable34_ok cTopTable35_holds
theorem tTopTable36_ok : TabOk Tryz.prog tTopTable36 := TabOk.con tTopTable35_ok tTopTable35_ok cTopTable36_holds
theorem tTopTable37_ok : TabOk Tryz.prog tTopTable37 := TabOk.con tTopTable36_ok tTopTable36_ok cTopTable37_holds
theorem tTopTable38_ok : TabOk Tryz.prog tTopTable38 := TabOk.con tTopTable37_ok tTopTable37_ok cTopTable38_holds
theorem tTopTable39_ok : TabOk Tryz.prog tTopTable39 := TabOk.con tTopTable38_ok tTopTable38_ok cTopTable39_holds
theorem tTopTable40_ok : TabOk Tryz.prog tTopTable40 := TabOk.con tTopTable39_ok tTopTable39_ok cTopTable40_holds
theorem tTopTable41_ok : TabOk Tryz.prog tTopTable41 := TabOk.con tTopTable40_ok tTopTable40_ok cTopTable41_holds
theorem tTopTable42_ok : TabOk Tryz.prog tTopTable42 := TabOk.con tTopTable41_ok tTopTable41_ok cTopTable42_holds
theorem tTopTable43_ok : TabOk Tryz.prog tTopTable43 := TabOk.con tTopTable42_ok tTopTable42_ok cTopTable43_holds
theorem tTopTable44_ok : TabOk Tryz.prog tTopTable44 := TabOk.con tTopTable43_ok tTopTable43_ok cTopTable44_holds
theorem tTopTable45_ok : TabOk Tryz.prog tTopTable45 := TabOk.con tTopTable44_ok tTopTable44_ok cTopTable45_holds
theorem tTopTable46_ok : TabOk Tryz.prog tTopTable46 := TabOk.con tTopTable45_ok tTopTable45_ok cTopTable46_holds
theorem tTopTable47_ok : TabOk Tryz.prog tTopTable47 := TabOk.con tTopTable46_ok tTopTable46_ok cTopTable47_holds
theorem tTopTable48_ok : TabOk Tryz.prog tTopTable48 := TabOk.con tTopTable47_ok tTopTable47_ok cTopTable48_holds
theorem tTopTable49_ok : TabOk Tryz.prog tTopTable49 := TabOk.con tTopTable48_ok tTopTable48_ok cTopTable49_holds
theorem tTopTable50_ok : TabOk Tryz.prog tTopTable50 := TabOk.con tTopTable49_ok tTopTable49_ok cTopTable50_holds
theorem tTopTable51_ok : TabOk Tryz.prog tTopTable51 := TabOk.con tTopTable50_ok tTopTable50_ok cTopTable51_holds
theorem tTopTable52_ok : TabOk Tryz.prog tTopTable52 := TabOk.con tTopTable51_ok tTopTable51_ok cTopTable52_holds
theorem tTopTable53_ok : TabOk Tryz.prog tTopTable53 := TabOk.con tTopTable52_ok tTopTable52_ok cTopTable53_holds
theorem tTopTable54_ok : TabOk Tryz.prog tTopTable54 := TabOk.con tTopTable53_ok tTopTable53_ok cTopTable54_holds
theorem tTopTable55_ok : TabOk Tryz.prog tTopTable55 := TabOk.con tTopTable54_ok tTopTable54_ok cTopTable55_holds
theorem tTopTable56_ok : TabOk Tryz.prog tTopTable56 := TabOk.con tTopTable55_ok tTopTable55_ok cTopTable56_holds
end Go.Proofs.YtenebabkanehpaaGreatDoor
