/- The law MemoryBack in numbers alone. No condition. -/
import Derived.Test.YtjgobpmhdeancaaRunMemoryBack
import Derived.Test.YtjgobpmhdeancaaPlByte
namespace Go.Proofs.Ytjgobpmhdeancaa.PlainMemoryBack
open Go Go.Sx Go.Proofs.Ytjgobpmhdeancaa.RunMemoryBack
set_option linter.unusedVariables false
set_option linter.unusedSimpArgs false
set_option maxRecDepth 100000
theorem byte_alone {b : Int} (hb : 0 ≤ b ∧ b < 256) : IntKind.u32.wrap (bitI .or .i64 0 b) = b := by rw [or_zero hb, u32_wrap]; omega
theorem plain (u : Nat → Int) (h : KindOk u 0 [some .i64, some .i64, some .i64]) : Law ⟨u, fnF⟩ lawR := by
  obtain ⟨x, hx⟩ : ∃ x, u 2 = x := ⟨_, rfl⟩
  have hr := of_i64 h.2.2.1
  rw [hx] at hr
  have bt : ∀ n : Int, 0 ≤ IntKind.u8.wrap n ∧ IntKind.u8.wrap n < 256 := fun n => by rw [u8_wrap]; omega
  have f0 : q0.prop ⟨u, fnF⟩ := by simp only [q0, E.prop, E.den, Bi.den, Un.den]; exact byte_alone (bt _)
  have f2 : q2.prop ⟨u, fnF⟩ := by simp only [q2, E.prop, E.den, Bi.den, Un.den]; exact byte_alone (bt _)
  have f3 : q3.prop ⟨u, fnF⟩ := by simp only [q3, E.prop, E.den, Bi.den, Un.den]; exact byte_alone (bt _)
  have f4 : q4.prop ⟨u, fnF⟩ := by simp only [q4, E.prop, E.den, Bi.den, Un.den]; exact byte_alone (bt _)
  have f5 : q5.prop ⟨u, fnF⟩ := by simp only [q5, E.prop, E.den, Bi.den, Un.den]; exact byte_alone (bt _)
  have f6 : q6.prop ⟨u, fnF⟩ := by simp only [q6, E.prop, E.den, Bi.den, Un.den]; exact byte_alone (bt _)
  have f7 : q7.prop ⟨u, fnF⟩ := by simp only [q7, E.prop, E.den, Bi.den, Un.den]; exact byte_alone (bt _)
  have f8 : q8.prop ⟨u, fnF⟩ := by simp only [q8, E.prop, E.den, Bi.den, Un.den]; exact byte_alone (bt _)
  obtain ⟨y, hy⟩ : ∃ y, x % 18446744073709551616 = y := ⟨_, rfl⟩
  obtain ⟨e7, h7⟩ : ∃ e, y / 72057594037927936 = e := ⟨_, rfl⟩
  obtain ⟨e6, h6⟩ : ∃ e, y / 281474976710656 = e := ⟨_, rfl⟩
  obtain ⟨e5, h5⟩ : ∃ e, y / 1099511627776 = e := ⟨_, rfl⟩
  obtain ⟨e4, h4⟩ : ∃ e, y / 4294967296 = e := ⟨_, rfl⟩
  obtain ⟨e3, h3⟩ : ∃ e, y / 16777216 = e := ⟨_, rfl⟩
  obtain ⟨e2, h2⟩ : ∃ e, y / 65536 = e := ⟨_, rfl⟩
  obtain ⟨e1, h1⟩ : ∃ e, y / 256 = e := ⟨_, rfl⟩
  have o7 : bitI .or .i64 0 (IntKind.u8.wrap (x / 72057594037927936)) = e7 := by rw [or_zero (bt _), u8_wrap]; omega
  have o6 : bitI .or .i64 (IntKind.i64.wrap (e7 * 256)) (IntKind.u8.wrap (x / 281474976710656)) = e6 := or_step (by rw [u8_wrap]; omega) (by omega) (bt _)
  have o5 : bitI .or .i64 (IntKind.i64.wrap (e6 * 256)) (IntKind.u8.wrap (x / 1099511627776)) = e5 := or_step (by rw [u8_wrap]; omega) (by omega) (bt _)
  have o4 : bitI .or .i64 (IntKind.i64.wrap (e5 * 256)) (IntKind.u8.wrap (x / 4294967296)) = e4 := or_step (by rw [u8_wrap]; omega) (by omega) (bt _)
  have o3 : bitI .or .i64 (IntKind.i64.wrap (e4 * 256)) (IntKind.u8.wrap (x / 16777216)) = e3 := or_step (by rw [u8_wrap]; omega) (by omega) (bt _)
  have o2 : bitI .or .i64 (IntKind.i64.wrap (e3 * 256)) (IntKind.u8.wrap (x / 65536)) = e2 := or_step (by rw [u8_wrap]; omega) (by omega) (bt _)
  have o1 : bitI .or .i64 (IntKind.i64.wrap (e2 * 256)) (IntKind.u8.wrap (x / 256)) = e1 := or_step (by rw [u8_wrap]; omega) (by omega) (bt _)
  have o0 : bitI .or .i64 (IntKind.i64.wrap (e1 * 256)) (IntKind.u8.wrap (x / 1)) = x := by
    rw [or_last (by omega) (bt _), u8_wrap, i64_wrap]; omega
  have f11 : q11.prop ⟨u, fnF⟩ := by simp only [q11, E.prop, E.den, Bi.den, Un.den, hx, o7, o6, o5, o4, o3, o2, o1, o0]
  have f9 : q9.prop ⟨u, fnF⟩ := by
    simp only [q9, E.prop, E.den, Bi.den, Un.den, hx, o7, o6, o5, o4, u32_wrap]; omega
  obtain ⟨z, hz⟩ : ∃ z, x % 4294967296 = z := ⟨_, rfl⟩
  obtain ⟨d3, g3⟩ : ∃ e, z / 16777216 = e := ⟨_, rfl⟩
  obtain ⟨d2, g2⟩ : ∃ e, z / 65536 = e := ⟨_, rfl⟩
  obtain ⟨d1, g1⟩ : ∃ e, z / 256 = e := ⟨_, rfl⟩
  have p3 : bitI .or .i64 0 (IntKind.u8.wrap (x / 16777216)) = d3 := by rw [or_zero (bt _), u8_wrap]; omega
  have p2 : bitI .or .i64 (IntKind.i64.wrap (d3 * 256)) (IntKind.u8.wrap (x / 65536)) = d2 := or_step (by rw [u8_wrap]; omega) (by omega) (bt _)
  have p1 : bitI .or .i64 (IntKind.i64.wrap (d2 * 256)) (IntKind.u8.wrap (x / 256)) = d1 := or_step (by rw [u8_wrap]; omega) (by omega) (bt _)
  have p0 : bitI .or .i64 (IntKind.i64.wrap (d1 * 256)) (IntKind.u8.wrap (x / 1)) = z := or_step (by rw [u8_wrap]; omega) (by omega) (bt _)
  have f10 : q10.prop ⟨u, fnF⟩ := by
    simp only [q10, E.prop, E.den, Bi.den, Un.den, hx, p3, p2, p1, p0, u32_wrap]; omega
  exact law_of_facts (fs := [(q0, true), (q2, true), (q3, true), (q4, true), (q5, true), (q6, true), (q7, true), (q8, true), (q9, true), (q10, true), (q11, true)]) ⟨f0, f2, f3, f4, f5, f6, f7, f8, f9, f10, f11, trivial⟩ (by decide)
end Go.Proofs.Ytjgobpmhdeancaa.PlainMemoryBack
