/- The law MemoryWidths in numbers alone. No condition. -/
import Derived.Test.YtjgobpmhdeancaaRunMemoryWidths
import Derived.Test.YtjgobpmhdeancaaPlByte
import Derived.KernelRfl
namespace Go.Proofs.Ytjgobpmhdeancaa.PlainMemoryWidths
open Go Go.Sx Go.Proofs.Ytjgobpmhdeancaa.RunMemoryWidths
set_option linter.unusedVariables false
set_option linter.unusedSimpArgs false
set_option maxRecDepth 100000
def lawT : List E := [q0, q1, q2, q3, q4, q5, q6, q7, q8, q9, q10, q11, q12, q13, q14, q15, q16, q17, q18, q19, q20]
def lawC : List CLeaf := [
  ([(0, false), (1, true), (2, true)], 0),
  ([(3, false), (0, true), (1, true), (2, true)], 0),
  ([(4, false), (5, true), (3, true), (0, true), (1, true), (2, true)], 0),
  ([(6, false), (4, true), (5, true), (3, true), (0, true), (1, true), (2, true)], 0),
  ([(7, false), (8, true), (6, true), (4, true), (5, true), (3, true), (0, true), (1, true), (2, true)], 0),
  ([(9, false), (7, true), (8, true), (6, true), (4, true), (5, true), (3, true), (0, true), (1, true), (2, true)], 0),
  ([(10, true), (11, true), (12, true), (13, true), (14, true), (15, true), (9, true), (7, true), (8, true), (6, true), (4, true), (5, true), (3, true), (0, true), (1, true), (2, true)], 17),
  ([(10, false), (11, true), (12, true), (13, true), (14, true), (15, true), (9, true), (7, true), (8, true), (6, true), (4, true), (5, true), (3, true), (0, true), (1, true), (2, true)], 0),
  ([(11, false), (12, true), (13, true), (14, true), (15, true), (9, true), (7, true), (8, true), (6, true), (4, true), (5, true), (3, true), (0, true), (1, true), (2, true)], 0),
  ([(12, false), (13, true), (14, true), (15, true), (9, true), (7, true), (8, true), (6, true), (4, true), (5, true), (3, true), (0, true), (1, true), (2, true)], 0),
  ([(13, false), (14, true), (15, true), (9, true), (7, true), (8, true), (6, true), (4, true), (5, true), (3, true), (0, true), (1, true), (2, true)], 0),
  ([(14, false), (15, true), (9, true), (7, true), (8, true), (6, true), (4, true), (5, true), (3, true), (0, true), (1, true), (2, true)], 0),
  ([(15, false), (9, true), (7, true), (8, true), (6, true), (4, true), (5, true), (3, true), (0, true), (1, true), (2, true)], 0),
  ([(16, false), (8, false), (6, true), (4, true), (5, true), (3, true), (0, true), (1, true), (2, true)], 0),
  ([(9, false), (16, true), (8, false), (6, true), (4, true), (5, true), (3, true), (0, true), (1, true), (2, true)], 0),
  ([(10, true), (11, true), (12, true), (13, true), (14, true), (15, true), (9, true), (16, true), (8, false), (6, true), (4, true), (5, true), (3, true), (0, true), (1, true), (2, true)], 17),
  ([(10, false), (11, true), (12, true), (13, true), (14, true), (15, true), (9, true), (16, true), (8, false), (6, true), (4, true), (5, true), (3, true), (0, true), (1, true), (2, true)], 0),
  ([(11, false), (12, true), (13, true), (14, true), (15, true), (9, true), (16, true), (8, false), (6, true), (4, true), (5, true), (3, true), (0, true), (1, true), (2, true)], 0),
  ([(12, false), (13, true), (14, true), (15, true), (9, true), (16, true), (8, false), (6, true), (4, true), (5, true), (3, true), (0, true), (1, true), (2, true)], 0),
  ([(13, false), (14, true), (15, true), (9, true), (16, true), (8, false), (6, true), (4, true), (5, true), (3, true), (0, true), (1, true), (2, true)], 0),
  ([(14, false), (15, true), (9, true), (16, true), (8, false), (6, true), (4, true), (5, true), (3, true), (0, true), (1, true), (2, true)], 0),
  ([(15, false), (9, true), (16, true), (8, false), (6, true), (4, true), (5, true), (3, true), (0, true), (1, true), (2, true)], 0),
  ([(17, false), (5, false), (3, true), (0, true), (1, true), (2, true)], 0),
  ([(6, false), (17, true), (5, false), (3, true), (0, true), (1, true), (2, true)], 0),
  ([(7, false), (8, true), (6, true), (17, true), (5, false), (3, true), (0, true), (1, true), (2, true)], 0),
  ([(9, false), (7, true), (8, true), (6, true), (17, true), (5, false), (3, true), (0, true), (1, true), (2, true)], 0),
  ([(10, true), (18, true), (12, true), (13, true), (14, true), (15, true), (9, true), (7, true), (8, true), (6, true), (17, true), (5, false), (3, true), (0, true), (1, true), (2, true)], 17),
  ([(10, false), (18, true), (12, true), (13, true), (14, true), (15, true), (9, true), (7, true), (8, true), (6, true), (17, true), (5, false), (3, true), (0, true), (1, true), (2, true)], 0),
  ([(18, false), (12, true), (13, true), (14, true), (15, true), (9, true), (7, true), (8, true), (6, true), (17, true), (5, false), (3, true), (0, true), (1, true), (2, true)], 0),
  ([(12, false), (13, true), (14, true), (15, true), (9, true), (7, true), (8, true), (6, true), (17, true), (5, false), (3, true), (0, true), (1, true), (2, true)], 0),
  ([(13, false), (14, true), (15, true), (9, true), (7, true), (8, true), (6, true), (17, true), (5, false), (3, true), (0, true), (1, true), (2, true)], 0),
  ([(14, false), (15, true), (9, true), (7, true), (8, true), (6, true), (17, true), (5, false), (3, true), (0, true), (1, true), (2, true)], 0),
  ([(15, false), (9, true), (7, true), (8, true), (6, true), (17, true), (5, false), (3, true), (0, true), (1, true), (2, true)], 0),
  ([(16, false), (8, false), (6, true), (17, true), (5, false), (3, true), (0, true), (1, true), (2, true)], 0),
  ([(9, false), (16, true), (8, false), (6, true), (17, true), (5, false), (3, true), (0, true), (1, true), (2, true)], 0),
  ([(10, true), (18, true), (12, true), (13, true), (14, true), (15, true), (9, true), (16, true), (8, false), (6, true), (17, true), (5, false), (3, true), (0, true), (1, true), (2, true)], 17),
  ([(10, false), (18, true), (12, true), (13, true), (14, true), (15, true), (9, true), (16, true), (8, false), (6, true), (17, true), (5, false), (3, true), (0, true), (1, true), (2, true)], 0),
  ([(18, false), (12, true), (13, true), (14, true), (15, true), (9, true), (16, true), (8, false), (6, true), (17, true), (5, false), (3, true), (0, true), (1, true), (2, true)], 0),
  ([(12, false), (13, true), (14, true), (15, true), (9, true), (16, true), (8, false), (6, true), (17, true), (5, false), (3, true), (0, true), (1, true), (2, true)], 0),
  ([(13, false), (14, true), (15, true), (9, true), (16, true), (8, false), (6, true), (17, true), (5, false), (3, true), (0, true), (1, true), (2, true)], 0),
  ([(14, false), (15, true), (9, true), (16, true), (8, false), (6, true), (17, true), (5, false), (3, true), (0, true), (1, true), (2, true)], 0),
  ([(15, false), (9, true), (16, true), (8, false), (6, true), (17, true), (5, false), (3, true), (0, true), (1, true), (2, true)], 0),
  ([(19, false), (1, false), (2, true)], 0),
  ([(3, false), (19, true), (1, false), (2, true)], 0),
  ([(4, false), (5, true), (3, true), (19, true), (1, false), (2, true)], 0),
  ([(6, false), (4, true), (5, true), (3, true), (19, true), (1, false), (2, true)], 0),
  ([(7, false), (8, true), (6, true), (4, true), (5, true), (3, true), (19, true), (1, false), (2, true)], 0),
  ([(9, false), (7, true), (8, true), (6, true), (4, true), (5, true), (3, true), (19, true), (1, false), (2, true)], 0),
  ([(10, true), (11, true), (20, true), (13, true), (14, true), (15, true), (9, true), (7, true), (8, true), (6, true), (4, true), (5, true), (3, true), (19, true), (1, false), (2, true)], 17),
  ([(10, false), (11, true), (20, true), (13, true), (14, true), (15, true), (9, true), (7, true), (8, true), (6, true), (4, true), (5, true), (3, true), (19, true), (1, false), (2, true)], 0),
  ([(11, false), (20, true), (13, true), (14, true), (15, true), (9, true), (7, true), (8, true), (6, true), (4, true), (5, true), (3, true), (19, true), (1, false), (2, true)], 0),
  ([(20, false), (13, true), (14, true), (15, true), (9, true), (7, true), (8, true), (6, true), (4, true), (5, true), (3, true), (19, true), (1, false), (2, true)], 0),
  ([(13, false), (14, true), (15, true), (9, true), (7, true), (8, true), (6, true), (4, true), (5, true), (3, true), (19, true), (1, false), (2, true)], 0),
  ([(14, false), (15, true), (9, true), (7, true), (8, true), (6, true), (4, true), (5, true), (3, true), (19, true), (1, false), (2, true)], 0),
  ([(15, false), (9, true), (7, true), (8, true), (6, true), (4, true), (5, true), (3, true), (19, true), (1, false), (2, true)], 0),
  ([(16, false), (8, false), (6, true), (4, true), (5, true), (3, true), (19, true), (1, false), (2, true)], 0),
  ([(9, false), (16, true), (8, false), (6, true), (4, true), (5, true), (3, true), (19, true), (1, false), (2, true)], 0),
  ([(10, true), (11, true), (20, true), (13, true), (14, true), (15, true), (9, true), (16, true), (8, false), (6, true), (4, true), (5, true), (3, true), (19, true), (1, false), (2, true)], 17),
  ([(10, false), (11, true), (20, true), (13, true), (14, true), (15, true), (9, true), (16, true), (8, false), (6, true), (4, true), (5, true), (3, true), (19, true), (1, false), (2, true)], 0),
  ([(11, false), (20, true), (13, true), (14, true), (15, true), (9, true), (16, true), (8, false), (6, true), (4, true), (5, true), (3, true), (19, true), (1, false), (2, true)], 0),
  ([(20, false), (13, true), (14, true), (15, true), (9, true), (16, true), (8, false), (6, true), (4, true), (5, true), (3, true), (19, true), (1, false), (2, true)], 0),
  ([(13, false), (14, true), (15, true), (9, true), (16, true), (8, false), (6, true), (4, true), (5, true), (3, true), (19, true), (1, false), (2, true)], 0),
  ([(14, false), (15, true), (9, true), (16, true), (8, false), (6, true), (4, true), (5, true), (3, true), (19, true), (1, false), (2, true)], 0),
  ([(15, false), (9, true), (16, true), (8, false), (6, true), (4, true), (5, true), (3, true), (19, true), (1, false), (2, true)], 0),
  ([(17, false), (5, false), (3, true), (19, true), (1, false), (2, true)], 0),
  ([(6, false), (17, true), (5, false), (3, true), (19, true), (1, false), (2, true)], 0),
  ([(7, false), (8, true), (6, true), (17, true), (5, false), (3, true), (19, true), (1, false), (2, true)], 0),
  ([(9, false), (7, true), (8, true), (6, true), (17, true), (5, false), (3, true), (19, true), (1, false), (2, true)], 0),
  ([(10, true), (18, true), (20, true), (13, true), (14, true), (15, true), (9, true), (7, true), (8, true), (6, true), (17, true), (5, false), (3, true), (19, true), (1, false), (2, true)], 17),
  ([(10, false), (18, true), (20, true), (13, true), (14, true), (15, true), (9, true), (7, true), (8, true), (6, true), (17, true), (5, false), (3, true), (19, true), (1, false), (2, true)], 0),
  ([(18, false), (20, true), (13, true), (14, true), (15, true), (9, true), (7, true), (8, true), (6, true), (17, true), (5, false), (3, true), (19, true), (1, false), (2, true)], 0),
  ([(20, false), (13, true), (14, true), (15, true), (9, true), (7, true), (8, true), (6, true), (17, true), (5, false), (3, true), (19, true), (1, false), (2, true)], 0),
  ([(13, false), (14, true), (15, true), (9, true), (7, true), (8, true), (6, true), (17, true), (5, false), (3, true), (19, true), (1, false), (2, true)], 0),
  ([(14, false), (15, true), (9, true), (7, true), (8, true), (6, true), (17, true), (5, false), (3, true), (19, true), (1, false), (2, true)], 0),
  ([(15, false), (9, true), (7, true), (8, true), (6, true), (17, true), (5, false), (3, true), (19, true), (1, false), (2, true)], 0),
  ([(16, false), (8, false), (6, true), (17, true), (5, false), (3, true), (19, true), (1, false), (2, true)], 0),
  ([(9, false), (16, true), (8, false), (6, true), (17, true), (5, false), (3, true), (19, true), (1, false), (2, true)], 0),
  ([(10, true), (18, true), (20, true), (13, true), (14, true), (15, true), (9, true), (16, true), (8, false), (6, true), (17, true), (5, false), (3, true), (19, true), (1, false), (2, true)], 17),
  ([(10, false), (18, true), (20, true), (13, true), (14, true), (15, true), (9, true), (16, true), (8, false), (6, true), (17, true), (5, false), (3, true), (19, true), (1, false), (2, true)], 0),
  ([(18, false), (20, true), (13, true), (14, true), (15, true), (9, true), (16, true), (8, false), (6, true), (17, true), (5, false), (3, true), (19, true), (1, false), (2, true)], 0),
  ([(20, false), (13, true), (14, true), (15, true), (9, true), (16, true), (8, false), (6, true), (17, true), (5, false), (3, true), (19, true), (1, false), (2, true)], 0),
  ([(13, false), (14, true), (15, true), (9, true), (16, true), (8, false), (6, true), (17, true), (5, false), (3, true), (19, true), (1, false), (2, true)], 0),
  ([(14, false), (15, true), (9, true), (16, true), (8, false), (6, true), (17, true), (5, false), (3, true), (19, true), (1, false), (2, true)], 0),
  ([(15, false), (9, true), (16, true), (8, false), (6, true), (17, true), (5, false), (3, true), (19, true), (1, false), (2, true)], 0)]

def gr : List (List (List (Nat × Bool))) := [[[(3, true), (6, true), (9, true), (10, true), (11, true), (12, true), (13, true), (14, true), (15, true), (18, true), (20, true)]], [[(1, true), (0, true)], [(1, false), (19, true)]], [[(5, true), (4, true)], [(5, false), (17, true)]], [[(8, true), (7, true)], [(8, false), (16, true)]]]
set_option maxHeartbeats 4000000 in
theorem plain (u : Nat → Int) (h : KindOk u 0 [some .i64, some .i64]) : Law ⟨u, fnF⟩ lawR := by
  obtain ⟨x, hx⟩ : ∃ x, u 1 = x := ⟨_, rfl⟩
  have hr := of_i64 h.2.1
  rw [hx] at hr
  have bt : ∀ n : Int, 0 ≤ IntKind.u8.wrap n ∧ IntKind.u8.wrap n < 256 := fun n => by rw [u8_wrap]; omega
  obtain ⟨y, hy⟩ : ∃ y, x % 18446744073709551616 = y := ⟨_, rfl⟩
  obtain ⟨e7, h7⟩ : ∃ e, y / 72057594037927936 = e := ⟨_, rfl⟩
  obtain ⟨e6, h6⟩ : ∃ e, y / 281474976710656 = e := ⟨_, rfl⟩
  obtain ⟨e5, h5⟩ : ∃ e, y / 1099511627776 = e := ⟨_, rfl⟩
  obtain ⟨e4, h4⟩ : ∃ e, y / 4294967296 = e := ⟨_, rfl⟩
  obtain ⟨e3, h3⟩ : ∃ e, y / 16777216 = e := ⟨_, rfl⟩
  obtain ⟨e2, h2⟩ : ∃ e, y / 65536 = e := ⟨_, rfl⟩
  obtain ⟨e1, h1⟩ : ∃ e, y / 256 = e := ⟨_, rfl⟩
  have o7 : bitI .or .i64 0 (IntKind.u8.wrap (x / 72057594037927936)) = e7 := by rw [or_zero (bt _), u8_wrap]; omega
  have o6 : bitI .or .i64 (IntKind.i64.wrap (e7 * 256)) (IntKind.u8.wrap (x / 281474976710656)) = e6 := or_step (by rw [u8_wrap]; omega) (by omega) (bt _)
  have o5 : bitI .or .i64 (IntKind.i64.wrap (e6 * 256)) (IntKind.u8.wrap (x / 1099511627776)) = e5 := or_step (by rw [u8_wrap]; omega) (by omega) (bt _)
  have o4 : bitI .or .i64 (IntKind.i64.wrap (e5 * 256)) (IntKind.u8.wrap (x / 4294967296)) = e4 := or_step (by rw [u8_wrap]; omega) (by omega) (bt _)
  have o3 : bitI .or .i64 (IntKind.i64.wrap (e4 * 256)) (IntKind.u8.wrap (x / 16777216)) = e3 := or_step (by rw [u8_wrap]; omega) (by omega) (bt _)
  have o2 : bitI .or .i64 (IntKind.i64.wrap (e3 * 256)) (IntKind.u8.wrap (x / 65536)) = e2 := or_step (by rw [u8_wrap]; omega) (by omega) (bt _)
  have o1 : bitI .or .i64 (IntKind.i64.wrap (e2 * 256)) (IntKind.u8.wrap (x / 256)) = e1 := or_step (by rw [u8_wrap]; omega) (by omega) (bt _)
  have o0 : bitI .or .i64 (IntKind.i64.wrap (e1 * 256)) (IntKind.u8.wrap (x / 1)) = x := by
    rw [or_last (by omega) (bt _), u8_wrap, i64_wrap]; omega
  obtain ⟨z, hz⟩ : ∃ z, x % 4294967296 = z := ⟨_, rfl⟩
  obtain ⟨d3, g3⟩ : ∃ e, z / 16777216 = e := ⟨_, rfl⟩
  obtain ⟨d2, g2⟩ : ∃ e, z / 65536 = e := ⟨_, rfl⟩
  obtain ⟨d1, g1⟩ : ∃ e, z / 256 = e := ⟨_, rfl⟩
  have p3 : bitI .or .i64 0 (IntKind.u8.wrap (x / 16777216)) = d3 := by rw [or_zero (bt _), u8_wrap]; omega
  have p2 : bitI .or .i64 (IntKind.i64.wrap (d3 * 256)) (IntKind.u8.wrap (x / 65536)) = d2 := or_step (by rw [u8_wrap]; omega) (by omega) (bt _)
  have p1 : bitI .or .i64 (IntKind.i64.wrap (d2 * 256)) (IntKind.u8.wrap (x / 256)) = d1 := or_step (by rw [u8_wrap]; omega) (by omega) (bt _)
  have p0 : bitI .or .i64 (IntKind.i64.wrap (d1 * 256)) (IntKind.u8.wrap (x / 1)) = z := or_step (by rw [u8_wrap]; omega) (by omega) (bt _)

  obtain ⟨v, hv⟩ : ∃ v, x % 65536 = v := ⟨_, rfl⟩
  obtain ⟨c1, k1⟩ : ∃ e, v / 256 = e := ⟨_, rfl⟩
  obtain ⟨t, ht⟩ : ∃ t, x % 256 = t := ⟨_, rfl⟩
  have s1 : bitI .or .i64 0 (IntKind.u8.wrap (x / 256)) = c1 := by rw [or_zero (bt _), u8_wrap]; omega
  have s0 : bitI .or .i64 (IntKind.i64.wrap (c1 * 256)) (IntKind.u8.wrap (x / 1)) = v := or_step (by rw [u8_wrap]; omega) (by omega) (bt _)
  have oz : bitI .or .i64 0 (IntKind.u8.wrap (x / 1)) = t := by rw [or_zero (bt _), u8_wrap]; omega
  have w8 : IntKind.i64.wrap (t * 72057594037927936) / 72057594037927936 = if t < 128 then t else t - 256 := by rw [i64_wrap]; split <;> omega
  have w16 : IntKind.i64.wrap (v * 281474976710656) / 281474976710656 = if v < 32768 then v else v - 65536 := by rw [i64_wrap]; split <;> omega
  have w32 : IntKind.i64.wrap (z * 4294967296) / 4294967296 = if z < 2147483648 then z else z - 4294967296 := by rw [i64_wrap]; split <;> omega
  have m8 : t * 72057594037927936 / 72057594037927936 = t := by omega
  have m16 : v * 281474976710656 / 281474976710656 = v := by omega
  have f3 : E.prop ⟨u, fnF⟩ q3 := by
    simp only [q3, E.prop, E.den, Bi.den, Un.den, hx, o7, o6, o5, o4, o3, o2, o1, o0, p3, p2, p1, p0, s1, s0, oz, w8, w16, w32, m8, m16]
    try simp only [u32_wrap, u16_wrap, u8_wrap]
    first | omega | (split <;> omega)
  have f6 : E.prop ⟨u, fnF⟩ q6 := by
    simp only [q6, E.prop, E.den, Bi.den, Un.den, hx, o7, o6, o5, o4, o3, o2, o1, o0, p3, p2, p1, p0, s1, s0, oz, w8, w16, w32, m8, m16]
    try simp only [u32_wrap, u16_wrap, u8_wrap]
    first | omega | (split <;> omega)
  have f9 : E.prop ⟨u, fnF⟩ q9 := by
    simp only [q9, E.prop, E.den, Bi.den, Un.den, hx, o7, o6, o5, o4, o3, o2, o1, o0, p3, p2, p1, p0, s1, s0, oz, w8, w16, w32, m8, m16]
    try simp only [u32_wrap, u16_wrap, u8_wrap]
    first | omega | (split <;> omega)
  have f10 : E.prop ⟨u, fnF⟩ q10 := by
    simp only [q10, E.prop, E.den, Bi.den, Un.den, hx, o7, o6, o5, o4, o3, o2, o1, o0, p3, p2, p1, p0, s1, s0, oz, w8, w16, w32, m8, m16]
    try simp only [u32_wrap, u16_wrap, u8_wrap]
    first | omega | (split <;> omega)
  have f11 : E.prop ⟨u, fnF⟩ q11 := by
    simp only [q11, E.prop, E.den, Bi.den, Un.den, hx, o7, o6, o5, o4, o3, o2, o1, o0, p3, p2, p1, p0, s1, s0, oz, w8, w16, w32, m8, m16]
    try simp only [u32_wrap, u16_wrap, u8_wrap]
    first | omega | (split <;> omega)
  have f12 : E.prop ⟨u, fnF⟩ q12 := by
    simp only [q12, E.prop, E.den, Bi.den, Un.den, hx, o7, o6, o5, o4, o3, o2, o1, o0, p3, p2, p1, p0, s1, s0, oz, w8, w16, w32, m8, m16]
    try simp only [u32_wrap, u16_wrap, u8_wrap]
    first | omega | (split <;> omega)
  have f13 : E.prop ⟨u, fnF⟩ q13 := by
    simp only [q13, E.prop, E.den, Bi.den, Un.den, hx, o7, o6, o5, o4, o3, o2, o1, o0, p3, p2, p1, p0, s1, s0, oz, w8, w16, w32, m8, m16]
    try simp only [u32_wrap, u16_wrap, u8_wrap]
    first | omega | (split <;> omega)
  have f14 : E.prop ⟨u, fnF⟩ q14 := by
    simp only [q14, E.prop, E.den, Bi.den, Un.den, hx, o7, o6, o5, o4, o3, o2, o1, o0, p3, p2, p1, p0, s1, s0, oz, w8, w16, w32, m8, m16]
    try simp only [u32_wrap, u16_wrap, u8_wrap]
    first | omega | (split <;> omega)
  have f15 : E.prop ⟨u, fnF⟩ q15 := by
    simp only [q15, E.prop, E.den, Bi.den, Un.den, hx, o7, o6, o5, o4, o3, o2, o1, o0, p3, p2, p1, p0, s1, s0, oz, w8, w16, w32, m8, m16]
  have f18 : E.prop ⟨u, fnF⟩ q18 := by
    simp only [q18, E.prop, E.den, Bi.den, Un.den, hx, o7, o6, o5, o4, o3, o2, o1, o0, p3, p2, p1, p0, s1, s0, oz, w8, w16, w32, m8, m16]
    try simp only [u32_wrap, u16_wrap, u8_wrap]
    first | omega | (split <;> omega)
  have f20 : E.prop ⟨u, fnF⟩ q20 := by
    simp only [q20, E.prop, E.den, Bi.den, Un.den, hx, o7, o6, o5, o4, o3, o2, o1, o0, p3, p2, p1, p0, s1, s0, oz, w8, w16, w32, m8, m16]
    try simp only [u32_wrap, u16_wrap, u8_wrap]
    first | omega | (split <;> omega)
  have e : lawR = lawC.map (cLeaf lawT) := by kernel_rfl
  rw [e]
  refine law_of_codes (gs := gr) ⟨⟨_, List.mem_singleton.2 rfl, f3, f6, f9, f10, f11, f12, f13, f14, f15, f18, f20, trivial⟩, ?_, ?_, ?_, trivial⟩ (by kernel_rfl)
  · by_cases hb : t < 128
    · refine ⟨_, List.mem_cons_of_mem _ List.mem_cons_self, ?_, ?_, trivial⟩
      · show ¬ E.prop ⟨u, fnF⟩ q1
        simp only [q1, E.prop, E.den, Bi.den, Un.den, hx, o7, o6, o5, o4, o3, o2, o1, o0, p3, p2, p1, p0, s1, s0, oz, w8, w16, w32, m8, m16]
        try simp only [u32_wrap, u16_wrap, u8_wrap]
        first | omega | (split <;> omega)
      · show E.prop ⟨u, fnF⟩ q19
        simp only [q19, E.prop, E.den, Bi.den, Un.den, hx, o7, o6, o5, o4, o3, o2, o1, o0, p3, p2, p1, p0, s1, s0, oz, w8, w16, w32, m8, m16]
        try simp only [u32_wrap, u16_wrap, u8_wrap]
        first | omega | (split <;> omega)
    · refine ⟨_, List.mem_cons_self, ?_, ?_, trivial⟩
      · show E.prop ⟨u, fnF⟩ q1
        simp only [q1, E.prop, E.den, Bi.den, Un.den, hx, o7, o6, o5, o4, o3, o2, o1, o0, p3, p2, p1, p0, s1, s0, oz, w8, w16, w32, m8, m16]
        try simp only [u32_wrap, u16_wrap, u8_wrap]
        first | omega | (split <;> omega)
      · show E.prop ⟨u, fnF⟩ q0
        simp only [q0, E.prop, E.den, Bi.den, Un.den, hx, o7, o6, o5, o4, o3, o2, o1, o0, p3, p2, p1, p0, s1, s0, oz, w8, w16, w32, m8, m16]
        try simp only [u32_wrap, u16_wrap, u8_wrap]
        first | omega | (split <;> omega)
  · by_cases hb : v < 32768
    · refine ⟨_, List.mem_cons_of_mem _ List.mem_cons_self, ?_, ?_, trivial⟩
      · show ¬ E.prop ⟨u, fnF⟩ q5
        simp only [q5, E.prop, E.den, Bi.den, Un.den, hx, o7, o6, o5, o4, o3, o2, o1, o0, p3, p2, p1, p0, s1, s0, oz, w8, w16, w32, m8, m16]
        try simp only [u32_wrap, u16_wrap, u8_wrap]
        first | omega | (split <;> omega)
      · show E.prop ⟨u, fnF⟩ q17
        simp only [q17, E.prop, E.den, Bi.den, Un.den, hx, o7, o6, o5, o4, o3, o2, o1, o0, p3, p2, p1, p0, s1, s0, oz, w8, w16, w32, m8, m16]
        try simp only [u32_wrap, u16_wrap, u8_wrap]
        first | omega | (split <;> omega)
    · refine ⟨_, List.mem_cons_self, ?_, ?_, trivial⟩
      · show E.prop ⟨u, fnF⟩ q5
        simp only [q5, E.prop, E.den, Bi.den, Un.den, hx, o7, o6, o5, o4, o3, o2, o1, o0, p3, p2, p1, p0, s1, s0, oz, w8, w16, w32, m8, m16]
        try simp only [u32_wrap, u16_wrap, u8_wrap]
        first | omega | (split <;> omega)
      · show E.prop ⟨u, fnF⟩ q4
        simp only [q4, E.prop, E.den, Bi.den, Un.den, hx, o7, o6, o5, o4, o3, o2, o1, o0, p3, p2, p1, p0, s1, s0, oz, w8, w16, w32, m8, m16]
        try simp only [u32_wrap, u16_wrap, u8_wrap]
        first | omega | (split <;> omega)
  · by_cases hb : z < 2147483648
    · refine ⟨_, List.mem_cons_of_mem _ List.mem_cons_self, ?_, ?_, trivial⟩
      · show ¬ E.prop ⟨u, fnF⟩ q8
        simp only [q8, E.prop, E.den, Bi.den, Un.den, hx, o7, o6, o5, o4, o3, o2, o1, o0, p3, p2, p1, p0, s1, s0, oz, w8, w16, w32, m8, m16]
        try simp only [u32_wrap, u16_wrap, u8_wrap]
        first | omega | (split <;> omega)
      · show E.prop ⟨u, fnF⟩ q16
        simp only [q16, E.prop, E.den, Bi.den, Un.den, hx, o7, o6, o5, o4, o3, o2, o1, o0, p3, p2, p1, p0, s1, s0, oz, w8, w16, w32, m8, m16]
        try simp only [u32_wrap, u16_wrap, u8_wrap]
        first | omega | (split <;> omega)
    · refine ⟨_, List.mem_cons_self, ?_, ?_, trivial⟩
      · show E.prop ⟨u, fnF⟩ q8
        simp only [q8, E.prop, E.den, Bi.den, Un.den, hx, o7, o6, o5, o4, o3, o2, o1, o0, p3, p2, p1, p0, s1, s0, oz, w8, w16, w32, m8, m16]
        try simp only [u32_wrap, u16_wrap, u8_wrap]
        first | omega | (split <;> omega)
      · show E.prop ⟨u, fnF⟩ q7
        simp only [q7, E.prop, E.den, Bi.den, Un.den, hx, o7, o6, o5, o4, o3, o2, o1, o0, p3, p2, p1, p0, s1, s0, oz, w8, w16, w32, m8, m16]
        try simp only [u32_wrap, u16_wrap, u8_wrap]
        first | omega | (split <;> omega)
end Go.Proofs.Ytjgobpmhdeancaa.PlainMemoryWidths
