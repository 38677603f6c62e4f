/- The law's ways, in numbers alone. No condition. -/
import Derived.Test.YtdmdjhmaanhocaaDoorRunI32Logic
import Derived.Test.YtdmdjhmaanhocaaDoorPlLaw
namespace Go.Proofs.YtdmdjhmaanhocaaDoor.PlainI32Logic
open Go Go.Sx Go.Proofs.YtdmdjhmaanhocaaDoor.RunI32Logic

theorem plain (u : Nat → Int) (_h : KindOk u 0 [some .i64, some .i64]) : Law ⟨u, fnT⟩ lawR := by
  simp only [lawR, Law, chain, E.prop, E.den, Bi.den, Un.den]
  obtain ⟨h1, h2⟩ := i64_range (u 0)
  have w : ∀ n, 0 ≤ IntKind.u32.wrap n ∧ IntKind.u32.wrap n ≤ 4294967295 := fun n => by rw [u32_wrap]; omega
  have hx := w (u 0)
  have hy := w (u 1)
  generalize IntKind.u32.wrap (u 0) = x at *
  generalize IntKind.u32.wrap (u 1) = y at *
  have small : ∀ z : Int, 0 ≤ z → z ≤ 4294967295 → ∃ n : Nat, z = n ∧ n < 2 ^ 32 ∧ pat 64 z = n := fun z h1 h2 => by
    obtain ⟨n, rfl⟩ := Int.eq_ofNat_of_zero_le h1
    exact ⟨n, rfl, by omega, pat_small (by omega)⟩
  have inr : ∀ op : BinOp, (pat 64 (bitI op .i64 x y) < 2 ^ 32) → IntKind.u32.wrap (bitI op .i64 x y) = bitI op .i64 x y := fun op hp => by
    have h3 := bitI_range op x y
    have h4 := pat64_mod (bitI op .i64 x y)
    rw [u32_wrap]; omega
  obtain ⟨a, ha1, ha2, ha3⟩ := small x hx.1 hx.2
  obtain ⟨b, hb1, hb2, hb3⟩ := small y hy.1 hy.2
  have ior := inr .or (by rw [por, ha3, hb3]; exact Nat.or_lt_two_pow ha2 hb2)
  have ixor := inr .xor (by rw [pxor, ha3, hb3]; exact Nat.xor_lt_two_pow ha2 hb2)
  rw [ior, ixor, xor_back y (by omega) (by omega), and_andNot, andNot_or]
  have e32 : ∀ n m : Int, IntKind.i64.wrap n = IntKind.i64.wrap m → IntKind.u32.wrap n = IntKind.u32.wrap m := fun n m h => by
    rw [i64_wrap, i64_wrap] at h
    rw [u32_wrap, u32_wrap]; omega
  have e1 : IntKind.u32.wrap x = x := by rw [u32_wrap]; omega
  have e2 := e32 _ _ (and_plus_or x y)
  have e3 : IntKind.u32.wrap (bitI .or .i64 x y - bitI .and .i64 x y) = bitI .xor .i64 x y := by
    conv => rhs; rw [← ixor]
    apply e32
    rw [or_less_and, i64_in (bitI_range .xor x y).1 (bitI_range .xor x y).2]
  simp [e1, e2, e3]
end Go.Proofs.YtdmdjhmaanhocaaDoor.PlainI32Logic
