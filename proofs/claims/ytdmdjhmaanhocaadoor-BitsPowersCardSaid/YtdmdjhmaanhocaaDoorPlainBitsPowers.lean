/- The law's ways, in numbers alone. No condition. -/
import Derived.Test.YtdmdjhmaanhocaaDoorRunBitsPowers
import Derived.Test.YtdmdjhmaanhocaaDoorPlCount
namespace Go.Proofs.YtdmdjhmaanhocaaDoor.PlainBitsPowers
open Go Go.Sx Go.Proofs.YtdmdjhmaanhocaaDoor.RunBitsPowers

/-- one power of two, its counts, its roll's -/
theorem pw {X : Int} {b : Nat} (hb : b < 64) (h : pat 64 X = 2 ^ b) : fnT 0 (IntKind.u64.wrap X) 64 0 = 63 - b ∧
    (if b2i (decide (fnT 1 (IntKind.u64.wrap X) 64 0 < 64)) ≠ 0 then fnT 1 (IntKind.u64.wrap X) 64 0 else 64) = b ∧ fnT 2 (IntKind.u64.wrap X) 64 0 = 1 := by
  refine ⟨?_, ?_, ?_⟩
  · show ((clzF 64 (pat 64 (IntKind.u64.wrap X)) : Nat) : Int) = _
    rw [pat_u64, h, clzF_pow 64 b hb]; omega
  · rw [ctz64_same, show fnT 11 X 64 0 = ((ctzF 64 (pat 64 X) : Nat) : Int) from fn11_start X 64, h, ctzF_pow 64 b hb]
  · show ((popF 64 (pat 64 (IntKind.u64.wrap X)) : Nat) : Int) = _
    rw [pat_u64, h, popF_pow 64 b hb]; rfl
theorem pat32_of {X : Int} {b : Nat} (hb : b < 32) (h : pat 64 X = 2 ^ b) : pat 32 X = 2 ^ b := by
  rw [← pat_mod (w := 32) (v := 64) X (by decide), h, Nat.mod_eq_of_lt (Nat.pow_lt_pow_right (by decide) hb)]
theorem pw32 {X : Int} {b : Nat} (hb : b < 32) (h : pat 64 X = 2 ^ b) : fnT 0 (IntKind.u32.wrap X) 32 0 = 31 - b ∧
    (if b2i (decide (fnT 1 (IntKind.u64.wrap X) 64 0 < 32)) ≠ 0 then fnT 1 (IntKind.u64.wrap X) 64 0 else 32) = b ∧ fnT 2 (IntKind.u32.wrap X) 64 0 = 1 := by
  refine ⟨?_, ?_, ?_⟩
  · show ((clzF 32 (pat 32 (IntKind.u32.wrap X)) : Nat) : Int) = _
    rw [pat_u32', pat32_of hb h, clzF_pow 32 b hb]; omega
  · rw [ctz32_same, show fnT 11 X 32 0 = ((ctzF 32 (pat 32 X) : Nat) : Int) from fn11_start X 32, pat32_of hb h, ctzF_pow 32 b hb]
  · show ((popF 64 (pat 64 (IntKind.u32.wrap X)) : Nat) : Int) = _
    rw [pat_u32, pat32_of hb h, popF_pow 64 b (by omega)]; rfl
theorem f1 (b : Nat) (y : Int) : (((b + (y % 64).toNat) % 64 : Nat) : Int) = ((b : Int) + y % 64) % 64 := by omega
theorem f2 (c : Nat) (y : Int) : (((c + (y % 32).toNat) % 32 : Nat) : Int) = ((c : Int) + y % 32) % 32 := by omega
theorem ctzR {R : Int} {b : Nat} (hb : b < 32) (h : pat 64 R = 2 ^ b) (hr : 0 ≤ R ∧ R ≤ 4294967295) :
    (if b2i (decide (fnT 1 R 64 0 < 32)) ≠ 0 then fnT 1 R 64 0 else 32) = b := by
  have h2 := (pw32 hb h).2.1
  have e : IntKind.u64.wrap R = R := by rw [u64_wrap]; omega
  rwa [e] at h2
theorem plain (u : Nat → Int) (_h : KindOk u 0 [some .i64, some .i64, none]) : Law ⟨u, fnT⟩ lawR := by
  simp only [lawR, Law, chain, E.prop, E.den, Bi.den, Un.den, i64_bits]
  have k64 : ∃ b : Nat, IntKind.u64.wrap (u 0) % 64 = b ∧ b < 64 := ⟨(IntKind.u64.wrap (u 0) % 64).toNat, by omega, by omega⟩
  have k32 : ∃ b : Nat, IntKind.u64.wrap (u 0) % 32 = b ∧ b < 32 := ⟨(IntKind.u64.wrap (u 0) % 32).toNat, by omega, by omega⟩
  obtain ⟨b, hb, hb'⟩ := k64
  obtain ⟨c, hc, hc'⟩ := k32
  have one : ∀ b : Nat, b < 64 → pat 64 (IntKind.i64.wrap (1 * 2 ^ min ((b : Nat) : Int).toNat 64)) = 2 ^ b := fun b h => by
    rw [show ((b : Nat) : Int).toNat = b by omega]; exact pat_one_shl h
  obtain ⟨a1, a2, a3⟩ := pw hb' (one b hb')
  obtain ⟨b1, b2, b3⟩ := pw32 hc' (one c (by omega))
  have r64 : pat 64 (fnT 3 (IntKind.u64.wrap (IntKind.i64.wrap (1 * 2 ^ min ((b : Nat) : Int).toNat 64))) 64 (u 1 % 64)) = 2 ^ ((b + (u 1 % 64).toNat) % 64) := by
    rw [fn3_pat', pat_u64, one b hb', show (u 1 % 64 % 64).toNat = (u 1 % 64).toNat by omega, rotF_pow hb' (by omega)]
  have r32 : pat 64 (fnT 3 (IntKind.u32.wrap (IntKind.i64.wrap (1 * 2 ^ min ((c : Nat) : Int).toNat 64))) 32 (u 1 % 32)) = 2 ^ ((c + (u 1 % 32).toNat) % 32) := by
    have e : fnT 3 (IntKind.u32.wrap (IntKind.i64.wrap (1 * 2 ^ min ((c : Nat) : Int).toNat 64))) 32 (u 1 % 32) = ((rotF 32 (2 ^ c) (u 1 % 32).toNat : Nat) : Int) := by
      rw [fn3_32]
      show ((rotF 32 (pat 32 _) (u 1 % 32 % 32).toNat : Nat) : Int) = _
      rw [pat32_of hc' (one c (by omega)), show (u 1 % 32 % 32).toNat = (u 1 % 32).toNat by omega]
    rw [e, rotF_pow hc' (by omega), pat_small (Nat.pow_lt_pow_right (by decide) (by have := Nat.mod_lt (c + (u 1 % 32).toNat) (show 0 < 32 by decide); omega))]
  obtain ⟨_, c2, _⟩ := pw (Nat.mod_lt _ (by decide)) r64
  have hr := fn3_in32 (IntKind.u32.wrap (IntKind.i64.wrap (1 * 2 ^ min ((c : Nat) : Int).toNat 64))) (u 1 % 32)
  have d2 := ctzR (Nat.mod_lt _ (by decide)) r32 hr
  simp only [hb, hc, a1, a2, a3, b1, b2, b3, c2, d2, f1, f2]
  simp
end Go.Proofs.YtdmdjhmaanhocaaDoor.PlainBitsPowers
