/- The contracts hold: the library's counts and rolls, and the reference's loops. No condition. -/
import Derived.Test.YtdmdjhmaanhocaaDoorRunCon
import Derived.Test.YtdmdjhmaanhocaaDoorPlCon
namespace Go.Proofs.YtdmdjhmaanhocaaDoor.Con
open Go Go.Sx Go.Sx.Door Go.Proofs.YtdmdjhmaanhocaaDoor.RunCon

theorem clz_plain (u : Nat → Int) : LKeeps ⟨u, fnT⟩ clzL clzLR := by
  simp only [clzL, clzLR, LKeeps, chain, allProp, allSame, SameL, List.map, E.at, le, v, E.prop, E.den, mkBin, Bi.den, List.getD_cons_zero, List.getD_cons_succ, i64_bits]
  refine ⟨fun h1 h2 h3 h4 hb => ⟨⟨by omega, by omega, h1, trivial⟩, ⟨?_, trivial⟩, by omega, by omega⟩, fun h1 h2 h3 h4 hb => ⟨trivial, ?_, trivial⟩, fun h1 h2 h3 h4 => ⟨trivial, ?_, trivial⟩, trivial⟩
  · have h : (pat (u 1).toNat (u 0)).testBit (u 1 - u 2 - 1).toNat = false := by
      cases h : (pat (u 1).toNat (u 0)).testBit (u 1 - u 2 - 1).toNat with
      | false => rfl
      | true => exact absurd ((bit_shr (show 0 ≤ u 1 - u 2 + -1 by omega) (by omega) h1).2 h) hb
    exact (clz_more h3 h4 h).symm
  · exact (clz_end h3 h4 ((bit_shr (show 0 ≤ u 1 - u 2 + -1 by omega) (by omega) h1).1 hb)).symm
  · rw [fn10_zero h4]; omega
theorem ctz_plain (u : Nat → Int) : LKeeps ⟨u, fnT⟩ ctzL ctzLR := by
  simp only [ctzL, ctzLR, LKeeps, chain, allProp, allSame, SameL, List.map, E.at, le, v, E.prop, E.den, mkBin, Bi.den, List.getD_cons_zero, List.getD_cons_succ, i64_bits]
  refine ⟨fun h1 h2 h3 h4 hb => ⟨⟨by omega, by omega, h1, trivial⟩, ⟨?_, trivial⟩, by omega, by omega⟩, fun h1 h2 h3 h4 hb => ⟨trivial, ?_, trivial⟩, fun h1 h2 h3 h4 => ⟨trivial, ?_, trivial⟩, trivial⟩
  · have h : (pat (u 1).toNat (u 0)).testBit (u 2).toNat = false := by
      cases h : (pat (u 1).toNat (u 0)).testBit (u 2).toNat with
      | false => rfl
      | true => exact absurd ((bit_shr h3 h4 h1).2 h) hb
    exact (ctz_more h3 h4 h).symm
  · exact (ctz_end h3 h4 ((bit_shr h3 h4 h1).1 hb)).symm
  · rw [fn11_zero h4]; omega
theorem pop_plain (u : Nat → Int) : LKeeps ⟨u, fnT⟩ popL popLR := by
  simp only [popL, popLR, LKeeps, chain, allProp, allSame, SameL, List.map, E.at, le, v, E.prop, E.den, mkBin, Bi.den, Un.den, List.getD_cons_zero, List.getD_cons_succ, i64_bits]
  refine ⟨fun h1 h2 h3 h4 h5 h6 hb => ?_, fun h1 h2 h3 h4 h5 h6 hb => ⟨⟨by omega, by omega, h3, by omega, by omega, trivial⟩, ⟨?_, trivial, trivial⟩, by omega, by omega⟩, fun h1 h2 h3 h4 h5 h6 => ⟨trivial, ?_, trivial, by omega, trivial⟩, trivial⟩
  · have h := (bit_shr h5 h6 h3).1 hb
    have hp := pop_more (x := u 0) h5 h6
    rw [h] at hp
    rw [i64_in (n := u 3 + 1) (by omega) (by omega), hp]
    exact ⟨⟨by omega, by omega, h3, by omega, by omega, trivial⟩, ⟨by simp; omega, trivial, trivial⟩, by omega, by omega⟩
  · have h : (pat (u 1).toNat (u 0)).testBit (u 2).toNat = false := by
      cases h : (pat (u 1).toNat (u 0)).testBit (u 2).toNat with
      | false => rfl
      | true => exact absurd ((bit_shr h5 h6 h3).2 h) hb
    have hp := pop_more (x := u 0) h5 h6
    rw [h] at hp
    rw [hp]; simp
  · rw [fn12_zero h6]; omega
theorem rot_plain (u : Nat → Int) (hk : KindOk u 0 rotL.ks) : LKeeps ⟨u, fnT⟩ rotL rotLR := by
  have hr := of_i64 hk.2.2.2.2.1
  simp only [rotL, rotLR, LKeeps, chain, allProp, allSame, SameL, List.map, E.at, le, v, n32or64, E.prop, E.den, mkBin, mkUn, Bi.den, Un.den, List.getD_cons_zero, List.getD_cons_succ, i64_bits]
  refine ⟨fun hw h1 h2 h3 hb => ⟨⟨by omega, by omega, hw, trivial⟩, ⟨rot_round hw h2 h3 hb, trivial, trivial⟩, by omega, by omega⟩, fun hw h1 h2 h3 hb => ⟨⟨by omega, by omega, hw, trivial⟩, ⟨rot_skip hw h2 h3 hb, trivial, trivial⟩, by omega, by omega⟩,
    fun hw h1 h2 h3 => ⟨trivial, (rot_done hw (by omega) hr.1 hr.2).symm, trivial, by omega, trivial⟩, trivial⟩

theorem lz32_plain (u : Nat → Int) (hk : KindOk u 0 lz32.ks) : Keeps ⟨u, fnT⟩ lz32.res lz32R := by
  obtain ⟨hr1, hr2⟩ := of_u32 hk.1
  simp only [lz32, lz32R, Keeps, chain, SameL, unOne, v, E.prop, E.den, Bi.den, Un.den, true_and, and_true]
  obtain ⟨n, hn⟩ := Int.eq_ofNat_of_zero_le hr1
  rw [hn] at hr2 ⊢
  have e : fnT 0 (n : Int) 32 0 = (clzF 32 n : Int) := by
    show ((clzF 32 (pat 32 (n : Int)) : Nat) : Int) = _
    rw [pat_small (by omega)]
  rw [e]
  refine ⟨fun h1 h2 => ?_, fun h1 h2 => ?_, fun h1 h2 => ?_, fun h1 h2 => ?_⟩
  · rw [clz_tab (w := 32) (s := 24) (by decide) (by omega) (.inl (by omega)), show ((n : Int) / 65536 / 256).toNat = n / 2 ^ 24 by omega]; rfl
  · rw [clz_tab (w := 32) (s := 16) (by decide) (by omega) (.inl (by omega)), show ((n : Int) / 65536).toNat = n / 2 ^ 16 by omega]; rfl
  · rw [clz_tab (w := 32) (s := 8) (by decide) (by omega) (.inl (by omega)), show ((n : Int) / 256).toNat = n / 2 ^ 8 by omega]; rfl
  · rw [clz_tab (w := 32) (s := 0) (by decide) (by omega) (.inr rfl), show (n : Int).toNat = n / 2 ^ 0 by omega]; simp
theorem lz64_plain (u : Nat → Int) (hk : KindOk u 0 lz64.ks) : Keeps ⟨u, fnT⟩ lz64.res lz64R := by
  obtain ⟨hr1, hr2⟩ := of_u64 hk.1
  simp only [lz64, lz64R, Keeps, chain, SameL, unOne, v, E.prop, E.den, Bi.den, Un.den, true_and, and_true]
  obtain ⟨n, hn⟩ := Int.eq_ofNat_of_zero_le hr1
  rw [hn] at hr2 ⊢
  have e : fnT 0 (n : Int) 64 0 = (clzF 64 n : Int) := by
    show ((clzF 64 (pat 64 (n : Int)) : Nat) : Int) = _
    rw [pat_small (by omega)]
  rw [e]
  refine ⟨fun h1 h2 h3 => ?_, fun h1 h2 h3 => ?_, fun h1 h2 h3 => ?_, fun h1 h2 h3 => ?_, fun h1 h2 h3 => ?_, fun h1 h2 h3 => ?_, fun h1 h2 h3 => ?_, fun h1 h2 h3 => ?_⟩
  · rw [clz_tab (w := 64) (s := 56) (by decide) (by omega) (.inl (by omega)), show ((n : Int) / 4294967296 / 65536 / 256).toNat = n / 2 ^ 56 by omega]; rfl
  · rw [clz_tab (w := 64) (s := 48) (by decide) (by omega) (.inl (by omega)), show ((n : Int) / 4294967296 / 65536).toNat = n / 2 ^ 48 by omega]; rfl
  · rw [clz_tab (w := 64) (s := 40) (by decide) (by omega) (.inl (by omega)), show ((n : Int) / 4294967296 / 256).toNat = n / 2 ^ 40 by omega]; rfl
  · rw [clz_tab (w := 64) (s := 32) (by decide) (by omega) (.inl (by omega)), show ((n : Int) / 4294967296).toNat = n / 2 ^ 32 by omega]; rfl
  · rw [clz_tab (w := 64) (s := 24) (by decide) (by omega) (.inl (by omega)), show ((n : Int) / 65536 / 256).toNat = n / 2 ^ 24 by omega]; rfl
  · rw [clz_tab (w := 64) (s := 16) (by decide) (by omega) (.inl (by omega)), show ((n : Int) / 65536).toNat = n / 2 ^ 16 by omega]; rfl
  · rw [clz_tab (w := 64) (s := 8) (by decide) (by omega) (.inl (by omega)), show ((n : Int) / 256).toNat = n / 2 ^ 8 by omega]; rfl
  · rw [clz_tab (w := 64) (s := 0) (by decide) (by omega) (.inr rfl), show (n : Int).toNat = n / 2 ^ 0 by omega]; simp
theorem tz64_plain (u : Nat → Int) (hk : KindOk u 0 tz64.ks) : Keeps ⟨u, fnT⟩ tz64.res tz64R := by
  obtain ⟨hr1, hr2⟩ := of_u64 hk.1
  simp only [tz64, tz64R, Keeps, chain, SameL, unOne, v, E.prop, E.den, Bi.den, Un.den, true_and, and_true]
  obtain ⟨n, hn⟩ := Int.eq_ofNat_of_zero_le hr1
  rw [hn] at hr2 ⊢
  have e : fnT 1 (n : Int) 64 0 = (ctzF 64 n : Int) := by
    show ((ctzF 64 (pat 64 (n : Int)) : Nat) : Int) = _
    rw [pat_small (by omega)]
  rw [e]
  refine ⟨fun h => ?_, fun h => ?_⟩
  · rw [show n = 0 by omega, ctzF_zero]; rfl
  · have h0 : 0 < n := by omega
    have h1 : IntKind.u64.wrap (0 - (n : Int)) = ((2 ^ 64 - n : Nat) : Int) := by rw [u64_wrap]; omega
    rw [h1, and_u64 (by omega), u64_wrap, ← ctz_tab h0 (by omega)]
    generalize n &&& (2 ^ 64 - n) = m
    have h2 : ((m : Int) * 285870213051353865 % 18446744073709551616 / 288230376151711744).toNat = m * 285870213051353865 % 2 ^ 64 / 2 ^ 58 := by
      have h3 : (m : Int) * 285870213051353865 % 18446744073709551616 / 288230376151711744 = ((m * 285870213051353865 % 2 ^ 64 / 2 ^ 58 : Nat) : Int) := by
        simp only [Int.natCast_ediv, Int.natCast_emod, Int.natCast_mul, Int.natCast_pow]; rfl
      rw [h3]; exact Int.toNat_natCast _
    rw [h2]
theorem oc64_plain (u : Nat → Int) (hk : KindOk u 0 oc64.ks) : Keeps ⟨u, fnT⟩ oc64.res oc64R := by
  obtain ⟨hr1, hr2⟩ := of_u64 hk.1
  simp only [oc64, oc64R, Keeps, chain, SameL, unOne, v, E.den, Bi.den, true_and, and_true]
  obtain ⟨n, hn⟩ := Int.eq_ofNat_of_zero_le hr1
  rw [hn] at hr2 ⊢
  have e : fnT 2 (n : Int) 64 0 = (popF 64 n : Int) := by
    show ((popF 64 (pat 64 (n : Int)) : Nat) : Int) = _
    rw [pat_small (by omega)]
  have a1 : ∀ a : Nat, bitI .and .u64 ((a : Int) / 2) 6148914691236517205 + bitI .and .u64 (a : Int) 6148914691236517205 = ((sw1 8 a : Nat) : Int) := fun a => by
    have h1 := and_u64 (a := a / 2) (m := 6148914691236517205) (by decide)
    have h2 := and_u64 (a := a) (m := 6148914691236517205) (by decide)
    rw [show (((a / 2 : Nat)) : Int) = (a : Int) / 2 by omega] at h1
    simp only [sw1, show reps 8 85 = 6148914691236517205 from rfl, Int.natCast_add]
    rw [← h1, ← h2]; rfl
  have a2 : ∀ a : Nat, bitI .and .u64 ((a : Int) / 4) 3689348814741910323 + bitI .and .u64 (a : Int) 3689348814741910323 = ((sw2 8 a : Nat) : Int) := fun a => by
    have h1 := and_u64 (a := a / 4) (m := 3689348814741910323) (by decide)
    have h2 := and_u64 (a := a) (m := 3689348814741910323) (by decide)
    rw [show (((a / 4 : Nat)) : Int) = (a : Int) / 4 by omega] at h1
    simp only [sw2, show reps 8 51 = 3689348814741910323 from rfl, Int.natCast_add]
    rw [← h1, ← h2]; rfl
  have a3 : ∀ a : Nat, bitI .and .u64 ((a : Int) / 16 + (a : Int)) 1085102592571150095 = ((sw3 8 a : Nat) : Int) := fun a => by
    have h1 := and_u64 (a := a / 16 + a) (m := 1085102592571150095) (by decide)
    rw [show (((a / 16 + a : Nat)) : Int) = (a : Int) / 16 + a by omega] at h1
    simp only [sw3, show reps 8 15 = 1085102592571150095 from rfl]
    rw [← h1]; rfl
  rw [e]
  simp only [a1, a2, a3]
  rw [ones_by_halves n]
  have hc : sw3 8 (sw2 8 (sw1 8 n)) ≤ 1085102592571150095 := Nat.and_le_right
  generalize sw3 8 (sw2 8 (sw1 8 n)) = c at *
  have e1 : (c / 256 + c) % 2 ^ 64 = c + c / 256 := by omega
  simp only [e1]
  have hd : c + c / 256 ≤ 2 * 1085102592571150095 := by omega
  generalize hd' : c + c / 256 = d at *
  have e2 : (d / 65536 + d) % 2 ^ 64 = d + d / 65536 := by omega
  simp only [e2]
  have he : d + d / 65536 ≤ 4 * 1085102592571150095 := by omega
  have d2 : (c : Int) + (c : Int) / 256 = (d : Int) := by omega
  simp only [d2]
  generalize he' : d + d / 65536 = g at *
  have g2 : (d : Int) + (d : Int) / 65536 = (g : Int) := by omega
  simp only [g2]
  omega
theorem rl32_plain (u : Nat → Int) (hk : KindOk u 0 rl32.ks) : Keeps ⟨u, fnT⟩ rl32.res rl32R := by
  obtain ⟨hr1, hr2⟩ := of_u32 hk.1
  simp only [rl32, rl32R, Keeps, chain, SameL, unOne, v, E.den, Bi.den, Un.den, true_and, and_true]
  exact rot32 hr1 hr2
theorem rl64_plain (u : Nat → Int) (hk : KindOk u 0 rl64.ks) : Keeps ⟨u, fnT⟩ rl64.res rl64R := by
  obtain ⟨hr1, hr2⟩ := of_u64 hk.1
  simp only [rl64, rl64R, Keeps, chain, SameL, unOne, v, E.den, Bi.den, Un.den, true_and, and_true]
  exact rot64 hr1 hr2

/-! ### the contracts, in a world where the table stands -/
variable {w : World} (hg : TabsOk w tab)
include hg
theorem aw1_ok : aw1.Ok Tryd.prog ⟨w, fnT⟩ := spec_run Tryd.call39 (fun _ _ => noOracle_ok _ _) (fun _ _ => noLoops_ok _ _ _) fnsKnown hg aw1Ran rfl (fun _ _ _ _ hp => by cases hp) fun _ _ _ => by simp [aw1, aw1R, Keeps, chain, SameL, unOne]
theorem aw2_ok : aw2.Ok Tryd.prog ⟨w, fnT⟩ := spec_run Tryd.call50 (fun _ _ => noOracle_ok _ _) (fun _ _ => noLoops_ok _ _ _) fnsKnown hg aw2Ran rfl (fun _ _ _ _ hp => by cases hp) fun _ _ _ => by simp [aw2, aw2R, Keeps, chain, SameL, unOne]
theorem aw3_ok : aw3.Ok Tryd.prog ⟨w, fnT⟩ := spec_run Tryd.call44 (fun _ _ => noOracle_ok _ _) (fun _ _ => noLoops_ok _ _ _) fnsKnown hg aw3Ran rfl (fun _ _ _ _ hp => by cases hp) fun _ _ _ => by simp [aw3, aw3R, Keeps, chain, SameL, unOne]
omit hg in
theorem iv_of {a b x : Int} (h1 : a ≤ x) (h2 : x ≤ b) : Iv.has (some a, some b) x := ⟨fun _ h => by cases h; exact h1, fun _ h => by cases h; exact h2⟩
theorem lz32_ok : lz32.Ok Tryd.prog ⟨w, fnT⟩ := spec_run Tryd.call53 (fun _ _ => noOracle_ok _ _) (fun _ _ => noLoops_ok _ _ _) fnsKnown hg lz32Ran rfl (fun u _ _ p hp => by
  cases hp with
  | head => exact iv_of (Int.natCast_nonneg _) (Int.ofNat_le.2 (clzF_le 32 _))
  | tail _ hp => cases hp) fun u hk _ => lz32_plain u hk
theorem lz64_ok : lz64.Ok Tryd.prog ⟨w, fnT⟩ := spec_run Tryd.call54 (fun _ _ => noOracle_ok _ _) (fun _ _ => noLoops_ok _ _ _) fnsKnown hg lz64Ran rfl (fun u _ _ p hp => by
  cases hp with
  | head => exact iv_of (Int.natCast_nonneg _) (Int.ofNat_le.2 (clzF_le 64 _))
  | tail _ hp => cases hp) fun u hk _ => lz64_plain u hk
theorem tz64_ok : tz64.Ok Tryd.prog ⟨w, fnT⟩ := spec_run Tryd.call59 (fun _ _ => noOracle_ok _ _) (fun _ _ => noLoops_ok _ _ _) fnsKnown hg tz64Ran rfl (fun u _ _ p hp => by
  cases hp with
  | head => exact iv_of (Int.natCast_nonneg _) (Int.ofNat_le.2 (ctzF_le 64 _))
  | tail _ hp => cases hp) fun u hk _ => tz64_plain u hk
theorem oc64_ok : oc64.Ok Tryd.prog ⟨w, fnT⟩ := spec_run Tryd.call60 (fun _ _ => noOracle_ok _ _) (fun _ _ => noLoops_ok _ _ _) fnsKnown hg oc64Ran rfl (fun u _ _ p hp => by
  cases hp with
  | head => exact iv_of (Int.natCast_nonneg _) (Int.ofNat_le.2 (popF_le 64 _))
  | tail _ hp => cases hp) fun u hk _ => oc64_plain u hk
theorem rl32_ok : rl32.Ok Tryd.prog ⟨w, fnT⟩ := spec_run Tryd.call61 (fun _ _ => noOracle_ok _ _) (fun _ _ => noLoops_ok _ _ _) fnsKnown hg rl32Ran rfl (fun u _ _ p hp => by
  cases hp with
  | head => exact iv_of (Int.natCast_nonneg _) (Int.ofNat_le.2 (Nat.le_of_lt_succ (rotF_lt 32 _ _)))
  | tail _ hp => cases hp) fun u hk _ => rl32_plain u hk
theorem rl64_ok : rl64.Ok Tryd.prog ⟨w, fnT⟩ := spec_run Tryd.call62 (fun _ _ => noOracle_ok _ _) (fun _ _ => noLoops_ok _ _ _) fnsKnown hg rl64Ran rfl (fun u _ _ p hp => by
  cases hp with
  | head => exact iv_of (Int.natCast_nonneg _) (Int.ofNat_le.2 (Nat.le_of_lt_succ (rotF_lt 64 _ _)))
  | tail _ hp => cases hp) fun u hk _ => rl64_plain u hk
theorem clz_ok : clzL.Ok Tryd.prog ⟨w, fnT⟩ (bodies fns) := lspec_run (fun _ _ => noOracle_ok _ _) (fun _ _ => noLoops_ok _ _ _) fnsKnown hg clzLRan rfl fun u _ _ => clz_plain u
theorem ctz_ok : ctzL.Ok Tryd.prog ⟨w, fnT⟩ (bodies fns) := lspec_run (fun _ _ => noOracle_ok _ _) (fun _ _ => noLoops_ok _ _ _) fnsKnown hg ctzLRan rfl fun u _ _ => ctz_plain u
theorem pop_ok : popL.Ok Tryd.prog ⟨w, fnT⟩ (bodies fns) := lspec_run (fun _ _ => noOracle_ok _ _) (fun _ _ => noLoops_ok _ _ _) fnsKnown hg popLRan rfl fun u _ _ => pop_plain u
theorem rot_ok : rotL.Ok Tryd.prog ⟨w, fnT⟩ (bodies fns) := lspec_run (fun _ _ => noOracle_ok _ _) (fun _ _ => noLoops_ok _ _ _) fnsKnown hg rotLRan rfl fun u hk _ => rot_plain u hk
theorem all_ok : OracleOk Tryd.prog ⟨w, fnT⟩ (specOracle all) := specOracle_ok fun sp h => by
  simp only [all, libs, List.cons_append, List.nil_append, List.mem_cons, List.not_mem_nil, or_false] at h
  rcases h with rfl | rfl | rfl | rfl | rfl | rfl | rfl | rfl | rfl
  · exact aw1_ok hg
  · exact aw2_ok hg
  · exact aw3_ok hg
  · exact lz32_ok hg
  · exact lz64_ok hg
  · exact tz64_ok hg
  · exact oc64_ok hg
  · exact rl32_ok hg
  · exact rl64_ok hg
theorem loops_ok : LoopsOk Tryd.prog ⟨w, fnT⟩ (bodies fns) (loopOracle lspecs) := loopOracle_ok fun sp h => by
  simp only [lspecs, List.mem_cons, List.not_mem_nil, or_false] at h
  rcases h with rfl | rfl | rfl | rfl
  · exact clz_ok hg
  · exact ctz_ok hg
  · exact pop_ok hg
  · exact rot_ok hg
end Go.Proofs.YtdmdjhmaanhocaaDoor.Con
