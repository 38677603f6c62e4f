/- The contract of f32n.Un, in numbers alone. No condition. -/
import Derived.Test.YtnodelimomljbaaRunOpU
import Derived.Test.YtnodelimomljbaaPlFltL
namespace Go.Proofs.Ytnodelimomljbaa.PlainOpU
open Go Go.Sx Go.Sx.Flt Go.Proofs.Ytnodelimomljbaa.RunOpU

theorem unOne2 (a b : Option IntKind × E) (vs : List V) : unOne [a, b].length (.tup vs) = vs := rfl
theorem i64_wrap1 (n m : Int) : IntKind.i64.wrap (n + m) = (n + m + 9223372036854775808) % 18446744073709551616 - 9223372036854775808 := by
  simp only [IntKind.wrap, IntKind.bits, IntKind.signed]; simp; split <;> omega
theorem unV_den (ρ : Env) : unTV32.den ρ = (selF unT32L (.lit 0) (ρ.v 0)).den ρ := den_sel _ _ _
theorem unE_den (ρ : Env) : unTE32.den ρ = (selF ([139, 140, 141, 142, 143, 144].map fun k => (k, .lit 0)) (.lit 400) (ρ.v 0)).den ρ := den_sel _ _ _
set_option linter.unusedSimpArgs false
set_option linter.unusedVariables false
theorem un_plain (u : Nat → Int) (hk : KindOk u 0 unT32.ks) : Keeps ⟨u, fnF⟩ unT32.res unR := by
  have h0 : -9223372036854775808 ≤ u 0 ∧ u 0 ≤ 9223372036854775807 := of_kind hk.1
  simp only [unT32, unR, Keeps, chain, unOne2, SameL, E.prop, E.den, Bi.den, Un.den, true_and, and_true, unV_den, unE_den, i64_wrap1]
  refine ⟨?_, ?_, ?_, ?_, ?_, ?_, ?_, ?_, ?_, ?_, ?_, ?_, ?_, ?_, ?_, ?_, ?_, ?_, ?_, ?_, ?_, ?_, ?_, ?_, ?_, ?_, ?_⟩
  · intros
    have h : u 0 = 139 := by omega
    have e1 : selF unT32L (.lit 0) 139 = u32 (bi (.bits .andNot .i64) (v 1) sign32) := rfl
    have e2 : selF ([139, 140, 141, 142, 143, 144].map fun k => (k, .lit 0)) (.lit 400) 139 = .lit 0 := rfl
    simp only [h, e1, e2]
    clear e1 e2
    simp_all [wholeE32, nan32, x32, sign32, bi, no, un, Flt.u32, v, E.den, Bi.den, Un.den, b2i]
  · intros
    have h : u 0 = 140 := by omega
    have e1 : selF unT32L (.lit 0) 140 = u32 (bi (.bits .xor .i64) (v 1) sign32) := rfl
    have e2 : selF ([139, 140, 141, 142, 143, 144].map fun k => (k, .lit 0)) (.lit 400) 140 = .lit 0 := rfl
    simp only [h, e1, e2]
    clear e1 e2
    simp_all [wholeE32, nan32, x32, sign32, bi, no, un, Flt.u32, v, E.den, Bi.den, Un.den, b2i]
  · intros
    have h : u 0 = 141 := by omega
    have e1 : selF unT32L (.lit 0) 141 = wholeE32 .up := rfl
    have e2 : selF ([139, 140, 141, 142, 143, 144].map fun k => (k, .lit 0)) (.lit 400) 141 = .lit 0 := rfl
    simp only [h, e1, e2]
    clear e1 e2
    simp_all [wholeE32, nan32, x32, sign32, bi, no, un, Flt.u32, v, E.den, Bi.den, Un.den, b2i]
  · intros
    exact absurd (by assumption) (whole32_ne (by assumption))
  · intros
    exact absurd (by assumption) (whole32_ne (by assumption))
  · intros
    have h : u 0 = 142 := by omega
    have e1 : selF unT32L (.lit 0) 142 = wholeE32 .down := rfl
    have e2 : selF ([139, 140, 141, 142, 143, 144].map fun k => (k, .lit 0)) (.lit 400) 142 = .lit 0 := rfl
    simp only [h, e1, e2]
    clear e1 e2
    simp_all [wholeE32, nan32, x32, sign32, bi, no, un, Flt.u32, v, E.den, Bi.den, Un.den, b2i]
  · intros
    exact absurd (by assumption) (whole32_ne (by assumption))
  · intros
    exact absurd (by assumption) (whole32_ne (by assumption))
  · intros
    have h : u 0 = 143 := by omega
    have e1 : selF unT32L (.lit 0) 143 = wholeE32 .zero := rfl
    have e2 : selF ([139, 140, 141, 142, 143, 144].map fun k => (k, .lit 0)) (.lit 400) 143 = .lit 0 := rfl
    simp only [h, e1, e2]
    clear e1 e2
    simp_all [wholeE32, nan32, x32, sign32, bi, no, un, Flt.u32, v, E.den, Bi.den, Un.den, b2i]
  · intros
    exact absurd (by assumption) (whole32_ne (by assumption))
  · intros
    exact absurd (by assumption) (whole32_ne (by assumption))
  · intros
    have h : u 0 = 144 := by omega
    have e1 : selF unT32L (.lit 0) 144 = wholeE32 .even := rfl
    have e2 : selF ([139, 140, 141, 142, 143, 144].map fun k => (k, .lit 0)) (.lit 400) 144 = .lit 0 := rfl
    simp only [h, e1, e2]
    clear e1 e2
    simp_all [wholeE32, nan32, x32, sign32, bi, no, un, Flt.u32, v, E.den, Bi.den, Un.den, b2i]
  · intros
    exact absurd (by assumption) (whole32_ne (by assumption))
  · intros
    exact absurd (by assumption) (whole32_ne (by assumption))
  · intros
    exfalso; omega
  · intros
    exfalso; omega
  · intros
    exfalso; omega
  · intros
    exfalso; omega
  · intros
    rw [selF_none _ _ _ (by intro p hp; simp [unT32L] at hp; omega), selF_none _ _ _ (by intro p hp; simp at hp; omega)]
    exact ⟨rfl, rfl⟩
  · intros
    have h : u 0 = 139 := by omega
    have e1 : selF unT32L (.lit 0) 139 = u32 (bi (.bits .andNot .i64) (v 1) sign32) := rfl
    have e2 : selF ([139, 140, 141, 142, 143, 144].map fun k => (k, .lit 0)) (.lit 400) 139 = .lit 0 := rfl
    simp only [h, e1, e2]
    clear e1 e2
    simp_all [wholeE32, nan32, x32, sign32, bi, no, un, Flt.u32, v, E.den, Bi.den, Un.den, b2i]
  · intros
    have h : u 0 = 140 := by omega
    have e1 : selF unT32L (.lit 0) 140 = u32 (bi (.bits .xor .i64) (v 1) sign32) := rfl
    have e2 : selF ([139, 140, 141, 142, 143, 144].map fun k => (k, .lit 0)) (.lit 400) 140 = .lit 0 := rfl
    simp only [h, e1, e2]
    clear e1 e2
    simp_all [wholeE32, nan32, x32, sign32, bi, no, un, Flt.u32, v, E.den, Bi.den, Un.den, b2i]
  · intros
    have h : u 0 = 141 := by omega
    have e1 : selF unT32L (.lit 0) 141 = wholeE32 .up := rfl
    have e2 : selF ([139, 140, 141, 142, 143, 144].map fun k => (k, .lit 0)) (.lit 400) 141 = .lit 0 := rfl
    simp only [h, e1, e2]
    clear e1 e2
    simp_all [wholeE32, nan32, x32, sign32, bi, no, un, Flt.u32, v, E.den, Bi.den, Un.den, b2i]
  · intros
    have h : u 0 = 142 := by omega
    have e1 : selF unT32L (.lit 0) 142 = wholeE32 .down := rfl
    have e2 : selF ([139, 140, 141, 142, 143, 144].map fun k => (k, .lit 0)) (.lit 400) 142 = .lit 0 := rfl
    simp only [h, e1, e2]
    clear e1 e2
    simp_all [wholeE32, nan32, x32, sign32, bi, no, un, Flt.u32, v, E.den, Bi.den, Un.den, b2i]
  · intros
    have h : u 0 = 143 := by omega
    have e1 : selF unT32L (.lit 0) 143 = wholeE32 .zero := rfl
    have e2 : selF ([139, 140, 141, 142, 143, 144].map fun k => (k, .lit 0)) (.lit 400) 143 = .lit 0 := rfl
    simp only [h, e1, e2]
    clear e1 e2
    simp_all [wholeE32, nan32, x32, sign32, bi, no, un, Flt.u32, v, E.den, Bi.den, Un.den, b2i]
  · intros
    have h : u 0 = 144 := by omega
    have e1 : selF unT32L (.lit 0) 144 = wholeE32 .even := rfl
    have e2 : selF ([139, 140, 141, 142, 143, 144].map fun k => (k, .lit 0)) (.lit 400) 144 = .lit 0 := rfl
    simp only [h, e1, e2]
    clear e1 e2
    simp_all [wholeE32, nan32, x32, sign32, bi, no, un, Flt.u32, v, E.den, Bi.den, Un.den, b2i]
  · intros
    exfalso; omega
  · intros
    rw [selF_none _ _ _ (by intro p hp; simp [unT32L] at hp; omega), selF_none _ _ _ (by intro p hp; simp at hp; omega)]
    exact ⟨rfl, rfl⟩
theorem uT (u : Nat → Int) : 0 ≤ (selF unT32L (.lit 0) (u 0)).den ⟨u, fnF⟩ ∧ (selF unT32L (.lit 0) (u 0)).den ⟨u, fnF⟩ ≤ 4294967295 := by
  have ll : ∀ e : E, 0 ≤ (Flt.u32 e).den ⟨u, fnF⟩ ∧ (Flt.u32 e).den ⟨u, fnF⟩ ≤ 4294967295 := fun e => of_kind (has_kind .u32 _)
  have ww : ∀ w, 0 ≤ (wholeE32 w).den ⟨u, fnF⟩ ∧ (wholeE32 w).den ⟨u, fnF⟩ ≤ 4294967295 := fun w => by
    simp only [wholeE32, bi, un, nan32, x32, Flt.u32, v, E.den, Bi.den, Un.den, b2i_ne, beq_iff_eq]
    split
    · decide
    · rename_i h
      rw [w32_eq] at *
      exact whole32_rng (w32_in (u 1)) w h
  have rng : ∀ (l : List (Int × E)) (d : E) (n : Int), (∀ p ∈ l, 0 ≤ p.2.den ⟨u, fnF⟩ ∧ p.2.den ⟨u, fnF⟩ ≤ 4294967295) → (0 ≤ d.den ⟨u, fnF⟩ ∧ d.den ⟨u, fnF⟩ ≤ 4294967295) → 0 ≤ (selF l d n).den ⟨u, fnF⟩ ∧ (selF l d n).den ⟨u, fnF⟩ ≤ 4294967295 := by
    intro l d n
    induction l with
    | nil => exact fun _ h => h
    | cons p r ih =>
      intro h hd
      obtain ⟨k, e⟩ := p
      simp only [selF]
      by_cases hk : n = k
      · rw [if_pos hk]; exact h _ List.mem_cons_self
      · rw [if_neg hk]; exact ih (fun q hq => h q (List.mem_cons_of_mem _ hq)) hd
  refine rng _ _ _ (fun p hp => ?_) (by simp [E.den])
  simp only [unT32L, List.mem_cons, List.not_mem_nil, or_false] at hp
  rcases hp with rfl | rfl | rfl | rfl | rfl | rfl <;> first | exact ww _ | exact ll _
end Go.Proofs.Ytnodelimomljbaa.PlainOpU
