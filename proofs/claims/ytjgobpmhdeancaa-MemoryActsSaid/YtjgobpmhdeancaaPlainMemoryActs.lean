/- The law MemoryActs in numbers alone: what the two load is the same number; the cases of a round are all. No condition. -/
import Derived.Test.YtjgobpmhdeancaaGsMemoryActs
import Derived.Test.YtjgobpmhdeancaaPlClause
import Derived.Test.YtjgobpmhdeancaaPlByte
namespace Go.Proofs.Ytjgobpmhdeancaa.PlainMemoryActs
open Go Go.Sx Go.Proofs.Ytjgobpmhdeancaa.GsMemoryActs
set_option maxRecDepth 100000
variable (ρ : Env)
abbrev by8 (e : E) : E := .un (.wrap .u8) e
abbrev one (e : E) : E := .bin (.bits .or .i64) (.lit 0) (by8 e)
abbrev up (x e : E) : E := .bin (.bits .or .i64) (.un (.wrap .i64) (.bin .mul x (.lit 256))) (by8 e)
theorem wrap64 {n : Int} (h : -9223372036854775808 ≤ n ∧ n ≤ 9223372036854775807) : IntKind.i64.wrap n = n := by rw [IntKind.wrap_i64]; omega
theorem r1 (e : E) : 0 ≤ (one e).den ρ ∧ (one e).den ρ < 256 := by
  simp only [one, by8, E.den, Bi.den, Un.den, u8_wrap]
  rw [or_zero (by omega)]
  omega
theorem rup {x : E} {m : Int} (h : 0 ≤ x.den ρ ∧ x.den ρ < m) (hm : m ≤ 16777216) (e : E) : 0 ≤ (up x e).den ρ ∧ (up x e).den ρ < m * 256 := by
  simp only [up, by8, E.den, Bi.den, Un.den, u8_wrap]
  rw [or_step rfl (by omega) (by omega)]
  omega
theorem r2 (e f : E) : 0 ≤ (up (one e) f).den ρ ∧ (up (one e) f).den ρ < 65536 := rup ρ (r1 ρ e) (by decide) f
theorem r3 (e f g : E) : 0 ≤ (up (up (one e) f) g).den ρ ∧ (up (up (one e) f) g).den ρ < 16777216 := rup ρ (r2 ρ e f) (by decide) g
theorem r4 (e f g h : E) : 0 ≤ (up (up (up (one e) f) g) h).den ρ ∧ (up (up (up (one e) f) g) h).den ρ < 4294967296 := rup ρ (r3 ρ e f g) (by decide) h
section
variable {ρ} {x : E}
theorem low (h : 0 ≤ x.den ρ ∧ x.den ρ < 4294967296) : chain ρ False [nt (.bin .eq (.un (.wrap .u32) x) x)] := by
  simp only [chain, nt, E.prop, E.den, Bi.den, Un.den, u32_wrap]
  intro h1
  exact h1 (by omega)
theorem s8 (h : 0 ≤ x.den ρ ∧ x.den ρ < 256) : chain ρ False [nt (.bin .eq (.un (.wrap .u32) (.bin .ediv (.un (.wrap .i64) (.bin .mul x (.lit 72057594037927936))) (.lit 72057594037927936))) (.un (.wrap .u32) (.bin .add x (.lit (-256))))), .bin .eq (.bin .emod (.bin .ediv x (.lit 128)) (.lit 2)) (.lit 1)] := by
  simp only [chain, nt, E.prop, E.den, Bi.den, Un.den, u32_wrap, IntKind.wrap_i64]
  intro h1 h2
  exact h2 (by omega)
theorem p8 (h : 0 ≤ x.den ρ ∧ x.den ρ < 256) : chain ρ False [nt (.bin .eq (.un (.wrap .u32) (.bin .ediv (.un (.wrap .i64) (.bin .mul x (.lit 72057594037927936))) (.lit 72057594037927936))) (.un (.wrap .u32) x)), nt (.bin .eq (.bin .emod (.bin .ediv x (.lit 128)) (.lit 2)) (.lit 1))] := by
  simp only [chain, nt, E.prop, E.den, Bi.den, Un.den, u32_wrap, IntKind.wrap_i64]
  intro h1 h2
  exact h1 (by omega)
theorem s16 (h : 0 ≤ x.den ρ ∧ x.den ρ < 65536) : chain ρ False [nt (.bin .eq (.un (.wrap .u32) (.bin .ediv (.un (.wrap .i64) (.bin .mul x (.lit 281474976710656))) (.lit 281474976710656))) (.un (.wrap .u32) (.bin .add x (.lit (-65536))))), .bin .eq (.bin .emod (.bin .ediv x (.lit 32768)) (.lit 2)) (.lit 1)] := by
  simp only [chain, nt, E.prop, E.den, Bi.den, Un.den, u32_wrap, IntKind.wrap_i64]
  intro h1 h2
  exact h2 (by omega)
theorem p16 (h : 0 ≤ x.den ρ ∧ x.den ρ < 65536) : chain ρ False [nt (.bin .eq (.un (.wrap .u32) (.bin .ediv (.un (.wrap .i64) (.bin .mul x (.lit 281474976710656))) (.lit 281474976710656))) (.un (.wrap .u32) x)), nt (.bin .eq (.bin .emod (.bin .ediv x (.lit 32768)) (.lit 2)) (.lit 1))] := by
  simp only [chain, nt, E.prop, E.den, Bi.den, Un.den, u32_wrap, IntKind.wrap_i64]
  intro h1 h2
  exact h1 (by omega)
theorem ws8 (h : 0 ≤ x.den ρ ∧ x.den ρ < 256) : chain ρ False [nt (.bin .eq (.bin .ediv (.un (.wrap .i64) (.bin .mul x (.lit 72057594037927936))) (.lit 72057594037927936)) (.un (.wrap .i64) (.bin .add x (.lit (-256))))), .bin .eq (.bin .emod (.bin .ediv x (.lit 128)) (.lit 2)) (.lit 1)] := by
  simp only [chain, nt, E.prop, E.den, Bi.den, Un.den, IntKind.wrap_i64]
  intro h1 h2
  exact h2 (by omega)
theorem wp8 (h : 0 ≤ x.den ρ ∧ x.den ρ < 256) : chain ρ False [nt (.bin .eq (.bin .ediv (.un (.wrap .i64) (.bin .mul x (.lit 72057594037927936))) (.lit 72057594037927936)) x), nt (.bin .eq (.bin .emod (.bin .ediv x (.lit 128)) (.lit 2)) (.lit 1))] := by
  simp only [chain, nt, E.prop, E.den, Bi.den, Un.den, IntKind.wrap_i64]
  intro h1 h2
  exact h1 (by omega)
theorem ws16 (h : 0 ≤ x.den ρ ∧ x.den ρ < 65536) : chain ρ False [nt (.bin .eq (.bin .ediv (.un (.wrap .i64) (.bin .mul x (.lit 281474976710656))) (.lit 281474976710656)) (.un (.wrap .i64) (.bin .add x (.lit (-65536))))), .bin .eq (.bin .emod (.bin .ediv x (.lit 32768)) (.lit 2)) (.lit 1)] := by
  simp only [chain, nt, E.prop, E.den, Bi.den, Un.den, IntKind.wrap_i64]
  intro h1 h2
  exact h2 (by omega)
theorem wp16 (h : 0 ≤ x.den ρ ∧ x.den ρ < 65536) : chain ρ False [nt (.bin .eq (.bin .ediv (.un (.wrap .i64) (.bin .mul x (.lit 281474976710656))) (.lit 281474976710656)) x), nt (.bin .eq (.bin .emod (.bin .ediv x (.lit 32768)) (.lit 2)) (.lit 1))] := by
  simp only [chain, nt, E.prop, E.den, Bi.den, Un.den, IntKind.wrap_i64]
  intro h1 h2
  exact h1 (by omega)
theorem ws32 (h : 0 ≤ x.den ρ ∧ x.den ρ < 4294967296) : chain ρ False [nt (.bin .eq (.bin .ediv (.un (.wrap .i64) (.bin .mul x (.lit 4294967296))) (.lit 4294967296)) (.un (.wrap .i64) (.bin .add x (.lit (-4294967296))))), .bin .eq (.bin .emod (.bin .ediv x (.lit 2147483648)) (.lit 2)) (.lit 1)] := by
  simp only [chain, nt, E.prop, E.den, Bi.den, Un.den, IntKind.wrap_i64]
  intro h1 h2
  exact h2 (by omega)
theorem wp32 (h : 0 ≤ x.den ρ ∧ x.den ρ < 4294967296) : chain ρ False [nt (.bin .eq (.bin .ediv (.un (.wrap .i64) (.bin .mul x (.lit 4294967296))) (.lit 4294967296)) x), nt (.bin .eq (.bin .emod (.bin .ediv x (.lit 2147483648)) (.lit 2)) (.lit 1))] := by
  simp only [chain, nt, E.prop, E.den, Bi.den, Un.den, IntKind.wrap_i64]
  intro h1 h2
  exact h1 (by omega)
end
theorem small1 (e : E) : 0 ≤ (one e).den ρ ∧ (one e).den ρ < 4294967296 := by have := r1 ρ e; omega
theorem small2 (e f : E) : 0 ≤ (up (one e) f).den ρ ∧ (up (one e) f).den ρ < 4294967296 := by have := r2 ρ e f; omega
theorem clauses : ClausesOk ρ cl := ⟨low (r4 ρ _ _ _ _), s8 (r1 ρ _), p8 (r1 ρ _), low (small1 ρ _), s16 (r2 ρ _ _), p16 (r2 ρ _ _), low (small2 ρ _ _), ws8 (r1 ρ _), wp8 (r1 ρ _), ws16 (r2 ρ _ _), wp16 (r2 ρ _ _), ws32 (r4 ρ _ _ _ _), wp32 (r4 ρ _ _ _ _), trivial⟩
theorem clOk (fn : Nat → Int → Int → Int → Int) : ClOk fn cl := fun c hc v h => by
  have h1 := clauses_at (clauses ⟨v, fn⟩) c hc
  exact chain_one h1 fun e he => (E.prop_iff _ _).2 (h e he)
theorem cover (fn : Nat → Int → Int → Int → Int) (v : Nat → Int) : ∃ c ∈ acts, ∀ e ∈ c, e.den ⟨v, fn⟩ ≠ 0 := by
  have le : ∀ a b : E, a.den ⟨v, fn⟩ ≤ b.den ⟨v, fn⟩ → E.den ⟨v, fn⟩ (.bin .le a b) ≠ 0 := fun a b h => (E.prop_iff ⟨v, fn⟩ (.bin .le a b)).1 h
  have lt : ∀ a b : E, a.den ⟨v, fn⟩ < b.den ⟨v, fn⟩ → E.den ⟨v, fn⟩ (.bin .lt a b) ≠ 0 := fun a b h => (E.prop_iff ⟨v, fn⟩ (.bin .lt a b)).1 h
  by_cases h0 : fn 1 0 0 0 ≤ v 1
  · exact ⟨_, List.mem_cons_self, fun e he => by
      simp only [List.mem_cons, List.not_mem_nil, or_false] at he
      subst he; exact le _ _ h0⟩
  by_cases h1 : 200 ≤ v 1
  · exact ⟨_, List.mem_cons_of_mem _ List.mem_cons_self, fun e he => by
      simp only [List.mem_cons, List.not_mem_nil, or_false] at he
      subst he; exact le _ _ h1⟩
  have g : ∀ e ∈ going, E.den ⟨v, fn⟩ e ≠ 0 := fun e he => by
    simp only [going, List.mem_cons, List.not_mem_nil, or_false] at he
    rcases he with rfl | rfl
    · exact lt _ _ (by show v 1 < fn 1 0 0 0; omega)
    · exact lt _ _ (by show v 1 < 200; omega)
  by_cases h2 : kindA.den ⟨v, fn⟩ < 4
  · by_cases h3 : opA'.den ⟨v, fn⟩ ≤ 57
    · exact ⟨_, List.mem_of_getElem? (i := 2) rfl, fun e he => by
        simp only [List.mem_cons] at he
        rcases he with rfl | rfl | he
        · exact lt _ _ h2
        · exact le _ _ h3
        · exact g e he⟩
    · exact ⟨_, List.mem_of_getElem? (i := 3) rfl, fun e he => by
        simp only [List.mem_cons] at he
        rcases he with rfl | rfl | he
        · exact lt _ _ h2
        · exact le _ _ (by show (58 : Int) ≤ opA'.den ⟨v, fn⟩; omega)
        · exact g e he⟩
  by_cases h4 : kindA.den ⟨v, fn⟩ < 8
  · by_cases h3 : opA'.den ⟨v, fn⟩ ≤ 47
    · exact ⟨_, List.mem_of_getElem? (i := 4) rfl, fun e he => by
        simp only [List.mem_cons] at he
        rcases he with rfl | rfl | rfl | he
        · exact le _ _ (by show (4 : Int) ≤ kindA.den ⟨v, fn⟩; omega)
        · exact lt _ _ h4
        · exact le _ _ h3
        · exact g e he⟩
    · exact ⟨_, List.mem_of_getElem? (i := 5) rfl, fun e he => by
        simp only [List.mem_cons] at he
        rcases he with rfl | rfl | rfl | he
        · exact le _ _ (by show (4 : Int) ≤ kindA.den ⟨v, fn⟩; omega)
        · exact lt _ _ h4
        · exact le _ _ (by show (48 : Int) ≤ opA'.den ⟨v, fn⟩; omega)
        · exact g e he⟩
  · exact ⟨_, List.mem_of_getElem? (i := 6) rfl, fun e he => by
      simp only [List.mem_cons] at he
      rcases he with rfl | he
      · exact le _ _ (by show (8 : Int) ≤ kindA.den ⟨v, fn⟩; omega)
      · exact g e he⟩
end Go.Proofs.Ytjgobpmhdeancaa.PlainMemoryActs
