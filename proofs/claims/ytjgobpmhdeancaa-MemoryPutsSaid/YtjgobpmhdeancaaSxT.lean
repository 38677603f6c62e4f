/- A law over arguments that are told by names: numbers, bools, strings. -/
import Derived.Test.YtjgobpmhdeancaaSxO
namespace Go.Sx
open Go
def runOfV (P : Program) (orc : Oracle) (lo : LoopOracle) (bs : Bodies) (gl : Tabs) (fuel f n : Nat) (bd : Bd) (args : List V) : Option (List Leaf) :=
  match callBy P noOracle bs (exec P orc lo bs fuel) f (start n bd [] gl) args with
  | some l => some (leaves l)
  | none => none
theorem law_callsV {P : Program} {orc : Oracle} {lo : LoopOracle} {fns : List (Nat × Func)} {w : World} (fn : Nat → Int → Int → Int → Int) (ho : OracleOk P ⟨w, fn⟩ orc) (hlo : LoopsOk P ⟨w, fn⟩ (bodies fns) lo) (hf : AllKnown P fns) {gl : Tabs} (hg : TabsOk w gl) {fuel f n : Nat} {bd : Bd} {args : List V} {ls : List Leaf}
    (hrun : runOfV P orc lo (bodies fns) gl fuel f n bd args = some ls) (v : Nat → Int) (hv : ∀ u : Nat → Int, (∀ j, j < n → u j = v j) → bd.ok ⟨u, fn⟩) (xs : List Value)
    (hx : ∀ ρ : Env2, (∀ j, j < n → ρ.v j = v j) → ρ.fn = fn → V.denL ρ args = xs) (hl : ∀ u : Nat → Int, (∀ j, j < n → u j = v j) → Law ⟨u, fn⟩ ls) :
    Calls P f xs.toArray w fun e w' => e = .returned (.bool true) ∧ RowKit.Grown w w' := by
  have hbs := bodies_ok hf
  unfold runOfV at hrun
  split at hrun
  · rename_i l hl'
    cases hrun
    have hc := callBy_ok (noOracle_ok P ⟨w, fn⟩) hbs (exec_ok ho hbs hlo fuel)
    have hle : ∀ {ρ' : Env2}, Le (start n bd [] gl) (env v fn) ρ' → ∀ j, j < n → ρ'.v j = v j := fun h j hj => h.2.1 j hj
    have hent : ∀ ys w', (callFunc f ys).run P w' = .ok (.enter f ys) w' := by
      have h0 := hl'
      simp only [callBy, noOracle] at h0
      split at h0
      · cases h0
      · rename_i k hk; exact (hbs f k hk).2.2
    have hfn : ∀ {ρ' : Env2}, ρ'.fn = fn → (⟨ρ'.v, fn⟩ : Env) = ρ'.toEnv := fun {ρ'} h => by rw [← h]
    have h2 := hc _ _ _ _ hl' (env v fn) w (relW_start (w0 := ⟨w, fn⟩) (Ext.refl w) hg fun ρ' h => ⟨by rw [← hfn h.2.2.1]; exact hv _ (hle h), fun e he => by cases he⟩) xs
      (fun ρ' h => hx ρ' (hle h) h.2.2.1)
    have h2 := h2.resolve_right fun ⟨x, w1, hv1, _⟩ => by rw [hent] at hv1; cases hv1
    refine h2.2.mono ?_
    rintro e w1 ⟨out, hout, x, ρ1, rfl, hle1, _, _, hw1, hx1⟩
    have h0 := hw1.to
    rw [← hx1 ρ1 (Le.refl _ _)]
    refine ⟨?_, h0.ext.grown⟩
    obtain ⟨be, hbe, hch⟩ := law_at (hl ρ1.v (hle hle1)) (out.2.pc, out.1) (List.mem_map.2 ⟨out, hout, rfl⟩)
    rw [hfn hle1.2.2.1] at hch
    have hp := chain_of h0.pc hch
    simp only at hbe
    rw [hbe]
    simp only [V.den]
    rw [show (be.den ρ1.toEnv != 0) = true from by simpa using (E.prop_iff ρ1.toEnv be).1 hp]
  · cases hrun
end Go.Sx
