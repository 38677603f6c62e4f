/- A law over arguments of which some are rows that came in. -/
import Derived.Test.YtjgobpmhdeancaaSx2
namespace Go.Sx
open Go
def envI (v : Nat → Int) (fn : Nat → Int → Int → Int → Int) (raw : Nat → Value) : Env2 := { v := v, fn := fn, blk := fun _ => 0, raw := raw }
def startI (nv : Nat) (bd : Bd) (pre : List E) (inp : List InSpec) : St := { start nv bd pre [] with inp := inp }
def runOfI (P : Program) (orc : Oracle) (lo : LoopOracle) (bs : Bodies) (inp : List InSpec) (fuel f n : Nat) (bd : Bd) (pre : List E) (args : List V) : Option (List Leaf) :=
  match callBy P noOracle bs (exec P orc lo bs fuel) f (startI n bd pre inp) args with
  | some l => some (leaves l)
  | none => none
theorem relW_startI {w0 : Base} {w : World} (hx : Ext w0.w w) {v : Nat → Int} {raw : Nat → Value} {nv : Nat} {bd : Bd} {pre : List E} {inp : List InSpec} (hin : ∀ ρ : Env2, ρ.fn = w0.fn → ρ.raw = raw → ∀ sp ∈ inp, InOk w0.w ρ sp)
    (h : ∀ ρ', Le (startI nv bd pre inp) (envI v w0.fn raw) ρ' → bd.ok ρ'.toEnv ∧ pcOk ρ'.toEnv pre) : RelW w0 (envI v w0.fn raw) (startI nv bd pre inp) w := fun ρ' hle =>
  ⟨hx, hle.2.2.1, fun i o ho => by simp [startI, start, T.get] at ho, fun i j o o' ho => by simp [startI, start, T.get] at ho, ⟨fun p hp => (by cases hp), fun sp hsp => hin ρ' hle.2.2.1 hle.2.2.2 sp hsp⟩, ok_supposeAll (h ρ' hle).1 (h ρ' hle).2, (h ρ' hle).2⟩
theorem law_callsI {P : Program} {orc : Oracle} {lo : LoopOracle} {fns : List (Nat × Func)} {w : World} (fn : Nat → Int → Int → Int → Int) (raw : Nat → Value) (ho : OracleOk P ⟨w, fn⟩ orc) (hlo : LoopsOk P ⟨w, fn⟩ (bodies fns) lo) (hf : AllKnown P fns) {inp : List InSpec}
    (hin : ∀ ρ : Env2, ρ.fn = fn → ρ.raw = raw → ∀ sp ∈ inp, InOk w ρ sp) {fuel f n : Nat} {bd : Bd} {pre : List E} {args : List V} {ls : List Leaf}
    (hrun : runOfI P orc lo (bodies fns) inp fuel f n bd pre args = some ls) (v : Nat → Int) (hv : ∀ u : Nat → Int, (∀ j, j < n → u j = v j) → bd.ok ⟨u, fn⟩ ∧ pcOk ⟨u, fn⟩ pre) (xs : List Value)
    (hx : ∀ ρ : Env2, (∀ j, j < n → ρ.v j = v j) → ρ.fn = fn → ρ.raw = raw → V.denL ρ args = xs) (hl : ∀ u : Nat → Int, (∀ j, j < n → u j = v j) → Law ⟨u, fn⟩ ls) :
    Calls P f xs.toArray w fun e w' => e = .returned (.bool true) ∧ RowKit.Grown w w' ∧ ∀ i, i < w.heap.size → w'.heap[i]? = w.heap[i]? := by
  have hbs := bodies_ok hf
  unfold runOfI at hrun
  split at hrun
  · rename_i l hl'
    cases hrun
    have hc := callBy_ok (noOracle_ok P ⟨w, fn⟩) hbs (exec_ok ho hbs hlo fuel)
    have hle : ∀ {ρ' : Env2}, Le (startI n bd pre inp) (envI v fn raw) ρ' → ∀ j, j < n → ρ'.v j = v j := fun h j hj => h.2.1 j hj
    have hent : ∀ ys w', (callFunc f ys).run P w' = .ok (.enter f ys) w' := by
      have h0 := hl'
      simp only [callBy, noOracle] at h0
      split at h0
      · cases h0
      · rename_i k hk; exact (hbs f k hk).2.2
    have hfn : ∀ {ρ' : Env2}, ρ'.fn = fn → (⟨ρ'.v, fn⟩ : Env) = ρ'.toEnv := fun {ρ'} h => by rw [← h]
    have h2 := hc _ _ _ _ hl' (envI v fn raw) w (relW_startI (w0 := ⟨w, fn⟩) (Ext.refl w) hin fun ρ' h => by
      have := hv _ (hle h)
      rw [hfn h.2.2.1] at this
      exact this) xs (fun ρ' h => hx ρ' (hle h) h.2.2.1 h.2.2.2)
    have h2 := h2.resolve_right fun ⟨x, w1, hv1, _⟩ => by rw [hent] at hv1; cases hv1
    refine h2.2.mono ?_
    rintro e w1 ⟨out, hout, x, ρ1, rfl, hle1, _, _, hw1, hx1⟩
    have h0 := hw1.to
    rw [← hx1 ρ1 (Le.refl _ _)]
    refine ⟨?_, h0.ext.grown, h0.ext.old⟩
    obtain ⟨be, hbe, hch⟩ := law_at (hl ρ1.v (hle hle1)) (out.2.pc, out.1) (List.mem_map.2 ⟨out, hout, rfl⟩)
    rw [hfn hle1.2.2.1] at hch
    have hp := chain_of h0.pc hch
    simp only at hbe
    rw [hbe]
    simp only [V.den]
    rw [show (be.den ρ1.toEnv != 0) = true from by simpa using (E.prop_iff ρ1.toEnv be).1 hp]
  · cases hrun

/-! ### codes: a row of numbers as one number -/
def digit (c : Nat) : Nat → Nat
  | 0 => c % 2 ^ 66
  | j + 1 => digit (c / 2 ^ 66) j
def deco (j c : Int) : Int := (digit c.toNat j.toNat : Int) - 9223372036854775808
def enco : List Int → Nat
  | [] => 0
  | x :: r => (x + 9223372036854775808).toNat + 2 ^ 66 * enco r
theorem digit_enco : ∀ (l : List Int), (∀ x ∈ l, -9223372036854775808 ≤ x ∧ x ≤ 18446744073709551615) → ∀ (j : Nat) (x : Int), l[j]? = some x → (digit (enco l) j : Int) - 9223372036854775808 = x
  | [], _, j, x, h => by simp at h
  | y :: r, hl, j, x, h => by
    have hy := hl y List.mem_cons_self
    have hlt : (y + 9223372036854775808).toNat < 2 ^ 66 := by omega
    cases j with
    | zero =>
      simp at h
      subst h
      simp only [digit, enco]
      rw [Nat.add_mul_mod_self_left, Nat.mod_eq_of_lt hlt]
      omega
    | succ j =>
      simp only [digit, enco]
      rw [Nat.add_mul_div_left _ _ (by decide), Nat.div_eq_of_lt hlt, Nat.zero_add]
      exact digit_enco r (fun z hz => hl z (List.mem_cons_of_mem _ hz)) j x (by simpa using h)
def deco1 (j c : Int) : Int := if -1 ≤ deco j c ∧ deco j c ≤ 9223372036854775807 then deco j c else -1
theorem codeOk_of {fn : Nat → Int → Int → Int → Int} (h : ∀ j c, fn 90 j c 0 = deco j c) (h1 : ∀ j c, fn 91 j c 0 = deco1 j c) : CodeOk fn := by
  have h0 : ∀ (n : Nat) (g : Nat → Int), (∀ j, j < n → -9223372036854775808 ≤ g j ∧ g j ≤ 18446744073709551615) → ∃ c : Int, ∀ j : Nat, j < n → deco (j : Int) c = g j := by
    intro n g hg
    refine ⟨((enco ((List.range n).map g) : Nat) : Int), fun j hj => ?_⟩
    unfold deco
    rw [Int.toNat_natCast, Int.toNat_natCast]
    refine digit_enco _ (fun x hx => ?_) j _ (by simp [hj])
    obtain ⟨i, hi, rfl⟩ := List.mem_map.1 hx
    exact hg i (List.mem_range.1 hi)
  refine ⟨fun n g hg => ?_, fun n g hg => ?_, fun j c => ?_⟩
  · obtain ⟨c, hc⟩ := h0 n g hg
    exact ⟨c, fun j hj => by rw [h, hc j hj]⟩
  · obtain ⟨c, hc⟩ := h0 n g fun j hj => by have := hg j hj; omega
    exact ⟨c, fun j hj => by rw [h1, deco1, hc j hj, if_pos (hg j hj)]⟩
  · rw [h1, IntKind.wrap_i64, deco1]
    split <;> omega
end Go.Sx
