/- Leaves of a run that cannot be, told by a few conditions that cannot hold together. No condition. -/
import Derived.Test.YtjgobpmhdeancaaPlFact
namespace Go.Sx
open Go

def ClausesOk (ρ : Env) : List (List E) → Prop
  | [] => True
  | c :: r => chain ρ False c ∧ ClausesOk ρ r
theorem clauses_at {ρ : Env} : ∀ {cs : List (List E)}, ClausesOk ρ cs → ∀ c ∈ cs, chain ρ False c
  | [], _, c, hc => by cases hc
  | d :: r, h, c, hc => by
    cases hc with
    | head => exact h.1
    | tail _ hc => exact clauses_at h.2 c hc
theorem chain_all {ρ : Env} : ∀ {pc : List E} {goal : Prop}, ((∀ e ∈ pc, e.prop ρ) → goal) → chain ρ goal pc
  | [], _, h => h fun e he => by cases he
  | p :: r, goal, h => chain_all (pc := r) (goal := E.prop ρ p → goal) fun hr hp => h fun e he => by
    cases he with
    | head => exact hp
    | tail _ he => exact hr e he
theorem chain_one {ρ : Env} : ∀ {pc : List E} {goal : Prop}, chain ρ goal pc → (∀ e ∈ pc, e.prop ρ) → goal
  | [], _, h, _ => h
  | p :: r, goal, h, hp => chain_one (pc := r) (goal := E.prop ρ p → goal) h (fun e he => hp e (List.mem_cons_of_mem _ he)) (hp p List.mem_cons_self)
def isIn : List E → E → Bool
  | [], _ => false
  | a :: r, e => match a.beq e with
    | true => true
    | false => isIn r e
theorem isIn_mem {e : E} : ∀ {l : List E}, isIn l e = true → e ∈ l
  | [], h => by cases h
  | a :: r, h => by
    simp only [isIn] at h
    split at h
    · rename_i hb; rw [E.eq_of_beq hb]; exact List.mem_cons_self
    · exact List.mem_cons_of_mem _ (isIn_mem h)
def allIn (pc : List E) : List E → Bool
  | [] => true
  | e :: r => match isIn pc e with
    | true => allIn pc r
    | false => false
theorem allIn_mem {pc : List E} : ∀ {c : List E}, allIn pc c = true → ∀ e ∈ c, e ∈ pc
  | [], _, e, he => by cases he
  | a :: r, h, e, he => by
    simp only [allIn] at h
    split at h
    · rename_i hb
      cases he with
      | head => exact isIn_mem hb
      | tail _ he => exact allIn_mem h e he
    · cases h
def anyIn (pc : List E) : List (List E) → Bool
  | [] => false
  | c :: r => match allIn pc c with
    | true => true
    | false => anyIn pc r
theorem anyIn_mem {pc : List E} : ∀ {cs : List (List E)}, anyIn pc cs = true → ∃ c ∈ cs, ∀ e ∈ c, e ∈ pc
  | [], h => by cases h
  | c :: r, h => by
    simp only [anyIn] at h
    split at h
    · rename_i hb; exact ⟨c, by simp, allIn_mem hb⟩
    · obtain ⟨d, hd, h⟩ := anyIn_mem h; exact ⟨d, List.mem_cons_of_mem _ hd, h⟩
def leafC (cs : List (List E)) (l : Leaf) : Bool := match l.2 with
  | .bool (.lit n) => n != 0 || anyIn l.1 cs
  | .bool _ => anyIn l.1 cs
  | _ => false
theorem law_of_clauses {ρ : Env} {cs : List (List E)} (hc : ClausesOk ρ cs) : ∀ {l : List Leaf}, l.all (leafC cs) = true → Law ρ l
  | [], _ => trivial
  | (pc, v) :: r, h => by
    simp only [List.all_cons, Bool.and_eq_true] at h
    have h1 := h.1
    have h2 := law_of_clauses hc h.2
    have no : ∀ e : E, anyIn pc cs = true → chain ρ (e.prop ρ) pc := fun e ha => chain_all fun hp => by
      obtain ⟨c, hcm, hin⟩ := anyIn_mem ha
      exact (chain_one (clauses_at hc c hcm) fun e he => hp e (hin e he)).elim
    match v, h1 with
    | .bool e, h1 =>
    refine ⟨?_, h2⟩
    by_cases hl : ∃ n, e = .lit n ∧ n ≠ 0
    · obtain ⟨n, rfl, hn⟩ := hl
      exact chain_goal (by simpa [E.prop, E.den] using hn)
    · refine no e ?_
      cases e with
      | lit n =>
        simp only [leafC, Bool.or_eq_true, bne_iff_ne] at h1
        exact h1.resolve_left fun hn => hl ⟨n, rfl, hn⟩
      | _ => exact h1

/-! ### each leaf names its clause -/
def hintOk (cs : List (List E)) (n : Nat) (l : Leaf) : Bool := match l.2 with
  | .bool (.lit m) => match decide (m = 0) with
    | false => true
    | true => match cs[n]? with
      | some c => allIn l.1 c
      | none => false
  | .bool _ => match cs[n]? with
    | some c => allIn l.1 c
    | none => false
  | _ => false
def hintsOk (cs : List (List E)) : List Nat → List Leaf → Bool
  | [], [] => true
  | n :: ns, l :: ls => match hintOk cs n l with
    | true => hintsOk cs ns ls
    | false => false
  | _, _ => false
theorem law_of_hints {ρ : Env} {cs : List (List E)} (hc : ClausesOk ρ cs) : ∀ {ns : List Nat} {l : List Leaf}, hintsOk cs ns l = true → Law ρ l
  | [], [], _ => trivial
  | [], _ :: _, h => by cases h
  | _ :: _, [], h => by cases h
  | n :: ns, (pc, v) :: r, h => by
    simp only [hintsOk] at h
    split at h
    · rename_i h1
      have h2 := law_of_hints hc h
      have no : ∀ e : E, (match cs[n]? with | some c => allIn pc c | none => false) = true → chain ρ (e.prop ρ) pc := fun e ha => chain_all fun hp => by
        split at ha
        · rename_i c hcn
          exact (chain_one (clauses_at hc c (List.mem_of_getElem? hcn)) fun e he => hp e (allIn_mem ha e he)).elim
        · cases ha
      match v, h1 with
      | .bool e, h1 =>
      refine ⟨?_, h2⟩
      by_cases hl : ∃ n, e = .lit n ∧ n ≠ 0
      · obtain ⟨m, rfl, hm⟩ := hl
        exact chain_goal (by simpa [E.prop, E.den] using hm)
      · refine no e ?_
        cases e with
        | lit m =>
          have hm : m = 0 := by
            by_cases h0 : m = 0
            · exact h0
            · exact absurd ⟨m, rfl, h0⟩ hl
          subst hm
          exact h1
        | _ => exact h1
    · cases h
/-! ### expressions, told for people's arithmetic -/
section
variable (ρ : Env) (a b c : E)
theorem den_l (n : Int) : (E.lit n).den ρ = n := rfl
theorem den_v (i : Nat) : (E.var i).den ρ = ρ.v i := rfl
theorem den_add : (E.bin .add a b).den ρ = a.den ρ + b.den ρ := rfl
theorem den_sub : (E.bin .sub a b).den ρ = a.den ρ - b.den ρ := rfl
theorem den_mul : (E.bin .mul a b).den ρ = a.den ρ * b.den ρ := rfl
theorem den_ediv : (E.bin .ediv a b).den ρ = a.den ρ / b.den ρ := rfl
theorem den_emod : (E.bin .emod a b).den ρ = a.den ρ % b.den ρ := rfl
theorem den_u8 : (E.un (.wrap .u8) a).den ρ = IntKind.u8.wrap (a.den ρ) := rfl
theorem den_le : (E.bin .le a b).den ρ = @ite Int (a.den ρ ≤ b.den ρ) (Classical.propDecidable _) 1 0 := by
  simp only [E.den, Bi.den, b2i]
  by_cases h : a.den ρ ≤ b.den ρ <;> simp [h]
theorem den_lt : (E.bin .lt a b).den ρ = @ite Int (a.den ρ < b.den ρ) (Classical.propDecidable _) 1 0 := by
  simp only [E.den, Bi.den, b2i]
  by_cases h : a.den ρ < b.den ρ <;> simp [h]
theorem den_nn0 : (E.un .bnot (.un .bnot (.lit 0))).den ρ = 0 := rfl
theorem den_nn1 : (E.un .bnot (.un .bnot (.lit 1))).den ρ = 1 := rfl
theorem u8_range (x : Int) : 0 ≤ IntKind.u8.wrap x ∧ IntKind.u8.wrap x ≤ 255 := by
  have h : IntKind.u8.wrap x = x % 256 := by simp [IntKind.wrap, IntKind.bits, IntKind.signed]
  omega
theorem den_if : (E.ite c a b).den ρ = @ite Int (c.prop ρ) (Classical.propDecidable _) (a.den ρ) (b.den ρ) := by
  by_cases h : c.prop ρ
  · rw [if_pos h]; simp only [E.den]; rw [if_pos ((E.prop_iff ρ c).1 h)]
  · rw [if_neg h]; simp only [E.den]; rw [if_neg (fun h' => h ((E.prop_iff ρ c).2 h'))]
end

end Go.Sx
