/- Expressions over whole numbers, with bounds: the plain part of a symbolic run. -/
import Derived.WalkKit
namespace Go.Sx

/-! ### a map from numbers, a tree -/
inductive T (α : Type) where
  | e
  | n (l : T α) (v : Option α) (r : T α)

def T.get {α : Type} : T α → Nat → Option α
  | .e, _ => none
  | .n l v r, k => match Nat.beq k 0 with
    | true => v
    | false => match Nat.beq (k % 2) 1 with
      | true => l.get (k / 2)
      | false => r.get (k / 2 - 1)

def T.set {α : Type} : Nat → T α → Nat → Option α → T α
  | 0, t, _, _ => t
  | f + 1, t, k, x =>
    match t with
    | .e => match Nat.beq k 0 with
      | true => .n .e x .e
      | false => match Nat.beq (k % 2) 1 with
        | true => .n (T.set f .e (k / 2) x) none .e
        | false => .n .e none (T.set f .e (k / 2 - 1) x)
    | .n l v r => match Nat.beq k 0 with
      | true => .n l x r
      | false => match Nat.beq (k % 2) 1 with
        | true => .n (T.set f l (k / 2) x) v r
        | false => .n l v (T.set f r (k / 2 - 1) x)

theorem T.get_set {α : Type} (x : Option α) : ∀ (f : Nat) (t : T α) (k j : Nat), k < f → (T.set f t k x).get j = if j = k then x else t.get j := by
  intro f
  induction f with
  | zero => intro t k j h; omega
  | succ f ih =>
    intro t k j h
    have beqd : ∀ (a b : Nat), Nat.beq a b = decide (a = b) := fun a b => by
      cases hb : Nat.beq a b
      · have := Nat.ne_of_beq_eq_false hb; simp [this]
      · have := Nat.eq_of_beq_eq_true hb; simp [this]
    have hl := fun t' j' (hk : k ≠ 0) => ih t' (k / 2) j' (by omega)
    have hr := fun t' j' (hk : k ≠ 0) => ih t' (k / 2 - 1) j' (by omega)
    cases t with
    | e =>
      simp only [T.set, beqd]
      by_cases k0 : k = 0
      · subst k0; simp only [decide_true, T.get, beqd]
        by_cases j0 : j = 0
        · simp [j0]
        · simp only [j0, decide_false, if_false]; split <;> rfl
      · by_cases k1 : k % 2 = 1
        · simp only [k0, k1, decide_true, decide_false, T.get, beqd]
          by_cases j0 : j = 0
          · subst j0; simp; omega
          · by_cases j1 : j % 2 = 1
            · simp only [j0, j1, decide_true, decide_false, hl _ _ k0, T.get]
              by_cases hh : j / 2 = k / 2
              · have : j = k := by omega
                simp [this]
              · have : j ≠ k := by omega
                simp [hh, this]
            · have : j ≠ k := by intro e; omega
              simp [j0, j1, this]
        · simp only [k0, k1, decide_false, T.get, beqd]
          by_cases j0 : j = 0
          · subst j0; simp; omega
          · by_cases j1 : j % 2 = 1
            · have : j ≠ k := by intro e; omega
              simp [j0, j1, this]
            · simp only [j0, j1, decide_false, hr _ _ k0, T.get]
              by_cases hh : j / 2 - 1 = k / 2 - 1
              · have : j = k := by omega
                simp [this]
              · have : j ≠ k := by omega
                simp [hh, this]
    | n l v r =>
      simp only [T.set, beqd]
      by_cases k0 : k = 0
      · subst k0; simp only [decide_true, T.get, beqd]
        by_cases j0 : j = 0 <;> simp [j0]
      · by_cases k1 : k % 2 = 1
        · simp only [k0, k1, decide_true, decide_false, T.get, beqd]
          by_cases j0 : j = 0
          · subst j0; simp; omega
          · by_cases j1 : j % 2 = 1
            · simp only [j0, j1, decide_true, decide_false, hl _ _ k0]
              by_cases hh : j / 2 = k / 2
              · have : j = k := by omega
                simp [this]
              · have : j ≠ k := by omega
                simp [hh, this]
            · have : j ≠ k := by intro e; omega
              simp [j0, j1, this]
        · simp only [k0, k1, decide_false, T.get, beqd]
          by_cases j0 : j = 0
          · subst j0; simp; omega
          · by_cases j1 : j % 2 = 1
            · have : j ≠ k := by intro e; omega
              simp [j0, j1, this]
            · simp only [j0, j1, decide_false, hr _ _ k0]
              by_cases hh : j / 2 - 1 = k / 2 - 1
              · have : j = k := by omega
                simp [this]
              · have : j ≠ k := by omega
                simp [hh, this]

def T.put {α : Type} (t : T α) (k : Nat) (x : α) : T α := T.set (k + 1) t k (some x)
def T.del {α : Type} (t : T α) (k : Nat) : T α := T.set (k + 1) t k none
theorem T.get_put {α : Type} (t : T α) (k j : Nat) (x : α) : (t.put k x).get j = if j = k then some x else t.get j := T.get_set _ _ _ _ _ (Nat.lt_succ_self k)
theorem T.get_del {α : Type} (t : T α) (k j : Nat) : (t.del k).get j = if j = k then none else t.get j := T.get_set _ _ _ _ _ (Nat.lt_succ_self k)
theorem T.get_e {α : Type} (k : Nat) : (T.e : T α).get k = none := rfl

end Go.Sx
