/- Leaves of a run that known facts decide. No condition. -/
import Derived.Test.YtjgobpmhdeancaaSx3
namespace Go.Sx
open Go

/-! ### what known facts decide -/
def FactsOk (ρ : Env) : List (E × Bool) → Prop
  | [] => True
  | (e, b) :: r => (match b with | true => e.prop ρ | false => ¬ e.prop ρ) ∧ FactsOk ρ r
def knows : List (E × Bool) → E → Option Bool
  | [], _ => none
  | (a, b) :: r, e => match a.beq e with
    | true => some b
    | false => knows r e
theorem knows_ok {ρ : Env} {e : E} {b : Bool} : ∀ {fs : List (E × Bool)}, FactsOk ρ fs → knows fs e = some b → (e.prop ρ ↔ b = true)
  | [], _, h => by cases h
  | (a, c) :: r, hf, h => by
    simp only [knows] at h
    split at h
    · rename_i hb
      have := E.eq_of_beq hb
      subst this
      cases h
      have h1 := hf.1
      cases b
      · exact ⟨fun h => absurd h h1, fun h => by cases h⟩
      · exact ⟨fun _ => rfl, fun _ => h1⟩
    · exact knows_ok hf.2 h
def decF (fs : List (E × Bool)) : E → Option Bool
  | .un .bnot a => match decF fs a with
    | some b => some !b
    | none => none
  | .lit n => some (n != 0)
  | e => knows fs e
theorem decF_ok {ρ : Env} {fs : List (E × Bool)} (hf : FactsOk ρ fs) : ∀ (e : E) {b : Bool}, decF fs e = some b → (e.prop ρ ↔ b = true) := by
  intro e
  induction e with
  | un o a ih =>
    intro b h
    cases o <;> try exact knows_ok hf h
    simp only [decF] at h
    split at h
    · rename_i c hc
      cases h
      have := ih hc
      simp only [E.prop, this]
      cases c <;> simp
    · cases h
  | lit n => intro b h; cases h; simp [E.prop, E.den]
  | _ => intro b h; exact knows_ok hf h
def leafFine (fs : List (E × Bool)) (l : Leaf) : Bool := match l.2 with
  | .bool e => l.1.any (fun c => decF fs c == some false) || decF fs e == some true
  | _ => false
theorem chain_goal {ρ : Env} : ∀ {pc : List E} {goal : Prop}, goal → chain ρ goal pc
  | [], _, h => h
  | _ :: r, _, h => chain_goal (pc := r) fun _ => h
theorem chain_no {ρ : Env} {c : E} : ∀ {pc : List E} {goal : Prop}, c ∈ pc → ¬ c.prop ρ → chain ρ goal pc
  | [], _, h, _ => by cases h
  | p :: r, goal, h, hn => by
    cases h with
    | head => exact chain_goal (goal := E.prop ρ c → goal) (pc := r) fun hp => absurd hp hn
    | tail _ h => exact chain_no (pc := r) h hn
/-- a law whose ways known facts decide -/
theorem law_of_facts {ρ : Env} {fs : List (E × Bool)} (hf : FactsOk ρ fs) : ∀ {l : List Leaf}, l.all (leafFine fs) = true → Law ρ l
  | [], _ => trivial
  | (pc, v) :: r, h => by
    simp only [List.all_cons, Bool.and_eq_true] at h
    have h1 := h.1
    have h2 := law_of_facts hf h.2
    match v, h1 with
    | .bool e, h1 =>
    refine ⟨?_, h2⟩
    simp only [leafFine, Bool.or_eq_true, List.any_eq_true, beq_iff_eq] at h1
    rcases h1 with ⟨c, hc, hd⟩ | hd
    · exact chain_no hc fun hp => by simpa using ((decF_ok hf c hd).1 hp)
    · exact chain_goal ((decF_ok hf e hd).2 rfl)

/-- groups of cases, of each group one holds -/
def GroupsOk (ρ : Env) : List (List (List (E × Bool))) → Prop
  | [] => True
  | g :: r => (∃ fs ∈ g, FactsOk ρ fs) ∧ GroupsOk ρ r
theorem groups_at {ρ : Env} : ∀ {gs : List (List (List (E × Bool)))}, GroupsOk ρ gs → ∀ g ∈ gs, ∃ fs ∈ g, FactsOk ρ fs
  | [], _, g, h => by cases h
  | a :: r, hg, g, h => by
    cases h with
    | head => exact hg.1
    | tail _ h => exact groups_at hg.2 g h
theorem fine_one {ρ : Env} {fs : List (E × Bool)} (hf : FactsOk ρ fs) {l : Leaf} (h : leafFine fs l = true) : Law ρ [l] := law_of_facts hf (by simp [h])
theorem law_of_groups {ρ : Env} {gs : List (List (List (E × Bool)))} (hg : GroupsOk ρ gs) : ∀ {l : List Leaf}, l.all (fun x => gs.any fun g => g.all fun fs => leafFine fs x) = true → Law ρ l
  | [], _ => trivial
  | (pc, v) :: r, h => by
    simp only [List.all_cons, Bool.and_eq_true] at h
    have h2 := law_of_groups hg h.2
    obtain ⟨g, hm, hall⟩ := List.any_eq_true.1 h.1
    obtain ⟨fs, hfs, hok⟩ := groups_at hg g hm
    have h1 := fine_one hok (List.all_eq_true.1 hall fs hfs)
    match v, h1 with
    | .bool e, h1 => exact ⟨h1.1, h2⟩

/-! ### the same with conditions as numbers -/
/-- a result: 0 false, 1 true, else a condition of the table -/
abbrev CLeaf := List (Nat × Bool) × Nat
def cOne (tab : List E) (p : Nat × Bool) : E := match p.2 with
  | true => tab.getD p.1 (.lit 1)
  | false => .un .bnot (tab.getD p.1 (.lit 1))
def cLeaf (tab : List E) (l : CLeaf) : Leaf := (l.1.map (cOne tab), .bool (match l.2 with | 0 => .lit 0 | 1 => .lit 1 | i + 2 => tab.getD i (.lit 1)))
def cOk (ρ : Env) (tab : List E) : List (Nat × Bool) → Prop
  | [] => True
  | p :: r => (match p.2 with | true => (tab.getD p.1 (.lit 1)).prop ρ | false => ¬ (tab.getD p.1 (.lit 1)).prop ρ) ∧ cOk ρ tab r
/-- a condition that a known fact denies -/
def cNo : List (Nat × Bool) → Nat × Bool → Bool
  | [], _ => false
  | (a, b) :: r, p => match Nat.beq a p.1 with
    | true => match b, p.2 with
      | true, false => true
      | false, true => true
      | _, _ => false
    | false => cNo r p
theorem cNo_ok {ρ : Env} {tab : List E} {p : Nat × Bool} : ∀ {fs : List (Nat × Bool)}, cOk ρ tab fs → cNo fs p = true → ¬ (cOne tab p).prop ρ
  | [], _, h => by cases h
  | (a, b) :: r, hf, h => by
    simp only [cNo] at h
    split at h
    · rename_i hb
      have e := Nat.eq_of_beq_eq_true hb
      subst e
      have h1 := hf.1
      obtain ⟨i, c⟩ := p
      cases b <;> cases c <;> simp only at h <;> first | (cases h; done) | skip
      · exact h1
      · intro h2; exact h2 h1
    · exact cNo_ok hf.2 h
def cYes : List (Nat × Bool) → Nat → Bool
  | [], _ => false
  | (a, b) :: r, i => match Nat.beq a i with
    | true => b
    | false => cYes r i
theorem cYes_ok {ρ : Env} {tab : List E} {i : Nat} : ∀ {fs : List (Nat × Bool)}, cOk ρ tab fs → cYes fs i = true → (tab.getD i (.lit 1)).prop ρ
  | [], _, h => by cases h
  | (a, b) :: r, hf, h => by
    simp only [cYes] at h
    split at h
    · rename_i hb
      have e := Nat.eq_of_beq_eq_true hb
      subst e
      subst h
      exact hf.1
    · exact cYes_ok hf.2 h
def cFine (fs : List (Nat × Bool)) (l : CLeaf) : Bool := match l.2 with
  | 0 => l.1.any (cNo fs)
  | 1 => true
  | i + 2 => l.1.any (cNo fs) || cYes fs i
def COk (ρ : Env) (tab : List E) : List (List (List (Nat × Bool))) → Prop
  | [] => True
  | g :: r => (∃ fs ∈ g, cOk ρ tab fs) ∧ COk ρ tab r
theorem cOk_at {ρ : Env} {tab : List E} : ∀ {gs : List (List (List (Nat × Bool)))}, COk ρ tab gs → ∀ g ∈ gs, ∃ fs ∈ g, cOk ρ tab fs
  | [], _, g, h => by cases h
  | a :: r, hg, g, h => by
    cases h with
    | head => exact hg.1
    | tail _ h => exact cOk_at hg.2 g h
theorem law_of_codes {ρ : Env} {tab : List E} {gs : List (List (List (Nat × Bool)))} (hg : COk ρ tab gs) : ∀ {l : List CLeaf}, l.all (fun x => gs.any fun g => g.all fun fs => cFine fs x) = true → Law ρ (l.map (cLeaf tab))
  | [], _ => trivial
  | (pc, v) :: r, h => by
    simp only [List.all_cons, Bool.and_eq_true] at h
    refine ⟨?_, law_of_codes hg h.2⟩
    obtain ⟨g, hm, hall⟩ := List.any_eq_true.1 h.1
    obtain ⟨fs, hfs, hok⟩ := cOk_at hg g hm
    have h1 := List.all_eq_true.1 hall fs hfs
    match v, h1 with
    | 0, h1 =>
      simp only [cFine, List.any_eq_true] at h1
      obtain ⟨c, hc, hd⟩ := h1
      exact chain_no (List.mem_map_of_mem hc) (cNo_ok hok hd)
    | 1, _ => exact chain_goal (by show E.prop ρ (.lit 1); simp [E.prop, E.den])
    | i + 2, h1 =>
      simp only [cFine, Bool.or_eq_true, List.any_eq_true] at h1
      rcases h1 with ⟨c, hc, hd⟩ | hd
      · exact chain_no (List.mem_map_of_mem hc) (cNo_ok hok hd)
      · exact chain_goal (cYes_ok hok hd)
end Go.Sx
