/- The law TableActs in numbers alone: what cannot be; the cases of a round are all. No condition. -/
import Derived.Test.YtjgobpmhdeancaaGsTableActs
import Derived.Test.YtjgobpmhdeancaaPlClause
namespace Go.Proofs.Ytjgobpmhdeancaa.PlainTableActs
open Go Go.Sx Go.Proofs.Ytjgobpmhdeancaa.GsTableActs
set_option maxRecDepth 100000
/-- what the functions of numbers keep: the numbers of a row are not below nought up to the first that is; codes hold nothing below -1 -/
structure Keeps (fn : Nat → Int → Int → Int → Int) : Prop where
  front : ∀ j c : Int, 0 ≤ j → j < fn 60 c 0 0 % 35184372088832 → 0 ≤ IntKind.i64.wrap (fn 14 j c 0)
  first : ∀ j c : Int, IntKind.i64.wrap (fn 14 j c 0) < 0 → fn 60 c 0 0 % 35184372088832 ≤ j
  stop : ∀ c : Int, IntKind.i64.wrap (fn 14 (fn 60 c 0 0 % 35184372088832) c 0) < 0
  least : ∀ j c : Int, -1 ≤ IntKind.i64.wrap (fn 91 j c 0)
variable {fn : Nat → Int → Int → Int → Int} (k : Keeps fn) (v : Nat → Int)
include k
theorem stops (i j : Nat) : chain ⟨v, fn⟩ False (GsTableActs.stop i j) := by
  simp only [GsTableActs.stop, chain, lt, le, nv, LEN, G, F, val, gOf, lenOf', E.prop, E.den, Bi.den, Un.den]
  intro h1 h2 h3 h4
  have := k.first (v i) (v 1) h4
  omega
omit k in
theorem putIs : put.den ⟨v, fn⟩ = (GET.den ⟨v, fn⟩ : Int) * 0 + @ite Int (AT.den ⟨v, fn⟩ ≤ GET.den ⟨v, fn⟩ ∧ GET.den ⟨v, fn⟩ < AT.den ⟨v, fn⟩ + LEN.den ⟨v, fn⟩) (Classical.propDecidable _)
    (IntKind.i64.wrap (fn 14 (GET.den ⟨v, fn⟩ + AT.den ⟨v, fn⟩ * (-1)) (v 1) 0)) ((held GET).den ⟨v, fn⟩) := by
  unfold put
  rw [den_if]
  simp only [E.prop, le, lt, ago, F, val, E.den, Bi.den, Un.den, nv]
  omega
theorem putClause : chain ⟨v, fn⟩ False [nt (.bin .eq put (.lit (-1))), lt put (.lit 0), le LEN (nv 7), le (nv 7) G] := by
  have hp := putIs (fn := fn) v
  have hl := k.least (GET.den ⟨v, fn⟩) (v 4)
  have hh : (held GET).den ⟨v, fn⟩ = IntKind.i64.wrap (fn 91 (GET.den ⟨v, fn⟩) (v 4) 0) := rfl
  have hG : G.den ⟨v, fn⟩ = fn 60 (v 1) 0 0 % 35184372088832 := rfl
  have hf := k.front (GET.den ⟨v, fn⟩ + AT.den ⟨v, fn⟩ * (-1)) (v 1)
  have e1 : (le LEN (nv 7)).prop ⟨v, fn⟩ ↔ LEN.den ⟨v, fn⟩ ≤ v 7 := Iff.rfl
  have e2 : (le (nv 7) G).prop ⟨v, fn⟩ ↔ v 7 ≤ G.den ⟨v, fn⟩ := Iff.rfl
  have e3 : (lt put (.lit 0)).prop ⟨v, fn⟩ ↔ put.den ⟨v, fn⟩ < 0 := Iff.rfl
  have e4 : (nt (.bin .eq put (.lit (-1)))).prop ⟨v, fn⟩ ↔ ¬ put.den ⟨v, fn⟩ = -1 := Iff.rfl
  simp only [chain]
  rw [e1, e2, e3, e4]
  generalize put.den ⟨v, fn⟩ = p at *
  generalize (held GET).den ⟨v, fn⟩ = q at *
  generalize AT.den ⟨v, fn⟩ = a at *
  generalize GET.den ⟨v, fn⟩ = g at *
  generalize LEN.den ⟨v, fn⟩ = l at *
  generalize G.den ⟨v, fn⟩ = m at *
  intro h1 h2 h3 h4
  split at hp
  · have := hf (by omega) (by omega)
    omega
  · omega
omit k in
theorem nonIs (i a : E) : (non i a).den ⟨v, fn⟩ = (held i).den ⟨v, fn⟩ := by
  unfold non
  rw [den_if, if_neg]
  rintro ⟨h1, h2⟩
  have h1 : AT.den ⟨v, fn⟩ ≤ i.den ⟨v, fn⟩ := h1
  have h2 : i.den ⟨v, fn⟩ < AT.den ⟨v, fn⟩ := h2
  omega
theorem heldLeast (i : E) : -1 ≤ (held i).den ⟨v, fn⟩ := k.least _ _
theorem clausesT : ClausesOk ⟨v, fn⟩ clT := by
  have hl := heldLeast k v
  have hn := nonIs (fn := fn) v
  refine ⟨stops k v 7 9, stops k v 9 7, ?_, putClause k v, ?_, ?_, ?_, ?_, trivial⟩
  · have := hl GET
    intro h1 h2
    have h1 : (held GET).den ⟨v, fn⟩ < 0 := h1
    exact h2 (show (held GET).den ⟨v, fn⟩ = -1 by omega)
  · intro h1
    exact h1 (show (held (nv 14)).den ⟨v, fn⟩ = (non (nv 14) (ago (nv 14))).den ⟨v, fn⟩ by rw [hn])
  · intro h1 h2
    have h1 : 0 ≤ (non GET (ago GET)).den ⟨v, fn⟩ := h1
    have h2 : (non GET (.lit 0)).den ⟨v, fn⟩ = -1 := h2
    rw [hn] at h1 h2
    omega
  · intro h1 h2
    have h1 : (non GET (ago GET)).den ⟨v, fn⟩ < 0 := h1
    rw [hn] at h1
    have := hl GET
    exact h2 (show (non GET (.lit 0)).den ⟨v, fn⟩ = -1 by rw [hn]; omega)
  · intro h1
    exact h1 (show (non GET (.lit 0)).den ⟨v, fn⟩ = (non GET (ago GET)).den ⟨v, fn⟩ by rw [hn, hn])
theorem clausesZ : ClausesOk ⟨v, fn⟩ clZ := ⟨stops k v 6 8, stops k v 8 6, trivial⟩
theorem clOkT : ClOk fn clT := fun c hc v h => chain_one (clauses_at (clausesT k v) c hc) fun e he => (E.prop_iff _ _).2 (h e he)
theorem clOkZ : ClOk fn clZ := fun c hc v h => chain_one (clauses_at (clausesZ k v) c hc) fun e he => (E.prop_iff _ _).2 (h e he)
theorem rangeOk : RangeOk fn [(14, gOf (nv 0))] := by
  intro q hq v j h0 h1
  simp only [List.mem_singleton] at hq
  subst hq
  exact k.front j (v 0) h0 h1
theorem lem (x c : Nat) (v : Nat → Int) (h1 : E.den ⟨v, fn⟩ (.bin .le (.lit 0) (val (nv x) (nv c))) ≠ 0) (h2 : E.den ⟨v, fn⟩ (.bin .le (nv x) (gOf (nv c))) ≠ 0) : E.den ⟨v, fn⟩ (.bin .le (.bin .add (nv x) (.lit 1)) (gOf (nv c))) ≠ 0 := by
  have h1 : (0 : Int) ≤ IntKind.i64.wrap (fn 14 (v x) (v c) 0) := (E.prop_iff ⟨v, fn⟩ (.bin .le (.lit 0) (val (nv x) (nv c)))).2 h1
  have h2 : v x ≤ fn 60 (v c) 0 0 % 35184372088832 := (E.prop_iff ⟨v, fn⟩ (.bin .le (nv x) (gOf (nv c)))).2 h2
  refine (E.prop_iff ⟨v, fn⟩ (.bin .le (.bin .add (nv x) (.lit 1)) (gOf (nv c)))).1 ?_
  show v x + 1 ≤ fn 60 (v c) 0 0 % 35184372088832
  have : v x ≠ fn 60 (v c) 0 0 % 35184372088832 := fun e => by
    have := k.stop (v c)
    rw [← e] at this
    omega
  omega
theorem lemsOk : ∀ sp ∈ gs, LemsOk fn sp.lems := by
  intro sp hsp q hq v hp
  simp only [gs, List.mem_cons, List.not_mem_nil, or_false] at hsp
  rcases hsp with rfl | rfl | rfl | rfl | rfl
  · simp only [idxH, List.mem_singleton] at hq
    subst hq
    exact lem k 0 2 v (hp _ (by simp)) (hp _ (by simp))
  · simp only [rputH, List.mem_singleton] at hq
    subst hq
    exact lem k 0 1 v (hp _ (by simp)) (hp _ (by simp))
  · simp [spoilH] at hq
  · simp [spoilH] at hq
  · simp [sameH] at hq
omit k in
theorem coverAll (cases_ : List (List E)) (gets_ : List (List E)) (hc : cases_ = cs0 ++ lens.flatMap fun l => ats.flatMap fun a => gets_.map fun g => g ++ a ++ l ++ going)
    (hg : ∃ g ∈ gets_, ∀ e ∈ g, e.den ⟨v, fn⟩ ≠ 0) : ∃ c ∈ cases_, ∀ e ∈ c, e.den ⟨v, fn⟩ ≠ 0 := by
  subst hc
  have le' : ∀ a b : E, a.den ⟨v, fn⟩ ≤ b.den ⟨v, fn⟩ → E.den ⟨v, fn⟩ (.bin .le a b) ≠ 0 := fun a b h => (E.prop_iff ⟨v, fn⟩ (.bin .le a b)).1 h
  have lt' : ∀ a b : E, a.den ⟨v, fn⟩ < b.den ⟨v, fn⟩ → E.den ⟨v, fn⟩ (.bin .lt a b) ≠ 0 := fun a b h => (E.prop_iff ⟨v, fn⟩ (.bin .lt a b)).1 h
  by_cases h0 : fn 1 0 0 0 ≤ v 1
  · exact ⟨_, List.mem_append_left _ List.mem_cons_self, fun e he => by
      simp only [List.mem_cons, List.not_mem_nil, or_false] at he
      subst he; exact le' _ _ h0⟩
  by_cases h1 : 60 ≤ v 1
  · exact ⟨_, List.mem_append_left _ (List.mem_cons_of_mem _ List.mem_cons_self), fun e he => by
      simp only [List.mem_cons, List.not_mem_nil, or_false] at he
      subst he; exact le' _ _ h1⟩
  have g : ∀ e ∈ going, E.den ⟨v, fn⟩ e ≠ 0 := fun e he => by
    simp only [going, List.mem_cons, List.not_mem_nil, or_false] at he
    rcases he with rfl | rfl
    · exact lt' _ _ (by show v 1 < fn 1 0 0 0; omega)
    · exact lt' _ _ (by show v 1 < 60; omega)
  have hl : ∃ l ∈ lens, ∀ e ∈ l, e.den ⟨v, fn⟩ ≠ 0 := by
    by_cases h : LEN.den ⟨v, fn⟩ ≤ 0
    · exact ⟨[le LEN (.lit 0)], by simp [lens], fun e he => by simp only [List.mem_singleton] at he; subst he; exact le' _ _ h⟩
    · exact ⟨[lt (.lit 0) LEN], by simp [lens], fun e he => by simp only [List.mem_singleton] at he; subst he; exact lt' _ _ (by show (0:Int) < LEN.den ⟨v, fn⟩; omega)⟩
  have ha : ∃ l ∈ ats, ∀ e ∈ l, e.den ⟨v, fn⟩ ≠ 0 := by
    by_cases h : AT.den ⟨v, fn⟩ < 0
    · exact ⟨lo0 AT, by simp [ats], fun e he => by simp only [lo0, List.mem_singleton] at he; subst he; exact lt' _ _ h⟩
    by_cases h2 : v 0 < AT.den ⟨v, fn⟩
    · exact ⟨[le (.lit 0) AT, lt (nv 0) AT], by simp [ats], fun e he => by
        simp only [List.mem_cons, List.not_mem_nil, or_false] at he
        rcases he with rfl | rfl
        · exact le' _ _ (by show (0:Int) ≤ AT.den ⟨v, fn⟩; omega)
        · exact lt' _ _ h2⟩
    · exact ⟨[le (.lit 0) AT, le AT (nv 0)], by simp [ats], fun e he => by
        simp only [List.mem_cons, List.not_mem_nil, or_false] at he
        rcases he with rfl | rfl
        · exact le' _ _ (by show (0:Int) ≤ AT.den ⟨v, fn⟩; omega)
        · exact le' _ _ (by show AT.den ⟨v, fn⟩ ≤ v 0; omega)⟩
  obtain ⟨l, hl1, hl2⟩ := hl
  obtain ⟨a, ha1, ha2⟩ := ha
  obtain ⟨q, hq1, hq2⟩ := hg
  refine ⟨q ++ a ++ l ++ going, List.mem_append_right _ (List.mem_flatMap.2 ⟨l, hl1, List.mem_flatMap.2 ⟨a, ha1, List.mem_map.2 ⟨q, hq1, rfl⟩⟩⟩), fun e he => ?_⟩
  simp only [List.mem_append] at he
  rcases he with ((he | he) | he) | he
  · exact hq2 e he
  · exact ha2 e he
  · exact hl2 e he
  · exact g e he
omit k in
theorem coverT (fn : Nat → Int → Int → Int → Int) (v : Nat → Int) : ∃ c ∈ cs, ∀ e ∈ c, e.den ⟨v, fn⟩ ≠ 0 := by
  refine coverAll v cs gets rfl ?_
  have le' : ∀ a b : E, a.den ⟨v, fn⟩ ≤ b.den ⟨v, fn⟩ → E.den ⟨v, fn⟩ (.bin .le a b) ≠ 0 := fun a b h => (E.prop_iff ⟨v, fn⟩ (.bin .le a b)).1 h
  have lt' : ∀ a b : E, a.den ⟨v, fn⟩ < b.den ⟨v, fn⟩ → E.den ⟨v, fn⟩ (.bin .lt a b) ≠ 0 := fun a b h => (E.prop_iff ⟨v, fn⟩ (.bin .lt a b)).1 h
  by_cases h : GET.den ⟨v, fn⟩ < 0
  · exact ⟨lo0 GET, by simp [gets], fun e he => by simp only [lo0, List.mem_singleton] at he; subst he; exact lt' _ _ h⟩
  by_cases h2 : v 0 ≤ GET.den ⟨v, fn⟩
  · exact ⟨[le (.lit 0) GET, le (nv 0) GET], by simp [gets], fun e he => by
      simp only [List.mem_cons, List.not_mem_nil, or_false] at he
      rcases he with rfl | rfl
      · exact le' _ _ (by show (0:Int) ≤ GET.den ⟨v, fn⟩; omega)
      · exact le' _ _ h2⟩
  · exact ⟨[le (.lit 0) GET, lt GET (nv 0)], by simp [gets], fun e he => by
      simp only [List.mem_cons, List.not_mem_nil, or_false] at he
      rcases he with rfl | rfl
      · exact le' _ _ (by show (0:Int) ≤ GET.den ⟨v, fn⟩; omega)
      · exact lt' _ _ (by show GET.den ⟨v, fn⟩ < v 0; omega)⟩
omit k in
theorem coverZ (fn : Nat → Int → Int → Int → Int) (v : Nat → Int) : ∃ c ∈ csZ, ∀ e ∈ c, e.den ⟨v, fn⟩ ≠ 0 := by
  refine coverAll v csZ getsZ rfl ?_
  have le' : ∀ a b : E, a.den ⟨v, fn⟩ ≤ b.den ⟨v, fn⟩ → E.den ⟨v, fn⟩ (.bin .le a b) ≠ 0 := fun a b h => (E.prop_iff ⟨v, fn⟩ (.bin .le a b)).1 h
  have lt' : ∀ a b : E, a.den ⟨v, fn⟩ < b.den ⟨v, fn⟩ → E.den ⟨v, fn⟩ (.bin .lt a b) ≠ 0 := fun a b h => (E.prop_iff ⟨v, fn⟩ (.bin .lt a b)).1 h
  by_cases h : GET.den ⟨v, fn⟩ < 0
  · exact ⟨lo0 GET, by simp [getsZ], fun e he => by simp only [lo0, List.mem_singleton] at he; subst he; exact lt' _ _ h⟩
  · exact ⟨hi0 GET, by simp [getsZ], fun e he => by simp only [hi0, List.mem_singleton] at he; subst he; exact le' _ _ (by show (0:Int) ≤ GET.den ⟨v, fn⟩; omega)⟩
end Go.Proofs.Ytjgobpmhdeancaa.PlainTableActs
