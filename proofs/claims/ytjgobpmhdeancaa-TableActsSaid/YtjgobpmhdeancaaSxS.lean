/- Loops: what they come to, proved by the run of one round. -/
import Derived.Test.YtjgobpmhdeancaaSxR
namespace Go.Sx
open Go

def putIns (t : T V) : Nat → List (Nat × Option IntKind) → T V
  | _, [] => t
  | i, (r, none) :: q => (putIns t (i + 1) q).put r (.bool (.var i))
  | i, (r, some k) :: q => (putIns t (i + 1) q).put r (.int k (.var i))
def rawsTo : Nat → T V
  | 0 => .e
  | n + 1 => (rawsTo n).put n (.raw n)
def LSpec.start (sp : LSpec) (gl : Tabs) : St :=
  { n := sp.n, tm := putIns (rawsTo sp.n) 0 sp.ins, hp := .e, nb := 0, nv := sp.ks.length, bd := supposeAll (kindBd 0 sp.ks) sp.pre, pc := sp.pre, gl := gl }

inductive LL where
  | cont (pc : List E) (l : List E)
  | out (pc : List E) (vs : List V)
  | bad (pc : List E)
def frameOk (sp : LSpec) (s0 s1 : T V) : Bool := (List.range sp.n).all fun t => memN sp.written t || oBeq V.beq (s0.get t) (s1.get t)
def llOf (sp : LSpec) (gl : Tabs) (id : Nat) (r : X × St) : Option LL := match frameOk sp (sp.start gl).tm r.2.tm && Nat.beq r.2.n sp.n with
  | false => none
  | true => match r.1 with
    | .normal => match mapO (fun i : Nat × Option IntKind => r.2.tm.get i.1) sp.ins with
      | none => none
      | some vs => match argE r.2.bd sp.ks vs with
        | none => none
        | some l => some (.cont r.2.pc l)
    | .exit j => match Nat.beq j id with
      | true => match mapO (fun o : Nat × Option IntKind × E => r.2.tm.get o.1) sp.outs with
        | none => none
        | some vs => some (.out r.2.pc vs)
      | false => some (.bad r.2.pc)
    | .ret => some (.bad r.2.pc)
def lrunOf (P : Program) (orc : Oracle) (lo : LoopOracle) (bs : Bodies) (gl : Tabs) (fuel : Nat) (sp : LSpec) : Option (List LL) := match codeAt bs sp.f sp.p with
  | some (.block id (.loop b)) => match exec P orc lo bs fuel sp.f (0 :: 0 :: sp.p) b (sp.start gl) with
    | none => none
    | some outs => mapO (llOf sp gl id) outs
  | _ => none

def allProp (ρ : Env) (l : List E) : List E → Prop
  | [] => True
  | p :: r => (p.at l).prop ρ ∧ allProp ρ l r
def allSame (ρ : Env) (l : List E) : List (Nat × Option IntKind × E) → Prop
  | [] => True
  | (_, none, e) :: r => ((e.at l).prop ρ ↔ e.prop ρ) ∧ allSame ρ l r
  | (_, some _, e) :: r => (e.at l).den ρ = e.den ρ ∧ allSame ρ l r
def LKeeps (ρ : Env) (sp : LSpec) : List LL → Prop
  | [] => True
  | .cont pc l :: r => chain ρ (allProp ρ l sp.pre ∧ allSame ρ l sp.outs ∧ 0 ≤ (sp.meas.at l).den ρ ∧ (sp.meas.at l).den ρ < sp.meas.den ρ) pc ∧ LKeeps ρ sp r
  | .out pc vs :: r => chain ρ (SameL ρ (sp.outs.map (·.2)) vs) pc ∧ LKeeps ρ sp r
  | .bad pc :: r => chain ρ False pc ∧ LKeeps ρ sp r
def LKeeps1 (ρ : Env) (sp : LSpec) : LL → Prop
  | .cont pc l => chain ρ (allProp ρ l sp.pre ∧ allSame ρ l sp.outs ∧ 0 ≤ (sp.meas.at l).den ρ ∧ (sp.meas.at l).den ρ < sp.meas.den ρ) pc
  | .out pc vs => chain ρ (SameL ρ (sp.outs.map (·.2)) vs) pc
  | .bad pc => chain ρ False pc
theorem lkeeps_at {ρ : Env} {sp : LSpec} : ∀ {l : List LL}, LKeeps ρ sp l → ∀ x ∈ l, LKeeps1 ρ sp x
  | [], _, x, hx => by cases hx
  | y :: r, h, x, hx => by
    have h1 : LKeeps1 ρ sp y ∧ LKeeps ρ sp r := by cases y <;> exact h
    cases hx with
    | head => exact h1.1
    | tail _ hx => exact lkeeps_at h1.2 x hx

theorem rawsTo_get : ∀ (n t : Nat), (rawsTo n).get t = if t < n then some (.raw t) else none
  | 0, t => by simp [rawsTo, T.get]
  | n + 1, t => by
    simp only [rawsTo, T.get_put, rawsTo_get n t]
    by_cases h : t = n
    · subst h; simp
    · by_cases h2 : t < n
      · simp [h, h2, Nat.lt_succ_of_lt h2]
      · rw [if_neg h, if_neg h2, if_neg (by omega)]

theorem putIns_get {ρ : Env2} {a : Act} : ∀ {ins : List (Nat × Option IntKind)} {i : Nat} {t : T V}, insOk a ρ.v i ins → (∀ j v, t.get j = some v → a.tmps[j]? = some (v.den ρ)) →
    ∀ j v, (putIns t i ins).get j = some v → a.tmps[j]? = some (v.den ρ)
  | [], _, _, _, ht => ht
  | (r, none) :: q, i, t, h, ht => by
    intro j v hg
    simp only [putIns, T.get_put] at hg
    split at hg
    · rename_i hj; cases hg; rw [hj, h.1]; simp [V.den, E.den]
    · exact putIns_get h.2 ht j v hg
  | (r, some k) :: q, i, t, h, ht => by
    intro j v hg
    simp only [putIns, T.get_put] at hg
    split at hg
    · rename_i hj; cases hg; rw [hj, h.1]; simp [V.den, E.den]
    · exact putIns_get h.2 ht j v hg
theorem putIns_some : ∀ {ins : List (Nat × Option IntKind)} {i : Nat} {t : T V} {j : Nat}, (t.get j).isSome = true → ((putIns t i ins).get j).isSome = true
  | [], _, _, _, h => h
  | (r, none) :: q, i, t, j, h => by
    simp only [putIns, T.get_put]; split
    · rfl
    · exact putIns_some h
  | (r, some k) :: q, i, t, j, h => by
    simp only [putIns, T.get_put]; split
    · rfl
    · exact putIns_some h
theorem insOk_congr {a : Act} {v v' : Nat → Int} : ∀ {ins : List (Nat × Option IntKind)} {i : Nat}, (∀ j, j < i + ins.length → v' j = v j) → insOk a v i ins → insOk a v' i ins
  | [], _, _, _ => trivial
  | (t, none) :: r, i, h, ho => ⟨by rw [h i (by simp)]; exact ho.1, insOk_congr (fun j hj => h j (by simp at hj ⊢; omega)) ho.2⟩
  | (t, some k) :: r, i, h, ho => ⟨by rw [h i (by simp)]; exact ho.1, insOk_congr (fun j hj => h j (by simp at hj ⊢; omega)) ho.2⟩

/-- the numbers that stand in the slots -/
def numOf : Option Value → Int
  | some (.int _ n) => n
  | some (.bool b) => b2i b
  | _ => 0
def readIns (a : Act) (ins : List (Nat × Option IntKind)) : Nat → Int := fun i => match ins[i]? with
  | some p => numOf a.tmps[p.1]?
  | none => 0
theorem readIns_eq {a : Act} {u : Nat → Int} {all : List (Nat × Option IntKind)} : ∀ {ins : List (Nat × Option IntKind)} {i : Nat}, all.drop i = ins → insOk a u i ins → KindOk u i (ins.map (·.2)) → ∀ j, i ≤ j → j < i + ins.length → readIns a all j = u j
  | [], _, _, _, _, j, h1, h2 => by simp at h2; omega
  | (t, k) :: r, i, hd, ho, hk, j, h1, h2 => by
    have hget : all[i]? = some (t, k) := by
      have : (all.drop i)[0]? = some (t, k) := by rw [hd]; rfl
      simpa using this
    have hd2 : all.drop (i + 1) = r := by rw [← List.drop_drop, hd]; rfl
    by_cases hj : j = i
    · subst hj
      cases k with
      | none =>
        simp only [insOk] at ho
        simp only [List.map_cons, KindOk] at hk
        have e1 := hk.1.1 _ rfl; have e2 := hk.1.2 _ rfl
        simp only [readIns, hget, ho.1, numOf]
        rcases (show u j = 0 ∨ u j = 1 by omega) with e | e <;> simp [e, b2i]
      | some k => simp only [insOk] at ho; simp only [readIns, hget, ho.1, numOf]
    · cases k with
      | none => exact readIns_eq hd2 ho.2 hk.2 j (by omega) (by simp at h2; omega)
      | some k => exact readIns_eq hd2 ho.2 hk.2 j (by omega) (by simp at h2; omega)

end Go.Sx
