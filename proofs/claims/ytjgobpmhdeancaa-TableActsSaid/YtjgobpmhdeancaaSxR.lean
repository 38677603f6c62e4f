/- Loops known by what they come to: proved by the run of one round. -/
import Derived.Test.YtjgobpmhdeancaaSxQ
namespace Go.Sx
open Go

structure LSpec where
  f : Nat
  p : List Nat
  n : Nat
  ins : List (Nat × Option IntKind)
  pre : List E
  outs : List (Nat × Option IntKind × E)
  kill : List Nat
  meas : E
def LSpec.ks (sp : LSpec) : List (Option IntKind) := sp.ins.map (·.2)
def LSpec.written (sp : LSpec) : List Nat := sp.outs.map (·.1) ++ sp.kill
def memN : List Nat → Nat → Bool
  | [], _ => false
  | a :: r, t => Nat.beq a t || memN r t
theorem memN_iff {t : Nat} : ∀ {l : List Nat}, memN l t = true ↔ t ∈ l
  | [] => ⟨fun h => (by cases h), fun h => (by cases h)⟩
  | a :: r => by
    have hb : Nat.beq a t = true ↔ t = a := ⟨fun h => (Nat.eq_of_beq_eq_true h).symm, fun h => by rw [h]; exact Nat.beq_refl a⟩
    simp only [memN, Bool.or_eq_true, List.mem_cons, memN_iff (l := r), hb]

def insOk (a : Act) (v : Nat → Int) : Nat → List (Nat × Option IntKind) → Prop
  | _, [] => True
  | i, (t, none) :: r => a.tmps[t]? = some (.bool (v i != 0)) ∧ insOk a v (i + 1) r
  | i, (t, some k) :: r => a.tmps[t]? = some (.int k (v i)) ∧ insOk a v (i + 1) r

def LSpec.Ok (P : Program) (w0 : Base) (bs : Bodies) (sp : LSpec) : Prop :=
  ∀ c, codeAt bs sp.f sp.p = some c → ∀ w, Ext w0.w w → ∀ a v, KindOk v 0 sp.ks → pcOk ⟨v, w0.fn⟩ sp.pre → a.tmps.size = sp.n → a.defers = [] → insOk a v 0 sp.ins →
    ∀ Q : Exit → Act → World → Prop, (∀ a' w', a'.tmps.size = sp.n → a'.defers = [] → (∀ t, t ∉ sp.written → a'.tmps[t]? = a.tmps[t]?) →
      (∀ o ∈ sp.outs, a'.tmps[o.1]? = some (resVal ⟨v, w0.fn⟩ o.2)) → Ext w w' → Q .normal a' w') → c.wp P Q a w

/-! ### a loop used -/
def delAll (t : T V) : List Nat → T V
  | [] => t
  | k :: r => (delAll t r).del k
def putOuts (t : T V) (l : List E) : List (Nat × Option IntKind × E) → T V
  | [] => t
  | o :: r => (putOuts t l r).put o.1 (resV1 l o.2)
def LSpec.use (sp : LSpec) (s : St) : Option Outs := match mapO (fun i : Nat × Option IntKind => s.tm.get i.1) sp.ins with
  | none => none
  | some vs => match argE s.bd sp.ks vs with
    | none => none
    | some l => match Nat.beq s.n sp.n && preOk s.bd s.pc l sp.pre && allUnder sp.ks.length (sp.outs.map (·.2.2)) && (sp.ins.map (·.1)).all (fun t => Nat.ble (t + 1) s.n) with
      | true => some [(.normal, { s with tm := putOuts (delAll s.tm sp.kill) l sp.outs })]
      | false => none
def loopOracle : List LSpec → LoopOracle
  | [], _, _, _ => none
  | sp :: r, f, p, s => match Nat.beq sp.f f && lBeq Nat.beq sp.p p with
    | true => some (sp.use s)
    | false => loopOracle r f p s

theorem get_delAll {t : T V} {l : List Nat} {j : Nat} {v : V} (h : (delAll t l).get j = some v) : j ∉ l ∧ t.get j = some v := by
  induction l with
  | nil => exact ⟨by simp, h⟩
  | cons k r ih =>
    simp only [delAll, T.get_del] at h
    split at h
    · cases h
    · rename_i hne
      obtain ⟨h1, h2⟩ := ih h
      exact ⟨by simp [hne, h1], h2⟩
theorem get_putOuts {t : T V} {l : List E} {j : Nat} {v : V} : ∀ {os : List (Nat × Option IntKind × E)}, (putOuts t l os).get j = some v → (∃ o ∈ os, o.1 = j ∧ v = resV1 l o.2) ∨ (j ∉ os.map (·.1) ∧ t.get j = some v)
  | [], h => .inr ⟨by simp, h⟩
  | o :: r, h => by
    simp only [putOuts, T.get_put] at h
    split at h
    · rename_i he; cases h; exact .inl ⟨o, List.mem_cons_self, he.symm, rfl⟩
    · rename_i hne
      rcases get_putOuts h with ⟨q, hq, h1⟩ | ⟨h1, h2⟩
      · exact .inl ⟨q, List.mem_cons_of_mem _ hq, h1⟩
      · exact .inr ⟨by simp [hne, h1], h2⟩

theorem insOk_of {ρ : Env2} {s : St} {a : Act} (ha : RelA0 ρ s a) : ∀ {ins : List (Nat × Option IntKind)} {vs : List V} {v : Nat → Int} {i : Nat}, mapO (fun i : Nat × Option IntKind => s.tm.get i.1) ins = some vs →
    (∀ x ∈ ins.map (·.1), x < s.n) → kindVals v i (ins.map (·.2)) = V.denL ρ vs → insOk a v i ins
  | [], _, _, _, _, _, _ => trivial
  | (t, k) :: r, vs, v, i, h, hn, hk => by
    simp only [mapO] at h
    split at h
    · rename_i x hx
      split at h
      · rename_i xs hxs
        cases h
        have h1 := ha.tm t x (hn t (by simp)) hx
        cases k with
        | none =>
          simp only [List.map_cons, kindVals, V.denL, List.cons.injEq] at hk
          exact ⟨by rw [h1, hk.1], insOk_of ha hxs (fun y hy => hn y (List.mem_cons_of_mem _ hy)) hk.2⟩
        | some k =>
          simp only [List.map_cons, kindVals, V.denL, List.cons.injEq] at hk
          exact ⟨by rw [h1, hk.1], insOk_of ha hxs (fun y hy => hn y (List.mem_cons_of_mem _ hy)) hk.2⟩
      · cases h
    · cases h

theorem den_resV1 (ρ : Env2) (l : List E) (r : Option IntKind × E) : (resV1 l r).den ρ = resVal (atEnv ρ.toEnv l) r := by
  obtain ⟨k, e⟩ := r; cases k <;> simp [resV1, resVal, V.den, den_at]

theorem mapO_den {ρ : Env2} {s : St} {a : Act} (ha : RelA0 ρ s a) : ∀ {ins : List (Nat × Option IntKind)} {vs : List V}, mapO (fun i : Nat × Option IntKind => s.tm.get i.1) ins = some vs →
    (∀ x ∈ ins.map (·.1), x < s.n) → V.denL ρ vs = ins.map fun i => (a.tmps[i.1]?).getD undef
  | [], _, h, _ => by cases h; rfl
  | (t, k) :: r, vs, h, hn => by
    simp only [mapO] at h
    split at h
    · rename_i x hx
      split at h
      · rename_i xs hxs
        cases h
        have h1 := ha.tm t x (hn t (by simp)) hx
        simp only [V.denL, List.map_cons, h1, Option.getD_some]
        rw [mapO_den ha hxs (fun y hy => hn y (List.mem_cons_of_mem _ hy))]
      · cases h
    · cases h

theorem lspec_use {P : Program} {w0 : Base} {bs : Bodies} {sp : LSpec} (hsp : sp.Ok P w0 bs) {s : St} {outs : Outs} (h : sp.use s = some outs) {c : Code} (hc : codeAt bs sp.f sp.p = some c)
    {ρ : Env2} {a : Act} {w : World} {Q : Exit → Act → World → Prop} (hw : RelW w0 ρ s w) (ha : RelA ρ s a) (hk : GoesX w0 ρ s outs Q) : c.wp P Q a w := by
  unfold LSpec.use at h
  split at h
  · cases h
  · rename_i vs hvs
    split at h
    · cases h
    · rename_i l hl
      split at h
      · rename_i hcond
        simp only [Bool.and_eq_true] at hcond
        obtain ⟨⟨⟨h1, h2⟩, h3⟩, h4⟩ := hcond
        have h1 := Nat.eq_of_beq_eq_true h1
        have hlt : ∀ x ∈ sp.ins.map (·.1), x < s.n := fun x hx => Nat.le_of_ble_eq_true (List.all_eq_true.1 h4 x hx)
        cases h
        have hval := fun ρ' (hle : Le s ρ ρ') => mapO_den (ha ρ' hle) hvs hlt
        have key : ∀ ρ', Le s ρ ρ' → KindOk (atEnv ρ'.toEnv l).v 0 sp.ks ∧ kindVals (atEnv ρ'.toEnv l).v 0 sp.ks = V.denL ρ' vs := fun ρ' hle => argE_some (ρ := ρ') (hw ρ' hle).bd [] hl
        obtain ⟨k1, k2⟩ := key ρ (Le.refl _ _)
        have k3 := preOk_pc hw.to.bd hw.to.pc h2
        have henv : ∀ ρ', Le s ρ ρ' → (⟨(atEnv ρ'.toEnv l).v, w0.fn⟩ : Env) = atEnv ρ'.toEnv l := fun ρ' hle => by
          have : ρ'.fn = w0.fn := (hw ρ' hle).fn
          rw [← this]; rfl
        refine hsp c hc w hw.to.ext a (atEnv ρ.toEnv l).v k1 (by rw [henv ρ (Le.refl _ _)]; exact k3) (ha.to.size.trans h1) ha.to.defers (insOk_of ha.to hvs hlt k2) Q ?_
        intro a' w' hs hd hfr hout hext
        refine hk _ (List.mem_singleton.2 rfl) ρ a' w' (Le.refl _ _) (Nat.le_refl _) (Nat.le_refl _) ?_ ?_
        · intro ρ' hle
          have h0 := relW_ext hw hext ρ' hle
          exact ⟨h0.ext, h0.fn, h0.hp, h0.inj, h0.gl, h0.bd, h0.pc⟩
        · intro ρ' hle
          have hle : Le s ρ ρ' := hle
          have h0 := ha ρ' hle
          refine ⟨by rw [hs, ← h1], fun t v ht hg => ?_, hd⟩
          rcases get_putOuts hg with ⟨o, ho, rfl, rfl⟩ | ⟨hn1, hg⟩
          · rw [hout o ho, den_resV1, henv ρ (Le.refl _ _)]
            obtain ⟨j1, j2⟩ := key ρ' hle
            have hv := kindVals_inj j1 k1 (by rw [j2, k2, hval ρ' hle, hval ρ (Le.refl _ _)])
            have hu := List.all_eq_true.1 h3 o.2.2 (List.mem_map.2 ⟨o, ho, rfl⟩)
            have := den_under (ρ := atEnv ρ.toEnv l) (ρ' := atEnv ρ'.toEnv l) hle.2.2.1 (fun j hj => by simpa using hv j hj) hu
            obtain ⟨t, k, e⟩ := o
            cases k <;> simp only [resVal] <;> rw [this]
          · obtain ⟨hn2, hg⟩ := get_delAll hg
            rw [hfr t (by simp only [LSpec.written, List.mem_append]; exact fun h => h.elim hn1 hn2)]
            exact h0.tm t v ht hg
      · cases h

theorem loopOracle_ok {P : Program} {w0 : Base} {bs : Bodies} : ∀ {sps : List LSpec}, (∀ sp ∈ sps, sp.Ok P w0 bs) → LoopsOk P w0 bs (loopOracle sps)
  | [], _, f, p, s, outs, h => by simp [loopOracle] at h
  | sp :: r, hall, f, p, s, outs, h => by
    intro c hc ρ a w Q hw ha hk
    simp only [loopOracle] at h
    split at h
    · rename_i hb
      simp only [Bool.and_eq_true] at hb
      have e1 := Nat.eq_of_beq_eq_true hb.1
      have e2 := eq_of_lBeq (fun a b h => Nat.eq_of_beq_eq_true h) hb.2
      subst e1 e2
      have hs : sp.use s = some outs := by injection h
      exact lspec_use (hall sp List.mem_cons_self) hs hc hw ha hk
    · exact loopOracle_ok (fun q hq => hall q (List.mem_cons_of_mem _ hq)) f p s outs h c hc ρ a w Q hw ha hk

end Go.Sx
