/- The run of a body: statements, branches, calls; that it tells the truth. -/
import Derived.Test.YtjgobpmhdeancaaSxJ
import Derived.Orders
namespace Go.Sx
open Go

def St.put (s : St) (d : Option Tmp) (v : V) : St := match d with
  | some d => match Nat.ble (d + 1) s.n with
    | true => { s with tm := s.tm.put d v }
    | false => s
  | none => s
def St.assume (s : St) (e : E) : St := { s with bd := suppose s.bd e, pc := e :: s.pc }

theorem put_nb (s : St) (d : Option Tmp) (v : V) : (s.put d v).nb = s.nb ∧ (s.put d v).nv = s.nv ∧ (s.put d v).hp = s.hp ∧ (s.put d v).bd = s.bd ∧ (s.put d v).pc = s.pc ∧ (s.put d v).n = s.n ∧ (s.put d v).gl = s.gl ∧ (s.put d v).inp = s.inp := by
  unfold St.put; split
  · split <;> exact ⟨rfl, rfl, rfl, rfl, rfl, rfl, rfl, rfl⟩
  · exact ⟨rfl, rfl, rfl, rfl, rfl, rfl, rfl, rfl⟩
theorem le_put {s : St} {d : Option Tmp} {v : V} {ρ ρ' : Env2} : Le (s.put d v) ρ ρ' ↔ Le s ρ ρ' := by
  obtain ⟨h1, h2, _⟩ := put_nb s d v
  simp [Le, h1, h2]
theorem relW_put {w0 : Base} {w : World} {ρ : Env2} {s : St} {d : Option Tmp} {v : V} (h : RelW w0 ρ s w) : RelW w0 ρ (s.put d v) w := by
  obtain ⟨h1, h2, h3, h4, h5, _, h7, h8⟩ := put_nb s d v
  intro ρ' hle
  have h0 := h ρ' (le_put.1 hle)
  exact ⟨h0.ext, h0.fn, fun i o ho => by rw [h1]; exact h0.hp i o (h3 ▸ ho), fun i j o o' hi hj => h0.inj i j o o' (h3 ▸ hi) (h3 ▸ hj), ⟨h7 ▸ h0.gl.1, h8 ▸ h0.gl.2⟩, h4 ▸ h0.bd, h5 ▸ h0.pc⟩
theorem relA_put {ρ : Env2} {s : St} {a : Act} (h : RelA ρ s a) {d : Option Tmp} {v : V} {x : Value} (hv : ∀ ρ', Le s ρ ρ' → v.den ρ' = x) : RelA ρ (s.put d v) (a.put d x) := by
  intro ρ' hle0
  have hle := le_put.1 hle0
  have h0 := h ρ' hle
  have hx := hv ρ' hle
  clear hle0 hle
  unfold St.put Act.put
  cases d with
  | none => exact h0
  | some d =>
    simp only
    split
    · rename_i hb
      have hb := Nat.le_of_ble_eq_true hb
      refine ⟨by simpa using h0.size, fun t u ht hg => ?_, h0.defers⟩
      simp only [T.get_put] at hg
      by_cases hd : t = d
      · subst hd
        have : t < a.tmps.size := by rw [h0.size]; exact ht
        simp at hg
        subst hg
        simp [this, hx]
      · rw [Array.getElem?_setIfInBounds_ne (fun e => hd e.symm)]
        rw [if_neg hd] at hg
        exact h0.tm t u ht hg
    · rename_i hb
      have hb : s.n ≤ d := by
        rcases Nat.lt_or_ge d s.n with h' | h'
        · rw [Nat.ble_eq_true_of_le h'] at hb; cases hb
        · exact h'
      refine ⟨by simpa using h0.size, fun t u ht hg => ?_, h0.defers⟩
      rw [Array.getElem?_setIfInBounds_ne (by omega)]
      exact h0.tm t u ht hg
theorem relW_assume {w0 : Base} {w : World} {ρ : Env2} {s : St} (h : RelW w0 ρ s w) {e : E} (he : ∀ ρ', Le s ρ ρ' → e.den ρ'.toEnv ≠ 0) : RelW w0 ρ (s.assume e) w := by
  intro ρ' hle
  have hle : Le s ρ ρ' := hle
  have h0 := h ρ' hle
  exact ⟨h0.ext, h0.fn, h0.hp, h0.inj, h0.gl, ok_suppose e h0.bd (he ρ' hle), fun p hp => by
    cases hp with
    | head => exact he ρ' hle
    | tail _ hp => exact h0.pc p hp⟩
theorem relA_assume {ρ : Env2} {s : St} {a : Act} (h : RelA ρ s a) (e : E) : RelA ρ (s.assume e) a := fun ρ' hle =>
  let h0 := h ρ' hle
  ⟨h0.size, h0.tm, h0.defers⟩

/-- What may come next, and that each of them leads to K. -/
def Goes (w0 : Base) (ρ : Env2) (s : St) (l : List St) (K : Act → World → Prop) : Prop :=
  ∀ s2 ∈ l, ∀ ρ1 a1 w1, Le s ρ ρ1 → s.nb ≤ s2.nb → s.nv ≤ s2.nv → RelW w0 ρ1 s2 w1 → RelA ρ1 s2 a1 → K a1 w1

/-- a test: which ways there are -/
def branch (s : St) (e : E) : List (Bool × St) := match decB s.bd s.pc e with
  | some t => [(t, s)]
  | none => [(true, s.assume e), (false, s.assume (mkNot e))]
theorem branch_ok {w0 : Base} {w : World} {ρ : Env2} {s : St} {a : Act} (hw : RelW w0 ρ s w) (ha : RelA ρ s a) (e : E) (b : Bool) (he : ∀ ρ', Le s ρ ρ' → (e.den ρ'.toEnv != 0) = b) :
    ∃ s1, (b, s1) ∈ branch s e ∧ RelW w0 ρ s1 w ∧ RelA ρ s1 a ∧ s1.nb = s.nb ∧ s1.nv = s.nv ∧ s1.n = s.n ∧ s1.tm = s.tm := by
  unfold branch
  split
  · rename_i t hd
    have h1 := decB_some hw.to.bd hw.to.pc _ _ hd
    rw [he ρ (Le.refl _ _)] at h1
    subst h1
    exact ⟨s, by simp, hw, ha, rfl, rfl, rfl, rfl⟩
  · cases b with
    | true => exact ⟨s.assume e, by simp, relW_assume hw fun ρ' hle => by simpa using he ρ' hle, relA_assume ha e, rfl, rfl, rfl, rfl⟩
    | false => exact ⟨s.assume (mkNot e), by simp, relW_assume hw (fun ρ' hle => by
        have := he ρ' hle
        rw [den_mkNot, b2i_ne]
        simpa using this), relA_assume ha _, rfl, rfl, rfl, rfl⟩

def bindL {α β : Type} : List α → (α → Option (List β)) → Option (List β)
  | [], _ => some []
  | a :: r, f => match f a with
    | none => none
    | some x => match bindL r f with
      | none => none
      | some y => some (x ++ y)
theorem bindL_mem {α β : Type} {f : α → Option (List β)} : ∀ {l : List α} {out : List β}, bindL l f = some out → ∀ a ∈ l, ∃ x, f a = some x ∧ ∀ y ∈ x, y ∈ out
  | [], _, _, a, ha => by cases ha
  | b :: r, out, h, a, ha => by
    simp only [bindL] at h
    split at h
    · cases h
    · rename_i x hx
      split at h
      · cases h
      · rename_i y hy
        cases h
        cases ha with
        | head => exact ⟨x, hx, fun z hz => List.mem_append_left _ hz⟩
        | tail _ ha =>
          obtain ⟨x', h1, h2⟩ := bindL_mem hy a ha
          exact ⟨x', h1, fun z hz => List.mem_append_right _ (h2 z hz)⟩

/-- A function known by what it answers: its outcomes from a state. -/
abbrev Oracle := Nat → St → List V → Option (Option (List (V × St)))
def Answers (w0 : Base) (ρ : Env2) (s : St) (l : List (V × St)) (e : Ending) (w1 : World) : Prop :=
  ∃ out ∈ l, ∃ x ρ1, e = .returned x ∧ Le s ρ ρ1 ∧ s.nb ≤ out.2.nb ∧ s.nv ≤ out.2.nv ∧ RelW w0 ρ1 out.2 w1 ∧ (∀ ρ', Le out.2 ρ1 ρ' → out.1.den ρ' = x)
/-- A call: of a body, or of a function that the model stands in for. -/
def Told (P : Program) (f : Nat) (xs : List Value) (w : World) (R : Ending → World → Prop) : Prop :=
  ((∀ ys w', (callFunc f ys).run P w' = .ok (.enter f ys) w') ∧ Calls P f xs.toArray w R) ∨ ∃ x w1, (callFunc f xs.toArray).run P w = .ok (.value x) w1 ∧ R (.returned x) w1
def OracleOk (P : Program) (w0 : Base) (orc : Oracle) : Prop :=
  ∀ f s args l, orc f s args = some (some l) → ∀ ρ w, RelW w0 ρ s w → ∀ xs, (∀ ρ', Le s ρ ρ' → V.denL ρ' args = xs) → Told P f xs w (Answers w0 ρ s l)

structure Known where
  fn : Func
  body : Code
abbrev Bodies := Nat → Option Known
def BodiesOk (P : Program) (bs : Bodies) : Prop :=
  ∀ f k, bs f = some k → P.funcs[f]? = some k.fn ∧ k.fn.body = some k.body ∧ ∀ ys w', (callFunc f ys).run P w' = .ok (.enter f ys) w'

/-- results of a body -/
def resV (P : Program) (s : St) : List ResultVar → Option (List V)
  | [] => some []
  | .tmp t :: r => match Nat.ble (t + 1) s.n with
    | true => match s.tm.get t with
      | some v => match resV P s r with
        | some vs => some (v :: vs)
        | none => none
      | none => none
    | false => none
  | .cell b t :: r => match Nat.ble (b + 1) s.n with
    | true => match s.tm.get b with
      | some (.ptr k off) => match loadV P s t (.ptr k off) with
        | some v => match resV P s r with
          | some vs => some (v :: vs)
          | none => none
        | none => none
      | _ => none
    | false => none
def resOne : List V → V
  | [v] => v
  | vs => .tup vs
def putAll (t : T V) (i : Nat) : List V → T V
  | [] => t
  | v :: r => putAll (t.put i v) (i + 1) r
def St.enter (s : St) (fn : Func) (args : List V) : St := { s with n := args.length + (fn.ntmps - args.length), tm := putAll .e 0 args }

theorem putAll_get (args : List V) : ∀ (t : T V) (i j : Nat), (putAll t i args).get j = if i ≤ j ∧ j < i + args.length then args[j - i]? else t.get j := by
  induction args with
  | nil => intro t i j; simp [putAll]; omega
  | cons v r ih =>
    intro t i j
    simp only [putAll, ih, T.get_put, List.length_cons]
    by_cases h1 : i + 1 ≤ j ∧ j < i + 1 + r.length
    · rw [if_pos h1, if_pos (by omega)]
      obtain ⟨k, rfl⟩ : ∃ k, j = i + 1 + k := ⟨j - (i + 1), by omega⟩
      have e1 : i + 1 + k - (i + 1) = k := by omega
      have e2 : i + 1 + k - i = k + 1 := by omega
      rw [e1, e2]; simp
    · rw [if_neg h1]
      by_cases h2 : j = i
      · subst h2
        rw [if_pos rfl, if_pos (by omega)]
        simp
      · rw [if_neg h2, if_neg (by omega)]

theorem relA_enter {ρ : Env2} {s : St} {fn : Func} {args : List V} {xs : List Value} (hx : ∀ ρ', Le s ρ ρ' → V.denL ρ' args = xs) :
    RelA ρ (s.enter fn args) { tmps := xs.toArray ++ Array.replicate (fn.ntmps - xs.toArray.size) undef, defers := [] } := by
  intro ρ' hle
  have hle : Le s ρ ρ' := hle
  have hx := hx ρ' hle
  have hl : xs.length = args.length := by rw [← hx, denL_len]
  refine ⟨by simp [St.enter, hl], fun t v _ hg => ?_, rfl⟩
  simp only [St.enter, putAll_get, Nat.zero_le, true_and, Nat.zero_add, Nat.sub_zero, T.get_e] at hg
  by_cases h : t < args.length
  · rw [if_pos h] at hg
    rw [Array.getElem?_append_left (by simpa [hl] using h)]
    simp [← hx, denL_get, hg]
  · rw [if_neg h] at hg; cases hg

def resRun (a : Act) : ResultVar → Sem Value
  | .tmp t => pure (a.tmps.getD t undef)
  | .cell b t => do loadVar t (← asAddr (a.tmps.getD b undef))
theorem resV_run {P : Program} {w0 : Base} {ρ : Env2} {s : St} {a : Act} {w : World} (hw : RelW0 w0 ρ s w) (ha : RelA0 ρ s a) : ∀ {rs : List ResultVar} {vs : List V}, resV P s rs = some vs →
    (rs.mapM (resRun a)).run P w = .ok (V.denL ρ vs) w
  | [], vs, h => by cases h; rfl
  | .cell b t :: r, vs, h => by
    simp only [resV] at h
    split at h
    · rename_i hb
      split at h
      · rename_i k off hv
        split at h
        · rename_i v hl
          split at h
          · rename_i vs' hvs
            cases h
            have ih := resV_run (P := P) hw ha hvs
            have h1 := ha.tm b _ (Nat.le_of_ble_eq_true hb) hv
            have h2 := run_loadV hw hl
            have h3 : (resRun a (.cell b t)).run P w = .ok (v.den ρ) w := by
              simp only [Instr.loadAt, Instr.sureAddr, V.den, Sem.run_bind, Sem.run_pure, Result.andThen_ok] at h2
              simp only [resRun, Array.getD_eq_getD_getElem?, h1, Option.getD_some, V.den, asAddr, Sem.run_bind, Sem.run_pure, Result.andThen_ok]
              exact h2
            simp only [List.mapM_cons, Sem.run_bind, h3, Sem.run_pure, Result.andThen_ok, ih, V.denL]
          · cases h
        · cases h
      · cases h
    · cases h
  | .tmp t :: r, vs, h => by
    simp only [resV] at h
    split at h
    · rename_i hb
      split at h
      · rename_i v hv
        split at h
        · rename_i vs' hvs
          cases h
          have ih := resV_run (P := P) hw ha hvs
          have h1 := ha.tm t v (Nat.le_of_ble_eq_true hb) hv
          simp only [List.mapM_cons, Sem.run_bind, resRun, Sem.run_pure, Result.andThen_ok, ih, V.denL]
          simp [h1]
        · cases h
      · cases h
    · cases h

end Go.Sx
