/- The run of a body: statements, branches, loops, calls. -/
import Derived.Test.YtjgobpmhdeancaaSx1
import Derived.LoopN
namespace Go.Sx
open Go

abbrev CallF := Nat → St → List V → Option (List (V × St))
def CallOk (P : Program) (w0 : Base) (call : CallF) : Prop :=
  ∀ f s args l, call f s args = some l → ∀ ρ w, RelW w0 ρ s w → ∀ xs, (∀ ρ', Le s ρ ρ' → V.denL ρ' args = xs) →
    Told P f xs w (Answers w0 ρ s l)

/-! ### one operation -/
def backTo (s : St) (s1 : St) : St := { s1 with n := s.n, tm := s.tm }
def stepL (P : Program) (call : CallF) (s : St) (o : Oper) : Option (List St) := match opV P s o with
  | some v => some [s.put o.dst v]
  | none => match opM P s o with
    | some (v, s1) => some [s1.put o.dst v]
    | none => match opU P s o with
     | some l => some (l.map fun r => r.2.put o.dst r.1)
     | none => match o.op with
      | .call c => match c.callee with
        | .value f => match evO s f with
          | some (.func f) => match evs s c.args with
            | some vs => match call f s vs with
              | some l => some (l.map fun r => (backTo s r.2).put o.dst r.1)
              | none => none
            | none => none
          | _ => none
        | _ => none
      | _ => none

theorem goes_step {P : Program} {w0 : Base} {w : World} {ρ : Env2} {s s1 : St} {a : Act} {o : Oper} {v : V} (ha : RelA ρ s a) (h : Step P w0 ρ s a w o v s1)
    {K : Act → World → Prop} {Q : Exit → Act → World → Prop} (hk : Goes w0 ρ s [s1.put o.dst v] K) : o.wp P a w K Q := by
  obtain ⟨r, x, ρ1, w1, hrun, hr, hx, hle, hw, hn, ht, hb, hv⟩ := h
  obtain ⟨p1, p2, _⟩ := put_nb s1 o.dst v
  have hA : RelA ρ1 (s1.put o.dst v) (a.put o.dst x) := relA_put (relA_of ha hle hn ht hb hv) hx
  have := hk (s1.put o.dst v) (by simp) ρ1 _ w1 hle (by omega) (by omega) (relW_put hw) hA
  unfold Oper.wp
  rw [hrun]
  rcases hr with rfl | ⟨rfl, rfl⟩ <;> exact this

theorem stepL_ok {P : Program} {call : CallF} {w0 : Base} {w : World} (hc : CallOk P w0 call) {ρ : Env2} {s : St} {a : Act} (hw : RelW w0 ρ s w) (ha : RelA ρ s a) {o : Oper} {l : List St}
    (h : stepL P call s o = some l) {K : Act → World → Prop} {Q : Exit → Act → World → Prop} (hk : Goes w0 ρ s l K) : o.wp P a w K Q := by
  unfold stepL at h
  split at h
  · rename_i v hv
    cases h
    exact goes_step ha (step_opV hw ha hv) hk
  · split at h
    · rename_i v s1 hv
      cases h
      exact goes_step ha (step_opM hw ha hv) hk
    · split at h
      · rename_i l' hl
        cases h
        obtain ⟨p, hp, hst⟩ := step_opU hw ha hl
        exact goes_step ha hst fun s2 hs2 => hk s2 (by
          simp only [List.mem_singleton] at hs2; subst hs2
          exact List.mem_map.2 ⟨p, hp, rfl⟩)
      split at h
      · rename_i c ho
        split at h
        · rename_i fo hfo
          split at h
          · rename_i f hf
            split at h
            · rename_i vs hvs
              split at h
              · rename_i l' hl
                cases h
                have hxs : ∀ ρ', Le s ρ ρ' → V.denL ρ' vs = (c.args.map a.eval).toList := fun ρ' hle => by rw [den_evs (ha ρ' hle) hvs]
                have fin : ∀ {e : Ending} {w1 : World}, Answers w0 ρ s l' e w1 → ∃ x, e = .returned x ∧ K (a.put o.dst x) w1 := by
                  rintro e w1 ⟨out, hout, x, ρ1, rfl, hle, hb, hv, hw1, hx⟩
                  obtain ⟨p1, p2, _⟩ := put_nb (backTo s out.2) o.dst out.1
                  have hw2 : RelW w0 ρ1 (backTo s out.2) w1 := fun ρ' hle' => let h0 := hw1 ρ' hle'; ⟨h0.ext, h0.fn, h0.hp, h0.inj, h0.gl, h0.bd, h0.pc⟩
                  have hA : RelA ρ1 ((backTo s out.2).put o.dst out.1) (a.put o.dst x) := relA_put (relA_of (s1 := backTo s out.2) ha hle rfl rfl hb hv) hx
                  exact ⟨x, rfl, hk _ (List.mem_map.2 ⟨out, hout, rfl⟩) ρ1 _ w1 hle (by rw [p1]; exact hb) (by rw [p2]; exact hv) (relW_put hw2) hA⟩
                have he : a.eval fo = .func (.func f) #[] #[] := by rw [den_evO ha.to hf]; rfl
                unfold Oper.wp
                have hcall : (execOp a.eval o).run P w = (callFunc f (c.args.map a.eval)).run P w := by
                  simp only [execOp, ho, resolve, hfo, he, Deferred.ofValue, Sem.run_bind, Sem.run_pure, Result.andThen_ok, invoke]
                  simp
                rcases hc f s vs l' hl ρ w hw _ hxs with ⟨h1, h2⟩ | ⟨x, w1, h1, h2⟩
                · rw [hcall, h1, Oper.upon_enter]
                  rw [Array.toArray_toList] at h2
                  refine h2.mono ?_
                  rintro e w1 hans
                  obtain ⟨x, rfl, hK⟩ := fin hans
                  exact hK
                · rw [Array.toArray_toList] at h1
                  rw [hcall, h1, Oper.upon_value]
                  obtain ⟨y, hy, hK⟩ := fin h2
                  cases hy
                  exact hK
              · cases h
            · cases h
          · cases h
        · cases h
      · cases h

/-! ### a row of operations -/
def notBool : V → Bool
  | .bool _ => false
  | _ => true
def guardL (s : St) (ops : Array Oper) (o : Oper) : Option (List (Bool × St)) := match o.guard with
  | none => some [(true, s)]
  | some (j, want) => match (ops[j]?).bind (·.dst) with
    | none => none
    | some d => match Nat.ble (d + 1) s.n with
      | false => none
      | true => match s.tm.get d with
        | some (.bool e) => some ((branch s e).map fun r => (r.1 == want, r.2))
        | some (.tup []) => some [(false, s)]
        | _ => none
theorem guardL_ok {w0 : Base} {w : World} {ρ : Env2} {s : St} {a : Act} (hw : RelW w0 ρ s w) (ha : RelA ρ s a) {ops : Array Oper} {o : Oper} {l : List (Bool × St)} (h : guardL s ops o = some l) :
    ∃ s1, (Region.wanted o (yielded ops a.tmps), s1) ∈ l ∧ RelW w0 ρ s1 w ∧ RelA ρ s1 a ∧ s1.nb = s.nb ∧ s1.nv = s.nv := by
  unfold guardL at h
  split at h
  · rename_i hg
    cases h
    exact ⟨s, by simp [Region.wanted, hg], hw, ha, rfl, rfl⟩
  · rename_i j want hg
    split at h
    · cases h
    · rename_i d hd
      split at h
      · cases h
      · rename_i hb
        have htm := fun ρ' hle v hv => (ha ρ' hle).tm d v (Nat.le_of_ble_eq_true hb) hv
        have hy : Region.wanted o (yielded ops a.tmps) = (yielded ops a.tmps j == some want) := by simp [Region.wanted, hg]
        split at h
        · rename_i e he
          cases h
          have hden : ∀ ρ', Le s ρ ρ' → (e.den ρ'.toEnv != 0) = (e.den ρ.toEnv != 0) := by
            intro ρ' hle
            have h1 := htm ρ' hle _ he
            have h2 := htm ρ (Le.refl _ _) _ he
            rw [h1] at h2
            simpa [V.den] using h2
          obtain ⟨s1, hs1, h1, h2, h3, h4, _⟩ := branch_ok hw ha e _ hden
          refine ⟨s1, List.mem_map.2 ⟨_, hs1, ?_⟩, h1, h2, h3, h4⟩
          have h5 := htm ρ (Le.refl _ _) _ he
          rw [hy]
          have : yielded ops a.tmps j = some (e.den ρ.toEnv != 0) := by simp [yielded, hd, h5, V.den]
          rw [this]
          simp
        · rename_i hv
          cases h
          refine ⟨s, ?_, hw, ha, rfl, rfl⟩
          have h5 := htm ρ (Le.refl _ _) _ hv
          have : yielded ops a.tmps j = none := by
            simp only [yielded, hd, Option.bind_some, h5, V.den]
          rw [hy, this]
          simp
        · cases h

def runOps (P : Program) (call : CallF) (ops : Array Oper) : List Nat → St → Option (List St)
  | [], s => some [s]
  | i :: rest, s => match ops[i]? with
    | none => none
    | some o => match guardL s ops o with
      | none => none
      | some gs => bindL gs fun g => match g.1 with
        | true => match stepL P call g.2 o with
          | none => none
          | some l => bindL l (runOps P call ops rest)
        | false => runOps P call ops rest (g.2.put o.dst undefV)

theorem runOps_ok {P : Program} {call : CallF} {w0 : Base} (hc : CallOk P w0 call) {ops : Array Oper} {Q : Exit → Act → World → Prop} : ∀ (order : List Nat) {w : World} {ρ : Env2} {s : St} {a : Act} {l : List St},
    RelW w0 ρ s w → RelA ρ s a → runOps P call ops order s = some l → Goes w0 ρ s l (Q .normal) → wpOps P ops Q order a w
  | [], w, ρ, s, a, l, hw, ha, h, hk => by
    cases h
    exact hk s (by simp) ρ a w (Le.refl _ _) (Nat.le_refl _) (Nat.le_refl _) hw ha
  | i :: rest, w, ρ, s, a, l, hw, ha, h, hk => by
    rw [wpOps_cons]
    unfold wpOp
    simp only [runOps] at h
    split at h
    · cases h
    · rename_i o ho
      simp only [ho]
      split at h
      · cases h
      · rename_i gs hgs
        obtain ⟨s1, hm, hw1, ha1, hb1, hv1⟩ := guardL_ok hw ha hgs
        obtain ⟨x, hx, hsub⟩ := bindL_mem h _ hm
        have hle1 : ∀ {ρ' : Env2}, Le s1 ρ ρ' ↔ Le s ρ ρ' := by simp [Le, hb1, hv1]
        by_cases hwant : Region.wanted o (yielded ops a.tmps) = true
        · rw [if_pos hwant]
          refine .inl ?_
          simp only [hwant] at hx
          split at hx
          · cases hx
          · rename_i l1 hl1
            refine stepL_ok hc hw1 ha1 hl1 fun s2 hs2 ρ2 a2 w2 hle hb hv hw2 ha2 => ?_
            obtain ⟨y, hy, hsub2⟩ := bindL_mem hx s2 hs2
            exact runOps_ok hc rest hw2 ha2 hy fun s3 hs3 ρ3 a3 w3 hle3 hb3 hv3 hw3 ha3 =>
              hk s3 (hsub _ (hsub2 _ hs3)) ρ3 a3 w3 ((hle1.1 hle).trans (by omega) (by omega) hle3) (by omega) (by omega) hw3 ha3
        · rw [if_neg hwant]
          have hwant : Region.wanted o (yielded ops a.tmps) = false := by simpa using hwant
          simp only [hwant] at hx
          obtain ⟨p1, p2, _⟩ := put_nb s1 o.dst undefV
          exact runOps_ok hc rest (relW_put hw1) (relA_put ha1 fun ρ' _ => den_undef ρ') hx fun s3 hs3 ρ3 a3 w3 hle3 hb3 hv3 hw3 ha3 =>
            hk s3 (hsub _ hs3) ρ3 a3 w3 (hle1.1 (le_put.1 hle3)) (by omega) (by omega) hw3 ha3

end Go.Sx
