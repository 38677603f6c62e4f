/- The run of a whole body, and of a call. -/
import Derived.Test.YtjgobpmhdeancaaSx4
namespace Go.Sx
open Go

inductive X where
  | normal
  | exit (id : Nat)
  | ret
def X.to : X → Exit
  | .normal => .normal
  | .exit id => .exit id
  | .ret => .ret
abbrev Outs := List (X × St)
/-- which function, which place in its body (the last step first) -/
abbrev Ex := Nat → List Nat → Code → St → Option Outs
def Code.sub (i : Nat) : Code → Option Code
  | .seq a b => match i with
    | 0 => some a
    | _ => some b
  | .cond _ a b => match i with
    | 0 => some a
    | _ => some b
  | .block _ b => some b
  | .loop b => some b
  | _ => none
def codeAt (bs : Bodies) (cur : Nat) : List Nat → Option Code
  | [] => match bs cur with
    | some k => some k.body
    | none => none
  | i :: p => match codeAt bs cur p with
    | some c => Code.sub i c
    | none => none
/-- A loop that is known by what it comes to. -/
abbrev LoopOracle := Nat → List Nat → St → Option (Option Outs)
def noLoops : LoopOracle := fun _ _ _ => none

def loopN (ex : St → Option Outs) : Nat → St → Option Outs
  | 0, _ => none
  | n + 1, s => match ex s with
    | none => none
    | some outs => bindL outs fun r => match r.1 with
      | .normal => loopN ex n r.2
      | x => some [(x, r.2)]

def callBy (P : Program) (orc : Oracle) (bs : Bodies) (ex : Ex) : CallF := fun f s args => match orc f s args with
  | some r => r
  | none => match bs f with
    | none => none
    | some k => match ex f [] k.body (s.enter k.fn args) with
      | none => none
      | some outs => mapO (fun r => match r.1 with
        | .exit _ => none
        | _ => match resV P r.2 k.fn.results.toList with
          | some vs => some (resOne vs, backTo s r.2)
          | none => none) outs

def exec (P : Program) (orc : Oracle) (lo : LoopOracle) (bs : Bodies) : Nat → Ex
  | 0 => fun _ _ _ _ => none
  | f + 1 => fun cur p c s => match c with
    | .skip => some [(.normal, s)]
    | .label _ => some [(.normal, s)]
    | .ret => some [(.ret, s)]
    | .exit id => some [(.exit id, s)]
    | .seq a b => match exec P orc lo bs f cur (0 :: p) a s with
      | none => none
      | some outs => bindL outs fun r => match r.1 with
        | .normal => exec P orc lo bs f cur (1 :: p) b r.2
        | x => some [(x, r.2)]
    | .cond c a b => match evO s c with
      | some (.bool e) => bindL (branch s e) fun r => match r.1 with
        | true => exec P orc lo bs f cur (0 :: p) a r.2
        | false => exec P orc lo bs f cur (1 :: p) b r.2
      | _ => none
    | .block id b => match lo cur p s with
      | some r => r
      | none => match exec P orc lo bs f cur (0 :: p) b s with
        | none => none
        | some outs => some (outs.map fun r => match r.1 with
          | .exit j => match Nat.beq j id with
            | true => (.normal, r.2)
            | false => (.exit j, r.2)
          | x => (x, r.2))
    | .loop b => loopN (exec P orc lo bs f cur (0 :: p) b) f s
    | .region _ ops draw => match draw with
      | false => match runOps P (callBy P orc bs (exec P orc lo bs f)) ops (List.range ops.size) s with
        | none => none
        | some l => some (l.map fun s => (.normal, s))
      | true => match P.follows .mixedOrders with
        | true => match exploreP P (callBy P orc bs (exec P orc lo bs f)) ops s with
         | some l => some (l.map fun s => (.normal, s))
         | none => match explore P (callBy P orc bs (exec P orc lo bs f)) ops s with
          | some s => some [(.normal, s)]
          | none => match exploreL P (callBy P orc bs (exec P orc lo bs f)) ops s with
            | some l => some (l.map fun s => (.normal, s))
            | none => none
        | false => none
    | _ => none

def GoesX (w0 : Base) (ρ : Env2) (s : St) (l : Outs) (Q : Exit → Act → World → Prop) : Prop :=
  ∀ r ∈ l, ∀ ρ1 a1 w1, Le s ρ ρ1 → s.nb ≤ r.2.nb → s.nv ≤ r.2.nv → RelW w0 ρ1 r.2 w1 → RelA ρ1 r.2 a1 → Q r.1.to a1 w1
def LoopsOk (P : Program) (w0 : Base) (bs : Bodies) (lo : LoopOracle) : Prop := ∀ cur p s outs, lo cur p s = some (some outs) → ∀ c, codeAt bs cur p = some c → ∀ ρ a w (Q : Exit → Act → World → Prop), RelW w0 ρ s w → RelA ρ s a → GoesX w0 ρ s outs Q → c.wp P Q a w
def ExOk (P : Program) (w0 : Base) (bs : Bodies) (ex : Ex) : Prop := ∀ cur p c s outs, ex cur p c s = some outs → codeAt bs cur p = some c → ∀ ρ a w (Q : Exit → Act → World → Prop), RelW w0 ρ s w → RelA ρ s a → GoesX w0 ρ s outs Q → c.wp P Q a w

theorem GoesX.next {w0 : Base} {ρ ρ1 : Env2} {s s1 : St} {l l' : Outs} {Q : Exit → Act → World → Prop} (h : GoesX w0 ρ s l Q) (hle : Le s ρ ρ1) (hb : s.nb ≤ s1.nb) (hv : s.nv ≤ s1.nv) (hsub : ∀ y ∈ l', y ∈ l) :
    GoesX w0 ρ1 s1 l' Q := fun r hr ρ2 a2 w2 hle2 hb2 hv2 hw2 ha2 =>
  h r (hsub r hr) ρ2 a2 w2 (hle.trans hb hv hle2) (by omega) (by omega) hw2 ha2

theorem results_eq (fn : Func) (a : Act) : results fn a.tmps = (do
    let vs ← fn.results.mapM (resRun a)
    pure (if h : vs.size = 1 then vs[0] else .tuple vs)) := rfl

theorem callBy_ok {P : Program} {w0 : Base} {orc : Oracle} {bs : Bodies} (ho : OracleOk P w0 orc) (hbs : BodiesOk P bs) {ex : Ex} (hex : ExOk P w0 bs ex) : CallOk P w0 (callBy P orc bs ex) := by
  intro f s args l h ρ w hw xs hx
  unfold callBy at h
  split at h
  · rename_i r hr
    subst h
    exact ho f s args l hr ρ w hw xs hx
  · split at h
    · cases h
    · rename_i k hk
      obtain ⟨hf, hbody, hcall⟩ := hbs f k hk
      refine .inl ⟨hcall, ?_⟩
      split at h
      · cases h
      · rename_i outs houts
        obtain ⟨hl, hg⟩ := mapO_some h
        have hw' : RelW w0 ρ (s.enter k.fn args) w := fun ρ' hle => let h0 := hw ρ' hle; ⟨h0.ext, h0.fn, h0.hp, h0.inj, h0.gl, h0.bd, h0.pc⟩
        refine calls_of_wp hf hbody (hex f [] _ _ outs houts (by simp [codeAt, hk]) ρ _ w _ hw' (relA_enter hx) fun r hr ρ1 a1 w1 hle hb hv hw1 ha1 => ?_)
        obtain ⟨i, hi, hget⟩ := List.getElem_of_mem hr
        obtain ⟨y, hy1, hy2⟩ := hg i r (by rw [List.getElem?_eq_getElem hi, hget])
        have hmem : y ∈ l := List.mem_of_getElem? hy1
        obtain ⟨x, s1⟩ := r
        have fin : ∀ vs, resV P s1 k.fn.results.toList = some vs → y = (resOne vs, backTo s s1) →
            a1.defers = [] ∧ ∃ v, (results k.fn a1.tmps).run P w1 = .ok v w1 ∧ Answers w0 ρ s l (.returned v) w1 := by
          intro vs hvs hyv
          have hrun := fun ρ' (hle' : Le s1 ρ1 ρ') => resV_run (P := P) (hw1 ρ' hle') (ha1 ρ' hle') hvs
          have h0 := hrun ρ1 (Le.refl _ _)
          have hone : ∀ ρ', (if h : (V.denL ρ' vs).toArray.size = 1 then (V.denL ρ' vs).toArray[0] else Value.tuple (V.denL ρ' vs).toArray) = (resOne vs).den ρ' := by
            intro ρ'
            match vs with
            | [] => simp [V.denL, resOne, V.den]
            | [v] => simp [V.denL, resOne]
            | v :: u :: r => simp [V.denL, resOne, V.den]
          have hres : (results k.fn a1.tmps).run P w1 = .ok ((resOne vs).den ρ1) w1 := by
            rw [results_eq]
            rw [Array.mapM_eq_mapM_toList]
            simp only [Sem.run_bind, Sem.run_map, h0, Result.andThen_ok]
            have := hone ρ1
            simpa using this
          refine ⟨(ha1.to).defers, _, hres, y, hmem, _, ρ1, rfl, hle, by rw [hyv]; exact hb, by rw [hyv]; exact hv, ?_, fun ρ' hle' => ?_⟩
          · rw [hyv]
            exact fun ρ' hle' => let h0 := hw1 ρ' hle'; ⟨h0.ext, h0.fn, h0.hp, h0.inj, h0.gl, h0.bd, h0.pc⟩
          · rw [hyv] at hle' ⊢
            have h1 := hrun ρ' hle'
            rw [h0] at h1
            injection h1 with h1
            show (resOne vs).den ρ' = (resOne vs).den ρ1
            have hcongr : ∀ x y : List Value, x = y → (if h : x.toArray.size = 1 then x.toArray[0] else Value.tuple x.toArray) = (if h : y.toArray.size = 1 then y.toArray[0] else Value.tuple y.toArray) := fun x y e => by subst e; rfl
            exact (hone ρ').symm.trans ((hcongr _ _ h1.symm).trans (hone ρ1))
        cases x with
        | exit id => simp at hy2
        | normal =>
          simp only at hy2
          split at hy2
          · rename_i vs hvs; cases hy2; exact fin vs hvs rfl
          · cases hy2
        | ret =>
          simp only at hy2
          split at hy2
          · rename_i vs hvs; cases hy2; exact fin vs hvs rfl
          · cases hy2

theorem loopN_ok {P : Program} {ex : St → Option Outs} {w0 : Base} {b : Code} (hex : ∀ s outs, ex s = some outs → ∀ ρ a w (Q : Exit → Act → World → Prop), RelW w0 ρ s w → RelA ρ s a → GoesX w0 ρ s outs Q → b.wp P Q a w) {Q : Exit → Act → World → Prop} : ∀ (n : Nat) {s : St} {outs : Outs}, loopN ex n s = some outs →
    ∀ {ρ : Env2} {a : Act} {w : World}, RelW w0 ρ s w → RelA ρ s a → GoesX w0 ρ s outs Q → Code.rounds P b Q n a w
  | 0, s, outs, h, _, _, _, _, _, _ => by simp [loopN] at h
  | n + 1, s, outs, h, ρ, a, w, hw, ha, hk => by
    simp only [loopN] at h
    split at h
    · cases h
    · rename_i o1 ho1
      rw [rounds_succ]
      refine hex s o1 ho1 ρ a w _ hw ha fun r hr ρ1 a1 w1 hle hb hv hw1 ha1 => ?_
      obtain ⟨y, hy, hsub⟩ := bindL_mem h r hr
      obtain ⟨x, s1⟩ := r
      cases x with
      | normal => exact loopN_ok hex n hy hw1 ha1 (hk.next hle hb hv hsub)
      | exit id => simp only at hy; cases hy; exact hk _ (hsub _ (by simp)) ρ1 a1 w1 hle hb hv hw1 ha1
      | ret => simp only at hy; cases hy; exact hk _ (hsub _ (by simp)) ρ1 a1 w1 hle hb hv hw1 ha1

theorem relW_drew {w0 : Base} {w : World} {ρ : Env2} {s : St} (h : RelW w0 ρ s w) : RelW w0 ρ s { w with drawn := w.drawn + 1 } := fun ρ' hle =>
  let h0 := h ρ' hle
  ⟨⟨h0.ext.os, h0.ext.output, h0.ext.size, h0.ext.old, h0.ext.frozen⟩, h0.fn, h0.hp, h0.inj, h0.gl, h0.bd, h0.pc⟩

theorem exec_ok {P : Program} {w0 : Base} {orc : Oracle} {lo : LoopOracle} {bs : Bodies} (ho : OracleOk P w0 orc) (hbs : BodiesOk P bs) (hlo : LoopsOk P w0 bs lo) : ∀ f, ExOk P w0 bs (exec P orc lo bs f)
  | 0 => fun cur p c s outs h => by simp [exec] at h
  | f + 1 => by
    have ih := exec_ok ho hbs hlo f
    intro cur p c s outs h hat ρ a w Q hw ha hk
    have one : ∀ x, outs = [(x, s)] → Q x.to a w := fun x hx => hk (x, s) (by rw [hx]; simp) ρ a w (Le.refl _ _) (Nat.le_refl _) (Nat.le_refl _) hw ha
    simp only [exec] at h
    split at h
    · cases h; exact wp_skip (one _ rfl)
    · cases h; exact wp_label (one _ rfl)
    · cases h; exact wp_ret (one _ rfl)
    · cases h; exact wp_exit (one _ rfl)
    · rename_i ca cb
      split at h
      · cases h
      · rename_i o1 ho1
        refine wp_seq (ih cur (0 :: p) ca s o1 ho1 (by simp [codeAt, hat, Code.sub]) ρ a w _ hw ha fun r hr ρ1 a1 w1 hle hb hv hw1 ha1 => ?_)
        obtain ⟨y, hy, hsub⟩ := bindL_mem h r hr
        obtain ⟨x, s1⟩ := r
        cases x with
        | normal => exact ih cur (1 :: p) cb s1 y hy (by simp [codeAt, hat, Code.sub]) ρ1 a1 w1 Q hw1 ha1 (hk.next hle hb hv hsub)
        | exit id => simp only at hy; cases hy; exact hk _ (hsub _ (by simp)) ρ1 a1 w1 hle hb hv hw1 ha1
        | ret => simp only at hy; cases hy; exact hk _ (hsub _ (by simp)) ρ1 a1 w1 hle hb hv hw1 ha1
    · rename_i c ca cb
      split at h
      · rename_i e he
        have hden : ∀ ρ', Le s ρ ρ' → (e.den ρ'.toEnv != 0) = (e.den ρ.toEnv != 0) := fun ρ' hle => by
          have h1 := den_evO (ha ρ' hle) he
          have h2 := den_evO ha.to he
          rw [h1] at h2
          simpa [V.den] using h2
        obtain ⟨s1, hs1, hw1, ha1, hb1, hv1, _⟩ := branch_ok hw ha e _ hden
        obtain ⟨y, hy, hsub⟩ := bindL_mem h _ hs1
        have hev : a.eval c = .bool (e.den ρ.toEnv != 0) := den_evO ha.to he
        refine wp_cond hev ?_
        have hk1 : GoesX w0 ρ s1 y Q := hk.next (Le.refl _ _) (by omega) (by omega) hsub
        cases ht : (e.den ρ.toEnv != 0) with
        | true => rw [ht] at hy; exact ih cur (0 :: p) ca s1 y hy (by simp [codeAt, hat, Code.sub]) ρ a w Q hw1 ha1 hk1
        | false => rw [ht] at hy; exact ih cur (1 :: p) cb s1 y hy (by simp [codeAt, hat, Code.sub]) ρ a w Q hw1 ha1 hk1
      · cases h
    · rename_i id cb
      split at h
      · rename_i r hr
        subst h
        exact hlo cur p s outs hr _ hat ρ a w Q hw ha hk
      split at h
      · cases h
      · rename_i o1 ho1
        cases h
        refine wp_block (ih cur (0 :: p) cb s o1 ho1 (by simp [codeAt, hat, Code.sub]) ρ a w _ hw ha fun r hr ρ1 a1 w1 hle hb hv hw1 ha1 => ?_)
        have hm := fun x' (hx : _ = (x', r.2)) => hk (x', r.2) (List.mem_map.2 ⟨r, hr, hx⟩) ρ1 a1 w1 hle hb hv hw1 ha1
        obtain ⟨x, s1⟩ := r
        cases x with
        | normal => exact hm .normal rfl
        | ret => exact hm .ret rfl
        | exit j =>
          simp only [X.to, Exit.inBlock]
          by_cases hj : j = id
          · rw [if_pos hj]; exact hm .normal (by simp [hj])
          · rw [if_neg hj]; exact hm (.exit j) (by
              have : Nat.beq j id = false := by
                cases hb' : Nat.beq j id
                · rfl
                · exact absurd (Nat.eq_of_beq_eq_true hb') hj
              simp [this])
    · rename_i cb
      exact wp_loop_rounds f (loopN_ok (fun s' o' h' ρ' a' w' Q' => ih cur (0 :: p) cb s' o' h' (by simp [codeAt, hat, Code.sub]) ρ' a' w' Q') f h hw ha hk)
    · rename_i id ops draw
      have hcall := callBy_ok ho hbs ih
      split at h
      · split at h
        · cases h
        · rename_i l hl
          cases h
          refine wp_region (runOps_ok hcall _ hw ha hl fun s2 hs2 ρ2 a2 w2 hle hb hv hw2 ha2 => ?_)
          exact hk (.normal, s2) (List.mem_map.2 ⟨s2, hs2, rfl⟩) ρ2 a2 w2 hle hb hv hw2 ha2
      · split at h
        · rename_i hm
          split at h
          · rename_i l hl
            cases h
            refine wp_region_any hm (exploreP_ok hcall hl (relW_drew hw) ha fun s2 hs2 ρ2 a2 w2 hle hb hv hw2 ha2 => ?_)
            exact hk (.normal, s2) (List.mem_map.2 ⟨s2, hs2, rfl⟩) ρ2 a2 w2 hle hb hv hw2 ha2
          split at h
          · rename_i sf hsf
            cases h
            refine wp_region_any hm (explore_ok hcall hsf (relW_drew hw) ha fun s2 hs2 ρ2 a2 w2 hle hb hv hw2 ha2 => ?_)
            simp at hs2
            subst hs2
            exact hk (.normal, s2) (by simp) ρ2 a2 w2 hle hb hv hw2 ha2
          · split at h
            · rename_i l hl
              cases h
              refine wp_region_any hm (exploreL_ok hcall hl (relW_drew hw) ha fun s2 hs2 ρ2 a2 w2 hle hb hv hw2 ha2 => ?_)
              exact hk (.normal, s2) (List.mem_map.2 ⟨s2, hs2, rfl⟩) ρ2 a2 w2 hle hb hv hw2 ha2
            · cases h
        · cases h
    · cases h

end Go.Sx
