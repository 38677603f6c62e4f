/- Texts that a claim needs, put together: the engine, plain lemmas, contracts. No condition. -/
import Derived.Test.YtnodelimomljbaaMsa
import Derived.Laws.Externs
import Derived.Test.YtnodelimomljbaaChecked
import Derived.KernelRfl
import Derived.Laws.FloatBits

/- The run of a whole body, and of a call. -/
namespace Go.Sx
open Go

inductive X where
  | normal
  | exit (id : Nat)
  | ret
def X.to : X → Exit
  | .normal => .normal
  | .exit id => .exit id
  | .ret => .ret
abbrev Outs := List (X × St)
/-- which function, which place in its body (the last step first) -/
abbrev Ex := Nat → List Nat → Code → St → Option Outs
def Code.sub (i : Nat) : Code → Option Code
  | .seq a b => match i with
    | 0 => some a
    | _ => some b
  | .cond _ a b => match i with
    | 0 => some a
    | _ => some b
  | .block _ b => some b
  | .loop b => some b
  | _ => none
def codeAt (bs : Bodies) (cur : Nat) : List Nat → Option Code
  | [] => match bs cur with
    | some k => some k.body
    | none => none
  | i :: p => match codeAt bs cur p with
    | some c => Code.sub i c
    | none => none
/-- A loop that is known by what it comes to. -/
abbrev LoopOracle := Nat → List Nat → St → Option (Option Outs)
def noLoops : LoopOracle := fun _ _ _ => none

def loopN (ex : St → Option Outs) : Nat → St → Option Outs
  | 0, _ => none
  | n + 1, s => match ex s with
    | none => none
    | some outs => bindL outs fun r => match r.1 with
      | .normal => loopN ex n r.2
      | x => some [(x, r.2)]

def callBy (P : Program) (orc : Oracle) (bs : Bodies) (ex : Ex) : CallF := fun f s args => match orc f s args with
  | some r => r
  | none => match bs f with
    | none => none
    | some k => match ex f [] k.body (s.enter k.fn args) with
      | none => none
      | some outs => mapO (fun r => match r.1 with
        | .exit _ => none
        | _ => match resV P r.2 k.fn.results.toList with
          | some vs => some (resOne vs, backTo s r.2)
          | none => none) outs

def exec (P : Program) (orc : Oracle) (lo : LoopOracle) (bs : Bodies) : Nat → Ex
  | 0 => fun _ _ _ _ => none
  | f + 1 => fun cur p c s => match c with
    | .skip => some [(.normal, s)]
    | .label _ => some [(.normal, s)]
    | .ret => some [(.ret, s)]
    | .exit id => some [(.exit id, s)]
    | .seq a b => match exec P orc lo bs f cur (0 :: p) a s with
      | none => none
      | some outs => bindL outs fun r => match r.1 with
        | .normal => exec P orc lo bs f cur (1 :: p) b r.2
        | x => some [(x, r.2)]
    | .cond c a b => match evO s c with
      | some (.bool e) => bindL (branch s e) fun r => match r.1 with
        | true => exec P orc lo bs f cur (0 :: p) a r.2
        | false => exec P orc lo bs f cur (1 :: p) b r.2
      | _ => none
    | .block id b => match lo cur p s with
      | some r => r
      | none => match exec P orc lo bs f cur (0 :: p) b s with
        | none => none
        | some outs => some (outs.map fun r => match r.1 with
          | .exit j => match Nat.beq j id with
            | true => (.normal, r.2)
            | false => (.exit j, r.2)
          | x => (x, r.2))
    | .loop b => loopN (exec P orc lo bs f cur (0 :: p) b) f s
    | .region _ ops draw => match draw with
      | false => match runOps P (callBy P orc bs (exec P orc lo bs f)) ops (List.range ops.size) s with
        | none => none
        | some l => some (l.map fun s => (.normal, s))
      | true => match P.follows .mixedOrders with
        | true => match exploreB P (callBy P orc bs (exec P orc lo bs f)) ops s with
          | some s => some [(.normal, s)]
          | none => match exploreL P (callBy P orc bs (exec P orc lo bs f)) ops s with
            | some l => some (l.map fun s => (.normal, s))
            | none => none
        | false => none
    | _ => none

def GoesX (w0 : Base) (ρ : Env2) (s : St) (l : Outs) (Q : Exit → Act → World → Prop) : Prop :=
  ∀ r ∈ l, ∀ ρ1 a1 w1, Le s ρ ρ1 → s.nb ≤ r.2.nb → s.nv ≤ r.2.nv → RelW w0 ρ1 r.2 w1 → RelA ρ1 r.2 a1 → Q r.1.to a1 w1
def LoopsOk (P : Program) (w0 : Base) (bs : Bodies) (lo : LoopOracle) : Prop := ∀ cur p s outs, lo cur p s = some (some outs) → ∀ c, codeAt bs cur p = some c → ∀ ρ a w (Q : Exit → Act → World → Prop), RelW w0 ρ s w → RelA ρ s a → GoesX w0 ρ s outs Q → c.wp P Q a w
def ExOk (P : Program) (w0 : Base) (bs : Bodies) (ex : Ex) : Prop := ∀ cur p c s outs, ex cur p c s = some outs → codeAt bs cur p = some c → ∀ ρ a w (Q : Exit → Act → World → Prop), RelW w0 ρ s w → RelA ρ s a → GoesX w0 ρ s outs Q → c.wp P Q a w

theorem GoesX.next {w0 : Base} {ρ ρ1 : Env2} {s s1 : St} {l l' : Outs} {Q : Exit → Act → World → Prop} (h : GoesX w0 ρ s l Q) (hle : Le s ρ ρ1) (hb : s.nb ≤ s1.nb) (hv : s.nv ≤ s1.nv) (hsub : ∀ y ∈ l', y ∈ l) :
    GoesX w0 ρ1 s1 l' Q := fun r hr ρ2 a2 w2 hle2 hb2 hv2 hw2 ha2 =>
  h r (hsub r hr) ρ2 a2 w2 (hle.trans hb hv hle2) (by omega) (by omega) hw2 ha2

theorem results_eq (fn : Func) (a : Act) : results fn a.tmps = (do
    let vs ← fn.results.mapM (resRun a)
    pure (if h : vs.size = 1 then vs[0] else .tuple vs)) := rfl

theorem callBy_ok {P : Program} {w0 : Base} {orc : Oracle} {bs : Bodies} (ho : OracleOk P w0 orc) (hbs : BodiesOk P bs) {ex : Ex} (hex : ExOk P w0 bs ex) : CallOk P w0 (callBy P orc bs ex) := by
  intro f s args l h ρ w hw xs hx
  unfold callBy at h
  split at h
  · rename_i r hr
    subst h
    exact ho f s args l hr ρ w hw xs hx
  · split at h
    · cases h
    · rename_i k hk
      obtain ⟨hf, hbody, hcall⟩ := hbs f k hk
      refine .inl ⟨hcall, ?_⟩
      split at h
      · cases h
      · rename_i outs houts
        obtain ⟨hl, hg⟩ := mapO_some h
        have hw' : RelW w0 ρ (s.enter k.fn args) w := fun ρ' hle => let h0 := hw ρ' hle; ⟨h0.ext, h0.fn, h0.hp, h0.inj, h0.gl, h0.bd, h0.pc⟩
        refine calls_of_wp hf hbody (hex f [] _ _ outs houts (by simp [codeAt, hk]) ρ _ w _ hw' (relA_enter hx) fun r hr ρ1 a1 w1 hle hb hv hw1 ha1 => ?_)
        obtain ⟨i, hi, hget⟩ := List.getElem_of_mem hr
        obtain ⟨y, hy1, hy2⟩ := hg i r (by rw [List.getElem?_eq_getElem hi, hget])
        have hmem : y ∈ l := List.mem_of_getElem? hy1
        obtain ⟨x, s1⟩ := r
        have fin : ∀ vs, resV P s1 k.fn.results.toList = some vs → y = (resOne vs, backTo s s1) →
            a1.defers = [] ∧ ∃ v, (results k.fn a1.tmps).run P w1 = .ok v w1 ∧ Answers w0 ρ s l (.returned v) w1 := by
          intro vs hvs hyv
          have hrun := fun ρ' (hle' : Le s1 ρ1 ρ') => resV_run (P := P) (hw1 ρ' hle') (ha1 ρ' hle') hvs
          have h0 := hrun ρ1 (Le.refl _ _)
          have hone : ∀ ρ', (if h : (V.denL ρ' vs).toArray.size = 1 then (V.denL ρ' vs).toArray[0] else Value.tuple (V.denL ρ' vs).toArray) = (resOne vs).den ρ' := by
            intro ρ'
            match vs with
            | [] => simp [V.denL, resOne, V.den]
            | [v] => simp [V.denL, resOne]
            | v :: u :: r => simp [V.denL, resOne, V.den]
          have hres : (results k.fn a1.tmps).run P w1 = .ok ((resOne vs).den ρ1) w1 := by
            rw [results_eq]
            rw [Array.mapM_eq_mapM_toList]
            simp only [Sem.run_bind, Sem.run_map, h0, Result.andThen_ok]
            have := hone ρ1
            simpa using this
          refine ⟨(ha1.to).defers, _, hres, y, hmem, _, ρ1, rfl, hle, by rw [hyv]; exact hb, by rw [hyv]; exact hv, ?_, fun ρ' hle' => ?_⟩
          · rw [hyv]
            exact fun ρ' hle' => let h0 := hw1 ρ' hle'; ⟨h0.ext, h0.fn, h0.hp, h0.inj, h0.gl, h0.bd, h0.pc⟩
          · rw [hyv] at hle' ⊢
            have h1 := hrun ρ' hle'
            rw [h0] at h1
            injection h1 with h1
            show (resOne vs).den ρ' = (resOne vs).den ρ1
            have hcongr : ∀ x y : List Value, x = y → (if h : x.toArray.size = 1 then x.toArray[0] else Value.tuple x.toArray) = (if h : y.toArray.size = 1 then y.toArray[0] else Value.tuple y.toArray) := fun x y e => by subst e; rfl
            exact (hone ρ').symm.trans ((hcongr _ _ h1.symm).trans (hone ρ1))
        cases x with
        | exit id => simp at hy2
        | normal =>
          simp only at hy2
          split at hy2
          · rename_i vs hvs; cases hy2; exact fin vs hvs rfl
          · cases hy2
        | ret =>
          simp only at hy2
          split at hy2
          · rename_i vs hvs; cases hy2; exact fin vs hvs rfl
          · cases hy2

theorem loopN_ok {P : Program} {ex : St → Option Outs} {w0 : Base} {b : Code} (hex : ∀ s outs, ex s = some outs → ∀ ρ a w (Q : Exit → Act → World → Prop), RelW w0 ρ s w → RelA ρ s a → GoesX w0 ρ s outs Q → b.wp P Q a w) {Q : Exit → Act → World → Prop} : ∀ (n : Nat) {s : St} {outs : Outs}, loopN ex n s = some outs →
    ∀ {ρ : Env2} {a : Act} {w : World}, RelW w0 ρ s w → RelA ρ s a → GoesX w0 ρ s outs Q → Code.rounds P b Q n a w
  | 0, s, outs, h, _, _, _, _, _, _ => by simp [loopN] at h
  | n + 1, s, outs, h, ρ, a, w, hw, ha, hk => by
    simp only [loopN] at h
    split at h
    · cases h
    · rename_i o1 ho1
      rw [rounds_succ]
      refine hex s o1 ho1 ρ a w _ hw ha fun r hr ρ1 a1 w1 hle hb hv hw1 ha1 => ?_
      obtain ⟨y, hy, hsub⟩ := bindL_mem h r hr
      obtain ⟨x, s1⟩ := r
      cases x with
      | normal => exact loopN_ok hex n hy hw1 ha1 (hk.next hle hb hv hsub)
      | exit id => simp only at hy; cases hy; exact hk _ (hsub _ (by simp)) ρ1 a1 w1 hle hb hv hw1 ha1
      | ret => simp only at hy; cases hy; exact hk _ (hsub _ (by simp)) ρ1 a1 w1 hle hb hv hw1 ha1

theorem relW_drew {w0 : Base} {w : World} {ρ : Env2} {s : St} (h : RelW w0 ρ s w) : RelW w0 ρ s { w with drawn := w.drawn + 1 } := fun ρ' hle =>
  let h0 := h ρ' hle
  ⟨⟨h0.ext.os, h0.ext.output, h0.ext.size, h0.ext.old, h0.ext.frozen⟩, h0.fn, h0.hp, h0.inj, h0.gl, h0.bd, h0.pc⟩

theorem exec_ok {P : Program} {w0 : Base} {orc : Oracle} {lo : LoopOracle} {bs : Bodies} (ho : OracleOk P w0 orc) (hbs : BodiesOk P bs) (hlo : LoopsOk P w0 bs lo) : ∀ f, ExOk P w0 bs (exec P orc lo bs f)
  | 0 => fun cur p c s outs h => by simp [exec] at h
  | f + 1 => by
    have ih := exec_ok ho hbs hlo f
    intro cur p c s outs h hat ρ a w Q hw ha hk
    have one : ∀ x, outs = [(x, s)] → Q x.to a w := fun x hx => hk (x, s) (by rw [hx]; simp) ρ a w (Le.refl _ _) (Nat.le_refl _) (Nat.le_refl _) hw ha
    simp only [exec] at h
    split at h
    · cases h; exact wp_skip (one _ rfl)
    · cases h; exact wp_label (one _ rfl)
    · cases h; exact wp_ret (one _ rfl)
    · cases h; exact wp_exit (one _ rfl)
    · rename_i ca cb
      split at h
      · cases h
      · rename_i o1 ho1
        refine wp_seq (ih cur (0 :: p) ca s o1 ho1 (by simp [codeAt, hat, Code.sub]) ρ a w _ hw ha fun r hr ρ1 a1 w1 hle hb hv hw1 ha1 => ?_)
        obtain ⟨y, hy, hsub⟩ := bindL_mem h r hr
        obtain ⟨x, s1⟩ := r
        cases x with
        | normal => exact ih cur (1 :: p) cb s1 y hy (by simp [codeAt, hat, Code.sub]) ρ1 a1 w1 Q hw1 ha1 (hk.next hle hb hv hsub)
        | exit id => simp only at hy; cases hy; exact hk _ (hsub _ (by simp)) ρ1 a1 w1 hle hb hv hw1 ha1
        | ret => simp only at hy; cases hy; exact hk _ (hsub _ (by simp)) ρ1 a1 w1 hle hb hv hw1 ha1
    · rename_i c ca cb
      split at h
      · rename_i e he
        have hden : ∀ ρ', Le s ρ ρ' → (e.den ρ'.toEnv != 0) = (e.den ρ.toEnv != 0) := fun ρ' hle => by
          have h1 := den_evO (ha ρ' hle) he
          have h2 := den_evO ha.to he
          rw [h1] at h2
          simpa [V.den] using h2
        obtain ⟨s1, hs1, hw1, ha1, hb1, hv1, _⟩ := branch_ok hw ha e _ hden
        obtain ⟨y, hy, hsub⟩ := bindL_mem h _ hs1
        have hev : a.eval c = .bool (e.den ρ.toEnv != 0) := den_evO ha.to he
        refine wp_cond hev ?_
        have hk1 : GoesX w0 ρ s1 y Q := hk.next (Le.refl _ _) (by omega) (by omega) hsub
        cases ht : (e.den ρ.toEnv != 0) with
        | true => rw [ht] at hy; exact ih cur (0 :: p) ca s1 y hy (by simp [codeAt, hat, Code.sub]) ρ a w Q hw1 ha1 hk1
        | false => rw [ht] at hy; exact ih cur (1 :: p) cb s1 y hy (by simp [codeAt, hat, Code.sub]) ρ a w Q hw1 ha1 hk1
      · cases h
    · rename_i id cb
      split at h
      · rename_i r hr
        subst h
        exact hlo cur p s outs hr _ hat ρ a w Q hw ha hk
      split at h
      · cases h
      · rename_i o1 ho1
        cases h
        refine wp_block (ih cur (0 :: p) cb s o1 ho1 (by simp [codeAt, hat, Code.sub]) ρ a w _ hw ha fun r hr ρ1 a1 w1 hle hb hv hw1 ha1 => ?_)
        have hm := fun x' (hx : _ = (x', r.2)) => hk (x', r.2) (List.mem_map.2 ⟨r, hr, hx⟩) ρ1 a1 w1 hle hb hv hw1 ha1
        obtain ⟨x, s1⟩ := r
        cases x with
        | normal => exact hm .normal rfl
        | ret => exact hm .ret rfl
        | exit j =>
          simp only [X.to, Exit.inBlock]
          by_cases hj : j = id
          · rw [if_pos hj]; exact hm .normal (by simp [hj])
          · rw [if_neg hj]; exact hm (.exit j) (by
              have : Nat.beq j id = false := by
                cases hb' : Nat.beq j id
                · rfl
                · exact absurd (Nat.eq_of_beq_eq_true hb') hj
              simp [this])
    · rename_i cb
      exact wp_loop_rounds f (loopN_ok (fun s' o' h' ρ' a' w' Q' => ih cur (0 :: p) cb s' o' h' (by simp [codeAt, hat, Code.sub]) ρ' a' w' Q') f h hw ha hk)
    · rename_i id ops draw
      have hcall := callBy_ok ho hbs ih
      split at h
      · split at h
        · cases h
        · rename_i l hl
          cases h
          refine wp_region (runOps_ok hcall _ hw ha hl fun s2 hs2 ρ2 a2 w2 hle hb hv hw2 ha2 => ?_)
          exact hk (.normal, s2) (List.mem_map.2 ⟨s2, hs2, rfl⟩) ρ2 a2 w2 hle hb hv hw2 ha2
      · split at h
        · rename_i hm
          split at h
          · rename_i sf hsf
            cases h
            refine wp_region_any hm (exploreB_ok hcall hsf (relW_drew hw) ha fun s2 hs2 ρ2 a2 w2 hle hb hv hw2 ha2 => ?_)
            simp at hs2
            subst hs2
            exact hk (.normal, s2) (by simp) ρ2 a2 w2 hle hb hv hw2 ha2
          · split at h
            · rename_i l hl
              cases h
              refine wp_region_any hm (exploreL_ok hcall hl (relW_drew hw) ha fun s2 hs2 ρ2 a2 w2 hle hb hv hw2 ha2 => ?_)
              exact hk (.normal, s2) (List.mem_map.2 ⟨s2, hs2, rfl⟩) ρ2 a2 w2 hle hb hv hw2 ha2
            · cases h
        · cases h
    · cases h

end Go.Sx

/- From a run to a statement: what is left to show of numbers alone. -/
namespace Go.Sx
open Go

/-! ### which functions have bodies -/
def bodyOf (fn : Func) : Known := ⟨fn, match fn.body with
  | some c => c
  | none => .skip⟩
def bodies : List (Nat × Func) → Bodies
  | [], _ => none
  | (g, fn) :: r, f => match Nat.beq g f with
    | true => some (bodyOf fn)
    | false => bodies r f
def AllKnown (P : Program) : List (Nat × Func) → Prop
  | [] => True
  | (f, fn) :: r => (P.funcs[f]? = some fn ∧ fn.body.isSome = true ∧ ∀ ys w', (callFunc f ys).run P w' = .ok (.enter f ys) w') ∧ AllKnown P r
theorem bodies_ok {P : Program} : ∀ {l : List (Nat × Func)}, AllKnown P l → BodiesOk P (bodies l)
  | [], _, f, k, h => by simp [bodies] at h
  | (g, fn) :: r, ha, f, k, h => by
    simp only [bodies] at h
    split at h
    · rename_i hb
      have := Nat.eq_of_beq_eq_true hb
      subst this
      cases h
      obtain ⟨⟨h1, h2, h3⟩, _⟩ := ha
      refine ⟨h1, ?_, h3⟩
      simp only [bodyOf]
      cases hbody : fn.body with
      | none => rw [hbody] at h2; cases h2
      | some c => rfl
    · exact bodies_ok ha.2 f k h

def noOracle : Oracle := fun _ _ _ => none
theorem noLoops_ok (P : Program) (w0 : Base) (bs : Bodies) : LoopsOk P w0 bs noLoops := fun cur p s outs h => by simp [noLoops] at h
theorem noOracle_ok (P : Program) (w0 : Base) : OracleOk P w0 noOracle := fun f s args l h => by simp [noOracle] at h

/-! ### where a run begins -/
abbrev Tabs := List (Nat × IntKind × List Nat)
/-- the tables that stand among the program's variables -/
def TabsOk (w0 : World) (gl : Tabs) : Prop := ∀ p ∈ gl, p.1 < w0.heap.size ∧ ∀ (j x : Nat), p.2.2[j]? = some x → w0.cell? ⟨p.1, j, none⟩ = some (.int p.2.1 x)
def supposeAll (b : Bd) : List E → Bd
  | [] => b
  | e :: r => suppose (supposeAll b r) e
theorem ok_supposeAll {ρ : Env} {b : Bd} (hb : b.ok ρ) : ∀ {pc : List E}, pcOk ρ pc → (supposeAll b pc).ok ρ
  | [], _ => hb
  | e :: _, h => ok_suppose e (ok_supposeAll hb fun p hp => h p (List.mem_cons_of_mem _ hp)) (h e List.mem_cons_self)
def start (nv : Nat) (bd : Bd) (pc : List E) (gl : Tabs) : St := { n := 0, tm := .e, hp := .e, nb := 0, nv := nv, bd := supposeAll bd pc, pc := pc, gl := gl }
def env (v : Nat → Int) (fn : Nat → Int → Int → Int → Int) : Env2 := { v := v, fn := fn, blk := fun _ => 0, raw := fun _ => undef }
theorem relW_start {w0 : Base} {w : World} (hx : Ext w0.w w) {v : Nat → Int} {nv : Nat} {bd : Bd} {pc : List E} {gl : Tabs} (hg : TabsOk w0.w gl)
    (h : ∀ ρ', Le (start nv bd pc gl) (env v w0.fn) ρ' → bd.ok ρ'.toEnv ∧ pcOk ρ'.toEnv pc) : RelW w0 (env v w0.fn) (start nv bd pc gl) w := fun ρ' hle =>
  ⟨hx, hle.2.2.1, fun i o ho => by simp [start, T.get] at ho, fun i j o o' ho => by simp [start, T.get] at ho, hg, ok_supposeAll (h ρ' hle).1 (h ρ' hle).2, (h ρ' hle).2⟩

/-- the bounds of the first names, each of a kind (none: a bool) -/
def kindBd : Nat → List (Option IntKind) → Bd
  | _, [] => []
  | i, none :: r => (.var i, iv01) :: kindBd (i + 1) r
  | i, some k :: r => (.var i, kindIv k) :: kindBd (i + 1) r
def kindArgs : Nat → List (Option IntKind) → List V
  | _, [] => []
  | i, none :: r => .bool (.var i) :: kindArgs (i + 1) r
  | i, some k :: r => .int k (.var i) :: kindArgs (i + 1) r
def kindVals (v : Nat → Int) : Nat → List (Option IntKind) → List Value
  | _, [] => []
  | i, none :: r => .bool (v i != 0) :: kindVals v (i + 1) r
  | i, some k :: r => .int k (v i) :: kindVals v (i + 1) r
def KindOk (v : Nat → Int) : Nat → List (Option IntKind) → Prop
  | _, [] => True
  | i, none :: r => iv01.has (v i) ∧ KindOk v (i + 1) r
  | i, some k :: r => (kindIv k).has (v i) ∧ KindOk v (i + 1) r
theorem kindBd_ok {ρ : Env} : ∀ {ks : List (Option IntKind)} {i : Nat}, KindOk ρ.v i ks → (kindBd i ks).ok ρ
  | [], _, _ => fun p hp => by simp [kindBd] at hp
  | none :: r, i, h => fun p hp => by
    simp only [kindBd, List.mem_cons] at hp
    rcases hp with rfl | hp
    · exact h.1
    · exact kindBd_ok h.2 p hp
  | some k :: r, i, h => fun p hp => by
    simp only [kindBd, List.mem_cons] at hp
    rcases hp with rfl | hp
    · exact h.1
    · exact kindBd_ok h.2 p hp
theorem kindVals_congr {v v' : Nat → Int} : ∀ {ks : List (Option IntKind)} {i : Nat}, (∀ j, j < i + ks.length → v' j = v j) → kindVals v' i ks = kindVals v i ks
  | [], _, _ => rfl
  | none :: r, i, h => by simp only [kindVals]; rw [h i (by simp), kindVals_congr fun j hj => h j (by simp at hj ⊢; omega)]
  | some k :: r, i, h => by simp only [kindVals]; rw [h i (by simp), kindVals_congr fun j hj => h j (by simp at hj ⊢; omega)]
theorem kindOk_congr {v v' : Nat → Int} : ∀ {ks : List (Option IntKind)} {i : Nat}, (∀ j, j < i + ks.length → v' j = v j) → KindOk v i ks → KindOk v' i ks
  | [], _, _, _ => trivial
  | none :: r, i, h, hk => ⟨by rw [h i (by simp)]; exact hk.1, kindOk_congr (fun j hj => h j (by simp at hj ⊢; omega)) hk.2⟩
  | some k :: r, i, h, hk => ⟨by rw [h i (by simp)]; exact hk.1, kindOk_congr (fun j hj => h j (by simp at hj ⊢; omega)) hk.2⟩
theorem den_kindArgs (ρ : Env2) : ∀ {ks : List (Option IntKind)} {i : Nat}, V.denL ρ (kindArgs i ks) = kindVals ρ.v i ks
  | [], _ => rfl
  | none :: r, i => by simp [kindArgs, kindVals, V.denL, V.den, E.den, den_kindArgs ρ]
  | some k :: r, i => by simp [kindArgs, kindVals, V.denL, V.den, E.den, den_kindArgs ρ]

/-- what a run comes to: on each way the tests that it has taken, and the answer -/
abbrev Leaf := List E × V
def leaves (l : List (V × St)) : List Leaf := l.map fun r => (r.2.pc, r.1)
def runOf (P : Program) (orc : Oracle) (lo : LoopOracle) (bs : Bodies) (gl : Tabs) (fuel f : Nat) (ks : List (Option IntKind)) (pre : List E) : Option (List Leaf) :=
  match callBy P noOracle bs (exec P orc lo bs fuel) f (start ks.length (kindBd 0 ks) pre gl) (kindArgs 0 ks) with
  | some l => some (leaves l)
  | none => none

def chain (ρ : Env) (goal : Prop) : List E → Prop
  | [] => goal
  | p :: r => chain ρ (p.prop ρ → goal) r
theorem chain_of {ρ : Env} : ∀ {pc : List E} {goal : Prop}, pcOk ρ pc → chain ρ goal pc → goal
  | [], _, _, h => h
  | p :: _, goal, hp, h => chain_of (goal := p.prop ρ → goal) (fun e he => hp e (List.mem_cons_of_mem _ he)) h ((E.prop_iff ρ p).2 (hp p List.mem_cons_self))

theorem Ext.grown {w w' : World} (h : Ext w w') : RowKit.Grown w w' := by
  refine ⟨⟨h.os, h.output, fun i hi => ?_⟩, h.frozen, h.size⟩
  rw [h.old i hi]
  cases w.heap[i]? with
  | none => rfl
  | some o => cases o <;> simp

/-- A run, told: from every world that goes on from the first one, the call ends on one of the ways. -/
theorem run_calls {P : Program} {orc : Oracle} {lo : LoopOracle} {fns : List (Nat × Func)} {w0 : Base} (ho : OracleOk P w0 orc) (hlo : LoopsOk P w0 (bodies fns) lo) (hf : AllKnown P fns) {gl : Tabs} (hg : TabsOk w0.w gl) {fuel f : Nat} {ks : List (Option IntKind)} {pre : List E} {ls : List Leaf}
    (hrun : runOf P orc lo (bodies fns) gl fuel f ks pre = some ls) (hpre : ∀ ρ ρ' : Env, ρ'.fn = ρ.fn → (∀ j, j < ks.length → ρ'.v j = ρ.v j) → pcOk ρ pre → pcOk ρ' pre)
    (v : Nat → Int) (hv : KindOk v 0 ks) (hp : pcOk ⟨v, w0.fn⟩ pre) {w : World} (hx : Ext w0.w w) (R : Ending → World → Prop)
    (hR : ∀ x ∈ ls, ∀ (ρ1 : Env2) (w1 : World), (∀ j, j < ks.length → ρ1.v j = v j) → ρ1.fn = w0.fn → pcOk ρ1.toEnv x.1 → Ext w0.w w1 → R (.returned (x.2.den ρ1)) w1) :
    Calls P f (kindVals v 0 ks).toArray w R := by
  have hbs := bodies_ok hf
  unfold runOf at hrun
  split at hrun
  · rename_i l hl'
    cases hrun
    have hc := callBy_ok (noOracle_ok P w0) hbs (exec_ok ho hbs hlo fuel)
    have hle : ∀ {ρ' : Env2}, Le (start ks.length (kindBd 0 ks) pre gl) (env v w0.fn) ρ' → ∀ j, j < ks.length → ρ'.v j = v j := fun h j hj => h.2.1 j hj
    have hent : ∀ ys w', (callFunc f ys).run P w' = .ok (.enter f ys) w' := by
      have h0 := hl'
      simp only [callBy, noOracle] at h0
      split at h0
      · cases h0
      · rename_i k hk; exact (hbs f k hk).2.2
    have h2 := hc _ _ _ _ hl' (env v w0.fn) w (relW_start hx hg fun ρ' h => ⟨kindBd_ok (kindOk_congr (v := v) (fun j hj => hle h j (by omega)) hv), hpre ⟨v, w0.fn⟩ ρ'.toEnv h.2.2.1 (hle h) hp⟩) (kindVals v 0 ks)
      (fun ρ' h => by rw [den_kindArgs]; exact kindVals_congr fun j hj => hle h j (by omega))
    have h2 := h2.resolve_right fun ⟨x, w1, hv1, _⟩ => by rw [hent] at hv1; cases hv1
    refine h2.2.mono ?_
    rintro e w1 ⟨out, hout, x, ρ1, rfl, hle1, _, _, hw1, hx1⟩
    have h0 := hw1.to
    rw [← hx1 ρ1 (Le.refl _ _)]
    exact hR (out.2.pc, out.1) (List.mem_map.2 ⟨out, hout, rfl⟩) ρ1 w1 (hle hle1) hle1.2.2.1 h0.pc h0.ext
  · cases hrun

/-! ### a law: the answer is true on every way -/
def Law (ρ : Env) : List Leaf → Prop
  | [] => True
  | (pc, .bool e) :: r => chain ρ (e.prop ρ) pc ∧ Law ρ r
  | _ :: _ => False
theorem law_at {ρ : Env} : ∀ {l : List Leaf}, Law ρ l → ∀ x ∈ l, ∃ e, x.2 = .bool e ∧ chain ρ (e.prop ρ) x.1
  | [], _, x, hx => by cases hx
  | (pc, v) :: r, h, x, hx => by
    cases v <;> simp only [Law] at h <;> first | exact h.elim | skip
    cases hx with
    | head => exact ⟨_, rfl, h.1⟩
    | tail _ hx => exact law_at h.2 x hx

/-- THE STATEMENT OF A LAW OVER NUMBERS AND BOOLS. -/
theorem law_calls {P : Program} {orc : Oracle} {lo : LoopOracle} {fns : List (Nat × Func)} {w : World} (fn : Nat → Int → Int → Int → Int) (ho : OracleOk P ⟨w, fn⟩ orc) (hlo : LoopsOk P ⟨w, fn⟩ (bodies fns) lo) (hf : AllKnown P fns) {gl : Tabs} (hg : TabsOk w gl) {fuel f : Nat} {ks : List (Option IntKind)} {ls : List Leaf}
    (hrun : runOf P orc lo (bodies fns) gl fuel f ks [] = some ls) (v : Nat → Int) (hv : KindOk v 0 ks)
    (hl : ∀ u : Nat → Int, KindOk u 0 ks → Law ⟨u, fn⟩ ls) :
    Calls P f (kindVals v 0 ks).toArray w fun e w' => e = .returned (.bool true) ∧ RowKit.Grown w w' := by
  refine run_calls (w0 := ⟨w, fn⟩) ho hlo hf hg hrun (fun _ _ _ _ _ => fun e he => by cases he) v hv (fun e he => by cases he) (Ext.refl w) _ ?_
  intro x hx ρ1 w1 hv1 hfn hpc hext
  refine ⟨?_, hext.grown⟩
  obtain ⟨be, hbe, hch⟩ := law_at (hl ρ1.v (kindOk_congr (fun j hj => hv1 j (by omega)) hv)) x hx
  have hρ : (⟨ρ1.v, fn⟩ : Env) = ρ1.toEnv := by
    have : ρ1.fn = fn := hfn
    rw [← this]
  rw [hρ] at hch
  have hp := chain_of hpc hch
  rw [hbe]
  simp only [V.den]
  rw [(bne_iff_ne (a := be.den ρ1.toEnv) (b := 0)).2 ((E.prop_iff _ _).1 hp)]

/-! ### a contract: the answers as expressions of what came in -/
structure FSpec where
  f : Nat
  ks : List (Option IntKind)
  pre : List E
  res : List (Option IntKind × E)
  bds : Bd

/-- an expression at others in the place of its names -/
def E.at (l : List E) : E → E
  | .lit n => .lit n
  | .var i => l.getD i (.lit 0)
  | .un o a => mkUn o (a.at l)
  | .bin o a b => mkBin o (a.at l) (b.at l)
  | .ite c a b => match c.at l with
    | .lit n => match decide (n = 0) with
      | true => b.at l
      | false => a.at l
    | c' => .ite c' (a.at l) (b.at l)
  | .fn f a b c => .fn f (a.at l) (b.at l) (c.at l)
def atEnv (ρ : Env) (l : List E) : Env := ⟨fun i => (l.getD i (.lit 0)).den ρ, ρ.fn⟩
theorem den_at (ρ : Env) (l : List E) : ∀ e : E, (e.at l).den ρ = e.den (atEnv ρ l)
  | .lit _ => rfl
  | .var _ => rfl
  | .un o a => by simp only [E.at, den_mkUn, E.den, den_at ρ l a]
  | .bin o a b => by simp only [E.at, den_mkBin, E.den, den_at ρ l a, den_at ρ l b]
  | .ite c a b => by
    have hc := den_at ρ l c
    simp only [E.at, E.den]
    split
    · rename_i n hn
      rw [hn] at hc
      simp only [E.den] at hc
      split
      · rename_i h; rw [if_neg (by rw [← hc]; simpa using h), den_at ρ l b]
      · rename_i h; rw [if_pos (by rw [← hc]; simpa using h), den_at ρ l a]
    · simp only [E.den, den_at ρ l a, den_at ρ l b, hc]
  | .fn f a b c => by simp only [E.at, E.den, den_at ρ l a, den_at ρ l b, den_at ρ l c]; rfl
def resV1 (l : List E) : Option IntKind × E → V
  | (none, e) => .bool (e.at l)
  | (some k, e) => .int k (e.at l)
def resVal (ρ : Env) : Option IntKind × E → Value
  | (none, e) => .bool (e.den ρ != 0)
  | (some k, e) => .int k (e.den ρ)
def valOne : List Value → Value
  | [v] => v
  | vs => .tuple vs.toArray

theorem has_of_wf {k : IntKind} {n : Int} (h : (Lit.int k n).wf = true) : (kindIv k).has n := by
  have key : ∀ (a b x : Int), a ≤ x ∧ x ≤ b → Iv.has (some a, some b) x := fun a b x h => ⟨fun _ h' => (by injection h'; omega), fun _ h' => (by injection h'; omega)⟩
  cases k <;> (refine key _ _ _ ?_; simp [Lit.wf, IntKind.min, IntKind.max, IntKind.bits, IntKind.signed] at h; omega)
def vals (l : List Int) : Nat → Int := fun i => l.getD i 0
theorem of_kind {k : IntKind} {n : Int} (h : (kindIv k).has n) : (match k with
    | .i8 => -128 ≤ n ∧ n ≤ 127 | .i16 => -32768 ≤ n ∧ n ≤ 32767 | .i32 => -2147483648 ≤ n ∧ n ≤ 2147483647 | .i64 => -9223372036854775808 ≤ n ∧ n ≤ 9223372036854775807
    | .u8 => 0 ≤ n ∧ n ≤ 255 | .u16 => 0 ≤ n ∧ n ≤ 65535 | .u32 => 0 ≤ n ∧ n ≤ 4294967295 | .u64 => 0 ≤ n ∧ n ≤ 18446744073709551615 : Prop) := by
  cases k <;> exact ⟨h.1 _ rfl, h.2 _ rfl⟩

end Go.Sx

/- Contracts: proved by a run, used in other runs. -/
namespace Go.Sx
open Go

/-- For every world that goes on from the first one: the answers are these, and nothing that was there is changed. -/
def FSpec.Ok (P : Program) (w0 : Base) (sp : FSpec) : Prop :=
  (∀ ys w', (callFunc sp.f ys).run P w' = .ok (.enter sp.f ys) w') ∧
  ∀ v : Nat → Int, KindOk v 0 sp.ks → pcOk ⟨v, w0.fn⟩ sp.pre → sp.bds.ok ⟨v, w0.fn⟩ ∧ ∀ w, Ext w0.w w → Calls P sp.f (kindVals v 0 sp.ks).toArray w fun e w1 => e = .returned (valOne (sp.res.map (resVal ⟨v, w0.fn⟩))) ∧ Ext w w1

theorem relW_ext {w0 : Base} {w w1 : World} {ρ : Env2} {s : St} (h : RelW w0 ρ s w) (hx : Ext w w1) : RelW w0 ρ s w1 := fun ρ' hle =>
  let h0 := h ρ' hle
  ⟨h0.ext.trans hx, h0.fn, fun i o ho => let ⟨a, b, c, d⟩ := h0.hp i o ho; ⟨a, b, Nat.lt_of_lt_of_le c hx.size, (hx.old _ c).trans d⟩, h0.inj, h0.gl, h0.bd, h0.pc⟩

/-! ### expressions over the first names alone -/
def E.under (n : Nat) : E → Bool
  | .lit _ => true
  | .var i => Nat.ble (i + 1) n
  | .un _ a => a.under n
  | .bin _ a b => a.under n && b.under n
  | .ite c a b => c.under n && a.under n && b.under n
  | .fn _ a b c => a.under n && b.under n && c.under n
theorem den_under {n : Nat} {ρ ρ' : Env} (hf : ρ'.fn = ρ.fn) (hv : ∀ j, j < n → ρ'.v j = ρ.v j) : ∀ {e : E}, e.under n = true → e.den ρ' = e.den ρ
  | .lit _, _ => rfl
  | .var i, h => hv i (Nat.le_of_ble_eq_true h)
  | .un o a, h => by simp only [E.den]; rw [den_under hf hv (e := a) h]
  | .bin o a b, h => by
    simp only [E.under, Bool.and_eq_true] at h
    simp only [E.den]; rw [den_under hf hv h.1, den_under hf hv h.2]
  | .ite c a b, h => by
    simp only [E.under, Bool.and_eq_true] at h
    simp only [E.den]; rw [den_under hf hv h.1.1, den_under hf hv h.1.2, den_under hf hv h.2]
  | .fn f a b c, h => by
    simp only [E.under, Bool.and_eq_true] at h
    simp only [E.den]; rw [den_under hf hv h.1.1, den_under hf hv h.1.2, den_under hf hv h.2, hf]
def allUnder (n : Nat) (l : List E) : Bool := l.all (E.under n)
theorem pc_under {n : Nat} {l : List E} (h : allUnder n l = true) (ρ ρ' : Env) (hf : ρ'.fn = ρ.fn) (hv : ∀ j, j < n → ρ'.v j = ρ.v j) (hp : pcOk ρ l) : pcOk ρ' l := fun e he => by
  rw [den_under hf hv (List.all_eq_true.1 h e he)]; exact hp e he

/-! ### a contract used -/
def argE (b : Bd) : List (Option IntKind) → List V → Option (List E)
  | [], [] => some []
  | none :: ks, .bool e :: vs => match argE b ks vs with
    | some l => some (mkNot (mkNot e) :: l)
    | none => none
  | some k :: ks, .int k' e :: vs => match decide (k = k') && within (itv b e) (kindIv k) with
    | true => match argE b ks vs with
      | some l => some (e :: l)
      | none => none
    | false => none
  | _, _ => none
def preOk (b : Bd) (pc : List E) (l : List E) : List E → Bool
  | [] => true
  | p :: r => match dec b pc (p.at l) with
    | some true => preOk b pc l r
    | _ => false
def FSpec.use (sp : FSpec) (s : St) (args : List V) : Option (List (V × St)) := match argE s.bd sp.ks args with
  | none => none
  | some l => match preOk s.bd s.pc l sp.pre && allUnder sp.ks.length (sp.res.map (·.2)) with
    | true => some [(resOne (sp.res.map (resV1 l)), { s with bd := sp.bds.map (fun p => (p.1.at l, p.2)) ++ s.bd })]
    | false => none
def specOracle : List FSpec → Oracle
  | [], _, _, _ => none
  | sp :: r, f, s, args => match Nat.beq sp.f f with
    | true => some (sp.use s args)
    | false => specOracle r f s args

theorem argE_some {ρ : Env2} {b : Bd} (hb : b.ok ρ.toEnv) : ∀ {ks : List (Option IntKind)} {args : List V} {l : List E} (pfx : List E), argE b ks args = some l →
    KindOk (atEnv ρ.toEnv (pfx ++ l)).v pfx.length ks ∧ kindVals (atEnv ρ.toEnv (pfx ++ l)).v pfx.length ks = V.denL ρ args
  | [], [], l, pfx, h => by cases h; exact ⟨trivial, rfl⟩
  | none :: ks, .bool e :: vs, l, pfx, h => by
    simp only [argE] at h
    split at h
    · rename_i l' hl
      cases h
      have ih := argE_some hb (pfx ++ [mkNot (mkNot e)]) hl
      simp only [List.length_append, List.length_singleton, List.append_assoc, List.singleton_append] at ih
      have h1 : (atEnv ρ.toEnv (pfx ++ mkNot (mkNot e) :: l')).v pfx.length = b2i (e.den ρ.toEnv != 0) := by
        simp only [atEnv, List.getD_eq_getElem?_getD, List.getElem?_append_right (Nat.le_refl _), Nat.sub_self, List.getElem?_cons_zero, Option.getD_some, den_mkNot]
        cases h : e.den ρ.toEnv == 0 <;> simp [h, b2i, bne]
      refine ⟨⟨by rw [h1]; exact has_b2i _, ih.1⟩, ?_⟩
      simp only [kindVals, V.denL, V.den, h1, b2i_bne, ih.2]
    · cases h
  | some k :: ks, .int k' e :: vs, l, pfx, h => by
    simp only [argE] at h
    split at h
    · rename_i hc
      simp only [Bool.and_eq_true, decide_eq_true_eq] at hc
      obtain ⟨rfl, hc⟩ := hc
      split at h
      · rename_i l' hl
        cases h
        have ih := argE_some hb (pfx ++ [e]) hl
        simp only [List.length_append, List.length_singleton, List.append_assoc, List.singleton_append] at ih
        have h1 : (atEnv ρ.toEnv (pfx ++ e :: l')).v pfx.length = e.den ρ.toEnv := by
          simp only [atEnv, List.getD_eq_getElem?_getD, List.getElem?_append_right (Nat.le_refl _), Nat.sub_self, List.getElem?_cons_zero, Option.getD_some]
        refine ⟨⟨?_, ih.1⟩, ?_⟩
        · rw [h1]
          have := wrap_of_within hc (has_itv hb e)
          rw [← this]
          exact has_kind k _
        · simp only [kindVals, V.denL, V.den, h1, ih.2]
      · cases h
    · cases h
  | [], _ :: _, _, _, h => by simp [argE] at h
  | none :: _, [], _, _, h => by simp [argE] at h
  | some _ :: _, [], _, _, h => by simp [argE] at h
  | none :: _, .int _ _ :: _, _, _, h => by simp [argE] at h
  | none :: _, .flt _ _ :: _, _, _, h => by simp [argE] at h
  | none :: _, .str _ :: _, _, _, h => by simp [argE] at h
  | none :: _, .ptr _ _ :: _, _, _, h => by simp [argE] at h
  | none :: _, .gptr _ _ :: _, _, _, h => by simp [argE] at h
  | none :: _, .gat _ _ :: _, _, _, h => by simp [argE] at h
  | none :: _, .nilp :: _, _, _, h => by simp [argE] at h
  | none :: _, .slice _ _ _ _ :: _, _, _, h => by simp [argE] at h
  | none :: _, .nils :: _, _, _, h => by simp [argE] at h
  | none :: _, .agg _ :: _, _, _, h => by simp [argE] at h
  | none :: _, .tup _ :: _, _, _, h => by simp [argE] at h
  | none :: _, .func _ :: _, _, _, h => by simp [argE] at h
  | none :: _, .iface _ _ :: _, _, _, h => by simp [argE] at h
  | none :: _, .nili :: _, _, _, h => by simp [argE] at h
  | some _ :: _, .bool _ :: _, _, _, h => by simp [argE] at h
  | some _ :: _, .flt _ _ :: _, _, _, h => by simp [argE] at h
  | some _ :: _, .str _ :: _, _, _, h => by simp [argE] at h
  | some _ :: _, .ptr _ _ :: _, _, _, h => by simp [argE] at h
  | some _ :: _, .gptr _ _ :: _, _, _, h => by simp [argE] at h
  | some _ :: _, .gat _ _ :: _, _, _, h => by simp [argE] at h
  | some _ :: _, .nilp :: _, _, _, h => by simp [argE] at h
  | some _ :: _, .slice _ _ _ _ :: _, _, _, h => by simp [argE] at h
  | some _ :: _, .nils :: _, _, _, h => by simp [argE] at h
  | some _ :: _, .agg _ :: _, _, _, h => by simp [argE] at h
  | some _ :: _, .tup _ :: _, _, _, h => by simp [argE] at h
  | some _ :: _, .func _ :: _, _, _, h => by simp [argE] at h
  | some _ :: _, .iface _ _ :: _, _, _, h => by simp [argE] at h
  | some _ :: _, .nili :: _, _, _, h => by simp [argE] at h

theorem preOk_pc {ρ : Env} {b : Bd} {pc : List E} (hb : b.ok ρ) (hp : pcOk ρ pc) {l : List E} : ∀ {pre : List E}, preOk b pc l pre = true → pcOk (atEnv ρ l) pre
  | [], _ => fun e he => by cases he
  | p :: r, h => by
    simp only [preOk] at h
    split at h
    · rename_i hd
      intro e he
      cases he with
      | head => rw [← den_at]; simpa using dec_some hb hp _ _ hd
      | tail _ he => exact preOk_pc hb hp h e he
    · cases h

theorem den_resOne (ρ : Env2) (l : List E) (rs : List (Option IntKind × E)) : (resOne (rs.map (resV1 l))).den ρ = valOne (rs.map (resVal (atEnv ρ.toEnv l))) := by
  have h1 : ∀ r : Option IntKind × E, (resV1 l r).den ρ = resVal (atEnv ρ.toEnv l) r := by
    rintro ⟨k, e⟩; cases k <;> simp [resV1, resVal, V.den, den_at]
  have h2 : V.denL ρ (rs.map (resV1 l)) = rs.map (resVal (atEnv ρ.toEnv l)) := by
    rw [denL_eq, List.map_map]; exact List.map_congr_left fun r _ => h1 r
  match rs with
  | [] => simp [resOne, valOne, V.den, V.denL]
  | [r] => simp [resOne, valOne, h1]
  | r :: q :: t =>
    simp only [List.map_cons] at h2 ⊢
    simp only [resOne, valOne, V.den, h2]

theorem kindVals_inj {v v' : Nat → Int} : ∀ {ks : List (Option IntKind)} {i : Nat}, KindOk v i ks → KindOk v' i ks → kindVals v i ks = kindVals v' i ks → ∀ j, j < ks.length → v (i + j) = v' (i + j)
  | [], _, _, _, _, j, hj => by simp at hj
  | none :: r, i, h, h', he, j, hj => by
    simp only [kindVals, List.cons.injEq, Value.bool.injEq] at he
    cases j with
    | zero =>
      have h1 := h.1.1 _ rfl; have h2 := h.1.2 _ rfl; have h3 := h'.1.1 _ rfl; have h4 := h'.1.2 _ rfl
      have h5 := he.1
      rcases (show v i = 0 ∨ v i = 1 by omega) with e | e <;> rcases (show v' i = 0 ∨ v' i = 1 by omega) with e' | e' <;> simp [e, e'] at h5 ⊢
    | succ j =>
      have := kindVals_inj h.2 h'.2 he.2 j (by simpa using hj)
      rwa [show i + (j + 1) = i + 1 + j by omega]
  | some k :: r, i, h, h', he, j, hj => by
    simp only [kindVals, List.cons.injEq, Value.int.injEq] at he
    cases j with
    | zero => exact he.1.2
    | succ j =>
      have := kindVals_inj h.2 h'.2 he.2 j (by simpa using hj)
      rwa [show i + (j + 1) = i + 1 + j by omega]

theorem spec_use {P : Program} {w0 : Base} {w : World} {sp : FSpec} (hsp : sp.Ok P w0) {s : St} {args : List V} {l : List (V × St)} (h : sp.use s args = some l)
    {ρ : Env2} (hw : RelW w0 ρ s w) (xs : List Value) (hx : ∀ ρ', Le s ρ ρ' → V.denL ρ' args = xs) :
    Calls P sp.f xs.toArray w (Answers w0 ρ s l) := by
  unfold FSpec.use at h
  split at h
  · cases h
  · rename_i es hes
    split at h
    · rename_i hpre
      simp only [Bool.and_eq_true] at hpre
      obtain ⟨hpre, hunder⟩ := hpre
      cases h
      have key : ∀ ρ', Le s ρ ρ' → KindOk (atEnv ρ'.toEnv es).v 0 sp.ks ∧ kindVals (atEnv ρ'.toEnv es).v 0 sp.ks = xs ∧ pcOk (atEnv ρ'.toEnv es) sp.pre := fun ρ' hle => by
        obtain ⟨h1, h2⟩ := argE_some (ρ := ρ') (hw ρ' hle).bd [] hes
        exact ⟨h1, h2.trans (hx ρ' hle), preOk_pc (hw ρ' hle).bd (hw ρ' hle).pc hpre⟩
      have hfn' : ∀ ρ', Le s ρ ρ' → (⟨(atEnv ρ'.toEnv es).v, w0.fn⟩ : Env) = atEnv ρ'.toEnv es := fun ρ' hle => by
        have : ρ'.fn = w0.fn := (hw ρ' hle).fn
        rw [← this]; rfl
      obtain ⟨k1, k2, k3⟩ := key ρ (Le.refl _ _)
      obtain ⟨hb, hc⟩ := hsp.2 (atEnv ρ.toEnv es).v k1 (by rw [hfn' ρ (Le.refl _ _)]; exact k3)
      have hcall := hc w hw.to.ext
      rw [k2] at hcall
      refine hcall.mono ?_
      rintro e w1 ⟨rfl, hext⟩
      refine ⟨_, List.mem_singleton.2 rfl, _, ρ, rfl, Le.refl _ _, Nat.le_refl _, Nat.le_refl _, ?_, ?_⟩
      · intro ρ' hle
        have hle : Le s ρ ρ' := hle
        have h0 := relW_ext hw hext ρ' hle
        obtain ⟨j1, j2, j3⟩ := key ρ' hle
        obtain ⟨hb', _⟩ := hsp.2 (atEnv ρ'.toEnv es).v j1 (by rw [hfn' ρ' hle]; exact j3)
        rw [hfn' ρ' hle] at hb'
        refine ⟨h0.ext, h0.fn, h0.hp, h0.inj, h0.gl, fun p hp => ?_, h0.pc⟩
        rcases List.mem_append.1 hp with hp | hp
        · obtain ⟨q, hq, rfl⟩ := List.mem_map.1 hp
          rw [den_at]
          exact hb' q hq
        · exact h0.bd p hp
      · intro ρ' hle
        have hle : Le s ρ ρ' := hle
        rw [den_resOne, hfn' ρ (Le.refl _ _)]
        obtain ⟨j1, j2, j3⟩ := key ρ' hle
        have hv := kindVals_inj j1 k1 (j2.trans k2.symm)
        have h1 : sp.res.map (resVal (atEnv ρ'.toEnv es)) = sp.res.map (resVal (atEnv ρ.toEnv es)) := by
          apply List.map_congr_left
          intro r hr
          have hu := List.all_eq_true.1 hunder r.2 (List.mem_map.2 ⟨r, hr, rfl⟩)
          have := den_under (ρ := atEnv ρ.toEnv es) (ρ' := atEnv ρ'.toEnv es) hle.2.2.1 (fun j hj => by simpa using hv j hj) hu
          obtain ⟨k, e⟩ := r
          cases k <;> simp only [resVal] <;> rw [this]
        rw [h1]
    · cases h

theorem specOracle_ok {P : Program} {w0 : Base} : ∀ {sps : List FSpec}, (∀ sp ∈ sps, sp.Ok P w0) → OracleOk P w0 (specOracle sps)
  | [], _, f, s, args, l, h => by simp [specOracle] at h
  | sp :: r, hall, f, s, args, l, h => by
    intro ρ w hw xs hx
    simp only [specOracle] at h
    split at h
    · rename_i hb
      have := Nat.eq_of_beq_eq_true hb
      subst this
      have hs : sp.use s args = some l := by injection h
      exact .inl ⟨(hall sp List.mem_cons_self).1, spec_use (hall sp List.mem_cons_self) hs hw xs hx⟩
    · exact specOracle_ok (fun q hq => hall q (List.mem_cons_of_mem _ hq)) f s args l h ρ w hw xs hx

/-- contracts hold in all worlds that go on from the first one -/
theorem FSpec.Ok.later {P : Program} {w0 : Base} {w : World} {sp : FSpec} (h : sp.Ok P w0) (hx : Ext w0.w w) : sp.Ok P ⟨w, w0.fn⟩ :=
  ⟨h.1, fun v hv hp => ⟨(h.2 v hv hp).1, fun w' hx' => (h.2 v hv hp).2 w' (hx.trans hx')⟩⟩
theorem TabsOk.later {w0 w : World} {gl : Tabs} (h : TabsOk w0 gl) (hx : Ext w0 w) : TabsOk w gl := fun p hp =>
  ⟨Nat.lt_of_lt_of_le (h p hp).1 hx.size, fun j x hj => by
    have := (h p hp).2 j x hj
    rw [← this]
    simp [World.cell?, hx.old p.1 (h p hp).1]⟩

/-- that an answer is as the contract says -/
def SameL (ρ : Env) : List (Option IntKind × E) → List V → Prop
  | [], [] => True
  | (none, e) :: rs, .bool a :: vs => (a.prop ρ ↔ e.prop ρ) ∧ SameL ρ rs vs
  | (some k, e) :: rs, .int k' a :: vs => k' = k ∧ a.den ρ = e.den ρ ∧ SameL ρ rs vs
  | _, _ => False
def unOne (n : Nat) : V → List V
  | .tup vs => match Nat.beq n 1 with
    | true => [.tup vs]
    | false => vs
  | v => [v]
def Keeps (ρ : Env) (res : List (Option IntKind × E)) : List Leaf → Prop
  | [] => True
  | (pc, v) :: r => chain ρ (SameL ρ res (unOne res.length v)) pc ∧ Keeps ρ res r
theorem keeps_at {ρ : Env} {res : List (Option IntKind × E)} : ∀ {l : List Leaf}, Keeps ρ res l → ∀ x ∈ l, chain ρ (SameL ρ res (unOne res.length x.2)) x.1
  | [], _, x, hx => by cases hx
  | _ :: _, h, x, hx => by
    cases hx with
    | head => exact h.1
    | tail _ hx => exact keeps_at h.2 x hx
theorem sameL_den {ρ : Env2} : ∀ {rs : List (Option IntKind × E)} {vs : List V}, SameL ρ.toEnv rs vs → V.denL ρ vs = rs.map (resVal ρ.toEnv)
  | [], [], _ => rfl
  | [], v :: vs, h => by cases v <;> exact h.elim
  | (none, e) :: rs, [], h => h.elim
  | (some k, e) :: rs, [], h => h.elim
  | (none, e) :: rs, v :: vs, h => by
    cases v with
    | bool a =>
      have h1 : (a.den ρ.toEnv != 0) = (e.den ρ.toEnv != 0) := by
        rw [Bool.eq_iff_iff, bne_iff_ne, bne_iff_ne]
        exact (E.prop_iff _ _).symm.trans (h.1.trans (E.prop_iff _ _))
      simp only [V.denL, V.den, List.map_cons, resVal, h1, sameL_den h.2]
    | _ => exact h.elim
  | (some k, e) :: rs, v :: vs, h => by
    cases v with
    | int k' a =>
      obtain ⟨rfl, h1, h2⟩ := h
      simp only [V.denL, V.den, List.map_cons, resVal, h1, sameL_den h2]
    | _ => exact h.elim
theorem unOne_den {ρ : Env2} {n : Nat} {v : V} {ys : List Value} (hn : ys.length = n) (h : V.denL ρ (unOne n v) = ys) : v.den ρ = valOne ys := by
  have plain : ∀ v : V, unOne n v = [v] → V.denL ρ (unOne n v) = ys → v.den ρ = valOne ys := fun v hv h => by
    rw [hv] at h; subst h; simp [valOne, V.denL]
  cases v <;> first | exact plain _ rfl h | skip
  rename_i vs
  simp only [unOne] at h
  split at h
  · subst h; simp [valOne, V.denL, V.den]
  · rename_i hb
    subst h
    have hne : (V.denL ρ vs).length ≠ 1 := fun he => by rw [he] at hn; subst hn; simp at hb
    match vs with
    | [] => simp [V.den, V.denL, valOne]
    | [u] => simp [V.denL] at hne
    | u :: t :: r => simp [V.den, V.denL, valOne]

/-- A CONTRACT BY A RUN. -/
theorem spec_run {P : Program} {orc : Oracle} {lo : LoopOracle} {fns : List (Nat × Func)} {w0 : Base} {gl : Tabs} {sp : FSpec} {fuel : Nat} {ls : List Leaf}
    (hcall : ∀ ys w', (callFunc sp.f ys).run P w' = .ok (.enter sp.f ys) w')
    (ho : ∀ w, Ext w0.w w → OracleOk P ⟨w, w0.fn⟩ orc) (hlo : ∀ w, Ext w0.w w → LoopsOk P ⟨w, w0.fn⟩ (bodies fns) lo) (hf : AllKnown P fns) (hg : TabsOk w0.w gl)
    (hrun : runOf P orc lo (bodies fns) gl fuel sp.f sp.ks sp.pre = some ls) (hu : (allUnder sp.ks.length sp.pre && allUnder sp.ks.length (sp.res.map (·.2))) = true)
    (hb : ∀ u : Nat → Int, KindOk u 0 sp.ks → pcOk ⟨u, w0.fn⟩ sp.pre → sp.bds.ok ⟨u, w0.fn⟩)
    (hl : ∀ u : Nat → Int, KindOk u 0 sp.ks → pcOk ⟨u, w0.fn⟩ sp.pre → Keeps ⟨u, w0.fn⟩ sp.res ls) : sp.Ok P w0 := by
  simp only [Bool.and_eq_true] at hu
  refine ⟨hcall, fun v hv hp => ⟨hb v hv hp, fun w hx => ?_⟩⟩
  refine run_calls (w0 := ⟨w, w0.fn⟩) (ho w hx) (hlo w hx) hf (hg.later hx) hrun (pc_under hu.1) v hv hp (Ext.refl w) _ ?_
  intro x hx1 ρ1 w1 hv1 hfn hpc hext
  refine ⟨?_, hext⟩
  have hρ : (⟨ρ1.v, w0.fn⟩ : Env) = ρ1.toEnv := by
    have : ρ1.fn = w0.fn := hfn
    rw [← this]
  have hk := hl ρ1.v (kindOk_congr (fun j hj => hv1 j (by omega)) hv) (by rw [hρ]; exact pc_under hu.1 ⟨v, w0.fn⟩ ρ1.toEnv hfn hv1 hp)
  rw [hρ] at hk
  have hs := sameL_den (chain_of hpc (keeps_at hk x hx1))
  have h1 : sp.res.map (resVal ρ1.toEnv) = sp.res.map (resVal ⟨v, w0.fn⟩) := by
    apply List.map_congr_left
    intro r hr
    have := den_under (ρ := ⟨v, w0.fn⟩) (ρ' := ρ1.toEnv) hfn hv1 (List.all_eq_true.1 hu.2 r.2 (List.mem_map.2 ⟨r, hr, rfl⟩))
    obtain ⟨k, e⟩ := r
    cases k <;> simp only [resVal] <;> rw [this]
  rw [h1] at hs
  exact congrArg Ending.returned (unOne_den (by simp) hs)

/-- a law over numbers and bools, where something of them is known ahead -/
theorem law_calls_if {P : Program} {orc : Oracle} {lo : LoopOracle} {fns : List (Nat × Func)} {w : World} (fn : Nat → Int → Int → Int → Int) (ho : OracleOk P ⟨w, fn⟩ orc) (hlo : LoopsOk P ⟨w, fn⟩ (bodies fns) lo) (hf : AllKnown P fns) {gl : Tabs} (hg : TabsOk w gl) {fuel f : Nat} {ks : List (Option IntKind)} {pre : List E} {ls : List Leaf}
    (hrun : runOf P orc lo (bodies fns) gl fuel f ks pre = some ls) (hu : allUnder ks.length pre = true) (v : Nat → Int) (hv : KindOk v 0 ks) (hp : pcOk ⟨v, fn⟩ pre)
    (hl : ∀ u : Nat → Int, KindOk u 0 ks → pcOk ⟨u, fn⟩ pre → Law ⟨u, fn⟩ ls) :
    Calls P f (kindVals v 0 ks).toArray w fun e w' => e = .returned (.bool true) ∧ RowKit.Grown w w' := by
  refine run_calls (w0 := ⟨w, fn⟩) ho hlo hf hg hrun (pc_under hu) v hv hp (Ext.refl w) _ ?_
  intro x hx ρ1 w1 hv1 hfn hpc hext
  refine ⟨?_, hext.grown⟩
  have hρ : (⟨ρ1.v, fn⟩ : Env) = ρ1.toEnv := by
    have : ρ1.fn = fn := hfn
    rw [← this]
  obtain ⟨be, hbe, hch⟩ := law_at (hl ρ1.v (kindOk_congr (fun j hj => hv1 j (by omega)) hv) (by rw [hρ]; exact pc_under hu ⟨v, fn⟩ ρ1.toEnv hfn hv1 hp)) x hx
  rw [hρ] at hch
  have hpp := chain_of hpc hch
  rw [hbe]
  simp only [V.den]
  rw [(bne_iff_ne (a := be.den ρ1.toEnv) (b := 0)).2 ((E.prop_iff _ _).1 hpp)]

end Go.Sx

/- Loops known by what they come to: proved by the run of one round. -/
namespace Go.Sx
open Go

structure LSpec where
  f : Nat
  p : List Nat
  n : Nat
  ins : List (Nat × Option IntKind)
  pre : List E
  outs : List (Nat × Option IntKind × E)
  kill : List Nat
  meas : E
def LSpec.ks (sp : LSpec) : List (Option IntKind) := sp.ins.map (·.2)
def LSpec.written (sp : LSpec) : List Nat := sp.outs.map (·.1) ++ sp.kill
def memN : List Nat → Nat → Bool
  | [], _ => false
  | a :: r, t => Nat.beq a t || memN r t
theorem memN_iff {t : Nat} : ∀ {l : List Nat}, memN l t = true ↔ t ∈ l
  | [] => ⟨fun h => (by cases h), fun h => (by cases h)⟩
  | a :: r => by
    have hb : Nat.beq a t = true ↔ t = a := ⟨fun h => (Nat.eq_of_beq_eq_true h).symm, fun h => by rw [h]; exact Nat.beq_refl a⟩
    simp only [memN, Bool.or_eq_true, List.mem_cons, memN_iff (l := r), hb]

def insOk (a : Act) (v : Nat → Int) : Nat → List (Nat × Option IntKind) → Prop
  | _, [] => True
  | i, (t, none) :: r => a.tmps[t]? = some (.bool (v i != 0)) ∧ insOk a v (i + 1) r
  | i, (t, some k) :: r => a.tmps[t]? = some (.int k (v i)) ∧ insOk a v (i + 1) r

def LSpec.Ok (P : Program) (w0 : Base) (bs : Bodies) (sp : LSpec) : Prop :=
  ∀ c, codeAt bs sp.f sp.p = some c → ∀ w, Ext w0.w w → ∀ a v, KindOk v 0 sp.ks → pcOk ⟨v, w0.fn⟩ sp.pre → a.tmps.size = sp.n → a.defers = [] → insOk a v 0 sp.ins →
    ∀ Q : Exit → Act → World → Prop, (∀ a' w', a'.tmps.size = sp.n → a'.defers = [] → (∀ t, t ∉ sp.written → a'.tmps[t]? = a.tmps[t]?) →
      (∀ o ∈ sp.outs, a'.tmps[o.1]? = some (resVal ⟨v, w0.fn⟩ o.2)) → Ext w w' → Q .normal a' w') → c.wp P Q a w

/-! ### a loop used -/
def delAll (t : T V) : List Nat → T V
  | [] => t
  | k :: r => (delAll t r).del k
def putOuts (t : T V) (l : List E) : List (Nat × Option IntKind × E) → T V
  | [] => t
  | o :: r => (putOuts t l r).put o.1 (resV1 l o.2)
def LSpec.use (sp : LSpec) (s : St) : Option Outs := match mapO (fun i : Nat × Option IntKind => s.tm.get i.1) sp.ins with
  | none => none
  | some vs => match argE s.bd sp.ks vs with
    | none => none
    | some l => match Nat.beq s.n sp.n && preOk s.bd s.pc l sp.pre && allUnder sp.ks.length (sp.outs.map (·.2.2)) && (sp.ins.map (·.1)).all (fun t => Nat.ble (t + 1) s.n) with
      | true => some [(.normal, { s with tm := putOuts (delAll s.tm sp.kill) l sp.outs })]
      | false => none
def loopOracle : List LSpec → LoopOracle
  | [], _, _, _ => none
  | sp :: r, f, p, s => match Nat.beq sp.f f && lBeq Nat.beq sp.p p with
    | true => some (sp.use s)
    | false => loopOracle r f p s

theorem get_delAll {t : T V} {l : List Nat} {j : Nat} {v : V} (h : (delAll t l).get j = some v) : j ∉ l ∧ t.get j = some v := by
  induction l with
  | nil => exact ⟨by simp, h⟩
  | cons k r ih =>
    simp only [delAll, T.get_del] at h
    split at h
    · cases h
    · rename_i hne
      obtain ⟨h1, h2⟩ := ih h
      exact ⟨by simp [hne, h1], h2⟩
theorem get_putOuts {t : T V} {l : List E} {j : Nat} {v : V} : ∀ {os : List (Nat × Option IntKind × E)}, (putOuts t l os).get j = some v → (∃ o ∈ os, o.1 = j ∧ v = resV1 l o.2) ∨ (j ∉ os.map (·.1) ∧ t.get j = some v)
  | [], h => .inr ⟨by simp, h⟩
  | o :: r, h => by
    simp only [putOuts, T.get_put] at h
    split at h
    · rename_i he; cases h; exact .inl ⟨o, List.mem_cons_self, he.symm, rfl⟩
    · rename_i hne
      rcases get_putOuts h with ⟨q, hq, h1⟩ | ⟨h1, h2⟩
      · exact .inl ⟨q, List.mem_cons_of_mem _ hq, h1⟩
      · exact .inr ⟨by simp [hne, h1], h2⟩

theorem insOk_of {ρ : Env2} {s : St} {a : Act} (ha : RelA0 ρ s a) : ∀ {ins : List (Nat × Option IntKind)} {vs : List V} {v : Nat → Int} {i : Nat}, mapO (fun i : Nat × Option IntKind => s.tm.get i.1) ins = some vs →
    (∀ x ∈ ins.map (·.1), x < s.n) → kindVals v i (ins.map (·.2)) = V.denL ρ vs → insOk a v i ins
  | [], _, _, _, _, _, _ => trivial
  | (t, k) :: r, vs, v, i, h, hn, hk => by
    simp only [mapO] at h
    split at h
    · rename_i x hx
      split at h
      · rename_i xs hxs
        cases h
        have h1 := ha.tm t x (hn t (by simp)) hx
        cases k with
        | none =>
          simp only [List.map_cons, kindVals, V.denL, List.cons.injEq] at hk
          exact ⟨by rw [h1, hk.1], insOk_of ha hxs (fun y hy => hn y (List.mem_cons_of_mem _ hy)) hk.2⟩
        | some k =>
          simp only [List.map_cons, kindVals, V.denL, List.cons.injEq] at hk
          exact ⟨by rw [h1, hk.1], insOk_of ha hxs (fun y hy => hn y (List.mem_cons_of_mem _ hy)) hk.2⟩
      · cases h
    · cases h

theorem den_resV1 (ρ : Env2) (l : List E) (r : Option IntKind × E) : (resV1 l r).den ρ = resVal (atEnv ρ.toEnv l) r := by
  obtain ⟨k, e⟩ := r; cases k <;> simp [resV1, resVal, V.den, den_at]

theorem mapO_den {ρ : Env2} {s : St} {a : Act} (ha : RelA0 ρ s a) : ∀ {ins : List (Nat × Option IntKind)} {vs : List V}, mapO (fun i : Nat × Option IntKind => s.tm.get i.1) ins = some vs →
    (∀ x ∈ ins.map (·.1), x < s.n) → V.denL ρ vs = ins.map fun i => (a.tmps[i.1]?).getD undef
  | [], _, h, _ => by cases h; rfl
  | (t, k) :: r, vs, h, hn => by
    simp only [mapO] at h
    split at h
    · rename_i x hx
      split at h
      · rename_i xs hxs
        cases h
        have h1 := ha.tm t x (hn t (by simp)) hx
        simp only [V.denL, List.map_cons, h1, Option.getD_some]
        rw [mapO_den ha hxs (fun y hy => hn y (List.mem_cons_of_mem _ hy))]
      · cases h
    · cases h

theorem lspec_use {P : Program} {w0 : Base} {bs : Bodies} {sp : LSpec} (hsp : sp.Ok P w0 bs) {s : St} {outs : Outs} (h : sp.use s = some outs) {c : Code} (hc : codeAt bs sp.f sp.p = some c)
    {ρ : Env2} {a : Act} {w : World} {Q : Exit → Act → World → Prop} (hw : RelW w0 ρ s w) (ha : RelA ρ s a) (hk : GoesX w0 ρ s outs Q) : c.wp P Q a w := by
  unfold LSpec.use at h
  split at h
  · cases h
  · rename_i vs hvs
    split at h
    · cases h
    · rename_i l hl
      split at h
      · rename_i hcond
        simp only [Bool.and_eq_true] at hcond
        obtain ⟨⟨⟨h1, h2⟩, h3⟩, h4⟩ := hcond
        have h1 := Nat.eq_of_beq_eq_true h1
        have hlt : ∀ x ∈ sp.ins.map (·.1), x < s.n := fun x hx => Nat.le_of_ble_eq_true (List.all_eq_true.1 h4 x hx)
        cases h
        have hval := fun ρ' (hle : Le s ρ ρ') => mapO_den (ha ρ' hle) hvs hlt
        have key : ∀ ρ', Le s ρ ρ' → KindOk (atEnv ρ'.toEnv l).v 0 sp.ks ∧ kindVals (atEnv ρ'.toEnv l).v 0 sp.ks = V.denL ρ' vs := fun ρ' hle => argE_some (ρ := ρ') (hw ρ' hle).bd [] hl
        obtain ⟨k1, k2⟩ := key ρ (Le.refl _ _)
        have k3 := preOk_pc hw.to.bd hw.to.pc h2
        have henv : ∀ ρ', Le s ρ ρ' → (⟨(atEnv ρ'.toEnv l).v, w0.fn⟩ : Env) = atEnv ρ'.toEnv l := fun ρ' hle => by
          have : ρ'.fn = w0.fn := (hw ρ' hle).fn
          rw [← this]; rfl
        refine hsp c hc w hw.to.ext a (atEnv ρ.toEnv l).v k1 (by rw [henv ρ (Le.refl _ _)]; exact k3) (ha.to.size.trans h1) ha.to.defers (insOk_of ha.to hvs hlt k2) Q ?_
        intro a' w' hs hd hfr hout hext
        refine hk _ (List.mem_singleton.2 rfl) ρ a' w' (Le.refl _ _) (Nat.le_refl _) (Nat.le_refl _) ?_ ?_
        · intro ρ' hle
          have h0 := relW_ext hw hext ρ' hle
          exact ⟨h0.ext, h0.fn, h0.hp, h0.inj, h0.gl, h0.bd, h0.pc⟩
        · intro ρ' hle
          have hle : Le s ρ ρ' := hle
          have h0 := ha ρ' hle
          refine ⟨by rw [hs, ← h1], fun t v ht hg => ?_, hd⟩
          rcases get_putOuts hg with ⟨o, ho, rfl, rfl⟩ | ⟨hn1, hg⟩
          · rw [hout o ho, den_resV1, henv ρ (Le.refl _ _)]
            obtain ⟨j1, j2⟩ := key ρ' hle
            have hv := kindVals_inj j1 k1 (by rw [j2, k2, hval ρ' hle, hval ρ (Le.refl _ _)])
            have hu := List.all_eq_true.1 h3 o.2.2 (List.mem_map.2 ⟨o, ho, rfl⟩)
            have := den_under (ρ := atEnv ρ.toEnv l) (ρ' := atEnv ρ'.toEnv l) hle.2.2.1 (fun j hj => by simpa using hv j hj) hu
            obtain ⟨t, k, e⟩ := o
            cases k <;> simp only [resVal] <;> rw [this]
          · obtain ⟨hn2, hg⟩ := get_delAll hg
            rw [hfr t (by simp only [LSpec.written, List.mem_append]; exact fun h => h.elim hn1 hn2)]
            exact h0.tm t v ht hg
      · cases h

theorem loopOracle_ok {P : Program} {w0 : Base} {bs : Bodies} : ∀ {sps : List LSpec}, (∀ sp ∈ sps, sp.Ok P w0 bs) → LoopsOk P w0 bs (loopOracle sps)
  | [], _, f, p, s, outs, h => by simp [loopOracle] at h
  | sp :: r, hall, f, p, s, outs, h => by
    intro c hc ρ a w Q hw ha hk
    simp only [loopOracle] at h
    split at h
    · rename_i hb
      simp only [Bool.and_eq_true] at hb
      have e1 := Nat.eq_of_beq_eq_true hb.1
      have e2 := eq_of_lBeq (fun a b h => Nat.eq_of_beq_eq_true h) hb.2
      subst e1 e2
      have hs : sp.use s = some outs := by injection h
      exact lspec_use (hall sp List.mem_cons_self) hs hc hw ha hk
    · exact loopOracle_ok (fun q hq => hall q (List.mem_cons_of_mem _ hq)) f p s outs h c hc ρ a w Q hw ha hk

end Go.Sx

/- Loops: what they come to, proved by the run of one round. -/
namespace Go.Sx
open Go

def putIns (t : T V) : Nat → List (Nat × Option IntKind) → T V
  | _, [] => t
  | i, (r, none) :: q => (putIns t (i + 1) q).put r (.bool (.var i))
  | i, (r, some k) :: q => (putIns t (i + 1) q).put r (.int k (.var i))
def rawsTo : Nat → T V
  | 0 => .e
  | n + 1 => (rawsTo n).put n (.raw n)
def LSpec.start (sp : LSpec) (gl : Tabs) : St :=
  { n := sp.n, tm := putIns (rawsTo sp.n) 0 sp.ins, hp := .e, nb := 0, nv := sp.ks.length, bd := supposeAll (kindBd 0 sp.ks) sp.pre, pc := sp.pre, gl := gl }

inductive LL where
  | cont (pc : List E) (l : List E)
  | out (pc : List E) (vs : List V)
  | bad (pc : List E)
def frameOk (sp : LSpec) (s0 s1 : T V) : Bool := (List.range sp.n).all fun t => memN sp.written t || oBeq V.beq (s0.get t) (s1.get t)
def llOf (sp : LSpec) (gl : Tabs) (id : Nat) (r : X × St) : Option LL := match frameOk sp (sp.start gl).tm r.2.tm && Nat.beq r.2.n sp.n with
  | false => none
  | true => match r.1 with
    | .normal => match mapO (fun i : Nat × Option IntKind => r.2.tm.get i.1) sp.ins with
      | none => none
      | some vs => match argE r.2.bd sp.ks vs with
        | none => none
        | some l => some (.cont r.2.pc l)
    | .exit j => match Nat.beq j id with
      | true => match mapO (fun o : Nat × Option IntKind × E => r.2.tm.get o.1) sp.outs with
        | none => none
        | some vs => some (.out r.2.pc vs)
      | false => some (.bad r.2.pc)
    | .ret => some (.bad r.2.pc)
def lrunOf (P : Program) (orc : Oracle) (lo : LoopOracle) (bs : Bodies) (gl : Tabs) (fuel : Nat) (sp : LSpec) : Option (List LL) := match codeAt bs sp.f sp.p with
  | some (.block id (.loop b)) => match exec P orc lo bs fuel sp.f (0 :: 0 :: sp.p) b (sp.start gl) with
    | none => none
    | some outs => mapO (llOf sp gl id) outs
  | _ => none

def allProp (ρ : Env) (l : List E) : List E → Prop
  | [] => True
  | p :: r => (p.at l).prop ρ ∧ allProp ρ l r
def allSame (ρ : Env) (l : List E) : List (Nat × Option IntKind × E) → Prop
  | [] => True
  | (_, none, e) :: r => ((e.at l).prop ρ ↔ e.prop ρ) ∧ allSame ρ l r
  | (_, some _, e) :: r => (e.at l).den ρ = e.den ρ ∧ allSame ρ l r
def LKeeps (ρ : Env) (sp : LSpec) : List LL → Prop
  | [] => True
  | .cont pc l :: r => chain ρ (allProp ρ l sp.pre ∧ allSame ρ l sp.outs ∧ 0 ≤ (sp.meas.at l).den ρ ∧ (sp.meas.at l).den ρ < sp.meas.den ρ) pc ∧ LKeeps ρ sp r
  | .out pc vs :: r => chain ρ (SameL ρ (sp.outs.map (·.2)) vs) pc ∧ LKeeps ρ sp r
  | .bad pc :: r => chain ρ False pc ∧ LKeeps ρ sp r
def LKeeps1 (ρ : Env) (sp : LSpec) : LL → Prop
  | .cont pc l => chain ρ (allProp ρ l sp.pre ∧ allSame ρ l sp.outs ∧ 0 ≤ (sp.meas.at l).den ρ ∧ (sp.meas.at l).den ρ < sp.meas.den ρ) pc
  | .out pc vs => chain ρ (SameL ρ (sp.outs.map (·.2)) vs) pc
  | .bad pc => chain ρ False pc
theorem lkeeps_at {ρ : Env} {sp : LSpec} : ∀ {l : List LL}, LKeeps ρ sp l → ∀ x ∈ l, LKeeps1 ρ sp x
  | [], _, x, hx => by cases hx
  | y :: r, h, x, hx => by
    have h1 : LKeeps1 ρ sp y ∧ LKeeps ρ sp r := by cases y <;> exact h
    cases hx with
    | head => exact h1.1
    | tail _ hx => exact lkeeps_at h1.2 x hx

theorem rawsTo_get : ∀ (n t : Nat), (rawsTo n).get t = if t < n then some (.raw t) else none
  | 0, t => by simp [rawsTo, T.get]
  | n + 1, t => by
    simp only [rawsTo, T.get_put, rawsTo_get n t]
    by_cases h : t = n
    · subst h; simp
    · by_cases h2 : t < n
      · simp [h, h2, Nat.lt_succ_of_lt h2]
      · rw [if_neg h, if_neg h2, if_neg (by omega)]

theorem putIns_get {ρ : Env2} {a : Act} : ∀ {ins : List (Nat × Option IntKind)} {i : Nat} {t : T V}, insOk a ρ.v i ins → (∀ j v, t.get j = some v → a.tmps[j]? = some (v.den ρ)) →
    ∀ j v, (putIns t i ins).get j = some v → a.tmps[j]? = some (v.den ρ)
  | [], _, _, _, ht => ht
  | (r, none) :: q, i, t, h, ht => by
    intro j v hg
    simp only [putIns, T.get_put] at hg
    split at hg
    · rename_i hj; cases hg; rw [hj, h.1]; simp [V.den, E.den]
    · exact putIns_get h.2 ht j v hg
  | (r, some k) :: q, i, t, h, ht => by
    intro j v hg
    simp only [putIns, T.get_put] at hg
    split at hg
    · rename_i hj; cases hg; rw [hj, h.1]; simp [V.den, E.den]
    · exact putIns_get h.2 ht j v hg
theorem putIns_some : ∀ {ins : List (Nat × Option IntKind)} {i : Nat} {t : T V} {j : Nat}, (t.get j).isSome = true → ((putIns t i ins).get j).isSome = true
  | [], _, _, _, h => h
  | (r, none) :: q, i, t, j, h => by
    simp only [putIns, T.get_put]; split
    · rfl
    · exact putIns_some h
  | (r, some k) :: q, i, t, j, h => by
    simp only [putIns, T.get_put]; split
    · rfl
    · exact putIns_some h
theorem insOk_congr {a : Act} {v v' : Nat → Int} : ∀ {ins : List (Nat × Option IntKind)} {i : Nat}, (∀ j, j < i + ins.length → v' j = v j) → insOk a v i ins → insOk a v' i ins
  | [], _, _, _ => trivial
  | (t, none) :: r, i, h, ho => ⟨by rw [h i (by simp)]; exact ho.1, insOk_congr (fun j hj => h j (by simp at hj ⊢; omega)) ho.2⟩
  | (t, some k) :: r, i, h, ho => ⟨by rw [h i (by simp)]; exact ho.1, insOk_congr (fun j hj => h j (by simp at hj ⊢; omega)) ho.2⟩

/-- the numbers that stand in the slots -/
def numOf : Option Value → Int
  | some (.int _ n) => n
  | some (.bool b) => b2i b
  | _ => 0
def readIns (a : Act) (ins : List (Nat × Option IntKind)) : Nat → Int := fun i => match ins[i]? with
  | some p => numOf a.tmps[p.1]?
  | none => 0
theorem readIns_eq {a : Act} {u : Nat → Int} {all : List (Nat × Option IntKind)} : ∀ {ins : List (Nat × Option IntKind)} {i : Nat}, all.drop i = ins → insOk a u i ins → KindOk u i (ins.map (·.2)) → ∀ j, i ≤ j → j < i + ins.length → readIns a all j = u j
  | [], _, _, _, _, j, h1, h2 => by simp at h2; omega
  | (t, k) :: r, i, hd, ho, hk, j, h1, h2 => by
    have hget : all[i]? = some (t, k) := by
      have : (all.drop i)[0]? = some (t, k) := by rw [hd]; rfl
      simpa using this
    have hd2 : all.drop (i + 1) = r := by rw [← List.drop_drop, hd]; rfl
    by_cases hj : j = i
    · subst hj
      cases k with
      | none =>
        simp only [insOk] at ho
        simp only [List.map_cons, KindOk] at hk
        have e1 := hk.1.1 _ rfl; have e2 := hk.1.2 _ rfl
        simp only [readIns, hget, ho.1, numOf]
        rcases (show u j = 0 ∨ u j = 1 by omega) with e | e <;> simp [e, b2i]
      | some k => simp only [insOk] at ho; simp only [readIns, hget, ho.1, numOf]
    · cases k with
      | none => exact readIns_eq hd2 ho.2 hk.2 j (by omega) (by simp at h2; omega)
      | some k => exact readIns_eq hd2 ho.2 hk.2 j (by omega) (by simp at h2; omega)

end Go.Sx

/- A loop's contract by the run of one round. -/
namespace Go.Sx
open Go

def LSpec.fine (sp : LSpec) : Bool := allUnder sp.ks.length sp.pre && allUnder sp.ks.length (sp.outs.map (·.2.2)) && sp.meas.under sp.ks.length && (sp.ins.map (·.1)).all (fun t => Nat.ble (t + 1) sp.n) && (sp.outs.map (·.1)).all (fun t => Nat.ble (t + 1) sp.n)

theorem allProp_pc {ρ : Env} {l : List E} : ∀ {pre : List E}, allProp ρ l pre → pcOk (atEnv ρ l) pre
  | [], _ => fun e he => by cases he
  | p :: r, h => fun e he => by
    cases he with
    | head => rw [← den_at]; exact (E.prop_iff _ _).1 h.1
    | tail _ he => exact allProp_pc h.2 e he
theorem allSame_res {ρ : Env} {l : List E} : ∀ {os : List (Nat × Option IntKind × E)}, allSame ρ l os → ∀ o ∈ os, resVal (atEnv ρ l) o.2 = resVal ρ o.2
  | [], _, o, ho => by cases ho
  | (t, none, e) :: r, h, o, ho => by
    cases ho with
    | head =>
      simp only [resVal]
      congr 1
      rw [Bool.eq_iff_iff, bne_iff_ne, bne_iff_ne, ← den_at]
      exact (E.prop_iff _ _).symm.trans (h.1.trans (E.prop_iff _ _))
    | tail _ ho => exact allSame_res h.2 o ho
  | (t, some k, e) :: r, h, o, ho => by
    cases ho with
    | head => simp only [resVal]; rw [← den_at, h.1]
    | tail _ ho => exact allSame_res h.2 o ho
theorem mapO_outs {ρ : Env2} {s : St} {a : Act} (ha : RelA0 ρ s a) : ∀ {os : List (Nat × Option IntKind × E)} {vs : List V}, mapO (fun o : Nat × Option IntKind × E => s.tm.get o.1) os = some vs →
    (∀ x ∈ os.map (·.1), x < s.n) → V.denL ρ vs = os.map (fun o => resVal ρ.toEnv o.2) → ∀ o ∈ os, a.tmps[o.1]? = some (resVal ρ.toEnv o.2)
  | [], _, _, _, _, o, ho => by cases ho
  | q :: r, vs, h, hn, hd, o, ho => by
    simp only [mapO] at h
    split at h
    · rename_i x hx
      split at h
      · rename_i xs hxs
        cases h
        simp only [V.denL, List.map_cons, List.cons.injEq] at hd
        cases ho with
        | head => rw [ha.tm q.1 x (hn q.1 (by simp)) hx, hd.1]
        | tail _ ho => exact mapO_outs ha hxs (fun y hy => hn y (List.mem_cons_of_mem _ hy)) hd.2 o ho
      · cases h
    · cases h
theorem oBeq_some {x y : Option V} {v : V} (h : oBeq V.beq x y = true) (hx : x = some v) : y = some v := by
  subst hx
  cases y with
  | none => cases h
  | some u => simp only [oBeq] at h; rw [V.eq_of_beq _ _ h]

theorem lspec_run {P : Program} {orc : Oracle} {lo : LoopOracle} {fns : List (Nat × Func)} {w0 : Base} {gl : Tabs} {sp : LSpec} {fuel : Nat} {ll : List LL}
    (ho : ∀ w, Ext w0.w w → OracleOk P ⟨w, w0.fn⟩ orc) (hlo : ∀ w, Ext w0.w w → LoopsOk P ⟨w, w0.fn⟩ (bodies fns) lo) (hf : AllKnown P fns) (hg : TabsOk w0.w gl)
    (hrun : lrunOf P orc lo (bodies fns) gl fuel sp = some ll) (hu : sp.fine = true)
    (hl : ∀ u : Nat → Int, KindOk u 0 sp.ks → pcOk ⟨u, w0.fn⟩ sp.pre → LKeeps ⟨u, w0.fn⟩ sp ll) : sp.Ok P w0 (bodies fns) := by
  simp only [LSpec.fine, Bool.and_eq_true] at hu
  obtain ⟨⟨⟨⟨hu1, hu2⟩, hu3⟩, hu4⟩, hu5⟩ := hu
  have hins : ∀ x ∈ sp.ins.map (·.1), x < sp.n := fun x hx => Nat.le_of_ble_eq_true (List.all_eq_true.1 hu4 x hx)
  have houts : ∀ x ∈ sp.outs.map (·.1), x < sp.n := fun x hx => Nat.le_of_ble_eq_true (List.all_eq_true.1 hu5 x hx)
  have hlen : sp.ks.length = sp.ins.length := by simp [LSpec.ks]
  intro c hc w hx a v hv hp hs hd hi Q hQ
  unfold lrunOf at hrun
  rw [hc] at hrun
  split at hrun
  · rename_i id b hcb
    cases hcb
    split at hrun
    · cases hrun
    · rename_i outs hexec
      obtain ⟨_, hmap⟩ := mapO_some hrun
      refine wp_block (wp_loop
        (fun a1 w1 => ∃ u : Nat → Int, KindOk u 0 sp.ks ∧ pcOk ⟨u, w0.fn⟩ sp.pre ∧ insOk a1 u 0 sp.ins ∧ (∀ o ∈ sp.outs, resVal ⟨u, w0.fn⟩ o.2 = resVal ⟨v, w0.fn⟩ o.2) ∧ a1.tmps.size = sp.n ∧ a1.defers = [] ∧
          (∀ t, t ∉ sp.written → a1.tmps[t]? = a.tmps[t]?) ∧ Ext w w1)
        (fun a1 _ => (sp.meas.den ⟨readIns a1 sp.ins, w0.fn⟩).toNat)
        ⟨v, hv, hp, hi, fun _ _ => rfl, hs, hd, fun _ _ => rfl, Ext.refl w⟩ ?_)
      rintro a1 w1 ⟨u, ku, pu, iu, ou, su, du, fu, xu⟩
      have hx1 : Ext w0.w w1 := hx.trans xu
      have hat : codeAt (bodies fns) sp.f (0 :: 0 :: sp.p) = some b := by simp [codeAt, hc, Code.sub]
      let ρ : Env2 := { v := u, fn := w0.fn, blk := fun _ => 0, raw := fun t => (a1.tmps[t]?).getD undef }
      have hle : ∀ {ρ' : Env2}, Le (sp.start gl) ρ ρ' → ∀ j, j < sp.ks.length → ρ'.v j = u j := fun h j hj => h.2.1 j hj
      have hW : RelW ⟨w1, w0.fn⟩ ρ (sp.start gl) w1 := fun ρ' h => by
        have hb := kindBd_ok (ρ := ρ'.toEnv) (kindOk_congr (v := u) (v' := ρ'.v) (fun j hj => hle h j (by omega)) ku)
        have hpc : pcOk ρ'.toEnv sp.pre := pc_under hu1 ⟨u, w0.fn⟩ ρ'.toEnv h.2.2.1 (hle h) pu
        exact ⟨Ext.refl w1, h.2.2.1, fun i o ho => by simp [LSpec.start, T.get] at ho, fun i j o o' ho => by simp [LSpec.start, T.get] at ho, hg.later hx1, ok_supposeAll hb hpc, hpc⟩
      have hA : RelA ρ (sp.start gl) a1 := fun ρ' h => by
        refine ⟨su, fun t x _ hget => ?_, du⟩
        have hraw : ρ'.raw = fun t => (a1.tmps[t]?).getD undef := h.2.2.2
        refine putIns_get (insOk_congr (v := u) (fun j hj => hle h j (by omega)) iu) (fun j y hy => ?_) t x hget
        rw [rawsTo_get] at hy
        split at hy
        · rename_i hjn
          cases hy
          simp only [V.den, hraw]
          have : j < a1.tmps.size := by omega
          simp [this]
        · cases hy
      refine exec_ok (ho w1 hx1) (bodies_ok hf) (hlo w1 hx1) fuel sp.f _ b _ outs hexec hat ρ a1 w1 _ hW hA ?_
      intro r hr ρ2 a2 w2 hle2 _ _ hw2 ha2
      obtain ⟨i, hi1, hi2⟩ := List.getElem_of_mem hr
      obtain ⟨y, hy1, hy2⟩ := hmap i r (by rw [List.getElem?_eq_getElem hi1, hi2])
      have hyl : y ∈ ll := List.mem_of_getElem? hy1
      have hfn2 : ρ2.fn = w0.fn := hle2.2.2.1
      have hρ2 : (⟨ρ2.v, w0.fn⟩ : Env) = ρ2.toEnv := by rw [← hfn2]
      have hp2 : pcOk ρ2.toEnv sp.pre := pc_under hu1 ⟨u, w0.fn⟩ ρ2.toEnv hfn2 (hle hle2) pu
      have hk2 : KindOk ρ2.v 0 sp.ks := kindOk_congr (v := u) (fun j hj => hle hle2 j (by omega)) ku
      have lk := lkeeps_at (hl ρ2.v hk2 (by rw [hρ2]; exact hp2)) y hyl
      rw [hρ2] at lk
      obtain ⟨x, s1⟩ := r
      unfold llOf at hy2
      split at hy2
      · cases hy2
      · rename_i hfr
        simp only [Bool.and_eq_true] at hfr
        obtain ⟨hfr, hn1⟩ := hfr
        have hn1 : s1.n = sp.n := Nat.eq_of_beq_eq_true hn1
        have hs2 : a2.tmps.size = sp.n := ha2.to.size.trans hn1
        have hframe : ∀ t, t ∉ sp.written → a2.tmps[t]? = a.tmps[t]? := by
          intro t ht
          rw [← fu t ht]
          by_cases htn : t < sp.n
          · have h1 := List.all_eq_true.1 hfr t (by simpa using htn)
            simp only [Bool.or_eq_true, memN_iff] at h1
            have h1 := h1.resolve_left ht
            have h2 : ((sp.start gl).tm.get t).isSome = true := putIns_some (by rw [rawsTo_get, if_pos htn]; rfl)
            obtain ⟨v0, hv0⟩ := Option.isSome_iff_exists.1 h2
            have h3 := oBeq_some h1 hv0
            rw [ha2.to.tm t v0 (show t < s1.n by omega) h3, (hA ρ2 hle2).tm t v0 htn hv0]
          · rw [Array.getElem?_eq_none (by omega), Array.getElem?_eq_none (by omega)]
        have hou : ∀ o ∈ sp.outs, resVal ρ2.toEnv o.2 = resVal ⟨v, w0.fn⟩ o.2 := by
          intro o hoo
          rw [← ou o hoo]
          have := den_under (ρ := ⟨u, w0.fn⟩) (ρ' := ρ2.toEnv) hfn2 (hle hle2) (List.all_eq_true.1 hu2 o.2.2 (List.mem_map.2 ⟨o, hoo, rfl⟩))
          obtain ⟨t, k, e⟩ := o
          cases k <;> simp only [resVal] <;> rw [this]
        have hext : Ext w w2 := xu.trans hw2.to.ext
        cases x with
        | normal =>
          simp only at hy2
          split at hy2
          · cases hy2
          · rename_i vs hvs
            split at hy2
            · cases hy2
            · rename_i l hl'
              cases hy2
              obtain ⟨c1, c2, c3, c4⟩ := chain_of hw2.to.pc lk
              obtain ⟨k1, k2⟩ := argE_some (ρ := ρ2) hw2.to.bd [] hl'
              have k1 : KindOk (atEnv ρ2.toEnv l).v 0 sp.ks := k1
              have hio : insOk a2 (atEnv ρ2.toEnv l).v 0 sp.ins := insOk_of ha2.to hvs (fun z hz => by rw [hn1]; exact hins z hz) k2
              have hat2 : (⟨(atEnv ρ2.toEnv l).v, w0.fn⟩ : Env) = atEnv ρ2.toEnv l := by rw [← hfn2]; rfl
              refine ⟨⟨(atEnv ρ2.toEnv l).v, k1, by rw [hat2]; exact allProp_pc c1, hio, fun o hoo => ?_, hs2, ha2.to.defers, hframe, hext⟩, ?_⟩
              · rw [hat2, allSame_res c2 o hoo, hou o hoo]
              · have m1 : sp.meas.den ⟨readIns a2 sp.ins, w0.fn⟩ = (sp.meas.at l).den ρ2.toEnv := by
                  rw [den_at, ← hat2]
                  exact den_under (ρ := ⟨(atEnv ρ2.toEnv l).v, w0.fn⟩) (ρ' := ⟨readIns a2 sp.ins, w0.fn⟩) rfl (fun j hj => readIns_eq (all := sp.ins) (ins := sp.ins) (i := 0) rfl hio k1 j (Nat.zero_le _) (by rw [hlen] at hj; omega)) hu3
                have m2 : sp.meas.den ⟨readIns a1 sp.ins, w0.fn⟩ = sp.meas.den ρ2.toEnv := by
                  rw [den_under (ρ := ⟨u, w0.fn⟩) (ρ' := ⟨readIns a1 sp.ins, w0.fn⟩) rfl (fun j hj => readIns_eq (all := sp.ins) (ins := sp.ins) (i := 0) rfl iu ku j (Nat.zero_le _) (by rw [hlen] at hj; omega)) hu3]
                  exact (den_under (ρ := ⟨u, w0.fn⟩) (ρ' := ρ2.toEnv) hfn2 (hle hle2) hu3).symm
                show (sp.meas.den ⟨readIns a2 sp.ins, w0.fn⟩).toNat < (sp.meas.den ⟨readIns a1 sp.ins, w0.fn⟩).toNat
                rw [m1, m2]
                omega
        | exit j =>
          simp only at hy2
          split at hy2
          · rename_i hj
            have hj := Nat.eq_of_beq_eq_true hj
            split at hy2
            · cases hy2
            · rename_i vs hvs
              cases hy2
              have hsame := sameL_den (chain_of hw2.to.pc lk)
              rw [List.map_map] at hsame
              have hout := mapO_outs ha2.to hvs (fun z hz => by rw [hn1]; exact houts z hz) hsame
              show Exit.inBlock id Q (.exit j) a2 w2
              simp only [Exit.inBlock, hj, if_true]
              exact hQ a2 w2 hs2 ha2.to.defers hframe (fun o hoo => by rw [hout o hoo, hou o hoo]) hext
          · cases hy2
            exact (chain_of hw2.to.pc lk).elim
        | ret =>
          simp only at hy2
          cases hy2
          exact (chain_of hw2.to.pc lk).elim
  · cases hrun

end Go.Sx

/- Functions that the model stands in for: floats and their bits, whole parts, roots, the lesser and the greater. -/
namespace Go.Sx
open Go

inductive XK where
  | bits (k : FloatKind)
  | frombits (k : FloatKind)
  | whole (name : String) (way : Ieee.Toward)
  | sqrt
  | pick (name : String) (neg : Bool)
def XK.sem : XK → Array Value → Sem Value
  | .bits .f64 => Extern.MathFloatBits.float64bits
  | .bits .f32 => Extern.MathFloatBits.float32bits
  | .frombits .f64 => Extern.MathFloatBits.float64frombits
  | .frombits .f32 => Extern.MathFloatBits.float32frombits
  | .whole name way => Extern.MathFloor.toIntegral name way
  | .sqrt => Extern.MathSqrt.sqrt
  | .pick name neg => Extern.MathDim.pick name neg (if neg then .lt else .gt)
def kU : FloatKind → IntKind
  | .f32 => .u32
  | .f64 => .u64
def numF (b : Bd) (e : E) : Bool := within (itv b e) (bndF .f64) && within (itv b (mkBin (.ford .f64) e e)) (some 0, some 0)
def XK.out (k : XK) (s : St) (args : List V) : Option (List (V × St)) := match k with
  | .bits k => match args with
    | [.flt k' a] => match decide (k = k') && within (itv s.bd a) (bndF k) with
      | true => some [(.int (kU k) a, s)]
      | false => none
    | _ => none
  | .frombits k => match args with
    | [.int u a] => match decide (u = kU k) with
      | true => some [(.flt k a, s)]
      | false => none
    | _ => none
  | .whole _ way => match args with
    | [.flt .f64 a] => match within (itv s.bd a) (bndF .f64) with
      | true => some (match knownN s.bd .f64 a with
        | some true => [(.flt .f64 (mkUn (.fwhole way) a), s.more (goodB .f64 (mkUn (.fwhole way) a)))]
        | some false => orNan (s.more [(mkUn (.fwhole way) a, (some (-1), some (-1)))]) .f64 (mkUn (.fwhole way) a)
        | none => orNan s .f64 (mkUn (.fwhole way) a))
      | false => none
    | _ => none
  | .sqrt => match args with
    | [.flt .f64 a] => some (match knownN s.bd .f64 a with
        | some false => orNan (s.more [(mkUn .fsqrt a, (some (-1), some (-1)))]) .f64 (mkUn .fsqrt a)
        | _ => orNan s .f64 (mkUn .fsqrt a))
    | _ => none
  | .pick _ neg => match args with
    | [.flt .f64 a, .flt .f64 c] => match numF s.bd a && numF s.bd c with
      | true => match mkBin (.fpick neg) a c with
        | e => some [(.flt .f64 e, s.more (goodB .f64 e))]
      | false => none
    | _ => none
def xOracle : List (Nat × XK) → Oracle
  | [], _, _, _ => none
  | p :: r, f, s, args => match Nat.beq p.1 f with
    | true => some (p.2.out s args)
    | false => xOracle r f s args
def orcs (a b : Oracle) : Oracle := fun f s args => match a f s args with
  | some r => some r
  | none => b f s args
theorem orcs_ok {P : Program} {w0 : Base} {a b : Oracle} (ha : OracleOk P w0 a) (hb : OracleOk P w0 b) : OracleOk P w0 (orcs a b) := fun f s args l h => by
  unfold orcs at h
  split at h
  · rename_i r hr; cases h; exact ha f s args l hr
  · exact hb f s args l h

def XtOk (P : Program) (xs : List (Nat × XK)) : Prop := ∀ p ∈ xs, ∀ ys w, (callFunc p.1 ys).run P w = ((p.2.sem ys).run P w).andThen fun v w' => .ok (.value v) w'

theorem in_bnd {i : Iv} {k : FloatKind} {n : Int} (h : within i (bndF k) = true) (hn : i.has n) : 0 ≤ n ∧ n ≤ topF k := by
  obtain ⟨a, b⟩ := i
  cases a <;> cases b <;> simp [within, bndF] at h
  have := hn.1 _ rfl; have := hn.2 _ rfl
  omega
theorem quiet_nan (t : Nat) (g : Bool) : NanF .f64 ((FloatKind.f64.encode (.nan g (FloatKind.f64.format.quiet t)) : Nat) : Int) := by
  have h0 : (Ieee.double.quiet t % Ieee.double.binade) ≠ 0 := by
    intro h
    have e1 : Ieee.double.quiet t = t ||| 2 ^ 51 := rfl
    have e2 : Ieee.double.binade = 2 ^ 52 := by decide
    have h1 : ((t ||| 2 ^ 51) % 2 ^ 52).testBit 51 = true := by
      rw [Nat.testBit_mod_two_pow, Nat.testBit_or, Nat.testBit_two_pow_self]; simp
    rw [← e1, ← e2, h] at h1
    simp at h1
  have h1 : Ieee.double.quiet t % Ieee.double.binade < Ieee.double.binade := Nat.mod_lt _ (by decide)
  have e : FloatKind.f64.encode (.nan g (FloatKind.f64.format.quiet t)) = Ieee.double.word g (Ieee.double.infRung + Ieee.double.quiet t % Ieee.double.binade) := rfl
  rw [e]
  generalize Ieee.double.quiet t % Ieee.double.binade = b at *
  have hb : b < 4503599627370496 := h1
  have hs : Ieee.double.signWeight = 9223372036854775808 := rfl
  have hi : Ieee.double.infRung = 0x7ff0000000000000 := rfl
  have hbi : Ieee.double.binade = 4503599627370496 := rfl
  have hm : Ieee.double.word g (Ieee.double.infRung + b) % Ieee.double.signWeight = Ieee.double.infRung + b := by
    unfold Ieee.Format.word
    split
    · rw [Nat.add_mod_left]; exact Nat.mod_eq_of_lt (by omega)
    · exact Nat.mod_eq_of_lt (by omega)
  refine ⟨⟨Int.natCast_nonneg _, ?_⟩, ?_⟩
  · have : Ieee.double.word g (Ieee.double.infRung + b) ≤ 18446744073709551615 := by
      unfold Ieee.Format.word
      split <;> omega
    simp only [topF]; omega
  · unfold fordI Ieee.Format.order
    rw [Int.toNat_natCast]
    have : (FloatKind.f64.format.read (Ieee.double.word g (Ieee.double.infRung + b))).isNaN = true := by
      show (Ieee.double.read _).isNaN = true
      unfold Ieee.Format.read
      simp only [hm]
      rw [if_neg (by omega), if_neg (by omega), if_neg (by omega)]
      rfl
    rw [order_nan this]
theorem nan_self {n : Int} (h : 0 ≤ n ∧ n ≤ topF .f64) {g : Bool} {t : Nat} (hd : FloatKind.f64.decode n.toNat = .nan g t) : NanF .f64 n := by
  refine ⟨h, ?_⟩
  unfold fordI Ieee.Format.order
  have : (FloatKind.f64.format.read n.toNat).isNaN = true := by
    have : FloatKind.f64.format.read n.toNat = .nan g t := hd
    rw [this]; rfl
  rw [order_nan this]
theorem integral_number {way : Ieee.Toward} {d : Ieee.Datum} (h : d.isNaN = false) : (d.integral way).isNaN = false := by
  cases d <;> first | rfl | exact h
theorem whole_cases (way : Ieee.Toward) (x : Int) : ((∃ g t, FloatKind.f64.decode x.toNat = .nan g t) ∧ fwholeI way x = -1) ∨
    ((FloatKind.f64.decode x.toNat).isNaN = false ∧ fwholeI way x = (FloatKind.f64.encode ((FloatKind.f64.decode x.toNat).integral way) : Nat)) := by
  cases hd : FloatKind.f64.decode x.toNat with
  | nan g t => exact .inl ⟨⟨g, t, rfl⟩, by simp only [fwholeI, hd]⟩
  | number g m e => exact .inr ⟨rfl, by simp only [fwholeI, hd]⟩
  | infinity g => exact .inr ⟨rfl, by simp only [fwholeI, hd]⟩
theorem fwhole_good {way : Ieee.Toward} {x : Int} (h : fwholeI way x ≠ -1) : GoodF .f64 (fwholeI way x) := by
  rcases whole_cases way x with ⟨_, h2⟩ | ⟨h1, h2⟩
  · exact absurd h2 h
  · rw [h2]; exact good_of (write_number _ _ (integral_number h1)) (FloatKind.f64.format.write_lt _)
theorem sqrt_cases (x : Int) : (FloatKind.f64.format.sqrt x.toNat = none ∧ fsqrtI x = -1) ∨ ∃ r, FloatKind.f64.format.sqrt x.toNat = some r ∧ fsqrtI x = (r : Nat) := by
  cases hd : FloatKind.f64.format.sqrt x.toNat with
  | none => exact .inl ⟨rfl, by simp only [fsqrtI, hd]⟩
  | some r => exact .inr ⟨r, rfl, by simp only [fsqrtI, hd]⟩
theorem fsqrt_good {x : Int} (h : fsqrtI x ≠ -1) : GoodF .f64 (fsqrtI x) := by
  rcases sqrt_cases x with ⟨_, h2⟩ | ⟨r, hr, h2⟩
  · exact absurd h2 h
  · rw [h2]; exact good_of (map_number hr fun d hd => root_number hd) (FloatKind.f64.format.sqrt_lt hr)
theorem fpick_good {neg : Bool} {x y : Int} (hx : GoodF .f64 x) (hy : GoodF .f64 y) : GoodF .f64 (fpickI neg x y) := by
  have gx : GoodF .f64 (x.toNat : Int) := by rw [Int.toNat_of_nonneg hx.1.1]; exact hx
  have gy : GoodF .f64 (y.toNat : Int) := by rw [Int.toNat_of_nonneg hy.1.1]; exact hy
  have nx : (FloatKind.f64.decode x.toNat).isNaN = false := isNaN_of_ford hx.2
  have ny : (FloatKind.f64.decode y.toNat).isNaN = false := isNaN_of_ford hy.2
  unfold fpickI
  simp only [nx, ny, Bool.or_false, Bool.false_eq_true, if_false]
  split
  · exact good_of (write_number _ _ rfl) (FloatKind.f64.format.write_lt _)
  · split
    · split <;> assumption
    · generalize (if neg = true then some Ordering.lt else some Ordering.gt : Option Ordering) = z
      split <;> first | assumption | (split <;> assumption)

section
variable {P : Program} {w0 : Base} {w : World} {ρ : Env2} {s : St}
theorem run_bits (k : FloatKind) (n : Nat) : ((XK.bits k).sem #[.float k n]).run P w = .ok (.int (kU k) n) w := by cases k <;> rfl
theorem run_from (k : FloatKind) (n : Int) : ((XK.frombits k).sem #[.int (kU k) n]).run P w = .ok (.float k n.toNat) w := by cases k <;> rfl
theorem run_whole (name : String) (way : Ieee.Toward) (n : Nat) : ((XK.whole name way).sem #[.float .f64 n]).run P w = match FloatKind.f64.decode n with
    | .nan s t => if FloatKind.f64.format.quiet t = t then .ok (.float .f64 n) w else
        .ok (.float .f64 (if (Question.extern "math.Floor,Ceil,Trunc,RoundToEven.signallingNaN kept" 2).cut (w.tape w.drawn (.extern "math.Floor,Ceil,Trunc,RoundToEven.signallingNaN kept" 2)) == 1 then n else FloatKind.f64.encode (.nan s (FloatKind.f64.format.quiet t)))) { w with drawn := w.drawn + 1 }
    | d => .ok (.float .f64 (FloatKind.f64.encode (d.integral way))) w := by
  have h : (XK.whole name way).sem #[.float .f64 n] = (match FloatKind.f64.decode n with
    | .nan s t =>
      if FloatKind.f64.format.quiet t = t then pure (.float .f64 n) else do
      let kept ← choose (.extern "math.Floor,Ceil,Trunc,RoundToEven.signallingNaN kept" 2)
      pure (.float .f64 (if kept == 1 then n else FloatKind.f64.encode (.nan s (FloatKind.f64.format.quiet t))))
    | d => pure (.float .f64 (FloatKind.f64.encode (d.integral way)))) := rfl
  rw [h]
  cases FloatKind.f64.decode n with
  | number g m e => rfl
  | infinity g => rfl
  | nan g t =>
    dsimp only
    by_cases hq : FloatKind.f64.format.quiet t = t
    · rw [if_pos hq, if_pos hq]; rfl
    · rw [if_neg hq, if_neg hq]; rfl
theorem run_sqrt (n : Nat) : (XK.sqrt.sem #[.float .f64 n]).run P w = match FloatKind.f64.format.sqrt n with
    | some r => .ok (.float .f64 r) w
    | none => .ok (.float .f64 ((Question.nanBits .f64 n n).cut (w.tape w.drawn (.nanBits .f64 n n)))) { w with drawn := w.drawn + 1 } := by
  have h : XK.sqrt.sem #[.float .f64 n] = (match FloatKind.f64.format.sqrt n with
    | some r => pure (.float .f64 r)
    | none => do pure (.float .f64 (← choose (.nanBits .f64 n n)))) := rfl
  rw [h]
  cases FloatKind.f64.format.sqrt n with
  | some r => rfl
  | none => rfl
theorem run_pick (name : String) (neg : Bool) (x y : Int) : ((XK.pick name neg).sem #[.float .f64 x.toNat, .float .f64 y.toNat]).run P w = .ok (.float .f64 (fpickI neg x y).toNat) w := by
  cases neg <;> rfl
theorem ans_orNan (hw : RelW w0 ρ s w) {k : FloatKind} {e : E} {f : Nat} {xs : List Value} (hsame : ∀ ρ', Le s ρ ρ' → e.den ρ'.toEnv = e.den ρ.toEnv)
    (hgood : e.den ρ.toEnv ≠ -1 → GoodF k (e.den ρ.toEnv) ∧ (callFunc f xs.toArray).run P w = .ok (.value (.float k (e.den ρ.toEnv).toNat)) w)
    (hnan : e.den ρ.toEnv = -1 → ∃ (n : Int) (w1 : World), (w1 = w ∨ w1 = { w with drawn := w.drawn + 1 }) ∧ NanF k n ∧ (callFunc f xs.toArray).run P w = .ok (.value (.float k n.toNat)) w1) :
    Told P f xs w (Answers w0 ρ s (orNan s k e)) := by
  obtain ⟨s1, hs1, hw1, _, hb1, hv1, _, _⟩ := branch_ok (a := { tmps := #[], defers := [] }) (s := { s with n := 0, tm := .e }) (ρ := ρ) (w := w) (w0 := w0)
    (fun ρ' hle => let h0 := hw ρ' hle; ⟨h0.ext, h0.fn, h0.hp, h0.inj, h0.gl, h0.bd, h0.pc⟩) (fun ρ' _ => ⟨rfl, fun t v ht _ => absurd ht (Nat.not_lt_zero _), rfl⟩) (mkNot (mkEq e (.lit (-1)))) (decide (e.den ρ.toEnv ≠ -1)) fun ρ' hle => by rw [neq_lit, hsame ρ' hle]
  have hbr : ∀ (b : Bool) (s2 : St), (b, s2) ∈ branch { s with n := 0, tm := .e } (mkNot (mkEq e (.lit (-1)))) → ∃ s3, (b, s3) ∈ branch s (mkNot (mkEq e (.lit (-1)))) ∧ s3.nb = s2.nb ∧ s3.nv = s2.nv ∧ s3.hp = s2.hp ∧ s3.bd = s2.bd ∧ s3.pc = s2.pc ∧ s3.gl = s2.gl := by
    intro b s2 hm
    unfold branch at hm ⊢
    cases hd : dec s.bd s.pc (mkNot (mkEq e (.lit (-1)))) with
    | some t => simp only [hd, List.mem_singleton, Prod.mk.injEq] at hm ⊢; obtain ⟨rfl, rfl⟩ := hm; exact ⟨s, ⟨rfl, rfl⟩, rfl, rfl, rfl, rfl, rfl, rfl⟩
    | none =>
      simp only [hd, List.mem_cons, Prod.mk.injEq, List.not_mem_nil, or_false] at hm ⊢
      rcases hm with ⟨rfl, rfl⟩ | ⟨rfl, rfl⟩
      · exact ⟨_, .inl ⟨rfl, rfl⟩, rfl, rfl, rfl, rfl, rfl, rfl⟩
      · exact ⟨_, .inr ⟨rfl, rfl⟩, rfl, rfl, rfl, rfl, rfl, rfl⟩
  obtain ⟨s3, hs3, e1, e2, e3, e4, e5, e6⟩ := hbr _ _ hs1
  have hw3 : RelW w0 ρ s3 w := fun ρ' hle => by
    have h0 := hw1 ρ' ⟨fun i hi => hle.1 i (by omega), fun i hi => hle.2.1 i (by omega), hle.2.2.1, hle.2.2.2⟩
    exact ⟨h0.ext, h0.fn, fun i o ho => by rw [e1]; exact h0.hp i o (e3 ▸ ho), fun i j o o' hi hj => h0.inj i j o o' (e3 ▸ hi) (e3 ▸ hj), e6 ▸ h0.gl, e4 ▸ h0.bd, e5 ▸ h0.pc⟩
  have b3 : s3.nb = s.nb := e1.trans hb1
  have v3 : s3.nv = s.nv := e2.trans hv1
  have hle3 : ∀ {ρ'}, Le s3 ρ ρ' ↔ Le s ρ ρ' := by simp [Le, b3, v3]
  by_cases h : e.den ρ.toEnv = -1
  · rw [decide_eq_false (by simp [h])] at hs3
    obtain ⟨n, w1, hw2, hN, hrun⟩ := hnan h
    have hw4 : RelW w0 ρ s3 w1 := by
      rcases hw2 with h2 | h2
      · rw [h2]; exact hw3
      · rw [h2]; exact relW_drawn hw3
    have h0 := le_setV s ρ n
    rw [← v3] at h0
    refine .inr ⟨_, w1, hrun, _, List.mem_map.2 ⟨_, hs3, rfl⟩, _, ρ.setV s3.nv n, rfl, h0, by simp [St.fresh, b3], by simp [St.fresh, v3], relW_fresh hw4 fun ρ' hn => nanB_ok (by simp only [E.den]; rw [hn]; exact hN), fun ρ' hle => ?_⟩
    simp only [V.den, E.den, (le_fresh hle).2]
  · rw [decide_eq_true h] at hs3
    obtain ⟨hG, hrun⟩ := hgood h
    refine .inr ⟨_, w, hrun, _, List.mem_map.2 ⟨_, hs3, rfl⟩, _, ρ, rfl, Le.refl _ _, by simp [St.more, b3], by simp [St.more, v3], relW_more hw3 fun ρ' hle => goodB_ok (by rw [hsame ρ' (hle3.1 hle)]; exact hG), fun ρ' hle => ?_⟩
    have hle : Le s3 ρ ρ' := hle
    simp only [V.den, hsame ρ' (hle3.1 hle)]

theorem xk_ok {k : XK} {f : Nat} (hx : ∀ ys w, (callFunc f ys).run P w = ((k.sem ys).run P w).andThen fun v w' => .ok (.value v) w') {args : List V} {l : List (V × St)} (h : k.out s args = some l)
    (hw : RelW w0 ρ s w) {xs : List Value} (hxs : ∀ ρ', Le s ρ ρ' → V.denL ρ' args = xs) : Told P f xs w (Answers w0 ρ s l) := by
  have h00 := hxs ρ (Le.refl _ _)
  have one : ∀ {v : V} {x : Value} {b : Bd}, l = [(v, s.more b)] → (callFunc f xs.toArray).run P w = .ok (.value x) w → (∀ ρ', Le s ρ ρ' → b.ok ρ'.toEnv) → (∀ ρ', Le s ρ ρ' → v.den ρ' = x) → Told P f xs w (Answers w0 ρ s l) := fun hl hr hb hv =>
    .inr ⟨_, w, hr, _, by rw [hl]; exact List.mem_singleton.2 rfl, _, ρ, rfl, Le.refl _ _, Nat.le_refl _, Nat.le_refl _, relW_more hw hb, fun ρ' hle => hv ρ' hle⟩
  have nob : ∀ ρ', Le s ρ ρ' → Bd.ok ρ'.toEnv [] := fun _ _ => fun p hp => by cases hp
  unfold XK.out at h
  split at h
  · rename_i k
    split at h
    · rename_i k' a
      split at h
      · rename_i hc
        simp only [Bool.and_eq_true, decide_eq_true_eq] at hc
        obtain ⟨rfl, hc⟩ := hc
        cases h
        have hb := in_bnd hc (has_itv hw.to.bd a)
        refine one (b := []) rfl (x := .int (kU k) (a.den ρ.toEnv)) ?_ nob fun ρ' hle => ?_
        · rw [hx, ← h00, show (V.denL ρ [V.flt k a]).toArray = #[.float k (a.den ρ.toEnv).toNat] by simp [V.denL, V.den], run_bits, Int.toNat_of_nonneg hb.1]; rfl
        · have h1 := hxs ρ' hle
          rw [← h00] at h1
          simp only [V.denL, V.den, List.cons.injEq, Value.float.injEq, true_and, and_true] at h1
          have hb' := in_bnd hc (has_itv (hw ρ' hle).bd a)
          simp only [V.den]
          congr 1; omega
      · cases h
    · cases h
  · rename_i k
    split at h
    · rename_i u a
      split at h
      · rename_i hc
        have hc := of_decide_eq_true hc
        subst hc
        cases h
        refine one (b := []) rfl (x := .float k (a.den ρ.toEnv).toNat) ?_ nob fun ρ' hle => ?_
        · rw [hx, ← h00, show (V.denL ρ [V.int (kU k) a]).toArray = #[.int (kU k) (a.den ρ.toEnv)] by simp [V.denL, V.den], run_from]; rfl
        · have h1 := hxs ρ' hle
          rw [← h00] at h1
          simp only [V.denL, V.den, List.cons.injEq, Value.int.injEq, true_and, and_true] at h1
          simp only [V.den, h1]
      · cases h
    · cases h
  · rename_i name way
    split at h
    · rename_i a
      split at h
      · rename_i hc
        cases h
        have hb := in_bnd hc (has_itv hw.to.bd a)
        have hden : ∀ ρ' : Env, (mkUn (.fwhole way) a).den ρ' = fwholeI way (a.den ρ') := fun ρ' => by rw [den_mkUn]; rfl
        have hrun : (callFunc f xs.toArray).run P w = (((XK.whole name way).sem #[.float .f64 (a.den ρ.toEnv).toNat]).run P w).andThen fun v w' => .ok (.value v) w' := by
          rw [hx, ← h00, show (V.denL ρ [V.flt .f64 a]).toArray = #[.float .f64 (a.den ρ.toEnv).toNat] by simp [V.denL, V.den]]
        rw [run_whole] at hrun
        have hsame : ∀ ρ', Le s ρ ρ' → (mkUn (.fwhole way) a).den ρ'.toEnv = (mkUn (.fwhole way) a).den ρ.toEnv := fun ρ' hle => by
          have h1 := hxs ρ' hle
          rw [← h00] at h1
          simp only [V.denL, V.den, List.cons.injEq, Value.float.injEq, true_and, and_true] at h1
          rw [hden, hden]; unfold fwholeI; rw [h1]
        have bad : knownN s.bd .f64 a = some false → fwholeI way (a.den ρ.toEnv) = -1 := fun ht => by
          have := knownF_some hw.to.bd ht
          rcases whole_cases way (a.den ρ.toEnv) with ⟨_, h2⟩ | ⟨h1, _⟩
          · exact h2
          · rw [h1] at this; cases this
        have fine : knownN s.bd .f64 a = some true → fwholeI way (a.den ρ.toEnv) ≠ -1 := fun ht hh => by
          have := knownF_some hw.to.bd ht
          rcases whole_cases way (a.den ρ.toEnv) with ⟨⟨g, t, hd⟩, _⟩ | ⟨_, h2⟩
          · rw [hd] at this; cases this
          · exact (nat_ne (h2.symm.trans hh) (by decide)).elim
        have okrun : fwholeI way (a.den ρ.toEnv) ≠ -1 → (callFunc f xs.toArray).run P w = .ok (.value (.float .f64 (fwholeI way (a.den ρ.toEnv)).toNat)) w := fun hne => by
          rw [hrun]
          rcases whole_cases way (a.den ρ.toEnv) with ⟨_, h2⟩ | ⟨h1, h2⟩
          · exact absurd h2 hne
          · rw [h2, Int.toNat_natCast]
            cases hd : FloatKind.f64.decode (a.den ρ.toEnv).toNat with
            | nan g t => rw [hd] at h1; cases h1
            | number g m e => rfl
            | infinity g => rfl
        have nanw : fwholeI way (a.den ρ.toEnv) = -1 → ∃ (n : Int) (w1 : World), (w1 = w ∨ w1 = { w with drawn := w.drawn + 1 }) ∧ NanF .f64 n ∧ (callFunc f xs.toArray).run P w = .ok (.value (.float .f64 n.toNat)) w1 := fun he => by
            rcases whole_cases way (a.den ρ.toEnv) with ⟨⟨g, t, hd⟩, _⟩ | ⟨_, h2⟩
            · rw [hd] at hrun
              dsimp only at hrun
              by_cases hq : FloatKind.f64.format.quiet t = t
              · rw [if_pos hq] at hrun
                exact ⟨a.den ρ.toEnv, w, .inl rfl, nan_self hb hd, hrun⟩
              · rw [if_neg hq] at hrun
                by_cases hk : ((Question.extern "math.Floor,Ceil,Trunc,RoundToEven.signallingNaN kept" 2).cut (w.tape w.drawn (.extern "math.Floor,Ceil,Trunc,RoundToEven.signallingNaN kept" 2)) == 1) = true
                · rw [if_pos hk] at hrun
                  exact ⟨a.den ρ.toEnv, _, .inr rfl, nan_self hb hd, hrun⟩
                · rw [if_neg hk] at hrun
                  exact ⟨_, _, .inr rfl, quiet_nan t g, by rw [Int.toNat_natCast]; exact hrun⟩
            · exact (nat_ne (h2.symm.trans he) (by decide)).elim
        cases hkk : knownN s.bd .f64 a with
        | some t =>
          cases t with
          | true =>
            have hne := fine hkk
            refine .inr ⟨_, w, okrun hne, _, List.mem_singleton.2 rfl, _, ρ, rfl, Le.refl _ _, Nat.le_refl _, Nat.le_refl _, relW_more hw fun ρ' hle => goodB_ok (by rw [hsame ρ' hle, hden]; exact fwhole_good hne), fun ρ' hle => ?_⟩
            have hle : Le s ρ ρ' := hle
            simp only [V.den]
            rw [hsame ρ' hle, hden]
          | false =>
            refine (ans_orNan (s := s.more [(mkUn (.fwhole way) a, (some (-1), some (-1)))]) (relW_more hw fun ρ' hle => fun p hp => by
              simp only [List.mem_singleton] at hp; subst hp; rw [hsame ρ' hle, hden, bad hkk]; exact ⟨fun _ h => by cases h; decide, fun _ h => by cases h; decide⟩) (fun ρ' hle => hsame ρ' hle) (fun hne => ?_) (fun he => ?_))
            · rw [hden] at hne; exact absurd (bad hkk) hne
            · exact nanw (bad hkk)
        | none =>
        refine ans_orNan hw hsame (fun hne => ?_) (fun he => ?_)
        · rw [hden] at hne ⊢
          exact ⟨fwhole_good hne, okrun hne⟩
        · rw [hden] at he; exact nanw he
      · cases h
    · cases h
  · split at h
    · rename_i a
      cases h
      have hden : ∀ ρ' : Env, (mkUn .fsqrt a).den ρ' = fsqrtI (a.den ρ') := fun ρ' => by rw [den_mkUn]; rfl
      have hrun : (callFunc f xs.toArray).run P w = ((XK.sqrt.sem #[.float .f64 (a.den ρ.toEnv).toNat]).run P w).andThen fun v w' => .ok (.value v) w' := by
        rw [hx, ← h00, show (V.denL ρ [V.flt .f64 a]).toArray = #[.float .f64 (a.den ρ.toEnv).toNat] by simp [V.denL, V.den]]
      rw [run_sqrt] at hrun
      have hsame : ∀ ρ', Le s ρ ρ' → (mkUn .fsqrt a).den ρ'.toEnv = (mkUn .fsqrt a).den ρ.toEnv := fun ρ' hle => by
        have h1 := hxs ρ' hle
        rw [← h00] at h1
        simp only [V.denL, V.den, List.cons.injEq, Value.float.injEq, true_and, and_true] at h1
        rw [hden, hden]; unfold fsqrtI; rw [h1]
      have bad : knownN s.bd .f64 a = some false → fsqrtI (a.den ρ.toEnv) = -1 := fun ht => by
        have := knownF_some hw.to.bd ht
        rcases sqrt_cases (a.den ρ.toEnv) with ⟨_, h2⟩ | ⟨r, hr, _⟩
        · exact h2
        · unfold Ieee.Format.sqrt at hr
          have hn : (FloatKind.f64.format.read (a.den ρ.toEnv).toNat).isNaN = true := this
          cases hd : FloatKind.f64.format.read (a.den ρ.toEnv).toNat with
          | nan g t => rw [hd] at hr; cases hr
          | number g m e => rw [hd] at hn; cases hn
          | infinity g => rw [hd] at hn; cases hn
      have key : ∀ b : Bd, (∀ ρ', Le s ρ ρ' → b.ok ρ'.toEnv) → Told P f xs w (Answers w0 ρ s (orNan (s.more b) .f64 (mkUn .fsqrt a))) := fun b hb => by
       refine ans_orNan (s := s.more b) (relW_more hw hb) hsame (fun hne => ?_) (fun he => ?_)
       · rw [hden] at hne ⊢
         refine ⟨fsqrt_good hne, ?_⟩
         rw [hrun]
         rcases sqrt_cases (a.den ρ.toEnv) with ⟨_, h2⟩ | ⟨r, hr, h2⟩
         · exact absurd h2 hne
         · rw [h2, hr]; rfl
       · rw [hden] at he
         rcases sqrt_cases (a.den ρ.toEnv) with ⟨hr, _⟩ | ⟨r, _, h2⟩
         · rw [hr] at hrun
           exact ⟨_, _, .inr rfl, nanCut (k := .f64) (q := .nanBits .f64 (a.den ρ.toEnv).toNat (a.den ρ.toEnv).toNat) (.inl ⟨_, _, rfl⟩) (w.tape w.drawn (.nanBits .f64 (a.den ρ.toEnv).toNat (a.den ρ.toEnv).toNat)), by rw [Int.toNat_natCast]; exact hrun⟩
         · exact (nat_ne (h2.symm.trans he) (by decide)).elim
      cases hkk : knownN s.bd .f64 a with
      | some t =>
        cases t with
        | true => exact key [] fun _ _ => fun p hp => by cases hp
        | false =>
          refine key _ fun ρ' hle => fun p hp => ?_
          simp only [List.mem_singleton] at hp; subst hp; rw [hsame ρ' hle, hden, bad hkk]; exact ⟨fun _ h => by cases h; decide, fun _ h => by cases h; decide⟩
      | none => exact key [] fun _ _ => fun p hp => by cases hp
    · cases h
  · rename_i name neg
    split at h
    · rename_i a c
      split at h
      · rename_i hc
        simp only [Bool.and_eq_true, numF] at hc
        obtain ⟨⟨a1, a2⟩, ⟨c1, c2⟩⟩ := hc
        cases h
        have ga : ∀ ρ', Le s ρ ρ' → GoodF .f64 (a.den ρ'.toEnv) := fun ρ' hle => ⟨in_bnd a1 (has_itv (hw ρ' hle).bd a), by
          have := is_zero a2 (has_itv (hw ρ' hle).bd _); rw [den_mkBin] at this; exact this⟩
        have gc : ∀ ρ', Le s ρ ρ' → GoodF .f64 (c.den ρ'.toEnv) := fun ρ' hle => ⟨in_bnd c1 (has_itv (hw ρ' hle).bd c), by
          have := is_zero c2 (has_itv (hw ρ' hle).bd _); rw [den_mkBin] at this; exact this⟩
        have hden : ∀ ρ' : Env, (mkBin (.fpick neg) a c).den ρ' = fpickI neg (a.den ρ') (c.den ρ') := fun ρ' => by rw [den_mkBin]; rfl
        refine one rfl (x := .float .f64 (fpickI neg (a.den ρ.toEnv) (c.den ρ.toEnv)).toNat) ?_ (fun ρ' hle => goodB_ok (by rw [hden]; exact fpick_good (ga ρ' hle) (gc ρ' hle))) fun ρ' hle => ?_
        · rw [hx, ← h00, show (V.denL ρ [V.flt .f64 a, V.flt .f64 c]).toArray = #[.float .f64 (a.den ρ.toEnv).toNat, .float .f64 (c.den ρ.toEnv).toNat] by simp [V.denL, V.den], run_pick]; rfl
        · have h1 := hxs ρ' hle
          rw [← h00] at h1
          simp only [V.denL, V.den, List.cons.injEq, Value.float.injEq, true_and, and_true] at h1
          simp only [V.den, hden]
          unfold fpickI
          rw [h1.1, h1.2]
      · cases h
    · cases h

theorem xOracle_ok : ∀ {xs : List (Nat × XK)}, XtOk P xs → OracleOk P w0 (xOracle xs)
  | [], _, f, s, args, l, h => by simp [xOracle] at h
  | p :: r, hx, f, s, args, l, h => by
    intro ρ w hw xs hxs
    simp only [xOracle] at h
    split at h
    · rename_i hb
      have := Nat.eq_of_beq_eq_true hb
      subst this
      have hs : p.2.out s args = some l := by injection h
      exact xk_ok (hx p List.mem_cons_self) hs hw hxs
    · exact xOracle_ok (fun q hq => hx q (List.mem_cons_of_mem _ hq)) f s args l h ρ w hw xs hxs
end
end Go.Sx

/- Contracts of the operations of floats: what each answers, as one expression of what came in. No condition. -/
namespace Go.Sx.Flt
open Go Go.Sx

def v (i : Nat) : E := .var i
def bi (o : Bi) (a b : E) : E := .bin o a b
def un (o : Un) (a : E) : E := .un o a
def no (a : E) : E := .un .bnot a
def tr (c : E) : E := .ite c (.lit 1) (.lit 0)
def u64 (a : E) : E := un (.wrap .u64) a
def i64 (a : E) : E := un (.wrap .i64) a
def u32 (a : E) : E := un (.wrap .u32) a
def i32 (a : E) : E := un (.wrap .i32) a
/-- by which number the first name is -/
def sel : List (Int × E) → E → E
  | [], d => d
  | (k, e) :: r, d => .ite (.bin .eq (v 0) (.lit k)) e (sel r d)
def selF : List (Int × E) → E → Int → E
  | [], d, _ => d
  | (k, e) :: r, d, n => if n = k then e else selF r d n
theorem den_sel (ρ : Env) : ∀ (l : List (Int × E)) (d : E), (sel l d).den ρ = (selF l d (ρ.v 0)).den ρ
  | [], d => rfl
  | (k, e) :: r, d => by
    simp only [sel, selF, E.den, Bi.den, v]
    by_cases h : ρ.v 0 = k
    · simp [h, b2i]
    · simp only [h, if_false, ← den_sel ρ r d]
      simp [h, b2i]
theorem selF_none : ∀ (l : List (Int × E)) (d : E) (n : Int), (∀ k ∈ l.map (·.1), n ≠ k) → selF l d n = d
  | [], _, _, _ => rfl
  | (k, e) :: r, d, n, h => by
    simp only [selF]
    rw [if_neg (h _ List.mem_cons_self)]
    exact selF_none r d n fun p hp => h p (List.mem_cons_of_mem _ hp)
def xts : List (Nat × XK) := [(66, .bits .f32), (67, .frombits .f64), (68, .bits .f64), (69, .frombits .f32), (70, .whole "math.archCeil" .up), (72, .whole "math.archFloor" .down), (74, .whole "math.archTrunc" .zero), (52, .whole "math.RoundToEven" .even), (76, .sqrt), (115, .pick "math.archMin" true), (117, .pick "math.archMax" false)]
/-! ### 64 bits -/
def nan64 : E := .lit 9221120237041090560
def can64 (e : E) : E := .ite (bi .eq e (.lit (-1))) nan64 (i64 e)
def x64 : E := u64 (v 1)
def y64 : E := u64 (v 2)
def sign64 : E := .lit (-9223372036854775808)
def unL64 : List (Int × E) := [(153, bi (.bits .andNot .i64) (v 1) sign64), (154, bi (.bits .xor .i64) (v 1) sign64), (155, can64 (un (.fwhole .up) x64)), (156, can64 (un (.fwhole .down) x64)), (157, can64 (un (.fwhole .zero) x64)), (158, can64 (un (.fwhole .even) x64)), (159, can64 (un .fsqrt x64))]
def o64 : E := bi (.ford .f64) x64 y64
def pick64 (g : Bool) : E := .ite (no (bi .eq (bi (.ford .f64) x64 x64) (.lit 0))) nan64 (.ite (no (bi .eq (bi (.ford .f64) y64 y64) (.lit 0))) nan64 (i64 (bi (.fpick g) x64 y64)))
def binL64 : List (Int × E) := [(97, tr (bi .eq o64 (.lit 0))), (98, tr (no (bi .eq o64 (.lit 0)))), (99, tr (bi .eq o64 (.lit 1))), (100, tr (bi .eq o64 (.lit 2))), (101, tr (bi .le o64 (.lit 1))), (102, tr (bi .or (bi .eq o64 (.lit 2)) (bi .eq o64 (.lit 0)))),
  (160, can64 (bi (.far .add .f64) x64 y64)), (161, can64 (bi (.far .sub .f64) x64 y64)), (162, can64 (bi (.far .mul .f64) x64 y64)), (163, can64 (bi (.far .quo .f64) x64 y64)), (164, pick64 true), (165, pick64 false),
  (166, bi (.bits .or .i64) (bi (.bits .andNot .i64) (v 1) sign64) (bi (.bits .and .i64) (v 2) sign64))]
def errs (l : List Int) (d : Int) : E := sel (l.map fun k => (k, .lit 0)) (.lit d)
def unV64 : E := sel unL64 (.lit 0)
def unE64 : E := errs [153, 154, 155, 156, 157, 158, 159] 500
def binV64 : E := sel binL64 (.lit 0)
def binE64 : E := errs [97, 98, 99, 100, 101, 102, 160, 161, 162, 163, 164, 165, 166] 500
def unS64 : FSpec := ⟨30, [some .i64, some .i64], [], [(some .i64, unV64), (some .i64, unE64)], []⟩
def binS64 : FSpec := ⟨32, [some .i64, some .i64, some .i64], [], [(some .i64, binV64), (some .i64, binE64)], []⟩
def aw64 : FSpec := ⟨34, [], [], [(none, .lit 1)], []⟩
def specs64 : List FSpec := [unS64, binS64, aw64]
/-! ### 32 bits (the lesser and the greater left out) -/
def nan32 : E := .lit 2143289344
def can32 (e : E) : E := .ite (bi .eq e (.lit (-1))) nan32 e
def x32 : E := u32 (v 1)
def y32 : E := u32 (v 2)
def sign32 : E := .lit 2147483648
def o32 : E := bi (.ford .f32) x32 y32
def binL32 : List (Int × E) := [(91, tr (bi .eq o32 (.lit 0))), (92, tr (no (bi .eq o32 (.lit 0)))), (93, tr (bi .eq o32 (.lit 1))), (94, tr (bi .eq o32 (.lit 2))), (95, tr (bi .le o32 (.lit 1))), (96, tr (bi .or (bi .eq o32 (.lit 2)) (bi .eq o32 (.lit 0)))),
  (146, can32 (bi (.far .add .f32) x32 y32)), (147, can32 (bi (.far .sub .f32) x32 y32)), (148, can32 (bi (.far .mul .f32) x32 y32)), (149, can32 (bi (.far .quo .f32) x32 y32)),
  (152, u32 (bi (.bits .or .i64) (bi (.bits .andNot .i64) (v 1) sign32) (bi (.bits .and .i64) (v 2) sign32)))]
def binV32 : E := sel binL32 (.lit 0)
def binE32 : E := errs [91, 92, 93, 94, 95, 96, 146, 147, 148, 149, 152] 400
def binS32 : FSpec := ⟨37, [some .i64, some .i64, some .i64], [no (bi .eq (v 0) (.lit 150)), no (bi .eq (v 0) (.lit 151))], [(some .i64, binV32), (some .i64, binE32)], []⟩
def aw32 : FSpec := ⟨39, [], [], [(none, .lit 1)], []⟩
def specs32 : List FSpec := [binS32, aw32]
end Go.Sx.Flt

/- The functions that have bodies, and those that the model stands in for. No condition. -/
namespace Go.Proofs.Ytnodelimomljbaa
open Go Go.Sx Go.Sx.Flt

noncomputable def fns : List (Nat × Func) := [(3, Try.f3), (4, Try.f4), (5, Try.f5), (6, Try.f6), (7, Try.f7), (8, Try.f8), (9, Try.f9), (10, Try.f10), (11, Try.f11), (12, Try.f12), (13, Try.f13), (14, Try.f14), (15, Try.f15), (16, Try.f16), (17, Try.f17), (18, Try.f18), (19, Try.f19), (20, Try.f20), (21, Try.f21), (22, Try.f22), (23, Try.f23), (24, Try.f24), (25, Try.f25), (26, Try.f26), (27, Try.f27), (28, Try.f28), (29, Try.f29), (30, Try.f30), (31, Try.f31), (32, Try.f32), (33, Try.f33), (34, Try.f34), (35, Try.f35), (36, Try.f36), (37, Try.f37), (38, Try.f38), (39, Try.f39), (40, Try.f40), (41, Try.f41), (42, Try.f42), (43, Try.f43), (44, Try.f44), (45, Try.f45), (46, Try.f46), (47, Try.f47), (48, Try.f48), (49, Try.f49), (50, Try.f50), (51, Try.f51), (53, Try.f53), (54, Try.f54), (55, Try.f55), (56, Try.f56), (57, Try.f57), (58, Try.f58), (59, Try.f59), (60, Try.f60), (61, Try.f61), (62, Try.f62), (63, Try.f63), (64, Try.f64), (65, Try.f65), (71, Try.f71), (73, Try.f73), (75, Try.f75), (77, Try.f77), (78, Try.f78), (79, Try.f79), (80, Try.f80), (81, Try.f81), (82, Try.f82), (83, Try.f83), (84, Try.f84), (85, Try.f85), (86, Try.f86), (87, Try.f87), (88, Try.f88), (89, Try.f89), (90, Try.f90), (91, Try.f91), (92, Try.f92), (93, Try.f93), (94, Try.f94), (95, Try.f95), (96, Try.f96), (97, Try.f97), (98, Try.f98), (99, Try.f99), (100, Try.f100), (101, Try.f101), (102, Try.f102), (103, Try.f103), (104, Try.f104), (105, Try.f105), (106, Try.f106), (107, Try.f107), (108, Try.f108), (109, Try.f109), (110, Try.f110), (111, Try.f111), (112, Try.f112), (113, Try.f113), (114, Try.f114), (116, Try.f116), (118, Try.f118), (119, Try.f119), (120, Try.f120), (121, Try.f121), (122, Try.f122), (123, Try.f123)]
theorem fnsKnown : AllKnown Try.prog fns := ⟨⟨Try.func3, rfl, Try.call3⟩, ⟨Try.func4, rfl, Try.call4⟩, ⟨Try.func5, rfl, Try.call5⟩, ⟨Try.func6, rfl, Try.call6⟩, ⟨Try.func7, rfl, Try.call7⟩, ⟨Try.func8, rfl, Try.call8⟩, ⟨Try.func9, rfl, Try.call9⟩, ⟨Try.func10, rfl, Try.call10⟩, ⟨Try.func11, rfl, Try.call11⟩, ⟨Try.func12, rfl, Try.call12⟩, ⟨Try.func13, rfl, Try.call13⟩, ⟨Try.func14, rfl, Try.call14⟩, ⟨Try.func15, rfl, Try.call15⟩, ⟨Try.func16, rfl, Try.call16⟩, ⟨Try.func17, rfl, Try.call17⟩, ⟨Try.func18, rfl, Try.call18⟩, ⟨Try.func19, rfl, Try.call19⟩, ⟨Try.func20, rfl, Try.call20⟩, ⟨Try.func21, rfl, Try.call21⟩, ⟨Try.func22, rfl, Try.call22⟩, ⟨Try.func23, rfl, Try.call23⟩, ⟨Try.func24, rfl, Try.call24⟩, ⟨Try.func25, rfl, Try.call25⟩, ⟨Try.func26, rfl, Try.call26⟩, ⟨Try.func27, rfl, Try.call27⟩, ⟨Try.func28, rfl, Try.call28⟩, ⟨Try.func29, rfl, Try.call29⟩, ⟨Try.func30, rfl, Try.call30⟩, ⟨Try.func31, rfl, Try.call31⟩, ⟨Try.func32, rfl, Try.call32⟩, ⟨Try.func33, rfl, Try.call33⟩, ⟨Try.func34, rfl, Try.call34⟩, ⟨Try.func35, rfl, Try.call35⟩, ⟨Try.func36, rfl, Try.call36⟩, ⟨Try.func37, rfl, Try.call37⟩, ⟨Try.func38, rfl, Try.call38⟩, ⟨Try.func39, rfl, Try.call39⟩, ⟨Try.func40, rfl, Try.call40⟩, ⟨Try.func41, rfl, Try.call41⟩, ⟨Try.func42, rfl, Try.call42⟩, ⟨Try.func43, rfl, Try.call43⟩, ⟨Try.func44, rfl, Try.call44⟩, ⟨Try.func45, rfl, Try.call45⟩, ⟨Try.func46, rfl, Try.call46⟩, ⟨Try.func47, rfl, Try.call47⟩, ⟨Try.func48, rfl, Try.call48⟩, ⟨Try.func49, rfl, Try.call49⟩, ⟨Try.func50, rfl, Try.call50⟩, ⟨Try.func51, rfl, Try.call51⟩, ⟨Try.func53, rfl, Try.call53⟩, ⟨Try.func54, rfl, Try.call54⟩, ⟨Try.func55, rfl, Try.call55⟩, ⟨Try.func56, rfl, Try.call56⟩, ⟨Try.func57, rfl, Try.call57⟩, ⟨Try.func58, rfl, Try.call58⟩, ⟨Try.func59, rfl, Try.call59⟩, ⟨Try.func60, rfl, Try.call60⟩, ⟨Try.func61, rfl, Try.call61⟩, ⟨Try.func62, rfl, Try.call62⟩, ⟨Try.func63, rfl, Try.call63⟩, ⟨Try.func64, rfl, Try.call64⟩, ⟨Try.func65, rfl, Try.call65⟩, ⟨Try.func71, rfl, Try.call71⟩, ⟨Try.func73, rfl, Try.call73⟩, ⟨Try.func75, rfl, Try.call75⟩, ⟨Try.func77, rfl, Try.call77⟩, ⟨Try.func78, rfl, Try.call78⟩, ⟨Try.func79, rfl, Try.call79⟩, ⟨Try.func80, rfl, Try.call80⟩, ⟨Try.func81, rfl, Try.call81⟩, ⟨Try.func82, rfl, Try.call82⟩, ⟨Try.func83, rfl, Try.call83⟩, ⟨Try.func84, rfl, Try.call84⟩, ⟨Try.func85, rfl, Try.call85⟩, ⟨Try.func86, rfl, Try.call86⟩, ⟨Try.func87, rfl, Try.call87⟩, ⟨Try.func88, rfl, Try.call88⟩, ⟨Try.func89, rfl, Try.call89⟩, ⟨Try.func90, rfl, Try.call90⟩, ⟨Try.func91, rfl, Try.call91⟩, ⟨Try.func92, rfl, Try.call92⟩, ⟨Try.func93, rfl, Try.call93⟩, ⟨Try.func94, rfl, Try.call94⟩, ⟨Try.func95, rfl, Try.call95⟩, ⟨Try.func96, rfl, Try.call96⟩, ⟨Try.func97, rfl, Try.call97⟩, ⟨Try.func98, rfl, Try.call98⟩, ⟨Try.func99, rfl, Try.call99⟩, ⟨Try.func100, rfl, Try.call100⟩, ⟨Try.func101, rfl, Try.call101⟩, ⟨Try.func102, rfl, Try.call102⟩, ⟨Try.func103, rfl, Try.call103⟩, ⟨Try.func104, rfl, Try.call104⟩, ⟨Try.func105, rfl, Try.call105⟩, ⟨Try.func106, rfl, Try.call106⟩, ⟨Try.func107, rfl, Try.call107⟩, ⟨Try.func108, rfl, Try.call108⟩, ⟨Try.func109, rfl, Try.call109⟩, ⟨Try.func110, rfl, Try.call110⟩, ⟨Try.func111, rfl, Try.call111⟩, ⟨Try.func112, rfl, Try.call112⟩, ⟨Try.func113, rfl, Try.call113⟩, ⟨Try.func114, rfl, Try.call114⟩, ⟨Try.func116, rfl, Try.call116⟩, ⟨Try.func118, rfl, Try.call118⟩, ⟨Try.func119, rfl, Try.call119⟩, ⟨Try.func120, rfl, Try.call120⟩, ⟨Try.func121, rfl, Try.call121⟩, ⟨Try.func122, rfl, Try.call122⟩, ⟨Try.func123, rfl, Try.call123⟩, trivial⟩
theorem xtsOk : XtOk Try.prog xts := fun p hp => by
  simp only [xts, List.mem_cons, List.not_mem_nil, or_false] at hp
  rcases hp with rfl | rfl | rfl | rfl | rfl | rfl | rfl | rfl | rfl | rfl | rfl
  · exact run_callFunc_extern Try.func66 (by kernel_rfl) (by kernel_rfl) (by kernel_rfl) (by kernel_rfl)
  · exact run_callFunc_extern Try.func67 (by kernel_rfl) (by kernel_rfl) (by kernel_rfl) (by kernel_rfl)
  · exact run_callFunc_extern Try.func68 (by kernel_rfl) (by kernel_rfl) (by kernel_rfl) (by kernel_rfl)
  · exact run_callFunc_extern Try.func69 (by kernel_rfl) (by kernel_rfl) (by kernel_rfl) (by kernel_rfl)
  · exact run_callFunc_extern Try.func70 (by kernel_rfl) (by kernel_rfl) (by kernel_rfl) (by kernel_rfl)
  · exact run_callFunc_extern Try.func72 (by kernel_rfl) (by kernel_rfl) (by kernel_rfl) (by kernel_rfl)
  · exact run_callFunc_extern Try.func74 (by kernel_rfl) (by kernel_rfl) (by kernel_rfl) (by kernel_rfl)
  · exact run_callFunc_extern Try.func52 (by kernel_rfl) (by kernel_rfl) (by kernel_rfl) (by kernel_rfl)
  · exact run_callFunc_extern Try.func76 (by kernel_rfl) (by kernel_rfl) (by kernel_rfl) (by kernel_rfl)
  · exact run_callFunc_extern Try.func115 (by kernel_rfl) (by kernel_rfl) (by kernel_rfl) (by kernel_rfl)
  · exact run_callFunc_extern Try.func117 (by kernel_rfl) (by kernel_rfl) (by kernel_rfl) (by kernel_rfl)
def fnF : Nat → Int → Int → Int → Int := fun _ _ _ _ => 0
theorem noTabs (w : World) : TabsOk w [] := fun p hp => by cases hp
end Go.Proofs.Ytnodelimomljbaa

/- Contracts of functions whose arguments are numbers and structs of numbers. -/
namespace Go.Sx
open Go

/-- how the numbers stand in the arguments: one alone, so many in a struct, or none: a struct of known numbers -/
inductive Sh where
  | one
  | agg (n : Nat)
  | fix (c : V)
abbrev Shape := List Sh
def litV : V → Bool
  | .int _ (.lit _) => true
  | .agg l => l.all fun | .int _ (.lit _) => true | _ => false
  | _ => false
theorem litV_den {c : V} (h : litV c = true) (ρ ρ' : Env2) : c.den ρ = c.den ρ' := by
  cases c
  case int k e => cases e <;> first | (cases h; done) | rfl
  all_goals simp only [litV] at h <;> first | (cases h; done) | skip
  rename_i l
  simp only [V.den, denL_eq]
  congr 2
  apply List.map_congr_left
  intro x hx
  have := List.all_eq_true.1 h x hx
  split at this
  · rfl
  · cases this
def envO : Env2 := { v := fun _ => 0, fn := fun _ _ _ _ => 0, blk := fun _ => 0, raw := fun _ => undef }
def flatV : Shape → List V → Option (List V)
  | [], [] => some []
  | .one :: r, v :: vs => match flatV r vs with
    | some l => some (v :: l)
    | none => none
  | .fix c :: r, v :: vs => match v.beq c with
    | true => flatV r vs
    | false => none
  | .agg n :: r, .agg l :: vs => match Nat.beq l.length n with
    | true => match flatV r vs with
      | some q => some (l ++ q)
      | none => none
    | false => none
  | _, _ => none
def groupV : Shape → List V → List V
  | [], _ => []
  | .one :: r, v :: l => v :: groupV r l
  | .one :: _, [] => []
  | .fix c :: r, l => c :: groupV r l
  | .agg n :: r, l => .agg (l.take n) :: groupV r (l.drop n)
def groupA : Shape → List Value → List Value
  | [], _ => []
  | .one :: r, v :: l => v :: groupA r l
  | .one :: _, [] => []
  | .fix c :: r, l => c.den envO :: groupA r l
  | .agg n :: r, l => .agg (l.take n).toArray :: groupA r (l.drop n)
def shOk : Shape → Bool
  | [] => true
  | .fix c :: r => litV c && shOk r
  | _ :: r => shOk r
theorem den_groupV (ρ : Env2) : ∀ (sh : Shape) (l : List V), shOk sh = true → V.denL ρ (groupV sh l) = groupA sh (V.denL ρ l)
  | [], _, _ => rfl
  | .one :: r, v :: l, h => by simp only [groupV, groupA, V.denL, den_groupV ρ r l h]
  | .one :: r, [], _ => rfl
  | .fix c :: r, l, h => by
    simp only [shOk, Bool.and_eq_true] at h
    simp only [groupV, groupA, V.denL, den_groupV ρ r l h.2, litV_den h.1 ρ envO]
  | .agg n :: r, l, h => by
    simp only [groupV, groupA, V.denL, V.den, den_groupV ρ r (l.drop n) h, ← denL_take, ← denL_drop]
theorem flatV_group {sh : Shape} : ∀ {args l : List V}, flatV sh args = some l → groupV sh l = args := by
  induction sh with
  | nil => intro args l h; cases args <;> simp [flatV] at h; rfl
  | cons k r ih =>
    intro args l h
    cases k with
    | one =>
      cases args with
      | nil => simp [flatV] at h
      | cons v vs =>
        simp only [flatV] at h
        split at h
        · rename_i q hq; cases h; simp only [groupV, ih hq]
        · cases h
    | fix c =>
      cases args with
      | nil => simp [flatV] at h
      | cons v vs =>
        simp only [flatV] at h
        split at h
        · rename_i hb; simp only [groupV, ih h, V.eq_of_beq _ _ hb]
        · cases h
    | agg n =>
      cases args with
      | nil => simp [flatV] at h
      | cons v vs =>
        cases v <;> simp only [flatV] at h <;> first | (cases h; done) | skip
        rename_i w
        split at h
        · rename_i hb
          have hb := Nat.eq_of_beq_eq_true hb
          split at h
          · rename_i q hq
            cases h
            simp only [groupV]
            rw [List.take_left' hb, List.drop_left' hb, ih hq]
          · cases h
        · cases h
def flatA : Shape → List Value → List Value
  | .one :: r, v :: vs => v :: flatA r vs
  | .fix _ :: r, _ :: vs => flatA r vs
  | .agg _ :: r, .agg l :: vs => l.toList ++ flatA r vs
  | _, _ => []
theorem den_flatV (ρ : Env2) : ∀ {sh : Shape} {args l : List V}, flatV sh args = some l → flatA sh (V.denL ρ args) = V.denL ρ l := by
  intro sh
  induction sh with
  | nil => intro args l h; cases args <;> simp [flatV] at h; subst h; rfl
  | cons k r ih =>
    intro args l h
    cases k with
    | one =>
      cases args with
      | nil => simp [flatV] at h
      | cons v vs =>
        simp only [flatV] at h
        split at h
        · rename_i q hq; cases h; simp only [V.denL, flatA, ih hq]
        · cases h
    | fix c =>
      cases args with
      | nil => simp [flatV] at h
      | cons v vs =>
        simp only [flatV] at h
        split at h
        · simp only [V.denL, flatA, ih h]
        · cases h
    | agg n =>
      cases args with
      | nil => simp [flatV] at h
      | cons v vs =>
        cases v <;> simp only [flatV] at h <;> first | (cases h; done) | skip
        rename_i w
        split at h
        · split at h
          · rename_i q hq
            cases h
            simp only [V.denL, V.den, flatA, ih hq, denL_app]
          · cases h
        · cases h
structure GSpec where
  sp : FSpec
  sh : Shape
  /-- the answer is a struct -/
  ra : Bool
def outA : Bool → List Value → Value
  | false, l => valOne l
  | true, l => .agg l.toArray
def outV : Bool → V → V
  | true, .tup l => .agg l
  | _, v => v
def backV : Bool → V → V
  | true, .agg l => .tup l
  | true, _ => .nili
  | false, v => v
def leafG (b : Bool) (l : Leaf) : Leaf := (l.1, backV b l.2)
theorem den_outV {ρ : Env2} {b : Bool} {l : List V} (h : (b && Nat.beq l.length 1) = false) : (outV b (resOne l)).den ρ = outA b (V.denL ρ l) := by
  cases b with
  | false =>
    simp only [outV, outA]
    match l with
    | [] => simp [resOne, valOne, V.den, V.denL]
    | [r] => simp [resOne, valOne, V.denL]
    | r :: q :: t => simp [resOne, valOne, V.den, V.denL]
  | true =>
    match l with
    | [] => simp [resOne, outV, outA, V.den, V.denL]
    | [r] => simp at h
    | r :: q :: t => simp [resOne, outV, outA, V.den, V.denL]
theorem backV_den {ρ : Env2} {b : Bool} {n : Nat} {v : V} {ys : List Value} (hb : (b && (Nat.beq n 1 || Nat.beq n 0)) = false) (hn : ys.length = n) (h : V.denL ρ (unOne n (backV b v)) = ys) (hl : b = true → (unOne n (backV b v)) ≠ [.nili]) : v.den ρ = outA b ys := by
  cases b with
  | false => exact unOne_den hn h
  | true =>
    simp only [Bool.true_and, Bool.or_eq_false_iff] at hb
    cases v <;> first | exact (hl rfl rfl).elim | skip
    rename_i l
    simp only [backV, unOne, hb.1] at h
    simp only [V.den, outA, h]
def GSpec.Ok (P : Program) (w0 : Base) (g : GSpec) : Prop :=
  (∀ ys w', (callFunc g.sp.f ys).run P w' = .ok (.enter g.sp.f ys) w') ∧
  ∀ v : Nat → Int, KindOk v 0 g.sp.ks → pcOk ⟨v, w0.fn⟩ g.sp.pre → g.sp.bds.ok ⟨v, w0.fn⟩ ∧ ∀ w, Ext w0.w w → Calls P g.sp.f (groupA g.sh (kindVals v 0 g.sp.ks)).toArray w fun e w1 => e = .returned (outA g.ra (g.sp.res.map (resVal ⟨v, w0.fn⟩))) ∧ Ext w w1
def mapOut (b : Bool) : List (V × St) → List (V × St)
  | [] => []
  | r :: t => (outV b r.1, r.2) :: mapOut b t
def GSpec.use (g : GSpec) (s : St) (args : List V) : Option (List (V × St)) := match flatV g.sh args, shOk g.sh && !(g.ra && Nat.beq g.sp.res.length 1) with
  | some l, true => match g.sp.use s l with
    | some r => some (mapOut g.ra r)
    | none => none
  | _, _ => none
def gOracle : List GSpec → Oracle
  | [], _, _, _ => none
  | g :: r, f, s, args => match Nat.beq g.sp.f f with
    | true => some (g.use s args)
    | false => gOracle r f s args
theorem gspec_use {P : Program} {w0 : Base} {w : World} {g : GSpec} (hsp : g.Ok P w0) {s : St} {args : List V} {l : List (V × St)} (h : g.use s args = some l)
    {ρ : Env2} (hw : RelW w0 ρ s w) (xs : List Value) (hx : ∀ ρ', Le s ρ ρ' → V.denL ρ' args = xs) :
    Calls P g.sp.f xs.toArray w (Answers w0 ρ s l) := by
  unfold GSpec.use at h
  split at h
  · rename_i fl hfl hok
    obtain ⟨sp, sh, ra⟩ := g
    simp only [Bool.and_eq_true, Bool.not_eq_true'] at hfl h hok ⊢
    obtain ⟨hok, hra⟩ := hok
    have hargs := flatV_group hfl
    split at h
    case h_2 => cases h
    rename_i l0 h0
    unfold FSpec.use at h0
    split at h0
    · cases h0
    · rename_i es hes
      split at h0
      · rename_i hpre
        simp only [Bool.and_eq_true] at hpre
        obtain ⟨hpre, hunder⟩ := hpre
        cases h0
        cases h
        have key : ∀ ρ', Le s ρ ρ' → KindOk (atEnv ρ'.toEnv es).v 0 sp.ks ∧ kindVals (atEnv ρ'.toEnv es).v 0 sp.ks = flatA sh xs ∧ groupA sh (kindVals (atEnv ρ'.toEnv es).v 0 sp.ks) = xs ∧ pcOk (atEnv ρ'.toEnv es) sp.pre := fun ρ' hle => by
          obtain ⟨h1, h2⟩ := argE_some (ρ := ρ') (hw ρ' hle).bd [] hes
          have h3 : kindVals (atEnv ρ'.toEnv es).v 0 sp.ks = V.denL ρ' fl := h2
          refine ⟨h1, ?_, ?_, preOk_pc (hw ρ' hle).bd (hw ρ' hle).pc hpre⟩
          · rw [h3, ← den_flatV ρ' hfl, hx ρ' hle]
          · rw [h3, ← den_groupV _ _ _ hok, hargs]; exact hx ρ' hle
        have hfn' : ∀ ρ', Le s ρ ρ' → (⟨(atEnv ρ'.toEnv es).v, w0.fn⟩ : Env) = atEnv ρ'.toEnv es := fun ρ' hle => by
          have : ρ'.fn = w0.fn := (hw ρ' hle).fn
          rw [← this]; rfl
        obtain ⟨k1, k2, k4, k3⟩ := key ρ (Le.refl _ _)
        obtain ⟨hb, hc⟩ := hsp.2 (atEnv ρ.toEnv es).v k1 (by rw [hfn' ρ (Le.refl _ _)]; exact k3)
        have hcall := hc w hw.to.ext
        simp only at hcall
        rw [k4] at hcall
        refine hcall.mono ?_
        rintro e w1 ⟨rfl, hext⟩
        refine ⟨_, List.mem_singleton.2 rfl, _, ρ, rfl, Le.refl _ _, Nat.le_refl _, Nat.le_refl _, ?_, ?_⟩
        · intro ρ' hle
          have hle : Le s ρ ρ' := hle
          have h0 := relW_ext hw hext ρ' hle
          obtain ⟨j1, _, _, j3⟩ := key ρ' hle
          obtain ⟨hb', _⟩ := hsp.2 (atEnv ρ'.toEnv es).v j1 (by rw [hfn' ρ' hle]; exact j3)
          rw [hfn' ρ' hle] at hb'
          refine ⟨h0.ext, h0.fn, h0.hp, h0.inj, h0.gl, fun p hp => ?_, h0.pc⟩
          rcases List.mem_append.1 hp with hp | hp
          · obtain ⟨q, hq, rfl⟩ := List.mem_map.1 hp
            rw [den_at]
            exact hb' q hq
          · exact h0.bd p hp
        · intro ρ' hle
          have hle : Le s ρ ρ' := hle
          simp only
          rw [den_outV (by rw [List.length_map]; exact hra), hfn' ρ (Le.refl _ _)]
          have e0 : V.denL ρ' (sp.res.map (resV1 es)) = sp.res.map (resVal (atEnv ρ'.toEnv es)) := by
            rw [denL_eq, List.map_map]
            exact List.map_congr_left fun r _ => by
              obtain ⟨k, e⟩ := r
              cases k <;> simp [resV1, resVal, V.den, den_at]
          rw [e0]
          obtain ⟨j1, j2, _, j3⟩ := key ρ' hle
          have hv := kindVals_inj j1 k1 (j2.trans k2.symm)
          have h1 : sp.res.map (resVal (atEnv ρ'.toEnv es)) = sp.res.map (resVal (atEnv ρ.toEnv es)) := by
            apply List.map_congr_left
            intro r hr
            have hu := List.all_eq_true.1 hunder r.2 (List.mem_map.2 ⟨r, hr, rfl⟩)
            have := den_under (ρ := atEnv ρ.toEnv es) (ρ' := atEnv ρ'.toEnv es) hle.2.2.1 (fun j hj => by simpa using hv j hj) hu
            obtain ⟨k, e⟩ := r
            cases k <;> simp only [resVal] <;> rw [this]
          rw [h1]
      · cases h0
  · cases h
theorem gOracle_ok {P : Program} {w0 : Base} : ∀ {gs : List GSpec}, (∀ g ∈ gs, g.Ok P w0) → OracleOk P w0 (gOracle gs)
  | [], _, f, s, args, l, h => by simp [gOracle] at h
  | g :: r, hall, f, s, args, l, h => by
    intro ρ w hw xs hx
    simp only [gOracle] at h
    split at h
    · rename_i hb
      have := Nat.eq_of_beq_eq_true hb
      subst this
      have hs : g.use s args = some l := by injection h
      exact .inl ⟨(hall g List.mem_cons_self).1, gspec_use (hall g List.mem_cons_self) hs hw xs hx⟩
    · exact gOracle_ok (fun q hq => hall q (List.mem_cons_of_mem _ hq)) f s args l h ρ w hw xs hx

/-! ### such a contract by a run -/
def runOfG (P : Program) (orc : Oracle) (lo : LoopOracle) (bs : Bodies) (gl : Tabs) (fuel : Nat) (g : GSpec) : Option (List Leaf) :=
  match callBy P noOracle bs (exec P orc lo bs fuel) g.sp.f (start g.sp.ks.length (kindBd 0 g.sp.ks) g.sp.pre gl) (groupV g.sh (kindArgs 0 g.sp.ks)) with
  | some l => some ((leaves l).map (leafG g.ra))
  | none => none
theorem keeps_nili {ρ : Env} {res : List (Option IntKind × E)} : ¬ SameL ρ res [.nili] := by
  match res with
  | [] => exact fun h => h
  | (none, _) :: _ => exact fun h => h
  | (some _, _) :: _ => exact fun h => h
theorem gspec_run {P : Program} {orc : Oracle} {lo : LoopOracle} {fns : List (Nat × Func)} {w0 : Base} {gl : Tabs} {g : GSpec} {fuel : Nat} {ls : List Leaf}
    (hcall : ∀ ys w', (callFunc g.sp.f ys).run P w' = .ok (.enter g.sp.f ys) w')
    (ho : ∀ w, Ext w0.w w → OracleOk P ⟨w, w0.fn⟩ orc) (hlo : ∀ w, Ext w0.w w → LoopsOk P ⟨w, w0.fn⟩ (bodies fns) lo) (hf : AllKnown P fns) (hg : TabsOk w0.w gl)
    (hok : shOk g.sh = true) (hrun : runOfG P orc lo (bodies fns) gl fuel g = some ls) (hu : (allUnder g.sp.ks.length g.sp.pre && allUnder g.sp.ks.length (g.sp.res.map (·.2)) && !(g.ra && (Nat.beq g.sp.res.length 1 || Nat.beq g.sp.res.length 0))) = true)
    (hb : ∀ u : Nat → Int, KindOk u 0 g.sp.ks → pcOk ⟨u, w0.fn⟩ g.sp.pre → g.sp.bds.ok ⟨u, w0.fn⟩)
    (hl : ∀ u : Nat → Int, KindOk u 0 g.sp.ks → pcOk ⟨u, w0.fn⟩ g.sp.pre → Keeps ⟨u, w0.fn⟩ g.sp.res ls) : g.Ok P w0 := by
  simp only [Bool.and_eq_true, Bool.not_eq_true'] at hu
  obtain ⟨hu, hra⟩ := hu
  refine ⟨hcall, fun v hv hp => ⟨hb v hv hp, fun w hx => ?_⟩⟩
  have hbs := bodies_ok hf
  unfold runOfG at hrun
  split at hrun
  · rename_i l hl'
    cases hrun
    have hc := callBy_ok (noOracle_ok P ⟨w, w0.fn⟩) hbs (exec_ok (ho w hx) hbs (hlo w hx) fuel)
    have hle : ∀ {ρ' : Env2}, Le (start g.sp.ks.length (kindBd 0 g.sp.ks) g.sp.pre gl) (env v w0.fn) ρ' → ∀ j, j < g.sp.ks.length → ρ'.v j = v j := fun h j hj => h.2.1 j hj
    have h2 := hc _ _ _ _ hl' (env v w0.fn) w (relW_start (w0 := ⟨w, w0.fn⟩) (Ext.refl w) (hg.later hx) fun ρ' h => ⟨kindBd_ok (kindOk_congr (v := v) (fun j hj => hle h j (by omega)) hv), pc_under hu.1 ⟨v, w0.fn⟩ ρ'.toEnv h.2.2.1 (hle h) hp⟩) (groupA g.sh (kindVals v 0 g.sp.ks))
      (fun ρ' h => by rw [den_groupV _ _ _ hok, den_kindArgs]; congr 1; exact kindVals_congr fun j hj => hle h j (by omega))
    have h2 := h2.resolve_right fun ⟨x, w1, hv1, _⟩ => by rw [hcall] at hv1; cases hv1
    refine h2.2.mono ?_
    rintro e w1 ⟨out, hout, x, ρ1, rfl, hle1, _, _, hw1, hx1⟩
    have h0 := hw1.to
    have hv1 := hle hle1
    have hfn : ρ1.fn = w0.fn := hle1.2.2.1
    refine ⟨?_, h0.ext⟩
    rw [← hx1 ρ1 (Le.refl _ _)]
    have hρ : (⟨ρ1.v, w0.fn⟩ : Env) = ρ1.toEnv := by rw [← hfn]
    have hk := hl ρ1.v (kindOk_congr (fun j hj => hv1 j (by omega)) hv) (by rw [hρ]; exact pc_under hu.1 ⟨v, w0.fn⟩ ρ1.toEnv hfn hv1 hp)
    rw [hρ] at hk
    have hs0 := chain_of h0.pc (keeps_at hk (leafG g.ra (out.2.pc, out.1)) (List.mem_map.2 ⟨_, List.mem_map.2 ⟨out, hout, rfl⟩, rfl⟩))
    have hs := sameL_den hs0
    have h1 : g.sp.res.map (resVal ρ1.toEnv) = g.sp.res.map (resVal ⟨v, w0.fn⟩) := by
      apply List.map_congr_left
      intro r hr
      have := den_under (ρ := ⟨v, w0.fn⟩) (ρ' := ρ1.toEnv) hfn hv1 (List.all_eq_true.1 hu.2 r.2 (List.mem_map.2 ⟨r, hr, rfl⟩))
      obtain ⟨k, e⟩ := r
      cases k <;> simp only [resVal] <;> rw [this]
    rw [h1] at hs
    exact congrArg Ending.returned (backV_den hra (by simp) hs fun _ he => keeps_nili (ρ := ρ1.toEnv) (res := g.sp.res) (he ▸ hs0))
  · cases hrun

/-! ### answers get names of their own -/
def isLit : E → Bool
  | .lit _ => true
  | _ => false
def nameS (s : St) (e : E) : St := (s.fresh [(.var s.nv, itv s.bd e)]).assume (mkEq (.var s.nv) e)
def nameV (s : St) : List V → List V × St
  | [] => ([], s)
  | .int k e :: r => match isLit e with
    | true => (.int k e :: (nameV s r).1, (nameV s r).2)
    | false => (.int k (.var s.nv) :: (nameV (nameS s e) r).1, (nameV (nameS s e) r).2)
  | v :: r => (v :: (nameV s r).1, (nameV s r).2)
theorem nameV_ok {w0 : Base} {w : World} : ∀ (l : List V) {s : St} {ρ : Env2} (xs : List Value), RelW w0 ρ s w → (∀ ρ', Le s ρ ρ' → V.denL ρ' l = xs) →
    ∃ ρ2, Le s ρ ρ2 ∧ s.nb ≤ (nameV s l).2.nb ∧ s.nv ≤ (nameV s l).2.nv ∧ RelW w0 ρ2 (nameV s l).2 w ∧ ∀ ρ', Le (nameV s l).2 ρ2 ρ' → V.denL ρ' (nameV s l).1 = xs
  | [], s, ρ, xs, hw, hx => ⟨ρ, Le.refl _ _, Nat.le_refl _, Nat.le_refl _, hw, hx⟩
  | v :: r, s, ρ, xs, hw, hx => by
    have h0 := hx ρ (Le.refl _ _)
    simp only [V.denL] at h0
    have hhd : ∀ ρ', Le s ρ ρ' → v.den ρ' = v.den ρ ∧ V.denL ρ' r = V.denL ρ r := fun ρ' hle => by
      have := hx ρ' hle
      simp only [V.denL] at this
      rw [← h0] at this
      injection this with h1 h2
      exact ⟨h1, h2⟩
    have keep : nameV s (v :: r) = (v :: (nameV s r).1, (nameV s r).2) → ∃ ρ2, Le s ρ ρ2 ∧ s.nb ≤ (nameV s (v :: r)).2.nb ∧ s.nv ≤ (nameV s (v :: r)).2.nv ∧ RelW w0 ρ2 (nameV s (v :: r)).2 w ∧ ∀ ρ', Le (nameV s (v :: r)).2 ρ2 ρ' → V.denL ρ' (nameV s (v :: r)).1 = xs := by
      intro he
      rw [he]
      obtain ⟨ρ2, h1, h2, h3, h4, h5⟩ := nameV_ok r (V.denL ρ r) hw fun ρ' hle => (hhd ρ' hle).2
      refine ⟨ρ2, h1, h2, h3, h4, fun ρ' hle => ?_⟩
      have hl : Le s ρ ρ' := h1.trans (s' := (nameV s r).2) h2 h3 hle
      simp only [V.denL]
      rw [h5 ρ' hle, (hhd ρ' hl).1, h0]
    cases v with
    | int k e =>
      cases hlit : isLit e with
      | true => exact keep (by simp only [nameV, hlit])
      | false =>
        have he : nameV s (.int k e :: r) = (.int k (.var s.nv) :: (nameV (nameS s e) r).1, (nameV (nameS s e) r).2) := by simp only [nameV, hlit]
        rw [he]
        have hd : ∀ ρ', Le s ρ ρ' → e.den ρ'.toEnv = e.den ρ.toEnv := fun ρ' hle => by
          have := (hhd ρ' hle).1
          simp only [V.den, Value.int.injEq, true_and] at this
          exact this
        have h1 : RelW w0 (ρ.setV s.nv (e.den ρ.toEnv)) (s.fresh [(.var s.nv, itv s.bd e)]) w := relW_fresh hw fun ρ' hv p hp => by
          simp only [List.mem_singleton] at hp
          subst hp
          show Iv.has _ (ρ'.v s.nv)
          rw [hv]
          exact has_itv hw.to.bd e
        have h2 : RelW w0 (ρ.setV s.nv (e.den ρ.toEnv)) (nameS s e) w := relW_assume h1 fun ρ' hle => by
          obtain ⟨hle0, hv⟩ := le_fresh hle
          rw [den_mkEq, b2i_ne, beq_iff_eq]
          show ρ'.v s.nv = _
          rw [hv, hd ρ' hle0]
        have hle1 := le_setV s ρ (e.den ρ.toEnv)
        obtain ⟨ρ2, k1, k2, k3, k4, k5⟩ := nameV_ok r (V.denL ρ r) h2 fun ρ' hle => (hhd ρ' (le_fresh (s := s) (ρ := ρ) (n := e.den ρ.toEnv) (b := [(.var s.nv, itv s.bd e)]) hle).1).2
        have k3' : s.nv + 1 ≤ (nameV (nameS s e) r).2.nv := k3
        refine ⟨ρ2, hle1.trans (s' := nameS s e) (Nat.le_refl _) (Nat.le_succ _) k1, k2, Nat.le_trans (Nat.le_succ _) k3', k4, fun ρ' hle => ?_⟩
        have hv2 : ρ2.v s.nv = e.den ρ.toEnv := (k1.2.1 s.nv (Nat.lt_succ_self _)).trans (by simp [Env2.setV])
        have hv : ρ'.v s.nv = e.den ρ.toEnv := (hle.2.1 s.nv k3').trans hv2
        simp only [V.denL, V.den, E.den]
        rw [k5 ρ' hle, ← h0]
        simp only [V.den]
        rw [show ρ'.toEnv.v s.nv = e.den ρ.toEnv from hv]
    | _ => exact keep rfl
/-- an oracle's one answer, named -/
def nameO (o : Oracle) : Oracle := fun f s args => match o f s args with
  | some (some [(.tup l, s1)]) => some (some [(.tup (nameV s1 l).1, (nameV s1 l).2)])
  | some (some [(.agg l, s1)]) => some (some [(.agg (nameV s1 l).1, (nameV s1 l).2)])
  | r => r
theorem nameO_ok {P : Program} {w0 : Base} {o : Oracle} (h : OracleOk P w0 o) : OracleOk P w0 (nameO o) := by
  intro f s args l hl ρ w hw xs hx
  unfold nameO at hl
  split at hl
  · rename_i vs s1 ho
    cases hl
    have told : ∀ e w1, Answers w0 ρ s [(.tup vs, s1)] e w1 → Answers w0 ρ s [(.tup (nameV s1 vs).1, (nameV s1 vs).2)] e w1 := by
      rintro e w1 ⟨out, hout, x, ρ1, rfl, hle, hb, hv, hw1, hx1⟩
      simp only [List.mem_singleton] at hout
      subst hout
      obtain ⟨ρ2, k1, k2, k3, k4, k5⟩ := nameV_ok vs (V.denL ρ1 vs) hw1 fun ρ' hle' => by
        have h1 := hx1 ρ' hle'
        rw [← hx1 ρ1 (Le.refl _ _)] at h1
        simp only [V.den, Value.tuple.injEq] at h1
        exact congrArg Array.toList h1
      refine ⟨_, List.mem_singleton.2 rfl, x, ρ2, rfl, hle.trans (s' := s1) hb hv k1, Nat.le_trans hb k2, Nat.le_trans hv k3, k4, fun ρ' hle' => ?_⟩
      rw [← hx1 ρ1 (Le.refl _ _)]
      simp only [V.den, k5 ρ' hle']
    rcases h f s args _ ho ρ w hw xs hx with ⟨h1, h2⟩ | ⟨x, w1, h1, h2⟩
    · exact .inl ⟨h1, h2.mono fun e w1 ha => told e w1 ha⟩
    · exact .inr ⟨x, w1, h1, told _ _ h2⟩
  · rename_i vs s1 ho
    cases hl
    have told : ∀ e w1, Answers w0 ρ s [(.agg vs, s1)] e w1 → Answers w0 ρ s [(.agg (nameV s1 vs).1, (nameV s1 vs).2)] e w1 := by
      rintro e w1 ⟨out, hout, x, ρ1, rfl, hle, hb, hv, hw1, hx1⟩
      simp only [List.mem_singleton] at hout
      subst hout
      obtain ⟨ρ2, k1, k2, k3, k4, k5⟩ := nameV_ok vs (V.denL ρ1 vs) hw1 fun ρ' hle' => by
        have h1 := hx1 ρ' hle'
        rw [← hx1 ρ1 (Le.refl _ _)] at h1
        simp only [V.den, Value.agg.injEq] at h1
        exact congrArg Array.toList h1
      refine ⟨_, List.mem_singleton.2 rfl, x, ρ2, rfl, hle.trans (s' := s1) hb hv k1, Nat.le_trans hb k2, Nat.le_trans hv k3, k4, fun ρ' hle' => ?_⟩
      rw [← hx1 ρ1 (Le.refl _ _)]
      simp only [V.den, k5 ρ' hle']
    rcases h f s args _ ho ρ w hw xs hx with ⟨h1, h2⟩ | ⟨x, w1, h1, h2⟩
    · exact .inl ⟨h1, h2.mono fun e w1 ha => told e w1 ha⟩
    · exact .inr ⟨x, w1, h1, told _ _ h2⟩
  · exact h f s args l hl ρ w hw xs hx
end Go.Sx

/- Floats as words: rounding hangs on the value alone; what is read and written is the word; order is the order of the rungs. No condition. -/
namespace Go.Sx
open Ieee

/-! ### rounding -/
/-- n / 2^d to the nearest, of two the even one -/
def rne (n d : Nat) : Nat := n / 2 ^ d + (if 2 ^ d < 2 * (n % 2 ^ d) ∨ (2 ^ d = 2 * (n % 2 ^ d) ∧ n / 2 ^ d % 2 = 1) then 1 else 0)
theorem rne_zero (n : Nat) : rne n 0 = n := by
  unfold rne
  simp [Nat.mod_one]
theorem rne_small {n d : Nat} (h : 2 * n < 2 ^ d) : rne n d = 0 := by
  unfold rne
  have h1 : n / 2 ^ d = 0 := Nat.div_eq_of_lt (by omega)
  have h2 : n % 2 ^ d = n := Nat.mod_eq_of_lt (by omega)
  rw [h1, h2, if_neg (by omega)]
theorem cut_even (neg : Bool) (n d : Nat) : Toward.even.cut neg n d = rne n d := by
  unfold Toward.cut
  have hlt : n < 2 ^ (n.log2 + 1) := Nat.lt_log2_self
  by_cases h : d ≤ n.log2 + 2
  · rw [Nat.min_eq_left h]
    simp only [Nat.one_shiftLeft]
    unfold rne
    congr 1
    by_cases h1 : 2 ^ d < 2 * (n % 2 ^ d)
    · simp [h1]
    · by_cases h2 : 2 ^ d = 2 * (n % 2 ^ d) ∧ n / 2 ^ d % 2 = 1
      · rw [if_pos (.inr h2)]; simp [← h2.1, h2.2]
      · rw [if_neg (fun h => h.elim h1 h2)]
        have : (decide (2 ^ d < 2 * (n % 2 ^ d)) || (2 ^ d == 2 * (n % 2 ^ d) && n / 2 ^ d % 2 == 1)) = false := by
          simp only [h1, decide_false, Bool.false_or, Bool.and_eq_false_iff, beq_eq_false_iff_ne, ne_eq]
          by_cases h3 : 2 ^ d = 2 * (n % 2 ^ d)
          · exact .inr fun h4 => h2 ⟨h3, h4⟩
          · exact .inl h3
        rw [this]; rfl
  · rw [Nat.min_eq_right (by omega)]
    simp only [Nat.one_shiftLeft]
    have e : 2 ^ (n.log2 + 2) = 2 * 2 ^ (n.log2 + 1) := by rw [Nat.pow_succ]; omega
    have h1 : n / 2 ^ (n.log2 + 2) = 0 := Nat.div_eq_of_lt (by omega)
    have h2 : n % 2 ^ (n.log2 + 2) = n := Nat.mod_eq_of_lt (by omega)
    have h3 : 2 ^ (n.log2 + 2) ≤ 2 ^ d := Nat.pow_le_pow_right (by decide) (by omega)
    rw [rne_small (by omega), h1, h2]
    have : (decide (2 ^ (n.log2 + 2) < 2 * n) || (2 ^ (n.log2 + 2) == 2 * n && 0 % 2 == 1)) = false := by simp; omega
    rw [this]; rfl
theorem rne_scale (n d k : Nat) : rne (n * 2 ^ k) (d + k) = rne n d := by
  have hk : 0 < 2 ^ k := Nat.two_pow_pos k
  have e : 2 ^ (d + k) = 2 ^ d * 2 ^ k := Nat.pow_add 2 d k
  unfold rne
  rw [e, Nat.mul_div_mul_right _ _ hk, Nat.mul_mod_mul_right]
  have h1 : (2 ^ d * 2 ^ k < 2 * (n % 2 ^ d * 2 ^ k)) ↔ (2 ^ d < 2 * (n % 2 ^ d)) := by
    rw [← Nat.mul_assoc]; exact Nat.mul_lt_mul_right hk
  have h2 : (2 ^ d * 2 ^ k = 2 * (n % 2 ^ d * 2 ^ k)) ↔ (2 ^ d = 2 * (n % 2 ^ d)) := by
    rw [← Nat.mul_assoc]; exact Nat.mul_right_cancel_iff hk
  simp only [h1, h2]
theorem rne_le {n m : Nat} (d : Nat) (h : n ≤ m) : rne n d ≤ rne m d := by
  unfold rne
  have hp : 0 < 2 ^ d := Nat.two_pow_pos d
  have hq : n / 2 ^ d ≤ m / 2 ^ d := Nat.div_le_div_right h
  have en := Nat.div_add_mod n (2 ^ d)
  have em := Nat.div_add_mod m (2 ^ d)
  generalize n / 2 ^ d = q at *
  generalize m / 2 ^ d = q' at *
  generalize n % 2 ^ d = r at *
  generalize m % 2 ^ d = r' at *
  by_cases hqq : q = q'
  · subst hqq
    have : r ≤ r' := by omega
    by_cases c : 2 ^ d < 2 * r ∨ (2 ^ d = 2 * r ∧ q % 2 = 1)
    · rw [if_pos c, if_pos (by omega)]; exact Nat.le_refl _
    · rw [if_neg c]; omega
  · have : q + 1 ≤ q' := by omega
    split <;> omega
/-- a number's last place, and what is kept of it -/
def lastP (f : Format) (mag : Nat) (place : Int) : Int := max (place + mag.log2 - f.fractionBits) f.leastPlace
def kept (mag : Nat) (place last : Int) : Nat := rne (mag <<< (place - last).toNat) (last - place).toNat
def rungOf (f : Format) (mag : Nat) (place : Int) : Nat := if mag = 0 then 0 else min ((lastP f mag place - f.leastPlace).toNat * f.binade + kept mag place (lastP f mag place)) f.infRung
theorem nearest_rung (f : Format) (neg : Bool) (mag : Nat) (place : Int) : f.nearest neg mag place = f.word neg (rungOf f mag place) := by
  unfold Format.nearest rungOf
  by_cases h : mag = 0
  · rw [if_pos h, if_pos h]
  · rw [if_neg h, if_neg h]
    simp only [cut_even]
    rfl
theorem log2_scale {m : Nat} (h : m ≠ 0) (k : Nat) : (m * 2 ^ k).log2 = m.log2 + k := by
  have hk : 0 < 2 ^ k := Nat.two_pow_pos k
  have h0 : m * 2 ^ k ≠ 0 := Nat.mul_ne_zero h (by omega)
  have h1 : 2 ^ m.log2 ≤ m := Nat.log2_self_le h
  have h2 : m < 2 ^ (m.log2 + 1) := Nat.lt_log2_self
  have e1 : 2 ^ (m.log2 + k) ≤ m * 2 ^ k := by rw [Nat.pow_add]; exact Nat.mul_le_mul_right _ h1
  have e2 : m * 2 ^ k < 2 ^ (m.log2 + k + 1) := by
    have : 2 ^ (m.log2 + k + 1) = 2 ^ (m.log2 + 1) * 2 ^ k := by rw [← Nat.pow_add]; congr 1; omega
    rw [this]; exact Nat.mul_lt_mul_of_pos_right h2 hk
  have a1 := (Nat.le_log2 h0).2 e1
  have a2 := (Nat.log2_lt h0).2 e2
  omega
theorem kept_scale (m k : Nat) (e l : Int) : kept (m * 2 ^ k) (e - k) l = kept m e l := by
  unfold kept
  simp only [Nat.shiftLeft_eq]
  by_cases h1 : (k : Int) ≤ e - l
  · have d1 : (l - (e - k)).toNat = 0 := by omega
    have d2 : (l - e).toNat = 0 := by omega
    rw [d1, d2, rne_zero, rne_zero, Nat.mul_assoc, ← Nat.pow_add]
    congr 2; omega
  · by_cases h2 : 0 ≤ e - l
    · have d1 : (e - k - l).toNat = 0 := by omega
      have d2 : (l - e).toNat = 0 := by omega
      rw [d1, d2, rne_zero, Nat.pow_zero, Nat.mul_one]
      have d3 : (l - (e - k)).toNat = 0 + (k - (e - l).toNat) := by omega
      have d4 : m * 2 ^ k = m * 2 ^ (e - l).toNat * 2 ^ (k - (e - l).toNat) := by rw [Nat.mul_assoc, ← Nat.pow_add]; congr 2; omega
      rw [d3, d4, rne_scale, rne_zero]
    · have d1 : (e - k - l).toNat = 0 := by omega
      have d2 : (e - l).toNat = 0 := by omega
      have d3 : (l - (e - k)).toNat = (l - e).toNat + k := by omega
      rw [d1, d2, d3, Nat.pow_zero, Nat.mul_one, Nat.mul_one, rne_scale]
/-- rounding hangs on the value alone -/
theorem rung_scale (f : Format) (m k : Nat) (e : Int) : rungOf f (m * 2 ^ k) (e - k) = rungOf f m e := by
  by_cases h : m = 0
  · subst h; simp [rungOf]
  · have h0 : m * 2 ^ k ≠ 0 := Nat.mul_ne_zero h (by have := Nat.two_pow_pos k; omega)
    unfold rungOf
    rw [if_neg h0, if_neg h]
    have hl : lastP f (m * 2 ^ k) (e - k) = lastP f m e := by
      unfold lastP
      rw [log2_scale h]
      congr 1
      push_cast; omega
    rw [hl, kept_scale]
theorem nearest_scale (f : Format) (neg : Bool) (m k : Nat) (e : Int) : f.nearest neg (m * 2 ^ k) (e - k) = f.nearest neg m e := by
  rw [nearest_rung, nearest_rung, rung_scale]

/-! ### what is read -/
theorem mod_word (f : Format) (neg : Bool) {r : Nat} (h : r < f.signWeight) : f.word neg r % f.signWeight = r ∧ (f.word neg r / f.signWeight % 2 == 1) = neg := by
  have hp : 0 < f.signWeight := by omega
  unfold Format.word
  cases neg with
  | true => simp only [if_true]; rw [Nat.add_mod_left, Nat.mod_eq_of_lt h, Nat.add_div_left _ hp, Nat.div_eq_of_lt h]; exact ⟨rfl, rfl⟩
  | false => simp only [Bool.false_eq_true, if_false]; rw [Nat.mod_eq_of_lt h, Nat.div_eq_of_lt h]; exact ⟨rfl, rfl⟩
theorem word_mod (f : Format) {w : Nat} (h : w < 2 * f.signWeight) : f.word (w / f.signWeight % 2 == 1) (w % f.signWeight) = w := by
  have hp : 0 < f.signWeight := by omega
  have hm := Nat.div_add_mod w f.signWeight
  have hq : w / f.signWeight < 2 := (Nat.div_lt_iff_lt_mul hp).2 h
  unfold Format.word
  generalize w / f.signWeight = q at *
  generalize w % f.signWeight = r at *
  rcases (show q = 0 ∨ q = 1 by omega) with h0 | h0
  · subst h0; simp at hm ⊢; omega
  · subst h0; simp at hm ⊢; omega
/-- a rung's magnitude and place -/
def magOf (f : Format) (r : Nat) : Nat := if r < f.binade then r else f.binade + r % f.binade
def placeOf (f : Format) (r : Nat) : Int := if r < f.binade then f.leastPlace else f.leastPlace + (r / f.binade - 1 : Nat)
theorem read_fin (f : Format) {w : Nat} (h : w % f.signWeight < f.infRung) : f.read w = .number (w / f.signWeight % 2 == 1) (magOf f (w % f.signWeight)) (placeOf f (w % f.signWeight)) := by
  unfold Format.read magOf placeOf
  dsimp only
  by_cases h1 : w % f.signWeight < f.binade
  · rw [if_pos h1, if_pos h1, if_pos h1]
  · rw [if_neg h1, if_neg h1, if_neg h1, if_pos h]
theorem binade_pos (f : Format) : 0 < f.binade := Nat.two_pow_pos _
theorem binade_le (f : Format) (he : 2 ≤ f.exponentBits) : f.binade ≤ f.infRung := by
  unfold Format.infRung
  have : 2 ^ 2 ≤ 2 ^ f.exponentBits := Nat.pow_le_pow_right (by decide) he
  exact Nat.le_mul_of_pos_left _ (by omega)
theorem read_inf (f : Format) (he : 2 ≤ f.exponentBits) {w : Nat} (h : w % f.signWeight = f.infRung) : f.read w = .infinity (w / f.signWeight % 2 == 1) := by
  have := binade_le f he
  unfold Format.read
  dsimp only
  rw [h, if_neg (by omega), if_neg (by omega), if_pos rfl]
theorem read_nan (f : Format) (he : 2 ≤ f.exponentBits) {w : Nat} (h : f.infRung < w % f.signWeight) : f.read w = .nan (w / f.signWeight % 2 == 1) (w % f.signWeight - f.infRung) := by
  have := binade_le f he
  unfold Format.read
  dsimp only
  rw [if_neg (by omega), if_neg (by omega), if_neg (by omega)]
/-- a rung's own magnitude is rounded to it -/
theorem rung_back (f : Format) {r : Nat} (h : r ≤ f.infRung) : rungOf f (magOf f r) (placeOf f r) = r := by
  have hb := binade_pos f
  have eb : f.binade = 2 ^ f.fractionBits := rfl
  unfold magOf placeOf
  by_cases h1 : r < f.binade
  · rw [if_pos h1, if_pos h1]
    unfold rungOf
    by_cases h0 : r = 0
    · rw [if_pos h0]; exact h0.symm
    · rw [if_neg h0]
      have hl : r.log2 < f.fractionBits := (Nat.log2_lt h0).2 (by rw [← eb]; exact h1)
      have : lastP f r f.leastPlace = f.leastPlace := by unfold lastP; omega
      rw [this]
      unfold kept
      simp [rne_zero]
      omega
  · rw [if_neg h1, if_neg h1]
    have hm : r % f.binade < f.binade := Nat.mod_lt _ hb
    have hq : 1 ≤ r / f.binade := (Nat.le_div_iff_mul_le hb).2 (by omega)
    have hr := Nat.div_add_mod r f.binade
    have h0 : f.binade + r % f.binade ≠ 0 := by omega
    have hl : (f.binade + r % f.binade).log2 = f.fractionBits := by
      have a1 := (Nat.le_log2 h0 (k := f.fractionBits)).2 (by rw [← eb]; omega)
      have a2 := (Nat.log2_lt h0 (k := f.fractionBits + 1)).2 (by rw [Nat.pow_succ, ← eb]; omega)
      omega
    unfold rungOf
    rw [if_neg h0]
    have hla : lastP f (f.binade + r % f.binade) (f.leastPlace + (r / f.binade - 1 : Nat)) = f.leastPlace + (r / f.binade - 1 : Nat) := by
      unfold lastP; rw [hl]; omega
    rw [hla]
    unfold kept
    have d1 : (f.leastPlace + ((r / f.binade - 1 : Nat) : Int) - f.leastPlace).toNat = r / f.binade - 1 := by omega
    rw [d1]
    simp only [Int.sub_self, Int.toNat_zero, Nat.shiftLeft_zero, rne_zero]
    have d2 : (r / f.binade - 1) * f.binade + (f.binade + r % f.binade) = r := by
      have : (r / f.binade - 1) * f.binade + f.binade = r / f.binade * f.binade := by
        rw [← Nat.succ_mul]; congr 1; omega
      rw [← Nat.add_assoc, this, Nat.mul_comm]; exact hr
    rw [d2]
    exact Nat.min_eq_left h
/-- what is read is written -/
theorem write_read (f : Format) (he : 2 ≤ f.exponentBits) {w : Nat} (hw : w < 2 * f.signWeight) (h : w % f.signWeight ≤ f.infRung) : f.write (f.read w) = w := by
  rcases Nat.lt_or_eq_of_le h with h1 | h1
  · rw [read_fin f h1]
    show f.nearest _ _ _ = w
    rw [nearest_rung, rung_back f h, word_mod f hw]
  · rw [read_inf f he h1]
    show f.word _ _ = w
    rw [← h1, word_mod f hw]

/-! ### order -/
/-- a rung's value, in units of the least place -/
def val (f : Format) (r : Nat) : Nat := magOf f r * 2 ^ (placeOf f r - f.leastPlace).toNat
theorem val_eq (f : Format) (r : Nat) : val f r = if r < f.binade then r else (f.binade + r % f.binade) * 2 ^ (r / f.binade - 1) := by
  unfold val magOf placeOf
  split
  · simp
  · congr 2; omega
theorem val_lt (f : Format) {r s : Nat} (h : r < s) : val f r < val f s := by
  have hb := binade_pos f
  rw [val_eq, val_eq]
  by_cases h1 : s < f.binade
  · rw [if_pos (by omega), if_pos h1]; exact h
  · rw [if_neg h1]
    have hs1 : f.binade ≤ (f.binade + s % f.binade) * 2 ^ (s / f.binade - 1) := by
      have : 0 < 2 ^ (s / f.binade - 1) := Nat.two_pow_pos _
      exact Nat.le_trans (Nat.le_add_right _ _) (Nat.le_mul_of_pos_right _ this)
    by_cases h2 : r < f.binade
    · rw [if_pos h2]; omega
    · rw [if_neg h2]
      have hr := Nat.div_add_mod r f.binade
      have hs := Nat.div_add_mod s f.binade
      have hrm : r % f.binade < f.binade := Nat.mod_lt _ hb
      have hq1 : 1 ≤ r / f.binade := (Nat.le_div_iff_mul_le hb).2 (by omega)
      have hqq : r / f.binade ≤ s / f.binade := Nat.div_le_div_right (Nat.le_of_lt h)
      rcases Nat.lt_or_eq_of_le hqq with hq | hq
      · have a1 : (f.binade + r % f.binade) * 2 ^ (r / f.binade - 1) < (2 * f.binade) * 2 ^ (r / f.binade - 1) := Nat.mul_lt_mul_of_pos_right (by omega) (Nat.two_pow_pos _)
        have a2 : (2 * f.binade) * 2 ^ (r / f.binade - 1) = f.binade * 2 ^ (r / f.binade) := by
          have : 2 ^ (r / f.binade) = 2 * 2 ^ (r / f.binade - 1) := by rw [← Nat.pow_succ']; congr 1; omega
          rw [this, Nat.mul_comm 2, Nat.mul_assoc]
        have a3 : f.binade * 2 ^ (r / f.binade) ≤ f.binade * 2 ^ (s / f.binade - 1) := Nat.mul_le_mul_left _ (Nat.pow_le_pow_right (by decide) (by omega))
        have a4 : f.binade * 2 ^ (s / f.binade - 1) ≤ (f.binade + s % f.binade) * 2 ^ (s / f.binade - 1) := Nat.mul_le_mul_right _ (Nat.le_add_right _ _)
        omega
      · rw [← hq]
        rw [← hq] at hs
        exact Nat.mul_lt_mul_of_pos_right (by omega) (Nat.two_pow_pos _)
theorem val_inj (f : Format) {r s : Nat} (h : val f r = val f s) : r = s := by
  rcases Nat.lt_trichotomy r s with h1 | h1 | h1
  · have := val_lt f h1; omega
  · exact h1
  · have := val_lt f h1; omega
theorem val_zero (f : Format) : val f 0 = 0 := by rw [val_eq, if_pos (binade_pos f)]
theorem val_pos (f : Format) {r : Nat} (h : 0 < r) : 0 < val f r := by have := val_lt f h; rw [val_zero] at this; exact this
/-- a word's place among all: its rung, with its sign -/
def keyOf (f : Format) (w : Nat) : Int := if (w / f.signWeight % 2 == 1) = true then -((w % f.signWeight : Nat) : Int) else ((w % f.signWeight : Nat) : Int)
def sgnV (f : Format) (neg : Bool) (r : Nat) : Int := if neg = true then -((val f r : Nat) : Int) else ((val f r : Nat) : Int)
theorem place_ge (f : Format) (r : Nat) : f.leastPlace ≤ placeOf f r := by unfold placeOf; split <;> omega
theorem signed_val (f : Format) (neg : Bool) (r : Nat) {b : Int} (h1 : f.leastPlace ≤ b) (h2 : b ≤ placeOf f r) :
    Ieee.signed neg (magOf f r) (placeOf f r - b).toNat * ((2 ^ (b - f.leastPlace).toNat : Nat) : Int) = sgnV f neg r := by
  have e : magOf f r <<< (placeOf f r - b).toNat * 2 ^ (b - f.leastPlace).toNat = val f r := by
    unfold val
    rw [Nat.shiftLeft_eq, Nat.mul_assoc, ← Nat.pow_add]; congr 2; omega
  unfold Ieee.signed sgnV
  cases neg with
  | true => simp only [if_true]; rw [← e]; push_cast; rw [Int.neg_mul]
  | false => simp only [Bool.false_eq_true, if_false]; rw [← e]; push_cast; rfl
theorem compare_scale (a b : Int) {k : Nat} (hk : 0 < k) : compare (a * (k : Int)) (b * (k : Int)) = compare a b := by
  have hk : (0 : Int) < (k : Int) := by omega
  rcases Int.lt_trichotomy a b with h | h | h
  · have h1 : a * (k : Int) < b * (k : Int) := Int.mul_lt_mul_of_pos_right h hk
    rw [show compare a b = .lt from by simp [compare, compareOfLessAndEq, h], show compare (a * (k : Int)) (b * (k : Int)) = .lt from by simp [compare, compareOfLessAndEq, h1]]
  · subst h; simp [compare, compareOfLessAndEq]
  · have h1 : b * (k : Int) < a * (k : Int) := Int.mul_lt_mul_of_pos_right h hk
    have n1 : ¬ a < b := by omega
    have n2 : ¬ a = b := by omega
    have n3 : ¬ a * (k : Int) < b * (k : Int) := by omega
    have n4 : ¬ a * (k : Int) = b * (k : Int) := by omega
    simp [compare, compareOfLessAndEq, n1, n2, n3, n4]
theorem compare_sgn (f : Format) (s t : Bool) (r q : Nat) : compare (sgnV f s r) (sgnV f t q) = compare (if s = true then -((r : Nat) : Int) else (r : Int)) (if t = true then -((q : Nat) : Int) else (q : Int)) := by
  have key : ∀ a b c d : Int, (a < b ↔ c < d) → (a = b ↔ c = d) → compare a b = compare c d := fun a b c d h1 h2 => by
    simp only [compare, compareOfLessAndEq, h1, h2]
  have lt : ∀ r q, val f r < val f q ↔ r < q := fun r q => ⟨fun h => by
    rcases Nat.lt_or_ge r q with h1 | h1
    · exact h1
    · rcases Nat.lt_or_eq_of_le h1 with h2 | h2
      · have := val_lt f h2; omega
      · subst h2; omega, fun h => val_lt f h⟩
  have eq : ∀ r q, val f r = val f q ↔ r = q := fun r q => ⟨val_inj f, fun h => by rw [h]⟩
  have z : ∀ r, val f r = 0 ↔ r = 0 := fun r => by have := eq r 0; rw [val_zero] at this; exact this
  unfold sgnV
  have l1 := lt r q; have l2 := lt q r; have e1 := eq r q; have z1 := z r; have z2 := z q
  cases s <;> cases t <;> simp only [if_true, Bool.false_eq_true, if_false] <;> apply key <;> omega
theorem order_fin (f : Format) (s t : Bool) (r q : Nat) : (Datum.number s (magOf f r) (placeOf f r)).order (.number t (magOf f q) (placeOf f q)) =
    some (compare (if s = true then -((r : Nat) : Int) else (r : Int)) (if t = true then -((q : Nat) : Int) else (q : Int))) := by
  have h1 := place_ge f r
  have h2 := place_ge f q
  show some _ = some _
  congr 1
  rw [← compare_sgn f s t r q, ← signed_val f s r (b := min (placeOf f r) (placeOf f q)) (by omega) (by omega), ← signed_val f t q (b := min (placeOf f r) (placeOf f q)) (by omega) (by omega)]
  exact (compare_scale _ _ (Nat.two_pow_pos _)).symm
theorem cmp_lt {a b : Int} (h : a < b) : compare a b = .lt := by simp [compare, compareOfLessAndEq, h]
theorem cmp_eq {a b : Int} (h : a = b) : compare a b = .eq := by subst h; simp [compare, compareOfLessAndEq]
theorem cmp_gt {a b : Int} (h : b < a) : compare a b = .gt := by
  have n1 : ¬ a < b := by omega
  have n2 : ¬ a = b := by omega
  simp [compare, compareOfLessAndEq, n1, n2]
theorem sgn_lt (s t : Bool) {r q : Nat} (h : r < q) : compare (if s = true then -((r : Nat) : Int) else (r : Int)) (if t = true then -((q : Nat) : Int) else (q : Int)) = if t then .gt else .lt := by
  cases s <;> cases t <;> simp only [if_true, Bool.false_eq_true, if_false] <;> first | exact cmp_lt (by omega) | exact cmp_gt (by omega)
theorem sgn_gt (s t : Bool) {r q : Nat} (h : q < r) : compare (if s = true then -((r : Nat) : Int) else (r : Int)) (if t = true then -((q : Nat) : Int) else (q : Int)) = if s then .lt else .gt := by
  cases s <;> cases t <;> simp only [if_true, Bool.false_eq_true, if_false] <;> first | exact cmp_lt (by omega) | exact cmp_gt (by omega)
theorem sgn_same (s t : Bool) {r : Nat} (h : 0 < r) : compare (if s = true then -((r : Nat) : Int) else (r : Int)) (if t = true then -((r : Nat) : Int) else (r : Int)) = compare t.toNat s.toNat := by
  cases s <;> cases t <;> simp only [if_true, Bool.false_eq_true, if_false]
  · rw [cmp_eq rfl]; rfl
  · rw [cmp_gt (by omega)]; rfl
  · rw [cmp_lt (by omega)]; rfl
  · rw [cmp_eq rfl]; rfl
/-- the order of words -/
theorem order_key (f : Format) (he : 2 ≤ f.exponentBits) {x y : Nat} (hx : x % f.signWeight ≤ f.infRung) (hy : y % f.signWeight ≤ f.infRung) : f.order x y = some (compare (keyOf f x) (keyOf f y)) := by
  have hb := binade_le f he
  have hp := binade_pos f
  unfold Format.order keyOf
  rcases Nat.lt_or_eq_of_le hx with h1 | h1 <;> rcases Nat.lt_or_eq_of_le hy with h2 | h2
  · rw [read_fin f h1, read_fin f h2, order_fin]
  · rw [read_fin f h1, read_inf f he h2, sgn_lt _ _ (by omega)]; rfl
  · rw [read_inf f he h1, read_fin f h2, sgn_gt _ _ (by omega)]; rfl
  · rw [read_inf f he h1, read_inf f he h2, h1, h2, sgn_same _ _ (by omega)]; rfl
theorem order_none (f : Format) (he : 2 ≤ f.exponentBits) {x y : Nat} (h : f.infRung < x % f.signWeight ∨ f.infRung < y % f.signWeight) : f.order x y = none := by
  unfold Format.order
  rcases h with h | h
  · rw [read_nan f he h]; rfl
  · rw [read_nan f he h]; cases f.read x <;> rfl
end Go.Sx

/- Contracts of the reference's floats: what each function and each loop comes to. No condition. -/
namespace Go.Sx.Ref
open Go Go.Sx Go.Sx.Flt
def lenN (n : Nat) : Nat := if n = 0 then 0 else n.log2 + 1
def lost (n : Nat) (k : Int) : Int := if k ≤ 0 then 2 else if n % 2 ^ k.toNat = 0 then 2 else if 2 * (n % 2 ^ k.toNat) < 2 ^ k.toNat then -1 else if 2 * (n % 2 ^ k.toNat) = 2 ^ k.toNat then 0 else 1
/-- division as the loop does it: so many bits to go, the dividend's low word, the divisor, the quotient and the rest so far -/
def divL : Nat → Nat → Nat → Nat → Nat → Nat × Nat
  | 0, _, _, q, h => (q, h)
  | n + 1, lo, y, q, h =>
    let h1 := (h * 2 + lo / 2 ^ n % 2) % 18446744073709551616
    if h / 9223372036854775808 = 1 ∨ y ≤ h1 then divL n lo y (q ||| 2 ^ n) ((h1 + 18446744073709551616 - y) % 18446744073709551616) else divL n lo y q h1
/-- the root, bit by bit -/
def rootL : Nat → Nat → Nat → Nat
  | 0, _, r => r
  | n + 1, N, r => if (r ||| 2 ^ n) * (r ||| 2 ^ n) ≤ N then rootL n N (r ||| 2 ^ n) else rootL n N r
def wordI (f : Ieee.Format) (neg : Bool) (r : Nat) : Int := (if neg then (f.signWeight : Int) else 0) + r
/-- a sum as the code reckons it, of two that stand as it wants them -/
def sumO (f : Ieee.Format) (na : Bool) (ma : Nat) (ea : Int) (nb : Bool) (mb : Nat) (eb : Int) : Int :=
  let far := decide (mb ≠ 0 ∧ 70 < ea - eb)
  let k : Nat := if mb = 0 then 0 else if far then 70 else (ea - eb).toNat
  let m := if far then 1 else mb
  let A := ma * 2 ^ k
  if na = nb then wordI f na (rungOf f (A + m) (ea - k))
  else if A < m then wordI f nb (rungOf f (m - A) (ea - k))
  else if A = m then 0 else wordI f na (rungOf f (A - m) (ea - k))
def sumC (f : Ieee.Format) (na : Bool) (ma : Nat) (ea : Int) (nb : Bool) (mb : Nat) (eb : Int) : Int :=
  if ma = 0 ∧ mb = 0 then wordI f (na && nb) 0
  else if ma = 0 ∨ (mb ≠ 0 ∧ ea < eb) then sumO f nb mb eb na ma ea
  else sumO f na ma ea nb mb eb
/-- a quotient as the code reckons it -/
def quoC (f : Ieee.Format) (m : Nat) (i : Int) (n : Nat) (j : Int) : Nat :=
  let p := 64 - lenN m
  let q := 64 - lenN n
  let r := divL 64 (m * 2 ^ p * 9223372036854775808 % 18446744073709551616) (n * 2 ^ q) 0 (m * 2 ^ p / 2)
  rungOf f (2 * r.1 + (if r.2 = 0 then 0 else 1)) (i - p - (j - q) - 64)
/-- a root as the code reckons it -/
def rootC (f : Ieee.Format) (m : Nat) (i : Int) : Nat :=
  let b := 126 - lenN m
  let k := if (i - b) % 2 = 1 then b - 1 else b
  let N := m * 2 ^ k
  let r := rootL 64 N 0
  rungOf f (2 * r + (if r * r = N then 0 else 1)) ((i - k) / 2 - 1)
def mOf (x : Int) : Nat := (x / 4096).toNat
def eOf (x : Int) : Int := x % 4096 - 2048
/-- what the functions of numbers stand for -/
def fnG : Nat → Int → Int → Int → Int
  | 0, x, _, _ => (lenN x.toNat : Nat)
  | 1, n, i, k => b2i (n.toNat / 2 ^ i.toNat % 2 ^ (k - i).toNat != 0)
  | 2, n, k, _ => (n.toNat / 2 ^ k.toNat : Nat)
  | 3, n, k, _ => lost n.toNat k
  | 4, n, e, _ => (rungOf Ieee.double n.toNat e : Nat)
  | 5, n, e, _ => (rungOf Ieee.single n.toNat e : Nat)
  | 6, x, y, c => sumC Ieee.double (c / 2 == 1) (mOf x) (eOf x) (c % 2 == 1) (mOf y) (eOf y)
  | 7, x, y, c => sumC Ieee.single (c / 2 == 1) (mOf x) (eOf x) (c % 2 == 1) (mOf y) (eOf y)
  | 8, x, y, _ => (quoC Ieee.double (mOf x) (eOf x) (mOf y) (eOf y) : Nat)
  | 9, x, y, _ => (quoC Ieee.single (mOf x) (eOf x) (mOf y) (eOf y) : Nat)
  | 10, x, _, _ => (rootC Ieee.double (mOf x) (eOf x) : Nat)
  | 11, x, _, _ => (rootC Ieee.single (mOf x) (eOf x) : Nat)
  | 12, q, n, y => ((divL (y % 128).toNat (n % 18446744073709551616).toNat (y / 128).toNat q.toNat (n / 18446744073709551616).toNat).1 : Nat)
  | 13, q, n, y => ((divL (y % 128).toNat (n % 18446744073709551616).toNat (y / 128).toNat q.toNat (n / 18446744073709551616).toNat).2 : Nat)
  | 14, r, n, k => (rootL k.toNat n.toNat r.toNat : Nat)
  | _, _, _, _ => 0
def w64 : E := .lit 18446744073709551616
def nn (hi lo : E) : E := .bin .add (.bin .mul hi w64) lo
def f1 (f : Nat) (a : E) : E := .fn f a (.lit 0) (.lit 0)
def f2 (f : Nat) (a b : E) : E := .fn f a b (.lit 0)
def lenS : FSpec := ⟨111, [some .u64], [], [(some .i64, f1 0 (v 0))], [(f1 0 (v 0), (some 0, some 64))]⟩
def lenT : FSpec := ⟨111, [some .u64], [.bin .le (v 0) (.lit 9007199254740991)], [(some .i64, f1 0 (v 0))], [(f1 0 (v 0), (some 0, some 53))]⟩
def longS : FSpec := ⟨112, [some .u64, some .u64], [], [(some .i64, f1 0 (nn (v 0) (v 1)))], [(f1 0 (nn (v 0) (v 1)), (some 0, some 128))]⟩
def downS : FSpec := ⟨106, [some .u64, some .u64, some .i64], [], [(some .u64, u64 (bi .ediv (f2 2 (nn (v 0) (v 1)) (v 2)) w64)), (some .u64, u64 (f2 2 (nn (v 0) (v 1)) (v 2))), (some .i64, f2 3 (nn (v 0) (v 1)) (v 2))], [(f2 3 (nn (v 0) (v 1)) (v 2), (some (-1), some 2))]⟩
def mulS : FSpec := ⟨102, [some .u64, some .u64], [], [(some .u64, u64 (bi .ediv (bi .mul (v 0) (v 1)) w64)), (some .u64, u64 (bi .mul (v 0) (v 1)))], []⟩
def lenL : LSpec := { f := 111, p := [0, 1, 1], n := 11, ins := [(0, some .u64), (3, some .i64)], pre := [], outs := [(3, some .i64, i64 (bi .add (v 1) (f1 0 (v 0))))], kill := [0, 4, 5, 6, 7, 8, 9], meas := v 0 }
def downL : LSpec := { f := 106, p := [1, 0, 1, 1, 1, 1], n := 78, ins := [(0, some .u64), (1, some .u64), (2, some .i64), (10, none), (11, some .i64)], pre := [bi .le (.lit 1) (v 2), bi .le (v 2) (.lit 128), bi .le (.lit 0) (v 4), bi .lt (v 4) (v 2)], outs := [(10, none, bi .or (v 3) (.fn 1 (nn (v 0) (v 1)) (v 4) (bi .sub (v 2) (.lit 1)))), (11, some .i64, bi .sub (v 2) (.lit 1))], kill := (List.range 13).map (· + 31), meas := bi .sub (v 2) (v 4) }
def lspecsG : List LSpec := [lenL, downL]
def wordS : FSpec := ⟨114, [some .u64, some .u64, some .i64], [bi .le (.lit 0) (v 2), bi .le (v 2) (.lit 127)], [(none, .fn 1 (nn (v 0) (v 1)) (v 2) (bi .add (v 2) (.lit 1)))], []⟩
def specsG : List FSpec := [lenS, longS, mulS, wordS]
def namedG : List FSpec := [downS]
def fmtD : V := .agg [.int .i64 (.lit 64), .int .i64 (.lit 52)]
def fmtS : V := .agg [.int .i64 (.lit 32), .int .i64 (.lit 23)]
def sgnD : GSpec := ⟨⟨77, [none], [], [(some .u64, .ite (v 0) (.lit 9223372036854775808) (.lit 0))], []⟩, [.fix fmtD, .one], false⟩
def rndD : GSpec := ⟨⟨103, [none, some .u64, some .u64, some .i64], [bi .le (.lit (-5000)) (v 3), bi .le (v 3) (.lit 5000)],
  [(some .u64, bi .add (.ite (v 0) (.lit 9223372036854775808) (.lit 0)) (f2 4 (nn (v 1) (v 2)) (v 3)))], []⟩, [.fix fmtD, .one, .one, .one, .one], false⟩
def lenE : E := f1 0 (nn (v 1) (v 2))
def byA : E := bi .sub (.lit (-1074)) (v 3)
def byB : E := bi .add lenE (.lit (-53))
def preA : E := bi .lt byB byA
def preB : E := bi .le byA byB
def rndPre : List E := [bi .le (.lit (-5000)) (v 3), bi .le (v 3) (.lit 5000)]
def rndOf (pre : List E) : GSpec := ⟨{ rndD.sp with pre := pre }, rndD.sh, false⟩
def rndA0 : GSpec := rndOf (bi .lt byA (.lit 0) :: preA :: rndPre)
def rndA1 : GSpec := rndOf (bi .le (.lit 0) byA :: preA :: rndPre)
def rndB0 : GSpec := rndOf (bi .lt byB (.lit 0) :: preB :: rndPre)
def rndB1 : GSpec := rndOf (bi .le (.lit 0) byB :: preB :: rndPre)
def biasD : GSpec := ⟨⟨113, [], [], [(some .i64, .lit 1023)], []⟩, [.fix fmtD], false⟩
def leastD : GSpec := ⟨⟨105, [], [], [(some .i64, .lit (-1074))], []⟩, [.fix fmtD], false⟩
def topD : GSpec := ⟨⟨104, [], [], [(some .u64, .lit 2047)], []⟩, [.fix fmtD], false⟩
def nanD : GSpec := ⟨⟨98, [], [], [(some .u64, .lit 9221120237041090560)], []⟩, [.fix fmtD], false⟩
def infD : GSpec := ⟨⟨99, [none], [], [(some .u64, .ite (v 0) (.lit 18442240474082181120) (.lit 9218868437227405312))], []⟩, [.fix fmtD, .one], false⟩
def gsD0 : List GSpec := [sgnD, biasD, leastD, topD, nanD, infD]
def f3 (f : Nat) (a b c : E) : E := .fn f a b c
def W64 : Iv := (some 0, some 18446744073709551615)
/-- two words by one -/
def divE (f : Nat) : E := f3 f (v 3) (nn (v 0) (v 1)) (bi .add (bi .mul (v 2) (.lit 128)) (bi .add (v 4) (.lit 1)))
def divLo : LSpec := { f := 110, p := [1, 0, 1, 1], n := 40, ins := [(0, some .u64), (1, some .u64), (2, some .u64), (8, some .u64), (9, some .i64)], pre := [bi .le (.lit (-1)) (v 4), bi .le (v 4) (.lit 63)], outs := [(8, some .u64, u64 (divE 12)), (0, some .u64, u64 (divE 13)), (9, some .i64, .lit (-1))], kill := (List.range 28).map (· + 10), meas := bi .add (v 4) (.lit 1) }
def div0 (f : Nat) : E := f3 f (.lit 0) (nn (v 0) (v 1)) (bi .add (bi .mul (v 2) (.lit 128)) (.lit 64))
def divS : FSpec := ⟨110, [some .u64, some .u64, some .u64], [], [(some .u64, div0 12), (some .u64, div0 13)], [(div0 12, W64), (div0 13, W64)]⟩
def rootLo : LSpec := { f := 78, p := [1, 0, 1, 1, 1, 1, 1, 1, 1], n := 134, ins := [(6, some .u64), (7, some .u64), (8, some .u64), (9, some .i64)], pre := [bi .le (.lit (-1)) (v 3), bi .le (v 3) (.lit 63)], outs := [(8, some .u64, u64 (f3 14 (v 2) (nn (v 0) (v 1)) (bi .add (v 3) (.lit 1)))), (9, some .i64, .lit (-1))], kill := [10, 11, 12] ++ (List.range 28).map (· + 75), meas := bi .add (v 3) (.lit 1) }
/-! ### floats taken apart: sign, without end, no number, m, e -/
def B52 : E := .lit 4503599627370496
def M63 : E := .lit 9223372036854775808
def I64 : E := .lit 9218868437227405312
def rE (x : E) : E := bi .emod x M63
def negE (x : E) : E := bi .le M63 x
def infE (x : E) : E := bi .eq (rE x) I64
def nanE (x : E) : E := bi .lt I64 (rE x)
def magE (x : E) : E := .ite (bi .lt (rE x) B52) (rE x) (.ite (bi .lt (rE x) I64) (bi .add B52 (bi .emod (rE x) B52)) (bi .sub (rE x) I64))
def plcE (x : E) : E := .ite (bi .lt (rE x) B52) (.lit (-1074)) (.ite (bi .lt (rE x) I64) (bi .add (.lit (-1075)) (bi .ediv (rE x) B52)) (.lit 0))
def fltK : List (Option IntKind) := [none, none, none, some .u64, some .i64]
def mB : Iv := (some 0, some 9007199254740991)
def eB : Iv := (some (-1074), some 971)
def apartD : GSpec := ⟨⟨79, [some .u64], [], [(none, negE (v 0)), (none, infE (v 0)), (none, nanE (v 0)), (some .u64, magE (v 0)), (some .i64, plcE (v 0))], [(magE (v 0), mB), (plcE (v 0), eB)]⟩, [.fix fmtD, .one], true⟩
def preM (m : E) : List E := [bi .le (.lit 0) m, bi .le m (.lit 9007199254740991)]
def preE (e : E) : List E := [bi .le (.lit (-1074)) e, bi .le e (.lit 971)]
def pre2 : List E := preM (v 3) ++ preE (v 4) ++ preM (v 8) ++ preE (v 9)
def pk (m e : E) : E := bi .add (bi .mul m (.lit 4096)) (bi .add e (.lit 2048))
def sg (c : E) : E := .ite c M63 (.lit 0)
def sgI (c : E) : E := .ite c (.lit 18442240474082181120) I64
def xorE : E := no (bi .eq (v 0) (v 5))
def addE : E := f3 6 (pk (v 3) (v 4)) (pk (v 8) (v 9)) (bi .add (bi .mul (v 0) (.lit 2)) (v 5))
def addBd : List (E × Iv) := [(addE, W64)]
def twoK : List (Option IntKind) := fltK ++ fltK
def two : Shape := [.fix fmtD, .agg 5, .agg 5]
def addD : GSpec := ⟨⟨109, twoK, pre2, [(some .u64, addE)], addBd⟩, two, false⟩
def zeroE (m : E) : E := bi .eq m (.lit 0)
def nan64' : E := .lit 9221120237041090560
def sumE : E := .ite (bi .or (bi .or (v 2) (v 7)) (bi .and (bi .and (v 1) (v 6)) xorE)) nan64' (.ite (v 1) (sgI (v 0)) (.ite (v 6) (sgI (v 5)) addE))
def sumD : GSpec := ⟨⟨86, twoK, pre2, [(some .u64, sumE)], [(sumE, W64)]⟩, two, false⟩
def mulE : E := .ite (bi .or (bi .or (v 2) (v 7)) (bi .or (bi .and (v 1) (bi .and (no (v 6)) (zeroE (v 8)))) (bi .and (v 6) (bi .and (no (v 1)) (zeroE (v 3)))))) nan64'
  (.ite (bi .or (v 1) (v 6)) (sgI xorE) (bi .add (sg xorE) (f2 4 (bi .mul (v 3) (v 8)) (bi .add (v 4) (v 9)))))
def mulD : GSpec := ⟨⟨87, twoK, pre2, [(some .u64, mulE)], [(mulE, W64)]⟩, two, false⟩
def quoE : E := .ite (bi .or (bi .or (v 2) (v 7)) (bi .or (bi .and (v 1) (v 6)) (bi .and (bi .and (no (v 1)) (no (v 6))) (bi .and (zeroE (v 3)) (zeroE (v 8)))))) nan64'
  (.ite (bi .or (v 1) (bi .and (no (v 6)) (zeroE (v 8)))) (sgI xorE) (.ite (bi .or (v 6) (zeroE (v 3))) (sg xorE) (bi .add (sg xorE) (f2 8 (pk (v 3) (v 4)) (pk (v 8) (v 9))))))
def quoD : GSpec := ⟨⟨88, twoK, pre2, [(some .u64, quoE)], [(quoE, W64)]⟩, two, false⟩
def rootE : E := .ite (bi .or (v 2) (bi .and (v 0) (bi .or (v 1) (no (zeroE (v 3)))))) nan64' (.ite (v 1) I64 (.ite (zeroE (v 3)) (sg (v 0)) (f1 10 (pk (v 3) (v 4)))))
def rootD : GSpec := ⟨⟨78, fltK, preM (v 3) ++ preE (v 4), [(some .u64, rootE)], [(rootE, W64)]⟩, [.fix fmtD, .agg 5], false⟩
/-! ### words -/
def canU (e : E) : E := .ite (bi .eq e (.lit (-1))) nan64' e
def wholeE : E := .ite (bi .eq (v 0) (.lit 0)) (canU (un (.fwhole .up) (v 1))) (.ite (bi .eq (v 0) (.lit 1)) (canU (un (.fwhole .down) (v 1))) (.ite (bi .eq (v 0) (.lit 2)) (canU (un (.fwhole .zero) (v 1))) (canU (un (.fwhole .even) (v 1)))))
def wholeD : GSpec := ⟨⟨80, [some .i64, some .u64], [bi .le (.lit 0) (v 0), bi .le (v 0) (.lit 3)], [(some .u64, wholeE)], [(wholeE, W64)]⟩, [.fix fmtD, .one, .one], false⟩
def keyE (x : E) : E := .ite (negE x) (bi .sub M63 x) x
def lessD : GSpec := ⟨⟨85, [some .u64, some .u64], [], [(none, bi .lt (keyE (v 0)) (keyE (v 1)))], []⟩, [.fix fmtD, .one, .one], false⟩
def oU : E := bi (.ford .f64) (v 1) (v 2)
def compE : E := .ite (bi .eq (v 0) (.lit 0)) (tr (bi .eq oU (.lit 0))) (.ite (bi .eq (v 0) (.lit 1)) (tr (no (bi .eq oU (.lit 0)))) (.ite (bi .eq (v 0) (.lit 2)) (tr (bi .eq oU (.lit 1))) (.ite (bi .eq (v 0) (.lit 3)) (tr (bi .eq oU (.lit 2))) (.ite (bi .eq (v 0) (.lit 4)) (tr (bi .le oU (.lit 1))) (tr (bi .or (bi .eq oU (.lit 2)) (bi .eq oU (.lit 0))))))))
def compD : GSpec := ⟨⟨58, [some .i64, some .u64, some .u64], [bi .le (.lit 0) (v 0), bi .le (v 0) (.lit 5)], [(some .i64, compE)], []⟩, [.fix fmtD, .one, .one, .one], false⟩
/-- the same, of one kind -/
def oU0 : E := bi (.ford .f64) (v 0) (v 1)
def compK (k : Int) : E := match k with
  | 0 => tr (bi .eq oU0 (.lit 0)) | 1 => tr (no (bi .eq oU0 (.lit 0))) | 2 => tr (bi .eq oU0 (.lit 1)) | 3 => tr (bi .eq oU0 (.lit 2)) | 4 => tr (bi .le oU0 (.lit 1)) | _ => tr (bi .or (bi .eq oU0 (.lit 2)) (bi .eq oU0 (.lit 0)))
def compDK (k : Int) : GSpec := ⟨⟨58, [some .u64, some .u64], [], [(some .i64, compK k)], []⟩, [.fix fmtD, .fix (.int .i64 (.lit k)), .one, .one], false⟩
def nanU (x : E) : E := no (bi .eq (bi (.ford .f64) x x) (.lit 0))
def pickU (g : Bool) : E := .ite (nanU (v 1)) nan64' (.ite (nanU (v 2)) nan64' (bi (.fpick g) (v 1) (v 2)))
def extrE : E := .ite (v 0) (pickU false) (pickU true)
def extrD : GSpec := ⟨⟨89, [none, some .u64, some .u64], [], [(some .u64, extrE)], [(extrE, W64)]⟩, [.fix fmtD, .one, .one, .one], false⟩
def farU (op : BinOp) : E := canU (bi (.far op .f64) (v 1) (v 2))
def isK (k : Int) : E := bi .eq (v 0) (.lit k)
def unE : E := .ite (isK 0) (bi (.bits .andNot .u64) (v 1) M63) (.ite (isK 1) (bi (.bits .xor .u64) (v 1) M63) (.ite (isK 2) (canU (un (.fwhole .up) (v 1))) (.ite (isK 3) (canU (un (.fwhole .down) (v 1))) (.ite (isK 4) (canU (un (.fwhole .zero) (v 1))) (.ite (isK 5) (canU (un (.fwhole .even) (v 1))) (canU (un .fsqrt (v 1))))))))
def unD : GSpec := ⟨⟨55, [some .i64, some .u64], [bi .le (.lit 0) (v 0), bi .le (v 0) (.lit 6)], [(some .u64, unE)], [(unE, W64)]⟩, [.fix fmtD, .one, .one], false⟩
def binE : E := .ite (isK 0) (farU .add) (.ite (isK 1) (farU .sub) (.ite (isK 2) (farU .mul) (.ite (isK 3) (farU .quo) (.ite (isK 4) (pickU true) (.ite (isK 5) (pickU false) (bi (.bits .or .u64) (bi (.bits .andNot .u64) (v 1) M63) (bi (.bits .and .u64) (v 2) M63)))))))
def binD : GSpec := ⟨⟨59, [some .i64, some .u64, some .u64], [bi .le (.lit 0) (v 0), bi .le (v 0) (.lit 6)], [(some .u64, binE)], [(binE, W64)]⟩, [.fix fmtD, .one, .one, .one], false⟩
def refUnS : FSpec := ⟨31, [some .i64, some .i64], [], [(some .i64, unV64), (some .i64, unE64)], []⟩
def refBinS : FSpec := ⟨33, [some .i64, some .i64, some .i64], [], [(some .i64, binV64), (some .i64, binE64)], []⟩
def specsH : List FSpec := [lenT, longS, mulS, wordS, divS]
def gsU : List GSpec := [apartD, addD, sumD, mulD, quoD, rootD, wholeD, lessD, compD, extrD, unD, binD, rndD]
def gsK : List GSpec := [compDK 0, compDK 1, compDK 2, compDK 3, compDK 4, compDK 5]
def gsD : List GSpec := gsD0 ++ [rndA0, rndA1, rndB0, rndB1]
end Go.Sx.Ref

/- The ways of the reference's floats through numbers, and that the code takes no other. No condition. -/
namespace Go.Proofs.Ytnodelimomljbaa.RunRefL
open Go Go.Sx Go.Sx.Flt Go.Sx.Ref

def divLoR : List LL := [
  .cont [(.bin .eq (.bin .ediv (.var 0) (.lit 9223372036854775808)) (.lit 1)), (.bin .le (.lit 0) (.var 4)), (.bin .le (.lit (-1)) (.var 4)), (.bin .le (.var 4) (.lit 63))] [(.un (.wrap .u64) (.bin .sub (.bin (.bits .or .u64) (.un (.wrap .u64) (.bin .mul (.var 0) (.lit 2))) (.bin .emod (.bin (.shr .u64) (.var 1) (.var 4)) (.lit 2))) (.var 2))), (.var 1), (.var 2), (.bin (.bits .or .u64) (.var 3) (.bin (.shl .u64) (.lit 1) (.var 4))), (.bin .add (.var 4) (.lit (-1)))],
  .cont [(.bin .le (.var 2) (.bin (.bits .or .u64) (.un (.wrap .u64) (.bin .mul (.var 0) (.lit 2))) (.bin .emod (.bin (.shr .u64) (.var 1) (.var 4)) (.lit 2)))), (.un .bnot (.bin .eq (.bin .ediv (.var 0) (.lit 9223372036854775808)) (.lit 1))), (.bin .le (.lit 0) (.var 4)), (.bin .le (.lit (-1)) (.var 4)), (.bin .le (.var 4) (.lit 63))] [(.bin .sub (.bin (.bits .or .u64) (.un (.wrap .u64) (.bin .mul (.var 0) (.lit 2))) (.bin .emod (.bin (.shr .u64) (.var 1) (.var 4)) (.lit 2))) (.var 2)), (.var 1), (.var 2), (.bin (.bits .or .u64) (.var 3) (.bin (.shl .u64) (.lit 1) (.var 4))), (.bin .add (.var 4) (.lit (-1)))],
  .cont [(.bin .lt (.bin (.bits .or .u64) (.un (.wrap .u64) (.bin .mul (.var 0) (.lit 2))) (.bin .emod (.bin (.shr .u64) (.var 1) (.var 4)) (.lit 2))) (.var 2)), (.un .bnot (.bin .eq (.bin .ediv (.var 0) (.lit 9223372036854775808)) (.lit 1))), (.bin .le (.lit 0) (.var 4)), (.bin .le (.lit (-1)) (.var 4)), (.bin .le (.var 4) (.lit 63))] [(.bin (.bits .or .u64) (.un (.wrap .u64) (.bin .mul (.var 0) (.lit 2))) (.bin .emod (.bin (.shr .u64) (.var 1) (.var 4)) (.lit 2))), (.var 1), (.var 2), (.var 3), (.bin .add (.var 4) (.lit (-1)))],
  .out [(.bin .lt (.var 4) (.lit 0)), (.bin .le (.lit (-1)) (.var 4)), (.bin .le (.var 4) (.lit 63))] [(.int .u64 (.var 3)), (.int .u64 (.var 0)), (.int .i64 (.var 4))]]
set_option maxRecDepth 100000 in
theorem divLoRan : lrunOf Try.prog noOracle noLoops (bodies fns) [] 4000 divLo = some divLoR := by kernel_rfl
def divR : List Leaf := [
  ([], (.tup [(.int .u64 (.un (.wrap .u64) (.fn 12 (.lit 0) (.bin .add (.bin .mul (.var 0) (.lit 18446744073709551616)) (.var 1)) (.bin .add (.bin .mul (.var 2) (.lit 128)) (.lit 64))))), (.int .u64 (.un (.wrap .u64) (.fn 13 (.lit 0) (.bin .add (.bin .mul (.var 0) (.lit 18446744073709551616)) (.var 1)) (.bin .add (.bin .mul (.var 2) (.lit 128)) (.lit 64)))))]))]
set_option maxRecDepth 100000 in
theorem divRan : runOf Try.prog noOracle (loopOracle [divLo]) (bodies fns) [] 4000 divS.f divS.ks divS.pre = some divR := by kernel_rfl
def rootLoR : List LL := [
  .cont [(.bin .lt (.un (.wrap .u64) (.bin .ediv (.bin .mul (.bin (.bits .or .u64) (.var 2) (.bin (.shl .u64) (.lit 1) (.var 3))) (.bin (.bits .or .u64) (.var 2) (.bin (.shl .u64) (.lit 1) (.var 3)))) (.lit 18446744073709551616))) (.var 0)), (.bin .le (.lit 0) (.var 3)), (.bin .le (.lit (-1)) (.var 3)), (.bin .le (.var 3) (.lit 63))] [(.var 0), (.var 1), (.bin (.bits .or .u64) (.var 2) (.bin (.shl .u64) (.lit 1) (.var 3))), (.bin .add (.var 3) (.lit (-1)))],
  .cont [(.bin .le (.un (.wrap .u64) (.bin .mul (.bin (.bits .or .u64) (.var 2) (.bin (.shl .u64) (.lit 1) (.var 3))) (.bin (.bits .or .u64) (.var 2) (.bin (.shl .u64) (.lit 1) (.var 3))))) (.var 1)), (.bin .eq (.un (.wrap .u64) (.bin .ediv (.bin .mul (.bin (.bits .or .u64) (.var 2) (.bin (.shl .u64) (.lit 1) (.var 3))) (.bin (.bits .or .u64) (.var 2) (.bin (.shl .u64) (.lit 1) (.var 3)))) (.lit 18446744073709551616))) (.var 0)), (.bin .le (.var 0) (.un (.wrap .u64) (.bin .ediv (.bin .mul (.bin (.bits .or .u64) (.var 2) (.bin (.shl .u64) (.lit 1) (.var 3))) (.bin (.bits .or .u64) (.var 2) (.bin (.shl .u64) (.lit 1) (.var 3)))) (.lit 18446744073709551616)))), (.bin .le (.lit 0) (.var 3)), (.bin .le (.lit (-1)) (.var 3)), (.bin .le (.var 3) (.lit 63))] [(.var 0), (.var 1), (.bin (.bits .or .u64) (.var 2) (.bin (.shl .u64) (.lit 1) (.var 3))), (.bin .add (.var 3) (.lit (-1)))],
  .cont [(.bin .lt (.var 1) (.un (.wrap .u64) (.bin .mul (.bin (.bits .or .u64) (.var 2) (.bin (.shl .u64) (.lit 1) (.var 3))) (.bin (.bits .or .u64) (.var 2) (.bin (.shl .u64) (.lit 1) (.var 3)))))), (.bin .eq (.un (.wrap .u64) (.bin .ediv (.bin .mul (.bin (.bits .or .u64) (.var 2) (.bin (.shl .u64) (.lit 1) (.var 3))) (.bin (.bits .or .u64) (.var 2) (.bin (.shl .u64) (.lit 1) (.var 3)))) (.lit 18446744073709551616))) (.var 0)), (.bin .le (.var 0) (.un (.wrap .u64) (.bin .ediv (.bin .mul (.bin (.bits .or .u64) (.var 2) (.bin (.shl .u64) (.lit 1) (.var 3))) (.bin (.bits .or .u64) (.var 2) (.bin (.shl .u64) (.lit 1) (.var 3)))) (.lit 18446744073709551616)))), (.bin .le (.lit 0) (.var 3)), (.bin .le (.lit (-1)) (.var 3)), (.bin .le (.var 3) (.lit 63))] [(.var 0), (.var 1), (.var 2), (.bin .add (.var 3) (.lit (-1)))],
  .cont [(.un .bnot (.bin .eq (.un (.wrap .u64) (.bin .ediv (.bin .mul (.bin (.bits .or .u64) (.var 2) (.bin (.shl .u64) (.lit 1) (.var 3))) (.bin (.bits .or .u64) (.var 2) (.bin (.shl .u64) (.lit 1) (.var 3)))) (.lit 18446744073709551616))) (.var 0))), (.bin .le (.var 0) (.un (.wrap .u64) (.bin .ediv (.bin .mul (.bin (.bits .or .u64) (.var 2) (.bin (.shl .u64) (.lit 1) (.var 3))) (.bin (.bits .or .u64) (.var 2) (.bin (.shl .u64) (.lit 1) (.var 3)))) (.lit 18446744073709551616)))), (.bin .le (.lit 0) (.var 3)), (.bin .le (.lit (-1)) (.var 3)), (.bin .le (.var 3) (.lit 63))] [(.var 0), (.var 1), (.var 2), (.bin .add (.var 3) (.lit (-1)))],
  .out [(.bin .lt (.var 3) (.lit 0)), (.bin .le (.lit (-1)) (.var 3)), (.bin .le (.var 3) (.lit 63))] [(.int .u64 (.var 2)), (.int .i64 (.var 3))]]
set_option maxRecDepth 100000 in
theorem rootLoRan : lrunOf Try.prog (specOracle [mulS]) noLoops (bodies fns) [] 4000 rootLo = some rootLoR := by kernel_rfl
end Go.Proofs.Ytnodelimomljbaa.RunRefL

/- The ways of the reference's floats through numbers, and that the code takes no other. No condition. -/
namespace Go.Proofs.Ytnodelimomljbaa.RunRefA
open Go Go.Sx Go.Sx.Flt Go.Sx.Ref

def lenLR : List LL := [
  .cont [(.bin .lt (.lit 0) (.var 0))] [(.bin .ediv (.var 0) (.lit 2)), (.un (.wrap .i64) (.bin .add (.var 1) (.lit 1)))],
  .out [(.bin .le (.var 0) (.lit 0))] [(.int .i64 (.var 1))]]
set_option maxRecDepth 100000 in
theorem lenLRan : lrunOf Try.prog noOracle noLoops (bodies fns) [] 4000 lenL = some lenLR := by kernel_rfl
def lenR : List Leaf := [
  ([], (.int .i64 (.un (.wrap .i64) (.bin .add (.lit 0) (.fn 0 (.var 0) (.lit 0) (.lit 0))))))]
set_option maxRecDepth 100000 in
theorem lenRan : runOf Try.prog noOracle (loopOracle [lenL]) (bodies fns) [] 4000 lenS.f lenS.ks lenS.pre = some lenR := by kernel_rfl
def longR : List Leaf := [
  ([(.bin .lt (.lit 0) (.var 0))], (.int .i64 (.bin .add (.fn 0 (.var 0) (.lit 0) (.lit 0)) (.lit 64)))),
  ([(.bin .le (.var 0) (.lit 0))], (.int .i64 (.fn 0 (.var 1) (.lit 0) (.lit 0))))]
set_option maxRecDepth 100000 in
theorem longRan : runOf Try.prog (specOracle [lenS]) noLoops (bodies fns) [] 4000 longS.f longS.ks longS.pre = some longR := by kernel_rfl
def wordR : List Leaf := [
  ([(.bin .le (.lit 64) (.var 2)), (.bin .le (.lit 0) (.var 2)), (.bin .le (.var 2) (.lit 127))], (.bool (.bin .eq (.bin .emod (.bin (.shr .u64) (.var 0) (.bin .add (.var 2) (.lit (-64)))) (.lit 2)) (.lit 1)))),
  ([(.bin .lt (.var 2) (.lit 64)), (.bin .le (.lit 0) (.var 2)), (.bin .le (.var 2) (.lit 127))], (.bool (.bin .eq (.bin .emod (.bin (.shr .u64) (.var 1) (.var 2)) (.lit 2)) (.lit 1))))]
set_option maxRecDepth 100000 in
theorem wordRan : runOf Try.prog noOracle noLoops (bodies fns) [] 4000 wordS.f wordS.ks wordS.pre = some wordR := by kernel_rfl
def downLR : List LL := [
  .cont [(.var 3), (.bin .lt (.var 4) (.bin .add (.var 2) (.lit (-1)))), (.bin .le (.lit 1) (.var 2)), (.bin .le (.var 2) (.lit 128)), (.bin .le (.lit 0) (.var 4)), (.bin .lt (.var 4) (.var 2))] [(.var 0), (.var 1), (.var 2), (.un .bnot (.un .bnot (.lit 1))), (.bin .add (.var 4) (.lit 1))],
  .cont [(.un .bnot (.var 3)), (.bin .lt (.var 4) (.bin .add (.var 2) (.lit (-1)))), (.bin .le (.lit 1) (.var 2)), (.bin .le (.var 2) (.lit 128)), (.bin .le (.lit 0) (.var 4)), (.bin .lt (.var 4) (.var 2))] [(.var 0), (.var 1), (.var 2), (.un .bnot (.un .bnot (.fn 1 (.bin .add (.bin .mul (.var 0) (.lit 18446744073709551616)) (.var 1)) (.var 4) (.bin .add (.var 4) (.lit 1))))), (.bin .add (.var 4) (.lit 1))],
  .out [(.bin .le (.bin .add (.var 2) (.lit (-1))) (.var 4)), (.bin .le (.lit 1) (.var 2)), (.bin .le (.var 2) (.lit 128)), (.bin .le (.lit 0) (.var 4)), (.bin .lt (.var 4) (.var 2))] [(.bool (.var 3)), (.int .i64 (.var 4))]]
set_option maxRecDepth 100000 in
theorem downLRan : lrunOf Try.prog (specOracle [wordS]) noLoops (bodies fns) [] 4000 downL = some downLR := by kernel_rfl
def downR : List Leaf := [
  ([(.bin .le (.var 2) (.lit 0))], (.tup [(.int .u64 (.var 0)), (.int .u64 (.var 1)), (.int .i64 (.lit 2))])),
  ([(.bin .eq (.bin (.bits .or .u64) (.var 0) (.var 1)) (.lit 0)), (.bin .lt (.lit 128) (.var 2)), (.bin .lt (.lit 0) (.var 2))], (.tup [(.int .u64 (.lit 0)), (.int .u64 (.lit 0)), (.int .i64 (.lit 2))])),
  ([(.un .bnot (.bin .eq (.bin (.bits .or .u64) (.var 0) (.var 1)) (.lit 0))), (.bin .lt (.lit 128) (.var 2)), (.bin .lt (.lit 0) (.var 2))], (.tup [(.int .u64 (.lit 0)), (.int .u64 (.lit 0)), (.int .i64 (.lit (-1)))])),
  ([(.bin .eq (.var 2) (.lit 128)), (.bin .or (.un .bnot (.un .bnot (.lit 0))) (.fn 1 (.bin .add (.bin .mul (.var 0) (.lit 18446744073709551616)) (.var 1)) (.lit 0) (.bin .sub (.var 2) (.lit 1)))), (.fn 1 (.bin .add (.bin .mul (.var 0) (.lit 18446744073709551616)) (.var 1)) (.bin .add (.var 2) (.lit (-1))) (.bin .add (.bin .add (.var 2) (.lit (-1))) (.lit 1))), (.bin .le (.var 2) (.lit 128)), (.bin .lt (.lit 0) (.var 2))], (.tup [(.int .u64 (.lit 0)), (.int .u64 (.lit 0)), (.int .i64 (.lit 1))])),
  ([(.bin .le (.lit 64) (.var 2)), (.un .bnot (.bin .eq (.var 2) (.lit 128))), (.bin .or (.un .bnot (.un .bnot (.lit 0))) (.fn 1 (.bin .add (.bin .mul (.var 0) (.lit 18446744073709551616)) (.var 1)) (.lit 0) (.bin .sub (.var 2) (.lit 1)))), (.fn 1 (.bin .add (.bin .mul (.var 0) (.lit 18446744073709551616)) (.var 1)) (.bin .add (.var 2) (.lit (-1))) (.bin .add (.bin .add (.var 2) (.lit (-1))) (.lit 1))), (.bin .le (.var 2) (.lit 128)), (.bin .lt (.lit 0) (.var 2))], (.tup [(.int .u64 (.lit 0)), (.int .u64 (.bin (.shr .u64) (.var 0) (.bin .add (.var 2) (.lit (-64))))), (.int .i64 (.lit 1))])),
  ([(.bin .lt (.var 2) (.lit 64)), (.un .bnot (.bin .eq (.var 2) (.lit 128))), (.bin .or (.un .bnot (.un .bnot (.lit 0))) (.fn 1 (.bin .add (.bin .mul (.var 0) (.lit 18446744073709551616)) (.var 1)) (.lit 0) (.bin .sub (.var 2) (.lit 1)))), (.fn 1 (.bin .add (.bin .mul (.var 0) (.lit 18446744073709551616)) (.var 1)) (.bin .add (.var 2) (.lit (-1))) (.bin .add (.bin .add (.var 2) (.lit (-1))) (.lit 1))), (.bin .le (.var 2) (.lit 128)), (.bin .lt (.lit 0) (.var 2))], (.tup [(.int .u64 (.bin (.shr .u64) (.var 0) (.var 2))), (.int .u64 (.bin (.bits .or .u64) (.bin (.shr .u64) (.var 1) (.var 2)) (.bin (.shl .u64) (.var 0) (.bin .sub (.lit 64) (.var 2))))), (.int .i64 (.lit 1))])),
  ([(.bin .eq (.var 2) (.lit 128)), (.un .bnot (.bin .or (.un .bnot (.un .bnot (.lit 0))) (.fn 1 (.bin .add (.bin .mul (.var 0) (.lit 18446744073709551616)) (.var 1)) (.lit 0) (.bin .sub (.var 2) (.lit 1))))), (.fn 1 (.bin .add (.bin .mul (.var 0) (.lit 18446744073709551616)) (.var 1)) (.bin .add (.var 2) (.lit (-1))) (.bin .add (.bin .add (.var 2) (.lit (-1))) (.lit 1))), (.bin .le (.var 2) (.lit 128)), (.bin .lt (.lit 0) (.var 2))], (.tup [(.int .u64 (.lit 0)), (.int .u64 (.lit 0)), (.int .i64 (.lit 0))])),
  ([(.bin .le (.lit 64) (.var 2)), (.un .bnot (.bin .eq (.var 2) (.lit 128))), (.un .bnot (.bin .or (.un .bnot (.un .bnot (.lit 0))) (.fn 1 (.bin .add (.bin .mul (.var 0) (.lit 18446744073709551616)) (.var 1)) (.lit 0) (.bin .sub (.var 2) (.lit 1))))), (.fn 1 (.bin .add (.bin .mul (.var 0) (.lit 18446744073709551616)) (.var 1)) (.bin .add (.var 2) (.lit (-1))) (.bin .add (.bin .add (.var 2) (.lit (-1))) (.lit 1))), (.bin .le (.var 2) (.lit 128)), (.bin .lt (.lit 0) (.var 2))], (.tup [(.int .u64 (.lit 0)), (.int .u64 (.bin (.shr .u64) (.var 0) (.bin .add (.var 2) (.lit (-64))))), (.int .i64 (.lit 0))])),
  ([(.bin .lt (.var 2) (.lit 64)), (.un .bnot (.bin .eq (.var 2) (.lit 128))), (.un .bnot (.bin .or (.un .bnot (.un .bnot (.lit 0))) (.fn 1 (.bin .add (.bin .mul (.var 0) (.lit 18446744073709551616)) (.var 1)) (.lit 0) (.bin .sub (.var 2) (.lit 1))))), (.fn 1 (.bin .add (.bin .mul (.var 0) (.lit 18446744073709551616)) (.var 1)) (.bin .add (.var 2) (.lit (-1))) (.bin .add (.bin .add (.var 2) (.lit (-1))) (.lit 1))), (.bin .le (.var 2) (.lit 128)), (.bin .lt (.lit 0) (.var 2))], (.tup [(.int .u64 (.bin (.shr .u64) (.var 0) (.var 2))), (.int .u64 (.bin (.bits .or .u64) (.bin (.shr .u64) (.var 1) (.var 2)) (.bin (.shl .u64) (.var 0) (.bin .sub (.lit 64) (.var 2))))), (.int .i64 (.lit 0))])),
  ([(.bin .eq (.var 2) (.lit 128)), (.un .bnot (.bin .or (.un .bnot (.un .bnot (.lit 0))) (.fn 1 (.bin .add (.bin .mul (.var 0) (.lit 18446744073709551616)) (.var 1)) (.lit 0) (.bin .sub (.var 2) (.lit 1))))), (.un .bnot (.fn 1 (.bin .add (.bin .mul (.var 0) (.lit 18446744073709551616)) (.var 1)) (.bin .add (.var 2) (.lit (-1))) (.bin .add (.bin .add (.var 2) (.lit (-1))) (.lit 1)))), (.bin .le (.var 2) (.lit 128)), (.bin .lt (.lit 0) (.var 2))], (.tup [(.int .u64 (.lit 0)), (.int .u64 (.lit 0)), (.int .i64 (.lit 2))])),
  ([(.bin .le (.lit 64) (.var 2)), (.un .bnot (.bin .eq (.var 2) (.lit 128))), (.un .bnot (.bin .or (.un .bnot (.un .bnot (.lit 0))) (.fn 1 (.bin .add (.bin .mul (.var 0) (.lit 18446744073709551616)) (.var 1)) (.lit 0) (.bin .sub (.var 2) (.lit 1))))), (.un .bnot (.fn 1 (.bin .add (.bin .mul (.var 0) (.lit 18446744073709551616)) (.var 1)) (.bin .add (.var 2) (.lit (-1))) (.bin .add (.bin .add (.var 2) (.lit (-1))) (.lit 1)))), (.bin .le (.var 2) (.lit 128)), (.bin .lt (.lit 0) (.var 2))], (.tup [(.int .u64 (.lit 0)), (.int .u64 (.bin (.shr .u64) (.var 0) (.bin .add (.var 2) (.lit (-64))))), (.int .i64 (.lit 2))])),
  ([(.bin .lt (.var 2) (.lit 64)), (.un .bnot (.bin .eq (.var 2) (.lit 128))), (.un .bnot (.bin .or (.un .bnot (.un .bnot (.lit 0))) (.fn 1 (.bin .add (.bin .mul (.var 0) (.lit 18446744073709551616)) (.var 1)) (.lit 0) (.bin .sub (.var 2) (.lit 1))))), (.un .bnot (.fn 1 (.bin .add (.bin .mul (.var 0) (.lit 18446744073709551616)) (.var 1)) (.bin .add (.var 2) (.lit (-1))) (.bin .add (.bin .add (.var 2) (.lit (-1))) (.lit 1)))), (.bin .le (.var 2) (.lit 128)), (.bin .lt (.lit 0) (.var 2))], (.tup [(.int .u64 (.bin (.shr .u64) (.var 0) (.var 2))), (.int .u64 (.bin (.bits .or .u64) (.bin (.shr .u64) (.var 1) (.var 2)) (.bin (.shl .u64) (.var 0) (.bin .sub (.lit 64) (.var 2))))), (.int .i64 (.lit 2))])),
  ([(.bin .eq (.var 2) (.lit 128)), (.un .bnot (.un .bnot (.bin .or (.un .bnot (.un .bnot (.lit 0))) (.fn 1 (.bin .add (.bin .mul (.var 0) (.lit 18446744073709551616)) (.var 1)) (.lit 0) (.bin .sub (.var 2) (.lit 1)))))), (.un .bnot (.fn 1 (.bin .add (.bin .mul (.var 0) (.lit 18446744073709551616)) (.var 1)) (.bin .add (.var 2) (.lit (-1))) (.bin .add (.bin .add (.var 2) (.lit (-1))) (.lit 1)))), (.bin .le (.var 2) (.lit 128)), (.bin .lt (.lit 0) (.var 2))], (.tup [(.int .u64 (.lit 0)), (.int .u64 (.lit 0)), (.int .i64 (.lit (-1)))])),
  ([(.bin .le (.lit 64) (.var 2)), (.un .bnot (.bin .eq (.var 2) (.lit 128))), (.un .bnot (.un .bnot (.bin .or (.un .bnot (.un .bnot (.lit 0))) (.fn 1 (.bin .add (.bin .mul (.var 0) (.lit 18446744073709551616)) (.var 1)) (.lit 0) (.bin .sub (.var 2) (.lit 1)))))), (.un .bnot (.fn 1 (.bin .add (.bin .mul (.var 0) (.lit 18446744073709551616)) (.var 1)) (.bin .add (.var 2) (.lit (-1))) (.bin .add (.bin .add (.var 2) (.lit (-1))) (.lit 1)))), (.bin .le (.var 2) (.lit 128)), (.bin .lt (.lit 0) (.var 2))], (.tup [(.int .u64 (.lit 0)), (.int .u64 (.bin (.shr .u64) (.var 0) (.bin .add (.var 2) (.lit (-64))))), (.int .i64 (.lit (-1)))])),
  ([(.bin .lt (.var 2) (.lit 64)), (.un .bnot (.bin .eq (.var 2) (.lit 128))), (.un .bnot (.un .bnot (.bin .or (.un .bnot (.un .bnot (.lit 0))) (.fn 1 (.bin .add (.bin .mul (.var 0) (.lit 18446744073709551616)) (.var 1)) (.lit 0) (.bin .sub (.var 2) (.lit 1)))))), (.un .bnot (.fn 1 (.bin .add (.bin .mul (.var 0) (.lit 18446744073709551616)) (.var 1)) (.bin .add (.var 2) (.lit (-1))) (.bin .add (.bin .add (.var 2) (.lit (-1))) (.lit 1)))), (.bin .le (.var 2) (.lit 128)), (.bin .lt (.lit 0) (.var 2))], (.tup [(.int .u64 (.bin (.shr .u64) (.var 0) (.var 2))), (.int .u64 (.bin (.bits .or .u64) (.bin (.shr .u64) (.var 1) (.var 2)) (.bin (.shl .u64) (.var 0) (.bin .sub (.lit 64) (.var 2))))), (.int .i64 (.lit (-1)))]))]
set_option maxRecDepth 100000 in
theorem downRan : runOf Try.prog (specOracle [wordS]) (loopOracle [downL]) (bodies fns) [] 4000 downS.f downS.ks downS.pre = some downR := by kernel_rfl
def mulR : List Leaf := [
  ([], (.tup [(.int .u64 (.bin .add (.bin .add (.bin .mul (.bin .ediv (.var 0) (.lit 4294967296)) (.bin .ediv (.var 1) (.lit 4294967296))) (.bin .ediv (.bin .add (.bin .mul (.bin .ediv (.var 0) (.lit 4294967296)) (.un (.wrap .u32) (.var 1))) (.bin .ediv (.bin .mul (.un (.wrap .u32) (.var 0)) (.un (.wrap .u32) (.var 1))) (.lit 4294967296))) (.lit 4294967296))) (.bin .ediv (.bin .add (.bin .mul (.un (.wrap .u32) (.var 0)) (.bin .ediv (.var 1) (.lit 4294967296))) (.un (.wrap .u32) (.bin .add (.bin .mul (.bin .ediv (.var 0) (.lit 4294967296)) (.un (.wrap .u32) (.var 1))) (.bin .ediv (.bin .mul (.un (.wrap .u32) (.var 0)) (.un (.wrap .u32) (.var 1))) (.lit 4294967296))))) (.lit 4294967296)))), (.int .u64 (.bin (.bits .or .u64) (.un (.wrap .u64) (.bin .mul (.bin .add (.bin .mul (.un (.wrap .u32) (.var 0)) (.bin .ediv (.var 1) (.lit 4294967296))) (.un (.wrap .u32) (.bin .add (.bin .mul (.bin .ediv (.var 0) (.lit 4294967296)) (.un (.wrap .u32) (.var 1))) (.bin .ediv (.bin .mul (.un (.wrap .u32) (.var 0)) (.un (.wrap .u32) (.var 1))) (.lit 4294967296))))) (.lit 4294967296))) (.un (.wrap .u32) (.bin .mul (.un (.wrap .u32) (.var 0)) (.un (.wrap .u32) (.var 1))))))]))]
set_option maxRecDepth 100000 in
theorem mulRan : runOf Try.prog noOracle noLoops (bodies fns) [] 4000 mulS.f mulS.ks mulS.pre = some mulR := by kernel_rfl
def sgnDR : List Leaf := [
  ([(.var 0)], (.int .u64 (.lit 9223372036854775808))),
  ([(.un .bnot (.var 0))], (.int .u64 (.lit 0)))]
set_option maxRecDepth 100000 in
theorem sgnDRan : runOfG Try.prog noOracle noLoops (bodies fns) [] 4000 sgnD = some sgnDR := by kernel_rfl
def biasDR : List Leaf := [
  ([], (.int .i64 (.lit 1023)))]
set_option maxRecDepth 100000 in
theorem biasDRan : runOfG Try.prog noOracle noLoops (bodies fns) [] 4000 biasD = some biasDR := by kernel_rfl
def leastDR : List Leaf := [
  ([], (.int .i64 (.lit (-1074))))]
set_option maxRecDepth 100000 in
theorem leastDRan : runOfG Try.prog (gOracle [biasD]) noLoops (bodies fns) [] 4000 leastD = some leastDR := by kernel_rfl
def topDR : List Leaf := [
  ([], (.int .u64 (.lit 2047)))]
set_option maxRecDepth 100000 in
theorem topDRan : runOfG Try.prog noOracle noLoops (bodies fns) [] 4000 topD = some topDR := by kernel_rfl
def nanDR : List Leaf := [
  ([], (.int .u64 (.lit 9221120237041090560)))]
set_option maxRecDepth 100000 in
theorem nanDRan : runOfG Try.prog (gOracle [topD]) noLoops (bodies fns) [] 4000 nanD = some nanDR := by kernel_rfl
def infDR : List Leaf := [
  ([], (.int .u64 (.bin (.bits .or .u64) (.ite (.un .bnot (.un .bnot (.var 0))) (.lit 9223372036854775808) (.lit 0)) (.lit 9218868437227405312))))]
set_option maxRecDepth 100000 in
theorem infDRan : runOfG Try.prog (gOracle [sgnD, topD]) noLoops (bodies fns) [] 4000 infD = some infDR := by kernel_rfl
end Go.Proofs.Ytnodelimomljbaa.RunRefA

/- The reference's floats: bits of two words. No condition. -/
namespace Go.Sx.Ref
open Go Go.Sx
theorem lenN_le (n k : Nat) : lenN n ≤ k ↔ n < 2 ^ k := by
  unfold lenN
  split
  · rename_i h; subst h; simp [Nat.two_pow_pos]
  · rename_i h; rw [← Nat.log2_lt h]; omega
theorem lenN_lt (n : Nat) : n < 2 ^ lenN n := (lenN_le n _).1 (Nat.le_refl _)
theorem lenN_two (n : Nat) (h : 0 < n) : lenN n = lenN (n / 2) + 1 := by
  apply Nat.le_antisymm
  · rw [lenN_le, Nat.pow_succ]
    have := lenN_lt (n / 2)
    omega
  · have h1 := lenN_lt n
    have h2 : 0 < lenN n := by
      rcases Nat.eq_zero_or_pos (lenN n) with h0 | h0
      · rw [h0] at h1; simp at h1; omega
      · exact h0
    have h3 : lenN (n / 2) ≤ lenN n - 1 := by
      rw [lenN_le]
      have e : 2 ^ lenN n = 2 ^ (lenN n - 1) * 2 := by rw [← Nat.pow_succ]; congr 1; omega
      omega
    omega
theorem lenN_64 {n : Nat} (h : n < 18446744073709551616) : lenN n ≤ 64 := (lenN_le n 64).2 (by simpa using h)
theorem lenN_hi {hi lo : Nat} (h : 0 < hi) (hl : lo < 18446744073709551616) : lenN (hi * 18446744073709551616 + lo) = lenN hi + 64 := by
  have e64 : (18446744073709551616 : Nat) = 2 ^ 64 := by decide
  apply Nat.le_antisymm
  · rw [lenN_le, Nat.pow_add, ← e64]
    have := lenN_lt hi
    have h2 : (hi + 1) * 18446744073709551616 ≤ 2 ^ lenN hi * 18446744073709551616 := Nat.mul_le_mul_right _ this
    omega
  · have h0 : 0 < lenN hi := by
      rcases Nat.eq_zero_or_pos (lenN hi) with h0 | h0
      · have := lenN_lt hi; rw [h0] at this; simp at this; omega
      · exact h0
    rcases Nat.lt_or_ge (lenN (hi * 18446744073709551616 + lo)) (lenN hi + 64) with hc | hc
    · have h1 : lenN (hi * 18446744073709551616 + lo) ≤ (lenN hi - 1) + 64 := by omega
      rw [lenN_le, Nat.pow_add, ← e64] at h1
      have h2 : hi < 2 ^ (lenN hi - 1) := by
        rcases Nat.lt_or_ge hi (2 ^ (lenN hi - 1)) with h' | h'
        · exact h'
        · have := Nat.mul_le_mul_right 18446744073709551616 h'; omega
      have := (lenN_le hi _).2 h2
      omega
    · exact hc
/-- bits from i to k, split at the first -/
theorem bits_more (m d : Nat) : (m % 2 ^ (d + 1) ≠ 0) ↔ (m % 2 ≠ 0 ∨ m / 2 % 2 ^ d ≠ 0) := by
  rw [Nat.pow_succ, Nat.mul_comm, Nat.mod_mul]
  omega
/-- what was lost, by the highest lost bit and those below -/
theorem lost_split (n k : Nat) : lost n ((k : Int) + 1) = if n / 2 ^ k % 2 ≠ 0 then (if n % 2 ^ k ≠ 0 then 1 else 0) else (if n % 2 ^ k ≠ 0 then -1 else 2) := by
  unfold lost
  rw [if_neg (by omega)]
  have e : ((k : Int) + 1).toNat = k + 1 := by omega
  rw [e, Nat.pow_succ, Nat.mod_mul]
  have hp := Nat.two_pow_pos k
  have hr := Nat.mod_lt n hp
  have hb : n / 2 ^ k % 2 = 0 ∨ n / 2 ^ k % 2 = 1 := by omega
  rcases hb with hb | hb
  · rw [hb]
    simp only [Nat.mul_zero, Nat.add_zero, ne_eq, not_true_eq_false, if_false]
    by_cases h0 : n % 2 ^ k = 0
    · rw [if_pos h0, if_neg (by omega)]
    · rw [if_neg h0, if_pos (by omega), if_pos h0]
  · rw [hb]
    simp only [Nat.mul_one]
    rw [if_neg (by omega), if_neg (by omega)]
    by_cases h0 : n % 2 ^ k = 0
    · rw [if_pos (by omega)]; simp [h0]
    · rw [if_neg (by omega)]; simp [h0]
theorem div_hi {hi lo k : Nat} (hl : lo < 18446744073709551616) (hk : 64 ≤ k) : (hi * 18446744073709551616 + lo) / 2 ^ k = hi / 2 ^ (k - 64) := by
  have e64 : (18446744073709551616 : Nat) = 2 ^ 64 := by decide
  have e : 2 ^ k = 18446744073709551616 * 2 ^ (k - 64) := by rw [e64, ← Nat.pow_add]; congr 1; omega
  rw [e, ← Nat.div_div_eq_div_mul]
  congr 1
  omega
theorem div_lo {hi lo k : Nat} (hk : k ≤ 64) : (hi * 18446744073709551616 + lo) / 2 ^ k = hi * 2 ^ (64 - k) + lo / 2 ^ k := by
  have e64 : (18446744073709551616 : Nat) = 2 ^ 64 := by decide
  have e : (18446744073709551616 : Nat) = 2 ^ (64 - k) * 2 ^ k := by rw [e64, ← Nat.pow_add]; congr 1; omega
  rw [e, ← Nat.mul_assoc, Nat.add_comm, Nat.add_mul_div_right _ _ (Nat.two_pow_pos k), Nat.add_comm]
end Go.Sx.Ref

/- Sums, products, quotients of floats: in either row; with noughts and ones. No condition. -/
namespace Go.Sx
open Ieee

theorem sum_comm (a b : Datum) : a.sum b = b.sum a := by
  cases a with
  | nan s t => cases b <;> rfl
  | infinity s =>
    cases b with
    | nan => rfl
    | number => rfl
    | infinity t => cases s <;> cases t <;> rfl
  | number s m i =>
    cases b with
    | nan => rfl
    | infinity => rfl
    | number t n j =>
      simp only [Datum.sum]
      rw [Int.min_comm j i, Int.add_comm (Ieee.signed t n _), Bool.and_comm t s]
theorem product_comm (a b : Datum) : a.product b = b.product a := by
  cases a with
  | nan s t => cases b <;> rfl
  | infinity s =>
    cases b with
    | nan => rfl
    | number t n j => simp only [Datum.product]
    | infinity t => simp only [Datum.product]; rw [Bool.xor_comm]
  | number s m i =>
    cases b with
    | nan => rfl
    | infinity => simp only [Datum.product]
    | number t n j => simp only [Datum.product]; rw [Bool.xor_comm, Nat.mul_comm, Int.add_comm]
theorem add_comm' (f : Format) (x y : Nat) : f.add x y = f.add y x := by unfold Format.add; rw [sum_comm]
theorem mul_comm' (f : Format) (x y : Nat) : f.mul x y = f.mul y x := by unfold Format.mul; rw [product_comm]

/-- what a word that is a number stands for -/
theorem read_cases (f : Format) (he : 2 ≤ f.exponentBits) {w : Nat} (hw : w < 2 * f.signWeight) :
    (∃ s m i, f.read w = .number s m i ∧ f.leastPlace ≤ i ∧ m < 2 * f.binade ∧ f.nearest s m i = w ∧ w % f.signWeight < f.infRung ∧ (w / f.signWeight % 2 == 1) = s ∧ (m = 0 ↔ w % f.signWeight = 0)) ∨
    (∃ s, f.read w = .infinity s ∧ f.word s f.infRung = w ∧ w % f.signWeight = f.infRung) ∨
    (∃ s t, f.read w = .nan s t ∧ f.infRung < w % f.signWeight) := by
  rcases Nat.lt_trichotomy (w % f.signWeight) f.infRung with h | h | h
  · refine .inl ⟨_, _, _, read_fin f h, place_ge f _, ?_, ?_, h, rfl, ?_⟩
    · unfold magOf
      have := binade_pos f
      have := Nat.mod_lt (w % f.signWeight) this
      split <;> omega
    · have := write_read f he hw (Nat.le_of_lt h)
      rw [read_fin f h] at this
      exact this
    · unfold magOf
      have := binade_pos f
      split <;> omega
  · refine .inr (.inl ⟨_, read_inf f he h, ?_, h⟩)
    have := write_read f he hw (Nat.le_of_eq h)
    rw [read_inf f he h] at this
    exact this
  · exact .inr (.inr ⟨_, _, read_nan f he h, h⟩)

theorem sub_self' (f : Format) (he : 2 ≤ f.exponentBits) {w : Nat} (hw : w < 2 * f.signWeight) : f.sub w w = if w % f.signWeight < f.infRung then some 0 else none := by
  unfold Format.sub
  rcases read_cases f he hw with ⟨s, m, i, h, _, _, _, hl, _⟩ | ⟨s, h, _, hl⟩ | ⟨s, t, h, hl⟩
  · rw [h, if_pos hl]
    have hz : Ieee.signed s m 0 + Ieee.signed (!s) m 0 = 0 := by
      unfold Ieee.signed; cases s <;> simp <;> omega
    simp only [Datum.opposite, Datum.sum, Int.min_self, Int.sub_self, Int.toNat_zero, hz, if_true, Option.map_some, Int.natAbs_zero, Option.some.injEq]
    show f.nearest _ 0 _ = 0
    unfold Format.nearest
    rw [if_pos rfl]
    unfold Format.word
    cases s <;> rfl
  · rw [h, if_neg (by omega)]
    cases s <;> rfl
  · rw [h, if_neg (by omega)]; rfl
theorem nat_signed (s : Bool) (m k : Nat) : (Ieee.signed s m k).natAbs = m * 2 ^ k ∧ (m ≠ 0 → (decide (Ieee.signed s m k < 0) = s ∧ Ieee.signed s m k ≠ 0)) ∧ (m = 0 → Ieee.signed s m k = 0) := by
  have hp : 0 < 2 ^ k := Nat.two_pow_pos k
  unfold Ieee.signed
  rw [Nat.shiftLeft_eq]
  refine ⟨?_, fun h => ?_, fun h => ?_⟩
  · generalize m * 2 ^ k = z
    cases s
    · show ((z : Nat) : Int).natAbs = z; omega
    · show (-((z : Nat) : Int)).natAbs = z; omega
  · have : 0 < m * 2 ^ k := Nat.mul_pos (by omega) hp
    generalize m * 2 ^ k = z at *
    cases s
    · show decide (((z : Nat) : Int) < 0) = false ∧ ((z : Nat) : Int) ≠ 0
      exact ⟨decide_eq_false (by omega), by omega⟩
    · show decide (-((z : Nat) : Int) < 0) = true ∧ -((z : Nat) : Int) ≠ 0
      exact ⟨decide_eq_true (by omega), by omega⟩
  · subst h
    rw [Nat.zero_mul]
    cases s <;> rfl
/-- a nought added -/
theorem add_zero' (f : Format) (he : 2 ≤ f.exponentBits) {w : Nat} (hw : w < 2 * f.signWeight) (t : Bool) : f.add w (f.word t 0) =
    if f.infRung < w % f.signWeight then none else if w % f.signWeight = 0 then some (f.word ((w / f.signWeight % 2 == 1) && t) 0) else some w := by
  have hb := binade_le f he
  have hp := binade_pos f
  have hs := f.infRung_lt
  have hz : f.read (f.word t 0) = .number t 0 f.leastPlace := by
    obtain ⟨h1, h2⟩ := mod_word f t (r := 0) (by omega)
    rw [read_fin f (by rw [h1]; omega), h1, h2]
    unfold magOf placeOf
    rw [if_pos hp, if_pos hp]
  unfold Format.add
  rw [hz]
  rcases read_cases f he hw with ⟨s, m, i, h, hi, _, hn, hl, hsg, hm⟩ | ⟨s, h, hn, hl⟩ | ⟨s, u, h, hl⟩
  · rw [h, if_neg (by omega)]
    have e0 : Ieee.signed t 0 (f.leastPlace - min i f.leastPlace).toNat = 0 := (nat_signed t 0 _).2.2 rfl
    obtain ⟨n1, n2, n3⟩ := nat_signed s m (i - min i f.leastPlace).toNat
    simp only [Datum.sum, e0, Int.add_zero, Option.map_some]
    by_cases h0 : m = 0
    · rw [if_pos (hm.1 h0)]
      rw [n3 h0, hsg]
      simp only [if_true, Int.natAbs_zero, Option.some.injEq]
      show f.nearest _ 0 _ = _
      unfold Format.nearest
      rw [if_pos rfl]
    · rw [if_neg (fun hh => h0 (hm.2 hh))]
      obtain ⟨a1, a2⟩ := n2 h0
      rw [if_neg a2]
      congr 1
      show f.nearest _ _ _ = w
      rw [n1, a1]
      have e1 : min i f.leastPlace = i - ((i - min i f.leastPlace).toNat : Nat) := by omega
      conv => lhs; rw [e1]
      have e2 : (i - (i - ((i - min i f.leastPlace).toNat : Nat))).toNat = (i - min i f.leastPlace).toNat := by omega
      rw [e2, nearest_scale]; exact hn
  · rw [h, if_neg (by omega), if_neg (by omega)]
    show some (f.word s f.infRung) = some w
    rw [hn]
  · rw [h, if_pos hl]; rfl
theorem read_one64 : Ieee.double.read 4607182418800017408 = .number false (2 ^ 52) (-52) := by decide
theorem read_one32 : Ieee.single.read 1065353216 = .number false (2 ^ 23) (-23) := by decide
theorem one64 : Ieee.double.nearest false 1 0 = 4607182418800017408 := by decide
theorem one32 : Ieee.single.nearest false 1 0 = 1065353216 := by decide
theorem mul_pow (f : Format) (he : 2 ≤ f.exponentBits) {w o k : Nat} (hw : w < 2 * f.signWeight) (ho : f.read o = .number false (2 ^ k) (-(k : Int))) : f.mul w o = if f.infRung < w % f.signWeight then none else some w := by
  unfold Format.mul
  rw [ho]
  rcases read_cases f he hw with ⟨s, m, i, h, hi, _, hn, hl, hsg, hm⟩ | ⟨s, h, hn, hl⟩ | ⟨s, u, h, hl⟩
  · rw [h, if_neg (by omega)]
    simp only [Datum.product, Bool.bne_false, Option.map_some, Option.some.injEq]
    show f.nearest _ _ _ = w
    rw [show i + -(k : Int) = i - (k : Nat) by omega, nearest_scale]
    simpa using hn
  · rw [h, if_neg (by omega)]
    have : (2 : Nat) ^ k ≠ 0 := by have := Nat.two_pow_pos k; omega
    simp only [Datum.product, this, if_false, Option.map_some, Option.some.injEq]
    show f.word _ _ = w
    simpa using hn
  · rw [h, if_pos hl]; rfl
theorem div_pow (f : Format) (he : 2 ≤ f.exponentBits) {w o : Nat} (hw : w < 2 * f.signWeight) (ho : f.read o = .number false (2 ^ f.fractionBits) (-(f.fractionBits : Int))) : f.div w o = if f.infRung < w % f.signWeight then none else some w := by
  unfold Format.div
  rw [ho]
  have hk : (2 : Nat) ^ f.fractionBits ≠ 0 := by have := Nat.two_pow_pos f.fractionBits; omega
  rcases read_cases f he hw with ⟨s, m, i, h, hi, hmb, hn, hl, hsg, hm⟩ | ⟨s, h, hn, hl⟩ | ⟨s, u, h, hl⟩
  · rw [h, if_neg (by omega)]
    simp only [Datum.quotient, hk, if_false, Option.map_some, Option.some.injEq]
    have hlog : m.log2 ≤ f.fractionBits := by
      by_cases h0 : m = 0
      · subst h0; simp
      · have := (Nat.log2_lt h0 (k := f.fractionBits + 1)).2 (by rw [Nat.pow_succ]; have : f.binade = 2 ^ f.fractionBits := rfl; omega)
        omega
    have hl2 : (2 ^ f.fractionBits).log2 = f.fractionBits := Nat.log2_two_pow
    rw [hl2]
    generalize hmo : f.fractionBits + 2 + f.fractionBits - m.log2 = more
    have hmore : f.fractionBits + 2 ≤ more := by omega
    have e1 : m <<< more = (m * 2 ^ (more - f.fractionBits)) * 2 ^ f.fractionBits := by
      rw [Nat.shiftLeft_eq, Nat.mul_assoc, ← Nat.pow_add]; congr 2; omega
    rw [e1, Nat.mul_div_cancel _ (Nat.two_pow_pos _), Nat.mul_mod_left]
    show f.nearest _ _ _ = w
    have e2 : 2 * (m * 2 ^ (more - f.fractionBits)) + ((0 : Nat) != 0).toNat = m * 2 ^ (more - f.fractionBits + 1) := by
      rw [Nat.pow_succ]; simp; rw [Nat.mul_comm 2, Nat.mul_assoc]
    rw [e2, show i - -(f.fractionBits : Int) - (more : Int) - 1 = i - ((more - f.fractionBits + 1 : Nat) : Int) by omega, nearest_scale]
    simpa using hn
  · rw [h, if_neg (by omega)]
    simp only [Datum.quotient, Option.map_some, Option.some.injEq]
    show f.word _ _ = w
    simpa using hn
  · rw [h, if_pos hl]; rfl
theorem div_self' (f : Format) (he : 2 ≤ f.exponentBits) {w : Nat} (hw : w < 2 * f.signWeight) : f.div w w = if w % f.signWeight < f.infRung ∧ w % f.signWeight ≠ 0 then some (f.nearest false 1 0) else none := by
  unfold Format.div
  rcases read_cases f he hw with ⟨s, m, i, h, hi, hmb, hn, hl, hsg, hm⟩ | ⟨s, h, hn, hl⟩ | ⟨s, u, h, hl⟩
  · rw [h]
    by_cases h0 : m = 0
    · rw [if_neg (fun hh => hh.2 (hm.1 h0))]
      simp only [Datum.quotient, h0, if_true]; rfl
    · rw [if_pos ⟨hl, fun hh => h0 (hm.2 hh)⟩]
      simp only [Datum.quotient, h0, if_false, Option.map_some, Option.some.injEq]
      generalize hmo : f.fractionBits + 2 + m.log2 - m.log2 = more
      rw [Nat.shiftLeft_eq, Nat.mul_div_cancel_left _ (by omega), Nat.mul_mod_right]
      show f.nearest _ _ _ = _
      have e2 : 2 * 2 ^ more + ((0 : Nat) != 0).toNat = 1 * 2 ^ (more + 1) := by rw [Nat.pow_succ]; simp; rw [Nat.mul_comm]
      rw [e2, show i - i - (more : Int) - 1 = 0 - ((more + 1 : Nat) : Int) by omega, nearest_scale]
      simp
  · rw [h, if_neg (by omega)]; rfl
  · rw [h, if_neg (by omega)]; rfl
end Go.Sx

/- The same over whole numbers that are the words: both formats. No condition. -/
namespace Go.Sx
open Go Ieee

def kM : FloatKind → Int
  | .f32 => 2147483648
  | .f64 => 9223372036854775808
def kI : FloatKind → Int
  | .f32 => 2139095040
  | .f64 => 9218868437227405312
/-- the magnitude's rung -/
def mg (k : FloatKind) (x : Int) : Int := if kM k ≤ x then x - kM k else x
/-- the place among all -/
def ky (k : FloatKind) (x : Int) : Int := if kM k ≤ x then kM k - x else x
def one (k : FloatKind) : Int := match k with
  | .f32 => 1065353216
  | .f64 => 4607182418800017408
theorem fmt_e (k : FloatKind) : 2 ≤ k.format.exponentBits := by cases k <;> decide
theorem fmt_M (k : FloatKind) : ((k.format.signWeight : Nat) : Int) = kM k := by cases k <;> decide
theorem fmt_I (k : FloatKind) : ((k.format.infRung : Nat) : Int) = kI k := by cases k <;> decide
theorem top_M (k : FloatKind) : topF k = 2 * kM k - 1 := by cases k <;> decide
theorem M_pos (k : FloatKind) : 0 < kM k ∧ 0 < kI k ∧ kI k < kM k := by cases k <;> decide
section
variable {k : FloatKind} {x : Int} (hx : 0 ≤ x ∧ x ≤ topF k)
include hx
theorem nat_lt : x.toNat < 2 * k.format.signWeight := by
  have := fmt_M k; have := top_M k; omega
theorem nat_mod : ((x.toNat % k.format.signWeight : Nat) : Int) = mg k x ∧ ((x.toNat / k.format.signWeight % 2 == 1) = decide (kM k ≤ x)) := by
  have h1 := fmt_M k; have h2 := top_M k; have h3 := (M_pos k).1
  have hp : 0 < k.format.signWeight := by omega
  unfold mg
  by_cases h : kM k ≤ x
  · rw [if_pos h, decide_eq_true h]
    have e1 : x.toNat / k.format.signWeight = 1 := by
      rw [Nat.div_eq_iff hp]; omega
    have e2 := Nat.div_add_mod x.toNat k.format.signWeight
    rw [e1] at e2 ⊢
    exact ⟨by omega, rfl⟩
  · rw [if_neg h, decide_eq_false h]
    have e1 : x.toNat / k.format.signWeight = 0 := Nat.div_eq_of_lt (by omega)
    have e2 := Nat.div_add_mod x.toNat k.format.signWeight
    rw [e1] at e2 ⊢
    exact ⟨by omega, rfl⟩
theorem mg_pos : 0 ≤ mg k x ∧ mg k x < kM k := by
  have := top_M k; unfold mg; split <;> omega
theorem key_nat : keyOf k.format x.toNat = ky k x := by
  obtain ⟨h1, h2⟩ := nat_mod hx
  unfold keyOf ky
  rw [h1, h2]
  unfold mg
  by_cases h : kM k ≤ x
  · simp [h]; omega
  · simp [h]
theorem nan_nat : k.format.infRung < x.toNat % k.format.signWeight ↔ kI k < mg k x := by
  have h1 := (nat_mod hx).1; have h2 := fmt_I k; omega
theorem fin_nat : x.toNat % k.format.signWeight < k.format.infRung ↔ mg k x < kI k := by
  have h1 := (nat_mod hx).1; have h2 := fmt_I k; omega
theorem zero_nat : x.toNat % k.format.signWeight = 0 ↔ mg k x = 0 := by
  have h1 := (nat_mod hx).1; omega
end
/-- how two floats stand -/
theorem ford_eq {k : FloatKind} {x y : Int} (hx : 0 ≤ x ∧ x ≤ topF k) (hy : 0 ≤ y ∧ y ≤ topF k) :
    fordI k x y = if kI k < mg k x ∨ kI k < mg k y then 3 else if ky k x = ky k y then 0 else if ky k x < ky k y then 1 else 2 := by
  unfold fordI
  by_cases h : kI k < mg k x ∨ kI k < mg k y
  · rw [if_pos h, order_none _ (fmt_e k) (h.imp (nan_nat hx).2 (nan_nat hy).2)]
  · rw [if_neg h]
    have h1 : x.toNat % k.format.signWeight ≤ k.format.infRung := Nat.le_of_not_lt fun hh => h (.inl ((nan_nat hx).1 hh))
    have h2 : y.toNat % k.format.signWeight ≤ k.format.infRung := Nat.le_of_not_lt fun hh => h (.inr ((nan_nat hy).1 hh))
    rw [order_key _ (fmt_e k) h1 h2, key_nat hx, key_nat hy]
    simp only [compare, compareOfLessAndEq]
    by_cases h3 : ky k x < ky k y
    · rw [if_pos h3, if_neg (by omega), if_pos h3]
    · rw [if_neg h3, if_neg h3]
      by_cases h4 : ky k x = ky k y
      · rw [if_pos h4, if_pos h4]
      · rw [if_neg h4, if_neg h4]

/-! ### arithmetic -/
theorem far_add_comm (k : FloatKind) (x y : Int) : farI .add k x y = farI .add k y x := by unfold farI; rw [add_comm']
theorem far_mul_comm (k : FloatKind) (x y : Int) : farI .mul k x y = farI .mul k y x := by unfold farI; rw [mul_comm']
theorem far_sub_self {k : FloatKind} {x : Int} (hx : 0 ≤ x ∧ x ≤ topF k) : farI .sub k x x = if mg k x < kI k then 0 else -1 := by
  unfold farI
  simp only
  rw [sub_self' _ (fmt_e k) (nat_lt hx)]
  by_cases h : mg k x < kI k
  · rw [if_pos h, if_pos ((fin_nat hx).2 h)]; rfl
  · rw [if_neg h, if_neg (fun hh => h ((fin_nat hx).1 hh))]
theorem word_zero (k : FloatKind) : k.format.word false 0 = 0 ∧ ((k.format.word true 0 : Nat) : Int) = kM k := by cases k <;> decide
theorem far_add_zero {k : FloatKind} {x : Int} (hx : 0 ≤ x ∧ x ≤ topF k) (t : Bool) : farI .add k x (if t then kM k else 0) =
    if kI k < mg k x then -1 else if mg k x = 0 then (if kM k ≤ x ∧ t = true then kM k else 0) else x := by
  have hz : (if t then kM k else 0 : Int).toNat = k.format.word t 0 := by
    obtain ⟨h1, h2⟩ := word_zero k
    cases t <;> simp <;> omega
  unfold farI
  simp only
  rw [hz, add_zero' _ (fmt_e k) (nat_lt hx)]
  by_cases h : kI k < mg k x
  · rw [if_pos h, if_pos ((nan_nat hx).2 h)]
  · rw [if_neg h, if_neg (fun hh => h ((nan_nat hx).1 hh))]
    by_cases h0 : mg k x = 0
    · rw [if_pos h0, if_pos ((zero_nat hx).2 h0), (nat_mod hx).2]
      obtain ⟨h1, h2⟩ := word_zero k
      by_cases hs : kM k ≤ x <;> cases t <;> simp [hs] <;> omega
    · rw [if_neg h0, if_neg (fun hh => h0 ((zero_nat hx).1 hh))]
      simp only; omega
theorem far_sub_zero {k : FloatKind} {x : Int} (hx : 0 ≤ x ∧ x ≤ topF k) : farI .sub k x 0 = if kI k < mg k x then -1 else x := by
  have h : farI .add k x (kM k) = if kI k < mg k x then -1 else if mg k x = 0 then (if kM k ≤ x then kM k else 0) else x := by
    have := far_add_zero hx true
    simpa using this
  have e : farI .sub k x 0 = farI .add k x (kM k) := by
    have : k.format.sub x.toNat (0 : Int).toNat = k.format.add x.toNat (kM k).toNat := by
      unfold Format.sub Format.add
      have : (k.format.read (0 : Int).toNat).opposite = k.format.read (kM k).toNat := by cases k <;> decide
      rw [this]
    unfold farI
    simp only
    rw [this]
  rw [e, h]
  by_cases h1 : kI k < mg k x
  · rw [if_pos h1, if_pos h1]
  · rw [if_neg h1, if_neg h1]
    by_cases h0 : mg k x = 0
    · rw [if_pos h0]
      unfold mg at h0
      split at h0
      · rename_i hs; rw [if_pos hs]; omega
      · rename_i hs; rw [if_neg hs]; omega
    · rw [if_neg h0]
theorem far_mul_one {k : FloatKind} {x : Int} (hx : 0 ≤ x ∧ x ≤ topF k) : farI .mul k x (one k) = if kI k < mg k x then -1 else x := by
  unfold farI
  simp only
  have ho : ∃ j : Nat, k.format.read (one k).toNat = .number false (2 ^ j) (-(j : Int)) := by
    cases k
    · exact ⟨23, read_one32⟩
    · exact ⟨52, read_one64⟩
  obtain ⟨j, ho⟩ := ho
  rw [mul_pow _ (fmt_e k) (nat_lt hx) ho]
  by_cases h : kI k < mg k x
  · rw [if_pos h, if_pos ((nan_nat hx).2 h)]
  · rw [if_neg h, if_neg (fun hh => h ((nan_nat hx).1 hh))]
    simp only; omega
theorem far_div_one {k : FloatKind} {x : Int} (hx : 0 ≤ x ∧ x ≤ topF k) : farI .quo k x (one k) = if kI k < mg k x then -1 else x := by
  unfold farI
  simp only
  have ho : k.format.read (one k).toNat = .number false (2 ^ k.format.fractionBits) (-(k.format.fractionBits : Int)) := by
    cases k
    · exact read_one32
    · exact read_one64
  rw [div_pow _ (fmt_e k) (nat_lt hx) ho]
  by_cases h : kI k < mg k x
  · rw [if_pos h, if_pos ((nan_nat hx).2 h)]
  · rw [if_neg h, if_neg (fun hh => h ((nan_nat hx).1 hh))]
    simp only; omega
theorem far_div_self {k : FloatKind} {x : Int} (hx : 0 ≤ x ∧ x ≤ topF k) : farI .quo k x x = if mg k x < kI k ∧ mg k x ≠ 0 then one k else -1 := by
  unfold farI
  simp only
  rw [div_self' _ (fmt_e k) (nat_lt hx)]
  by_cases h : mg k x < kI k ∧ mg k x ≠ 0
  · rw [if_pos h, if_pos ⟨(fin_nat hx).2 h.1, fun hh => h.2 ((zero_nat hx).1 hh)⟩]
    cases k
    · show ((Ieee.single.nearest false 1 0 : Nat) : Int) = _; rw [one32]; rfl
    · show ((Ieee.double.nearest false 1 0 : Nat) : Int) = _; rw [one64]; rfl
  · rw [if_neg h, if_neg (fun hh => h ⟨(fin_nat hx).1 hh.1, fun h0 => hh.2 ((zero_nat hx).2 h0)⟩)]
end Go.Sx

/- The sign's bit of words of 64 and of 32 bits. No condition. -/
namespace Go.Sx
open Go

theorem xor_top {n a : Nat} (h : a < 2 ^ n) : a ^^^ 2 ^ n = 2 ^ n + a := by
  apply Nat.eq_of_testBit_eq
  intro j
  rw [Nat.testBit_xor, Nat.testBit_two_pow]
  rcases Nat.lt_trichotomy j n with h1 | h1 | h1
  · rw [Nat.testBit_two_pow_add_gt h1]
    have : ¬ n = j := by omega
    simp [this]
  · subst h1
    rw [Nat.testBit_two_pow_add_eq, Nat.testBit_lt_two_pow h]; simp
  · have h2 : 2 ^ (n + 1) ≤ 2 ^ j := Nat.pow_le_pow_right (by decide) h1
    have h3 : 2 ^ (n + 1) = 2 * 2 ^ n := Nat.pow_succ'
    rw [Nat.testBit_lt_two_pow (show a < 2 ^ j by omega), Nat.testBit_lt_two_pow (show 2 ^ n + a < 2 ^ j by omega)]
    have : ¬ n = j := by omega
    simp [this]
theorem xor_top' {n a : Nat} (h : a < 2 ^ n) : (2 ^ n + a) ^^^ 2 ^ n = a := by
  rw [← xor_top h, Nat.xor_assoc, Nat.xor_self, Nat.xor_zero]
theorem and_top {n a : Nat} (h : a < 2 ^ n) : a &&& 2 ^ n = 0 := by
  apply Nat.eq_of_testBit_eq
  intro j
  rw [Nat.testBit_and, Nat.testBit_two_pow, Nat.zero_testBit]
  by_cases hj : n = j
  · subst hj; rw [Nat.testBit_lt_two_pow h]; rfl
  · simp [hj]
theorem and_top' {n a : Nat} (h : a < 2 ^ n) : (2 ^ n + a) &&& 2 ^ n = 2 ^ n := by
  apply Nat.eq_of_testBit_eq
  intro j
  rw [Nat.testBit_and, Nat.testBit_two_pow]
  by_cases hj : n = j
  · subst hj; rw [Nat.testBit_two_pow_add_eq, Nat.testBit_lt_two_pow h]; simp
  · simp [hj]
theorem ofInt_nat (x : Int) : (BitVec.ofInt 64 x).toNat = (x % 18446744073709551616).toNat := by
  rw [BitVec.toNat_ofInt]; rfl
theorem i64_nat {n : Nat} (h : n < 18446744073709551616) : IntKind.i64.wrap (n : Int) = if n < 9223372036854775808 then (n : Int) else (n : Int) - 18446744073709551616 := by
  simp only [IntKind.wrap, IntKind.bits, IntKind.signed]
  simp
  split <;> split <;> omega
/-- without the sign -/
theorem andNot_sign (x : Int) : bitI .andNot .i64 x (-9223372036854775808) = x % 9223372036854775808 := by
  unfold bitI
  have e : (BitVec.ofInt IntKind.i64.bits x &&& ~~~BitVec.ofInt IntKind.i64.bits (-9223372036854775808)).toNat = (x % 9223372036854775808).toNat := by
    show (BitVec.ofInt 64 x &&& ~~~BitVec.ofInt 64 (-9223372036854775808)).toNat = _
    rw [BitVec.toNat_and, ofInt_nat, show (~~~BitVec.ofInt 64 (-9223372036854775808)).toNat = 2 ^ 63 - 1 by decide, Nat.and_two_pow_sub_one_eq_mod]
    omega
  simp only [e]
  rw [i64_nat (by omega), if_pos (by omega)]
  omega
/-- the sign turned -/
theorem xor_sign (x : Int) : bitI .xor .i64 x (-9223372036854775808) = if x % 18446744073709551616 < 9223372036854775808 then x % 18446744073709551616 - 9223372036854775808 else x % 18446744073709551616 - 9223372036854775808 := by
  unfold bitI
  have hs : (BitVec.ofInt 64 (-9223372036854775808)).toNat = 2 ^ 63 := by decide
  have e : (BitVec.ofInt IntKind.i64.bits x ^^^ BitVec.ofInt IntKind.i64.bits (-9223372036854775808)).toNat = (if x % 18446744073709551616 < 9223372036854775808 then x % 18446744073709551616 + 9223372036854775808 else x % 18446744073709551616 - 9223372036854775808 : Int).toNat := by
    show (BitVec.ofInt 64 x ^^^ BitVec.ofInt 64 (-9223372036854775808)).toNat = _
    rw [BitVec.toNat_xor, ofInt_nat, hs]
    split
    · rw [xor_top (by omega)]; omega
    · obtain ⟨a, ha1, ha2⟩ : ∃ a : Nat, (x % 18446744073709551616).toNat = 2 ^ 63 + a ∧ a < 2 ^ 63 := ⟨(x % 18446744073709551616 - 9223372036854775808).toNat, by omega, by omega⟩
      rw [ha1, xor_top' ha2]; omega
  simp only [e]
  split
  · rename_i h
    rw [i64_nat (by omega), if_neg (by omega)]; omega
  · rename_i h
    rw [i64_nat (by omega), if_pos (by omega)]; omega
theorem xor_sign' (x : Int) : bitI .xor .i64 x (-9223372036854775808) = x % 18446744073709551616 - 9223372036854775808 := by
  rw [xor_sign]; split <;> rfl
/-- the sign alone -/
theorem and_sign (x : Int) : bitI .and .i64 x (-9223372036854775808) = if x % 18446744073709551616 < 9223372036854775808 then 0 else -9223372036854775808 := by
  unfold bitI
  have hs : (BitVec.ofInt 64 (-9223372036854775808)).toNat = 2 ^ 63 := by decide
  have e : (BitVec.ofInt IntKind.i64.bits x &&& BitVec.ofInt IntKind.i64.bits (-9223372036854775808)).toNat = if x % 18446744073709551616 < 9223372036854775808 then 0 else 9223372036854775808 := by
    show (BitVec.ofInt 64 x &&& BitVec.ofInt 64 (-9223372036854775808)).toNat = _
    rw [BitVec.toNat_and, ofInt_nat, hs]
    split
    · exact and_top (by omega)
    · obtain ⟨a, ha1, ha2⟩ : ∃ a : Nat, (x % 18446744073709551616).toNat = 2 ^ 63 + a ∧ a < 2 ^ 63 := ⟨(x % 18446744073709551616 - 9223372036854775808).toNat, by omega, by omega⟩
      rw [ha1]; exact and_top' ha2
  simp only [e]
  split
  · rfl
  · rfl
/-- a sign put on -/
theorem or_sign {x s : Int} (h : 0 ≤ x ∧ x < 9223372036854775808) (hs : s = 0 ∨ s = -9223372036854775808) : bitI .or .i64 x s = x + s := by
  unfold bitI
  have e : (BitVec.ofInt IntKind.i64.bits x ||| BitVec.ofInt IntKind.i64.bits s).toNat = (x + (if s = 0 then 0 else 9223372036854775808)).toNat := by
    show (BitVec.ofInt 64 x ||| BitVec.ofInt 64 s).toNat = _
    rw [BitVec.toNat_or, ofInt_nat]
    rcases hs with rfl | rfl
    · rw [if_pos rfl, show (BitVec.ofInt 64 0).toNat = 0 by decide, Nat.or_zero]; omega
    · rw [if_neg (by decide), show (BitVec.ofInt 64 (-9223372036854775808)).toNat = 2 ^ 63 * 1 by decide, Nat.or_comm, ← Nat.two_pow_add_eq_or_of_lt (by omega)]; omega
  simp only [e]
  rcases hs with rfl | rfl
  · rw [if_pos rfl, i64_nat (by omega), if_pos (by omega)]; omega
  · rw [if_neg (by decide), i64_nat (by omega), if_neg (by omega)]; omega
end Go.Sx

/- Words of 64 bits as whole numbers of Go's int: what the laws of floats ask. No condition. -/
namespace Go.Sx
open Go

def W64 (n : Int) : Int := n % 18446744073709551616
theorem w64_eq (n : Int) : IntKind.u64.wrap n = W64 n := by simp [W64, IntKind.wrap, IntKind.bits, IntKind.signed]
theorem w64_in (n : Int) : 0 ≤ W64 n ∧ W64 n ≤ topF .f64 := by unfold W64; simp only [topF]; omega
theorem i64_back {n : Int} (h : -9223372036854775808 ≤ n ∧ n ≤ 9223372036854775807) : IntKind.i64.wrap (W64 n) = n := by
  unfold W64; simp only [IntKind.wrap, IntKind.bits, IntKind.signed]; simp; split <;> omega
theorem kM64 : kM .f64 = 9223372036854775808 := rfl
theorem kI64 : kI .f64 = 9218868437227405312 := rfl
theorem mg64 (n : Int) : mg .f64 (W64 n) = n % 9223372036854775808 := by
  have e : W64 n = n % 18446744073709551616 := rfl
  unfold mg
  by_cases h : kM .f64 ≤ W64 n
  · rw [if_pos h]; rw [kM64] at h ⊢; omega
  · rw [if_neg h]; rw [kM64] at h; omega
theorem ky64 {n : Int} (h : -9223372036854775808 ≤ n ∧ n ≤ 9223372036854775807) : ky .f64 (W64 n) = if n < 0 then -9223372036854775808 - n else n := by
  have e : W64 n = n % 18446744073709551616 := rfl
  unfold ky
  by_cases hh : kM .f64 ≤ W64 n
  · rw [if_pos hh]; rw [kM64] at hh ⊢; rw [if_pos (by omega)]; omega
  · rw [if_neg hh]; rw [kM64] at hh; rw [if_neg (by omega)]; omega
theorem big64 {n : Int} (h : -9223372036854775808 ≤ n ∧ n ≤ 9223372036854775807) : kM .f64 ≤ W64 n ↔ n < 0 := by
  unfold W64; simp only [kM]; omega
/-- a word's back in Go's int, of what came out -/
theorem i64_of {m : Int} (h : 0 ≤ m ∧ m ≤ topF .f64) : IntKind.i64.wrap m = if m < 9223372036854775808 then m else m - 18446744073709551616 := by
  simp only [topF] at h
  simp only [IntKind.wrap, IntKind.bits, IntKind.signed]; simp; split <;> split <;> omega
theorem ford64 {x y : Int} (hx : -9223372036854775808 ≤ x ∧ x ≤ 9223372036854775807) (hy : -9223372036854775808 ≤ y ∧ y ≤ 9223372036854775807) :
    fordI .f64 (W64 x) (W64 y) = if 9218868437227405312 < x % 9223372036854775808 ∨ 9218868437227405312 < y % 9223372036854775808 then 3 else
      if (if x < 0 then -9223372036854775808 - x else x) = (if y < 0 then -9223372036854775808 - y else y) then 0 else if (if x < 0 then -9223372036854775808 - x else x) < (if y < 0 then -9223372036854775808 - y else y) then 1 else 2 := by
  rw [ford_eq (w64_in x) (w64_in y), mg64, mg64, ky64 hx, ky64 hy]; rfl
theorem mul1_64 (n : Int) : farI .mul .f64 (W64 n) 4607182418800017408 = if 9218868437227405312 < n % 9223372036854775808 then -1 else W64 n := by
  have := far_mul_one (w64_in n); rw [mg64] at this; exact this
theorem div1_64 (n : Int) : farI .quo .f64 (W64 n) 4607182418800017408 = if 9218868437227405312 < n % 9223372036854775808 then -1 else W64 n := by
  have := far_div_one (w64_in n); rw [mg64] at this; exact this
theorem sub0_64 (n : Int) : farI .sub .f64 (W64 n) 0 = if 9218868437227405312 < n % 9223372036854775808 then -1 else W64 n := by
  have := far_sub_zero (w64_in n); rw [mg64] at this; exact this
theorem subs_64 (n : Int) : farI .sub .f64 (W64 n) (W64 n) = if n % 9223372036854775808 < 9218868437227405312 then 0 else -1 := by
  have := far_sub_self (w64_in n); rw [mg64] at this; exact this
theorem divs_64 (n : Int) : farI .quo .f64 (W64 n) (W64 n) = if n % 9223372036854775808 < 9218868437227405312 ∧ n % 9223372036854775808 ≠ 0 then 4607182418800017408 else -1 := by
  have := far_div_self (w64_in n); rw [mg64] at this; exact this
theorem add0_64 {n : Int} : farI .add .f64 (W64 n) 0 = if 9218868437227405312 < n % 9223372036854775808 then -1 else if n % 9223372036854775808 = 0 then 0 else W64 n := by
  have := far_add_zero (w64_in n) false; rw [mg64, kI64] at this
  simpa using this
theorem addm_64 {n : Int} (h : -9223372036854775808 ≤ n ∧ n ≤ 9223372036854775807) : farI .add .f64 (W64 n) 9223372036854775808 = if 9218868437227405312 < n % 9223372036854775808 then -1 else if n % 9223372036854775808 = 0 then (if n < 0 then 9223372036854775808 else 0) else W64 n := by
  have := far_add_zero (w64_in n) true; rw [mg64] at this
  have e := big64 h
  simp only [e, and_true, if_true] at this
  exact this
end Go.Sx

/- The lesser and the greater of two floats; what is no number. No condition. -/
namespace Go.Sx
open Go Ieee

theorem far_nan {op : BinOp} {k : FloatKind} {x y : Int} (hx : 0 ≤ x ∧ x ≤ topF k) (hy : 0 ≤ y ∧ y ≤ topF k) (h : kI k < mg k x ∨ kI k < mg k y) : farI op k x y = -1 := by
  have hd : (∃ s t, k.format.read x.toNat = .nan s t) ∨ ∃ s t, k.format.read y.toNat = .nan s t := by
    rcases h with h | h
    · exact .inl ⟨_, _, read_nan _ (fmt_e k) ((nan_nat hx).2 h)⟩
    · exact .inr ⟨_, _, read_nan _ (fmt_e k) ((nan_nat hy).2 h)⟩
  have e1 : k.format.add x.toNat y.toNat = none := by
    unfold Format.add
    rcases hd with ⟨s, t, hd⟩ | ⟨s, t, hd⟩
    · rw [hd]; rfl
    · rw [hd]; cases k.format.read x.toNat <;> rfl
  have e2 : k.format.sub x.toNat y.toNat = none := by
    unfold Format.sub
    rcases hd with ⟨s, t, hd⟩ | ⟨s, t, hd⟩
    · rw [hd]; rfl
    · rw [hd]; cases k.format.read x.toNat <;> rfl
  have e3 : k.format.mul x.toNat y.toNat = none := by
    unfold Format.mul
    rcases hd with ⟨s, t, hd⟩ | ⟨s, t, hd⟩
    · rw [hd]; rfl
    · rw [hd]; cases k.format.read x.toNat <;> rfl
  have e4 : k.format.div x.toNat y.toNat = none := by
    unfold Format.div
    rcases hd with ⟨s, t, hd⟩ | ⟨s, t, hd⟩
    · rw [hd]; rfl
    · rw [hd]; cases k.format.read x.toNat <;> rfl
  unfold farI
  cases op <;> simp only [e1, e2, e3, e4]
/-- what a word is -/
theorem dec_facts {k : FloatKind} {x : Int} (hx : 0 ≤ x ∧ x ≤ topF k) (hn : mg k x ≤ kI k) :
    (k.decode x.toNat).isNaN = false ∧ (∀ g : Bool, (k.decode x.toNat == .infinity g) = decide (mg k x = kI k ∧ decide (kM k ≤ x) = g)) ∧ (k.decode x.toNat).isZero = decide (mg k x = 0) ∧ (k.decode x.toNat).neg = decide (kM k ≤ x) := by
  have hM := M_pos k
  have hs := (nat_mod hx).2
  show (k.format.read x.toNat).isNaN = false ∧ (∀ g : Bool, (k.format.read x.toNat == .infinity g) = _) ∧ (k.format.read x.toNat).isZero = _ ∧ (k.format.read x.toNat).neg = _
  rcases read_cases k.format (fmt_e k) (nat_lt hx) with ⟨s, m, i, h, _, _, _, hl, hsg, hm⟩ | ⟨s, h, _, hl⟩ | ⟨s, t, h, hl⟩
  · have hl' := (fin_nat hx).1 hl
    rw [hs] at hsg
    rw [h]
    refine ⟨rfl, fun g => ?_, ?_, ?_⟩
    · rw [decide_eq_false (fun hh => by omega)]; rfl
    · have e : (Datum.number s m i).isZero = decide (m = 0) := by
        unfold Datum.isZero
        cases m <;> rfl
      rw [e]
      have := zero_nat hx
      by_cases h0 : m = 0
      · rw [decide_eq_true h0, decide_eq_true (this.1 (hm.1 h0))]
      · rw [decide_eq_false h0, decide_eq_false (fun hh => h0 (hm.2 (this.2 hh)))]
    · exact hsg.symm
  · have e1 := (nat_mod hx).1
    have e2 := fmt_I k
    have hk : mg k x = kI k := by omega
    rw [read_inf _ (fmt_e k) hl, hs]
    refine ⟨rfl, fun g => ?_, ?_, rfl⟩
    · generalize decide (kM k ≤ x) = c
      have h1 : ∀ c g : Bool, (Datum.infinity c == Datum.infinity g) = decide (c = g) := by decide
      rw [h1]
      by_cases hc : c = g
      · rw [decide_eq_true hc, decide_eq_true (show mg k x = kI k ∧ c = g from ⟨hk, hc⟩)]
      · rw [decide_eq_false hc, decide_eq_false (show ¬ (mg k x = kI k ∧ c = g) from fun hh => hc hh.2)]
    · rw [decide_eq_false (show ¬ mg k x = 0 by omega)]; rfl
  · have := (nan_nat hx).1 hl; omega
theorem enc_inf (g : Bool) : ((FloatKind.f64.encode (.infinity g) : Nat) : Int) = if g then kM .f64 + kI .f64 else kI .f64 := by cases g <;> decide
/-- the place among all, of the noughts the negative one below -/
def kz (k : FloatKind) (x : Int) : Int := if kM k ≤ x then kM k - x - 1 else x
theorem fpick_min {x y : Int} (hx : 0 ≤ x ∧ x ≤ topF .f64) (hy : 0 ≤ y ∧ y ≤ topF .f64) (nx : mg .f64 x ≤ kI .f64) (ny : mg .f64 y ≤ kI .f64) : fpickI true x y = if kz .f64 x < kz .f64 y then x else y := by
  obtain ⟨a1, a2, a3, a4⟩ := dec_facts hx nx
  obtain ⟨b1, b2, b3, b4⟩ := dec_facts hy ny
  have ho := order_key Ieee.double (by decide) (x := x.toNat) (y := y.toNat) (Nat.le_of_not_lt fun hh => by have := (nan_nat (k := .f64) hx).1 hh; omega) (Nat.le_of_not_lt fun hh => by have := (nan_nat (k := .f64) hy).1 hh; omega)
  have kx : keyOf Ieee.double x.toNat = ky .f64 x := key_nat (k := .f64) hx
  have ky' : keyOf Ieee.double y.toNat = ky .f64 y := key_nat (k := .f64) hy
  rw [kx, ky'] at ho
  have ho : (FloatKind.f64.decode x.toNat).order (FloatKind.f64.decode y.toNat) = some (compare (ky .f64 x) (ky .f64 y)) := ho
  have hc : (some (compare (ky .f64 x) (ky .f64 y)) == some Ordering.lt) = decide (ky .f64 x < ky .f64 y) := by
    rcases Int.lt_trichotomy (ky .f64 x) (ky .f64 y) with h | h | h
    · rw [cmp_lt h, decide_eq_true h]; rfl
    · rw [cmp_eq h, decide_eq_false (by omega)]; rfl
    · rw [cmp_gt h, decide_eq_false (by omega)]; rfl
  unfold fpickI
  simp only [a1, b1, a2, b2, a3, b3, a4, ho, if_true, hc, Bool.or_false, Bool.false_eq_true, if_false]
  have t : topF .f64 = 18446744073709551615 := rfl
  have gx : mg .f64 x = if kM .f64 ≤ x then x - kM .f64 else x := rfl
  have gy : mg .f64 y = if kM .f64 ≤ y then y - kM .f64 else y := rfl
  have lx : ky .f64 x = if kM .f64 ≤ x then kM .f64 - x else x := rfl
  have ly : ky .f64 y = if kM .f64 ≤ y then kM .f64 - y else y := rfl
  have zx : kz .f64 x = if kM .f64 ≤ x then kM .f64 - x - 1 else x := rfl
  have zy : kz .f64 y = if kM .f64 ≤ y then kM .f64 - y - 1 else y := rfl
  rw [t] at hx hy
  rw [kM64] at *
  rw [kI64] at nx ny
  have gz := enc_inf true
  simp only [kM64, kI64, if_true] at gz ⊢
  by_cases sx : 9223372036854775808 ≤ x <;> by_cases sy : 9223372036854775808 ≤ y <;> simp only [sx, sy, if_true, if_false, decide_true, decide_false] at gx gy lx ly zx zy ⊢ <;> rw [gx, gy, lx, ly, zx, zy] <;> (simp only [Bool.or_eq_true, Bool.and_eq_true, decide_eq_true_eq, and_true, and_false, beq_self_eq_true, Bool.false_eq_true, or_false, false_or, if_false, if_true, beq_iff_eq] ) <;> (repeat' split) <;> omega
theorem fpick_max {x y : Int} (hx : 0 ≤ x ∧ x ≤ topF .f64) (hy : 0 ≤ y ∧ y ≤ topF .f64) (nx : mg .f64 x ≤ kI .f64) (ny : mg .f64 y ≤ kI .f64) : fpickI false x y = if kz .f64 y < kz .f64 x then x else y := by
  obtain ⟨a1, a2, a3, a4⟩ := dec_facts hx nx
  obtain ⟨b1, b2, b3, b4⟩ := dec_facts hy ny
  have ho := order_key Ieee.double (by decide) (x := x.toNat) (y := y.toNat) (Nat.le_of_not_lt fun hh => by have := (nan_nat (k := .f64) hx).1 hh; omega) (Nat.le_of_not_lt fun hh => by have := (nan_nat (k := .f64) hy).1 hh; omega)
  have kx : keyOf Ieee.double x.toNat = ky .f64 x := key_nat (k := .f64) hx
  have ky' : keyOf Ieee.double y.toNat = ky .f64 y := key_nat (k := .f64) hy
  rw [kx, ky'] at ho
  have ho : (FloatKind.f64.decode x.toNat).order (FloatKind.f64.decode y.toNat) = some (compare (ky .f64 x) (ky .f64 y)) := ho
  have hc : (some (compare (ky .f64 x) (ky .f64 y)) == some Ordering.gt) = decide (ky .f64 y < ky .f64 x) := by
    rcases Int.lt_trichotomy (ky .f64 x) (ky .f64 y) with h | h | h
    · rw [cmp_lt h, decide_eq_false (by omega)]; rfl
    · rw [cmp_eq h, decide_eq_false (by omega)]; rfl
    · rw [cmp_gt h, decide_eq_true h]; rfl
  unfold fpickI
  simp only [a1, b1, a2, b2, a3, b3, a4, ho, hc, Bool.or_false, Bool.false_eq_true, if_false]
  have t : topF .f64 = 18446744073709551615 := rfl
  have gx : mg .f64 x = if kM .f64 ≤ x then x - kM .f64 else x := rfl
  have gy : mg .f64 y = if kM .f64 ≤ y then y - kM .f64 else y := rfl
  have lx : ky .f64 x = if kM .f64 ≤ x then kM .f64 - x else x := rfl
  have ly : ky .f64 y = if kM .f64 ≤ y then kM .f64 - y else y := rfl
  have zx : kz .f64 x = if kM .f64 ≤ x then kM .f64 - x - 1 else x := rfl
  have zy : kz .f64 y = if kM .f64 ≤ y then kM .f64 - y - 1 else y := rfl
  rw [t] at hx hy
  rw [kM64] at *
  rw [kI64] at nx ny
  have gz := enc_inf false
  simp only [kM64, kI64, Bool.false_eq_true, if_false] at gz ⊢
  by_cases sx : 9223372036854775808 ≤ x <;> by_cases sy : 9223372036854775808 ≤ y <;> simp only [sx, sy, if_true, if_false, decide_true, decide_false] at gx gy lx ly zx zy ⊢ <;> rw [gx, gy, lx, ly, zx, zy] <;> (try simp) <;> (repeat' split) <;> omega
end Go.Sx

/- Words of 32 bits as whole numbers of Go's int: what the laws of floats ask. No condition. -/
namespace Go.Sx
open Go

def W32 (n : Int) : Int := n % 4294967296
theorem w32_eq (n : Int) : IntKind.u32.wrap n = W32 n := by simp [W32, IntKind.wrap, IntKind.bits, IntKind.signed]
theorem w32_in (n : Int) : 0 ≤ W32 n ∧ W32 n ≤ topF .f32 := by unfold W32; simp only [topF]; omega
theorem w32_w (n : Int) : W32 (W32 n) = W32 n := by unfold W32; omega
theorem kM32 : kM .f32 = 2147483648 := rfl
theorem kI32 : kI .f32 = 2139095040 := rfl
theorem mg32 (n : Int) : mg .f32 (W32 n) = n % 2147483648 := by
  have e : W32 n = n % 4294967296 := rfl
  unfold mg
  by_cases h : kM .f32 ≤ W32 n
  · rw [if_pos h]; rw [kM32] at h ⊢; omega
  · rw [if_neg h]; rw [kM32] at h; omega
theorem ky32 (n : Int) : ky .f32 (W32 n) = if 2147483648 ≤ W32 n then 2147483648 - W32 n else W32 n := by
  unfold ky; rw [kM32]
theorem ford32 (x y : Int) : fordI .f32 (W32 x) (W32 y) = if 2139095040 < x % 2147483648 ∨ 2139095040 < y % 2147483648 then 3 else
      if (if 2147483648 ≤ W32 x then 2147483648 - W32 x else W32 x) = (if 2147483648 ≤ W32 y then 2147483648 - W32 y else W32 y) then 0 else if (if 2147483648 ≤ W32 x then 2147483648 - W32 x else W32 x) < (if 2147483648 ≤ W32 y then 2147483648 - W32 y else W32 y) then 1 else 2 := by
  rw [ford_eq (w32_in x) (w32_in y), mg32, mg32, ky32, ky32]; rfl
theorem mul1_32 (n : Int) : farI .mul .f32 (W32 n) 1065353216 = if 2139095040 < n % 2147483648 then -1 else W32 n := by
  have := far_mul_one (w32_in n); rw [mg32] at this; exact this
theorem div1_32 (n : Int) : farI .quo .f32 (W32 n) 1065353216 = if 2139095040 < n % 2147483648 then -1 else W32 n := by
  have := far_div_one (w32_in n); rw [mg32] at this; exact this
theorem sub0_32 (n : Int) : farI .sub .f32 (W32 n) 0 = if 2139095040 < n % 2147483648 then -1 else W32 n := by
  have := far_sub_zero (w32_in n); rw [mg32] at this; exact this
theorem subs_32 (n : Int) : farI .sub .f32 (W32 n) (W32 n) = if n % 2147483648 < 2139095040 then 0 else -1 := by
  have := far_sub_self (w32_in n); rw [mg32] at this; exact this
theorem divs_32 (n : Int) : farI .quo .f32 (W32 n) (W32 n) = if n % 2147483648 < 2139095040 ∧ n % 2147483648 ≠ 0 then 1065353216 else -1 := by
  have := far_div_self (w32_in n); rw [mg32] at this; exact this
theorem add0_32 (n : Int) : farI .add .f32 (W32 n) 0 = if 2139095040 < n % 2147483648 then -1 else if n % 2147483648 = 0 then 0 else W32 n := by
  have := far_add_zero (w32_in n) false; rw [mg32, kI32] at this
  simpa using this
theorem addm_32 (n : Int) : farI .add .f32 (W32 n) 2147483648 = if 2139095040 < n % 2147483648 then -1 else if n % 2147483648 = 0 then (if 2147483648 ≤ W32 n then 2147483648 else 0) else W32 n := by
  have := far_add_zero (w32_in n) true; rw [mg32] at this
  simp only [and_true, if_true] at this
  exact this

/-! ### the sign's bit -/
theorem i64_low {n : Nat} (h : n < 4294967296) : IntKind.i64.wrap (n : Int) = n := by rw [i64_nat (by omega), if_pos (by omega)]
theorem s32 : (BitVec.ofInt 64 2147483648).toNat = 2 ^ 31 := by decide
section
variable {x : Int} (h : 0 ≤ x ∧ x < 4294967296)
include h
theorem split32 : (x < 2147483648 ∧ (x % 18446744073709551616).toNat = x.toNat ∧ x.toNat < 2 ^ 31) ∨ (2147483648 ≤ x ∧ ∃ a : Nat, (x % 18446744073709551616).toNat = 2 ^ 31 + a ∧ a < 2 ^ 31 ∧ x = 2147483648 + (a : Int)) := by
  by_cases hs : x < 2147483648
  · exact .inl ⟨hs, by omega, by omega⟩
  · exact .inr ⟨by omega, (x - 2147483648).toNat, by omega, by omega, by omega⟩
theorem andNot32 : bitI .andNot .i64 x 2147483648 = x % 2147483648 := by
  unfold bitI
  have e : (BitVec.ofInt IntKind.i64.bits x &&& ~~~BitVec.ofInt IntKind.i64.bits 2147483648).toNat = (x % 2147483648).toNat := by
    show (BitVec.ofInt 64 x &&& ~~~BitVec.ofInt 64 2147483648).toNat = _
    have e1 : (~~~BitVec.ofInt 64 2147483648).toNat = 2 ^ 64 - 1 - 2 ^ 31 := by decide
    rw [BitVec.toNat_and, ofInt_nat, e1]
    have key : ∀ a : Nat, a < 2 ^ 31 → a &&& (2 ^ 64 - 1 - 2 ^ 31) = a ∧ (2 ^ 31 + a) &&& (2 ^ 64 - 1 - 2 ^ 31) = a := fun a ha => by
      have e2 : 2 ^ 64 - 1 - 2 ^ 31 = (2 ^ 64 - 1) ^^^ 2 ^ 31 := by decide
      have t : ∀ j, ((2 ^ 64 - 1) ^^^ 2 ^ 31).testBit j = ((decide (j < 64)) ^^ decide (31 = j)) := fun j => by
        rw [Nat.testBit_xor, Nat.testBit_two_pow_sub_one, Nat.testBit_two_pow]
      constructor
      · apply Nat.eq_of_testBit_eq
        intro j
        rw [e2, Nat.testBit_and, t]
        by_cases hj : j < 31
        · have h1 : j < 64 := by omega
          have h2 : ¬ 31 = j := by omega
          simp [h1, h2]
        · rw [Nat.testBit_lt_two_pow (Nat.lt_of_lt_of_le ha (Nat.pow_le_pow_right (by decide) (by omega)))]; rfl
      · apply Nat.eq_of_testBit_eq
        intro j
        rw [e2, Nat.testBit_and, t]
        rcases Nat.lt_trichotomy j 31 with hj | hj | hj
        · rw [Nat.testBit_two_pow_add_gt hj]
          have h1 : j < 64 := by omega
          have h2 : ¬ 31 = j := by omega
          simp [h1, h2]
        · subst hj; rw [Nat.testBit_lt_two_pow ha]; simp
        · have hl : 2 ^ 32 ≤ 2 ^ j := Nat.pow_le_pow_right (by decide) hj
          rw [Nat.testBit_lt_two_pow (show 2 ^ 31 + a < 2 ^ j by omega), Nat.testBit_lt_two_pow (show a < 2 ^ j by omega)]; rfl
    rcases split32 h with ⟨_, h2, h3⟩ | ⟨_, a, h2, h3, h4⟩
    · rw [h2, (key _ h3).1]; omega
    · rw [h2, (key _ h3).2]; omega
  simp only [e]
  rw [i64_low (by omega)]; omega
theorem and32 : bitI .and .i64 x 2147483648 = if x < 2147483648 then 0 else 2147483648 := by
  unfold bitI
  have e : (BitVec.ofInt IntKind.i64.bits x &&& BitVec.ofInt IntKind.i64.bits 2147483648).toNat = if x < 2147483648 then 0 else 2147483648 := by
    show (BitVec.ofInt 64 x &&& BitVec.ofInt 64 2147483648).toNat = _
    rw [BitVec.toNat_and, ofInt_nat, s32]
    rcases split32 h with ⟨h1, h2, h3⟩ | ⟨h1, a, h2, h3, h4⟩
    · rw [h2, and_top h3, if_pos h1]
    · rw [h2, and_top' h3, if_neg (by omega)]
  simp only [e]
  split <;> rfl
theorem xor32 : bitI .xor .i64 x 2147483648 = if x < 2147483648 then x + 2147483648 else x - 2147483648 := by
  unfold bitI
  have e : (BitVec.ofInt IntKind.i64.bits x ^^^ BitVec.ofInt IntKind.i64.bits 2147483648).toNat = (if x < 2147483648 then x + 2147483648 else x - 2147483648 : Int).toNat := by
    show (BitVec.ofInt 64 x ^^^ BitVec.ofInt 64 2147483648).toNat = _
    rw [BitVec.toNat_xor, ofInt_nat, s32]
    rcases split32 h with ⟨h1, h2, h3⟩ | ⟨h1, a, h2, h3, h4⟩
    · rw [h2, xor_top h3, if_pos h1]; omega
    · rw [h2, xor_top' h3, if_neg (by omega)]; omega
  simp only [e]
  by_cases hs : x < 2147483648
  · rw [if_pos hs, i64_low (by omega)]; omega
  · rw [if_neg hs, i64_low (by omega)]; omega
end
theorem or32 {x s : Int} (h : 0 ≤ x ∧ x < 2147483648) (hs : s = 0 ∨ s = 2147483648) : bitI .or .i64 x s = x + s := by
  unfold bitI
  have e : (BitVec.ofInt IntKind.i64.bits x ||| BitVec.ofInt IntKind.i64.bits s).toNat = (x + s).toNat := by
    show (BitVec.ofInt 64 x ||| BitVec.ofInt 64 s).toNat = _
    rw [BitVec.toNat_or, ofInt_nat]
    rcases hs with rfl | rfl
    · rw [show (BitVec.ofInt 64 0).toNat = 0 by decide, Nat.or_zero]; omega
    · rw [show (BitVec.ofInt 64 2147483648).toNat = 2 ^ 31 * 1 by decide, Nat.or_comm, ← Nat.two_pow_add_eq_or_of_lt (by omega)]; omega
  simp only [e]
  rcases hs with rfl | rfl
  · rw [i64_low (by omega)]; omega
  · rw [i64_low (by omega)]; omega
end Go.Sx

/- The reference's floats in numbers: words, their lengths, their bits, shifts down. No condition. -/
namespace Go.Proofs.Ytnodelimomljbaa.PlainRefA
open Go Go.Sx Go.Sx.Flt Go.Sx.Ref Go.Proofs.Ytnodelimomljbaa.RunRefA
set_option linter.unusedSimpArgs false
set_option linter.unusedVariables false
theorem i64_in' {n : Int} (h1 : -9223372036854775808 ≤ n) (h2 : n ≤ 9223372036854775807) : IntKind.i64.wrap n = n := by
  simp [IntKind.wrap, IntKind.bits, IntKind.signed]; split <;> omega
theorem u64_w (n : Int) : IntKind.u64.wrap n = n % 18446744073709551616 := by simp [IntKind.wrap, IntKind.bits, IntKind.signed]
theorem len_step {x : Int} (h : 0 < x) : fnG 0 x 0 0 = fnG 0 (x / 2) 0 0 + 1 := by
  simp only [fnG]
  rw [lenN_two x.toNat (by omega), show (x / 2).toNat = x.toNat / 2 by omega]
  omega
theorem len_in (x : Int) (h : x < 18446744073709551616) : 0 ≤ fnG 0 x 0 0 ∧ fnG 0 x 0 0 ≤ 64 := by
  simp only [fnG]
  have := lenN_64 (n := x.toNat) (by omega)
  omega
theorem lenL_plain (u : Nat → Int) (h : KindOk u 0 lenL.ks) : LKeeps ⟨u, fnG⟩ lenL lenLR := by
  have h0 : 0 ≤ u 0 ∧ u 0 ≤ 18446744073709551615 := of_kind h.1
  have h1 : -9223372036854775808 ≤ u 1 ∧ u 1 ≤ 9223372036854775807 := of_kind h.2.1
  simp only [lenL, lenLR, LKeeps, chain, allProp, allSame, SameL, List.map, E.at, v, bi, f1, i64, un, E.prop, E.den, mkBin, den_mkUn, Bi.den, Un.den, List.getD_cons_zero, List.getD_cons_succ]
  refine ⟨fun hx => ⟨trivial, ⟨?_, trivial⟩, by omega, by omega⟩, fun hx => ⟨trivial, ?_, trivial⟩, trivial⟩
  · rw [len_step hx]
    simp [IntKind.wrap, IntKind.bits, IntKind.signed]
    split <;> split <;> omega
  · have : u 0 = 0 := by omega
    rw [this, show fnG 0 0 0 0 = 0 by decide, Int.add_zero, i64_in' (by omega) (by omega)]
theorem len_plain (u : Nat → Int) (hk : KindOk u 0 lenS.ks) (_ : pcOk ⟨u, fnG⟩ lenS.pre) : Keeps ⟨u, fnG⟩ lenS.res lenR := by
  have h0 : 0 ≤ u 0 ∧ u 0 ≤ 18446744073709551615 := of_kind hk.1
  have := len_in (u 0) (by omega)
  simp only [lenS, lenR, Keeps, chain, unOne, SameL, f1, v, E.prop, E.den, Bi.den, Un.den]
  exact ⟨⟨trivial, by rw [Int.zero_add, i64_in' (by omega) (by omega)], trivial⟩, trivial⟩
theorem len_bd (u : Nat → Int) (hk : KindOk u 0 lenS.ks) (_ : pcOk ⟨u, fnG⟩ lenS.pre) : lenS.bds.ok ⟨u, fnG⟩ := by
  have h0 : 0 ≤ u 0 ∧ u 0 ≤ 18446744073709551615 := of_kind hk.1
  have h1 := len_in (u 0) (by omega)
  intro p hp
  simp only [lenS, List.mem_singleton] at hp
  subst hp
  exact ⟨fun l hl => by cases hl; exact h1.1, fun l hl => by cases hl; exact h1.2⟩
theorem nn_nat {hi lo : Int} (h0 : 0 ≤ hi) (h1 : 0 ≤ lo) : (hi * 18446744073709551616 + lo).toNat = hi.toNat * 18446744073709551616 + lo.toNat := by omega
theorem long_eq {hi lo : Int} (h0 : 0 ≤ hi) (h1 : 0 ≤ lo) (h2 : lo < 18446744073709551616) : fnG 0 (hi * 18446744073709551616 + lo) 0 0 = if 0 < hi then fnG 0 hi 0 0 + 64 else fnG 0 lo 0 0 := by
  simp only [fnG]
  rw [nn_nat h0 h1]
  split
  · rw [lenN_hi (by omega) (by omega)]; omega
  · rw [show hi.toNat = 0 by omega, Nat.zero_mul, Nat.zero_add]
theorem long_plain (u : Nat → Int) (hk : KindOk u 0 longS.ks) (_ : pcOk ⟨u, fnG⟩ longS.pre) : Keeps ⟨u, fnG⟩ longS.res longR := by
  have h0 : 0 ≤ u 0 ∧ u 0 ≤ 18446744073709551615 := of_kind hk.1
  have h1 : 0 ≤ u 1 ∧ u 1 ≤ 18446744073709551615 := of_kind hk.2.1
  have e := long_eq h0.1 h1.1 (show u 1 < 18446744073709551616 by omega)
  simp only [longS, longR, Keeps, chain, unOne, SameL, f1, nn, w64, v, E.prop, E.den, Bi.den, Un.den]
  refine ⟨fun hx => ⟨trivial, ?_, trivial⟩, fun hx => ⟨trivial, ?_, trivial⟩, trivial⟩
  · rw [e, if_pos hx]
  · rw [e, if_neg (by omega)]
theorem long_bd (u : Nat → Int) (hk : KindOk u 0 longS.ks) (_ : pcOk ⟨u, fnG⟩ longS.pre) : longS.bds.ok ⟨u, fnG⟩ := by
  have h0 : 0 ≤ u 0 ∧ u 0 ≤ 18446744073709551615 := of_kind hk.1
  have h1 : 0 ≤ u 1 ∧ u 1 ≤ 18446744073709551615 := of_kind hk.2.1
  have e := long_eq h0.1 h1.1 (show u 1 < 18446744073709551616 by omega)
  have e0 := len_in (u 0) (by omega)
  have e1 := len_in (u 1) (by omega)
  intro p hp
  simp only [longS, List.mem_singleton] at hp
  subst hp
  show Iv.has _ (fnG 0 (u 0 * 18446744073709551616 + u 1) 0 0)
  rw [e]
  exact ⟨fun l hl => by cases hl; split <;> omega, fun l hl => by cases hl; split <;> omega⟩

/-! ### one bit -/
theorem shr_nat {x k : Int} (h : 0 ≤ x) (hk : 0 ≤ k ∧ k < 64) : x.fdiv (2 ^ (min k.toNat 64)) = ((x.toNat / 2 ^ k.toNat : Nat) : Int) := by
  obtain ⟨n, rfl⟩ := Int.eq_ofNat_of_zero_le h
  rw [Nat.min_eq_left (by omega), Int.toNat_natCast, Int.fdiv_eq_ediv_of_nonneg _ (Int.le_of_lt (Int.pow_pos (by decide)))]
  rw [Int.natCast_ediv, Int.natCast_pow]; rfl
theorem pow_even {d : Nat} (h : 0 < d) (a : Nat) : a * 2 ^ d % 2 = 0 := by
  obtain ⟨e, rfl⟩ : ∃ e, d = e + 1 := ⟨d - 1, by omega⟩
  rw [Nat.pow_succ, ← Nat.mul_assoc]; omega
theorem word_plain (u : Nat → Int) (hk : KindOk u 0 wordS.ks) (_ : pcOk ⟨u, fnG⟩ wordS.pre) : Keeps ⟨u, fnG⟩ wordS.res wordR := by
  have h0 : 0 ≤ u 0 ∧ u 0 ≤ 18446744073709551615 := of_kind hk.1
  have h1 : 0 ≤ u 1 ∧ u 1 ≤ 18446744073709551615 := of_kind hk.2.1
  simp only [wordS, wordR, Keeps, chain, unOne, SameL, f1, nn, w64, v, bi, E.prop, E.den, Bi.den, Un.den, IntKind.bits, fnG, nn_nat h0.1 h1.1, b2i_ne, bne_iff_ne]
  have e1 : ∀ k : Int, (k + 1 - k).toNat = 1 := fun k => by omega
  refine ⟨fun h3 h4 h5 => ⟨?_, trivial⟩, fun h3 h4 h5 => ⟨?_, trivial⟩, trivial⟩
  · rw [shr_nat h0.1 (by omega), e1, div_hi (by omega) (by omega), show (u 2).toNat - 64 = (u 2 + -64).toNat by omega]
    omega
  · rw [shr_nat h1.1 (by omega), e1, div_lo (by omega)]
    have := pow_even (d := 64 - (u 2).toNat) (by omega) (u 0).toNat
    omega

/-! ### the loop over the bits that are lost -/
theorem fn1_step {n i k : Int} (hi : 0 ≤ i) (hk : i < k) : (fnG 1 n i k ≠ 0) ↔ (fnG 1 n i (i + 1) ≠ 0 ∨ fnG 1 n (i + 1) k ≠ 0) := by
  simp only [fnG, b2i_ne, bne_iff_ne]
  obtain ⟨d, hd⟩ : ∃ d : Nat, (k - i).toNat = d + 1 := ⟨(k - i).toNat - 1, by omega⟩
  have e : n.toNat / 2 ^ (i.toNat + 1) = n.toNat / 2 ^ i.toNat / 2 := by rw [Nat.pow_succ, ← Nat.div_div_eq_div_mul]
  rw [hd, bits_more, show (i + 1 - i).toNat = 1 by omega, show (k - (i + 1)).toNat = d by omega, show (i + 1).toNat = i.toNat + 1 by omega, e, Nat.pow_one]
theorem fn1_nil (n i : Int) : fnG 1 n i i = 0 := by
  simp only [fnG, Int.sub_self]
  simp [b2i, Nat.mod_one]
theorem downL_plain (u : Nat → Int) (h : KindOk u 0 downL.ks) : LKeeps ⟨u, fnG⟩ downL downLR := by
  simp only [downL, downLR, LKeeps, chain, allProp, allSame, SameL, List.map, E.at, v, bi, nn, w64, un, E.prop, E.den, mkBin, den_mkUn, den_mkNot, Bi.den, Un.den, List.getD_cons_zero, List.getD_cons_succ]
  refine ⟨fun h1 h2 h3 h4 h5 h6 => ⟨⟨h4, h3, by omega, by omega, trivial⟩, ⟨⟨fun _ => .inl h6, fun _ => .inl (by decide)⟩, trivial, trivial⟩, by omega, by omega⟩, fun h1 h2 h3 h4 h5 h6 => ⟨⟨h4, h3, by omega, by omega, trivial⟩, ⟨?_, trivial, trivial⟩, by omega, by omega⟩,
    fun h1 h2 h3 h4 h5 => ⟨?_, trivial, by omega, trivial⟩, trivial⟩
  · rw [fn1_step (i := u 4) (k := u 2 - 1) h2 (by omega), Classical.not_not]
    exact ⟨fun h => .inr h, fun h => h.resolve_left h6⟩
  · rw [show u 2 - 1 = u 4 by omega, fn1_nil]
    simp

/-! ### shifted down -/
theorem fn1_low (n : Int) (k : Nat) : (fnG 1 n 0 k ≠ 0) ↔ n.toNat % 2 ^ k ≠ 0 := by
  simp only [fnG, b2i_ne, bne_iff_ne, Int.sub_zero, Int.toNat_natCast, show (0 : Int).toNat = 0 from rfl, Nat.pow_zero, Nat.div_one]
theorem fn1_bit (n : Int) (k : Nat) : (fnG 1 n k ((k : Int) + 1) ≠ 0) ↔ n.toNat / 2 ^ k % 2 ≠ 0 := by
  simp only [fnG, b2i_ne, bne_iff_ne, Int.toNat_natCast, show ((k : Int) + 1 - k).toNat = 1 by omega, Nat.pow_one]
theorem or_u64 {a b k : Nat} (hb : b < 2 ^ k) (h : a * 2 ^ k + b < 18446744073709551616) : bitI .or .u64 ((b : Nat) : Int) ((a * 2 ^ k : Nat) : Int) = ((a * 2 ^ k + b : Nat) : Int) := by
  unfold bitI
  have e : (BitVec.ofInt IntKind.u64.bits ((b : Nat) : Int) ||| BitVec.ofInt IntKind.u64.bits ((a * 2 ^ k : Nat) : Int)).toNat = a * 2 ^ k + b := by
    show (BitVec.ofInt 64 ((b : Nat) : Int) ||| BitVec.ofInt 64 ((a * 2 ^ k : Nat) : Int)).toNat = _
    rw [BitVec.toNat_or, ofInt_nat, ofInt_nat]
    rw [show (((b : Nat) : Int) % 18446744073709551616).toNat = b by omega, show (((a * 2 ^ k : Nat) : Int) % 18446744073709551616).toNat = a * 2 ^ k by omega, Nat.or_comm, Nat.mul_comm a]
    exact (Nat.two_pow_add_eq_or_of_lt hb a).symm
  simp only [e]
  rw [u64_w]
  omega
theorem lost_of (n : Nat) (k : Int) (h : 0 < k) : fnG 3 n k 0 = if fnG 1 n (k + -1) (k + -1 + 1) ≠ 0 then (if fnG 1 n 0 (k - 1) ≠ 0 then 1 else 0) else (if fnG 1 n 0 (k - 1) ≠ 0 then -1 else 2) := by
  obtain ⟨j, rfl⟩ : ∃ j : Nat, k = (j : Int) + 1 := ⟨k.toNat - 1, by omega⟩
  have e1 : (j : Int) + 1 + -1 = j := by omega
  have e2 : (j : Int) + 1 - 1 = j := by omega
  have b1 := fn1_bit (n : Int) j
  have b2 := fn1_low (n : Int) j
  rw [Int.toNat_natCast] at b1 b2
  rw [e1, e2]
  simp only [b1, b2]
  show lost (n : Int).toNat ((j : Int) + 1) = _
  rw [Int.toNat_natCast, lost_split]
theorem or_null {a b : Int} (ha : 0 ≤ a ∧ a ≤ 18446744073709551615) (hb : 0 ≤ b ∧ b ≤ 18446744073709551615) : bitI .or .u64 a b = 0 ↔ a = 0 ∧ b = 0 := by
  unfold bitI
  obtain ⟨m, hm⟩ : ∃ m, (BitVec.ofInt IntKind.u64.bits a ||| BitVec.ofInt IntKind.u64.bits b).toNat = m := ⟨_, rfl⟩
  have e : m = a.toNat ||| b.toNat := by
    rw [← hm]
    show (BitVec.ofInt 64 a ||| BitVec.ofInt 64 b).toNat = _
    rw [BitVec.toNat_or, ofInt_nat, ofInt_nat]
    congr 1 <;> omega
  have hlt : m < 18446744073709551616 := by rw [← hm]; exact (BitVec.ofInt 64 a ||| BitVec.ofInt 64 b).isLt
  have h1 : a.toNat ≤ m := by rw [e]; exact Nat.left_le_or
  have h2 : b.toNat ≤ m := by rw [e]; exact Nat.right_le_or
  simp only [hm, u64_w]
  constructor
  · intro h; omega
  · rintro ⟨rfl, rfl⟩
    rw [e]; decide
theorem down_plain (u : Nat → Int) (hk : KindOk u 0 downS.ks) (_ : pcOk ⟨u, fnG⟩ downS.pre) : Keeps ⟨u, fnG⟩ downS.res downR := by
  have h0 : 0 ≤ u 0 ∧ u 0 ≤ 18446744073709551615 := of_kind hk.1
  have h1 : 0 ≤ u 1 ∧ u 1 ≤ 18446744073709551615 := of_kind hk.2.1
  obtain ⟨n, hn⟩ : ∃ n : Nat, u 0 * 18446744073709551616 + u 1 = n := ⟨(u 0 * 18446744073709551616 + u 1).toNat, by omega⟩
  obtain ⟨hi, hhi⟩ := Int.eq_ofNat_of_zero_le h0.1
  obtain ⟨lo, hlo⟩ := Int.eq_ofNat_of_zero_le h1.1
  have hnn : n = hi * 18446744073709551616 + lo := by omega
  have L := lost_of n (u 2)
  have F : ∀ k : Int, fnG 2 n k 0 = ((n / 2 ^ k.toNat : Nat) : Int) := fun k => by simp only [fnG, Int.toNat_natCast]
  have V1 : u 2 = 128 → (0 = IntKind.u64.wrap (fnG 2 n (u 2) 0 / 18446744073709551616) ∧ 0 = IntKind.u64.wrap (fnG 2 n (u 2) 0)) := fun h => by
    have e : n / 2 ^ (u 2).toNat = 0 := by
      rw [h, hnn, show (128 : Int).toNat = 128 from rfl, div_hi (by omega) (by decide)]
      exact Nat.div_eq_of_lt (by have : (2 : Nat) ^ (128 - 64) = 18446744073709551616 := by decide
                                 omega)
    rw [F, e]; decide
  have V2 : 64 ≤ u 2 → u 2 ≤ 128 → ¬ u 2 = 128 → (0 = IntKind.u64.wrap (fnG 2 n (u 2) 0 / 18446744073709551616) ∧ (u 0).fdiv (2 ^ min (u 2 + -64).toNat 64) = IntKind.u64.wrap (fnG 2 n (u 2) 0)) := fun h h' h'' => by
    have e : n / 2 ^ (u 2).toNat = hi / 2 ^ ((u 2).toNat - 64) := by rw [hnn]; exact div_hi (by omega) (by omega)
    have hb : hi / 2 ^ ((u 2).toNat - 64) ≤ hi := Nat.div_le_self _ _
    rw [F, e, shr_nat h0.1 (by omega), u64_w, u64_w, hhi, Int.toNat_natCast, show (u 2 + -64).toNat = (u 2).toNat - 64 by omega]
    generalize hi / 2 ^ ((u 2).toNat - 64) = q at hb
    omega
  have V3 : 0 < u 2 → u 2 < 64 → ((u 0).fdiv (2 ^ min (u 2).toNat 64) = IntKind.u64.wrap (fnG 2 n (u 2) 0 / 18446744073709551616) ∧ bitI .or .u64 ((u 1).fdiv (2 ^ min (u 2).toNat 64)) (IntKind.u64.wrap (u 0 * 2 ^ min (64 - u 2).toNat 64)) = IntKind.u64.wrap (fnG 2 n (u 2) 0)) := fun h h' => by
    obtain ⟨k, hk⟩ : ∃ k, (u 2).toNat = k := ⟨_, rfl⟩
    have hk1 : 0 < k ∧ k < 64 := by omega
    have e64 : (18446744073709551616 : Nat) = 2 ^ k * 2 ^ (64 - k) := by rw [← Nat.pow_add, show k + (64 - k) = 64 by omega]
    have hq : n / 2 ^ k / 18446744073709551616 = hi / 2 ^ k := by
      rw [Nat.div_div_eq_div_mul, Nat.mul_comm, ← Nat.div_div_eq_div_mul]
      congr 1; omega
    have hd : n / 2 ^ k = hi * 2 ^ (64 - k) + lo / 2 ^ k := by rw [hnn]; exact div_lo (by omega)
    have hb : hi / 2 ^ k ≤ hi := Nat.div_le_self _ _
    have hm : hi * 2 ^ (64 - k) % 18446744073709551616 = hi % 2 ^ k * 2 ^ (64 - k) := by rw [e64, Nat.mul_mod_mul_right]
    have hl : lo / 2 ^ k < 2 ^ (64 - k) := by rw [Nat.div_lt_iff_lt_mul (Nat.two_pow_pos k), Nat.mul_comm, ← e64]; omega
    have hh : hi % 2 ^ k * 2 ^ (64 - k) + lo / 2 ^ k < 18446744073709551616 := by
      have h3 : hi % 2 ^ k + 1 ≤ 2 ^ k := Nat.mod_lt _ (Nat.two_pow_pos k)
      have h4 := Nat.mul_le_mul_right (2 ^ (64 - k)) h3
      rw [Nat.add_mul, ← e64] at h4
      omega
    refine ⟨?_, ?_⟩
    · rw [F, shr_nat h0.1 (by omega), hk, hhi, Int.toNat_natCast, u64_w]
      have : ((n / 2 ^ k : Nat) : Int) / 18446744073709551616 = ((n / 2 ^ k / 18446744073709551616 : Nat) : Int) := by omega
      rw [this, hq]
      generalize hi / 2 ^ k = q at hb
      omega
    · rw [F, shr_nat h1.1 (by omega), hk, hlo, Int.toNat_natCast, u64_w, u64_w, Nat.min_eq_left (by omega), show (64 - u 2).toNat = 64 - k by omega, hhi]
      have e1 : ((hi : Int) * 2 ^ (64 - k)) % 18446744073709551616 = ((hi % 2 ^ k * 2 ^ (64 - k) : Nat) : Int) := by
        rw [← hm]
        have : ((hi : Int) * 2 ^ (64 - k)) = ((hi * 2 ^ (64 - k) : Nat) : Int) := by rw [Int.natCast_mul, Int.natCast_pow]; rfl
        rw [this]; omega
      rw [e1, or_u64 hl hh, hd]
      clear e1 hd hq hl
      generalize hi * 2 ^ (64 - k) = A at hm
      generalize hi % 2 ^ k * 2 ^ (64 - k) = B at hm hh
      generalize lo / 2 ^ k = C at hh
      omega
  simp only [downS, downR, Keeps, chain, unOne, List.length, SameL, f2, nn, w64, v, bi, Flt.u64, un, E.prop, E.den, Bi.den, Un.den, IntKind.bits, hn, b2i_ne, bne_iff_ne, Nat.beq]
  have big : 128 < u 2 → n / 2 ^ (u 2).toNat = 0 := fun h => by
    apply Nat.div_eq_of_lt
    have h3 : (2 : Nat) ^ 128 ≤ 2 ^ (u 2).toNat := Nat.pow_le_pow_right (by decide) (by omega)
    have h4 : (2 : Nat) ^ 128 = 18446744073709551616 * 18446744073709551616 := by decide
    omega
  refine ⟨?_, ?_, ?_, ?_, ?_, ?_, ?_, ?_, ?_, ?_, ?_, ?_, ?_, ?_, ?_, trivial⟩
  · intro p1
    have e : (u 2).toNat = 0 := by omega
    refine ⟨trivial, ?_, trivial, ?_, trivial, ?_, trivial⟩
    · rw [F, e, Nat.pow_zero, Nat.div_one, u64_w]; omega
    · rw [F, e, Nat.pow_zero, Nat.div_one, u64_w]; omega
    · simp only [fnG, lost]; rw [if_pos p1]
  · intro p1 p2 p3
    have hz := (or_null h0 h1).1 p3
    have hn0 : n = 0 := by omega
    refine ⟨trivial, ?_, trivial, ?_, trivial, ?_, trivial⟩
    · rw [F, big p2]; decide
    · rw [F, big p2]; decide
    · simp only [fnG, lost, Int.toNat_natCast]; rw [if_neg (by omega), if_pos (by rw [hn0, Nat.zero_mod])]
  · intro p1 p2 p3
    have hz : ¬ n = 0 := fun h => p3 ((or_null h0 h1).2 (by omega))
    have hr : n % 2 ^ (u 2).toNat = n := by have := Nat.div_add_mod n (2 ^ (u 2).toNat); rw [big p2] at this; omega
    have h3 : (2 : Nat) ^ 129 ≤ 2 ^ (u 2).toNat := Nat.pow_le_pow_right (by decide) (by omega)
    have h4 : (2 : Nat) ^ 129 = 2 * (18446744073709551616 * 18446744073709551616) := by decide
    refine ⟨trivial, ?_, trivial, ?_, trivial, ?_, trivial⟩
    · rw [F, big p2]; decide
    · rw [F, big p2]; decide
    · simp only [fnG, lost, Int.toNat_natCast]; rw [if_neg (by omega), if_neg (by rw [hr]; exact hz), if_pos (by rw [hr]; omega)]
  · intro p1 p2 p3 p4 p5
    have p4 : fnG 1 n 0 (u 2 - 1) ≠ 0 := by simpa using p4
    exact ⟨trivial, (V1 p5).1, trivial, (V1 p5).2, trivial, by rw [L p1, if_pos p3, if_pos p4], trivial⟩
  · intro p1 p2 p3 p4 p5 p6
    have p4 : fnG 1 n 0 (u 2 - 1) ≠ 0 := by simpa using p4
    exact ⟨trivial, (V2 p6 p2 p5).1, trivial, (V2 p6 p2 p5).2, trivial, by rw [L p1, if_pos p3, if_pos p4], trivial⟩
  · intro p1 p2 p3 p4 p5 p6
    have p4 : fnG 1 n 0 (u 2 - 1) ≠ 0 := by simpa using p4
    exact ⟨trivial, (V3 p1 p6).1, trivial, (V3 p1 p6).2, trivial, by rw [L p1, if_pos p3, if_pos p4], trivial⟩
  · intro p1 p2 p3 p4 p5
    have p4 : ¬ fnG 1 n 0 (u 2 - 1) ≠ 0 := by simpa using p4
    exact ⟨trivial, (V1 p5).1, trivial, (V1 p5).2, trivial, by rw [L p1, if_pos p3, if_neg p4], trivial⟩
  · intro p1 p2 p3 p4 p5 p6
    have p4 : ¬ fnG 1 n 0 (u 2 - 1) ≠ 0 := by simpa using p4
    exact ⟨trivial, (V2 p6 p2 p5).1, trivial, (V2 p6 p2 p5).2, trivial, by rw [L p1, if_pos p3, if_neg p4], trivial⟩
  · intro p1 p2 p3 p4 p5 p6
    have p4 : ¬ fnG 1 n 0 (u 2 - 1) ≠ 0 := by simpa using p4
    exact ⟨trivial, (V3 p1 p6).1, trivial, (V3 p1 p6).2, trivial, by rw [L p1, if_pos p3, if_neg p4], trivial⟩
  · intro p1 p2 p3 p4 p5
    have p4 : ¬ fnG 1 n 0 (u 2 - 1) ≠ 0 := by simpa using p4
    exact ⟨trivial, (V1 p5).1, trivial, (V1 p5).2, trivial, by rw [L p1, if_neg p3, if_neg p4], trivial⟩
  · intro p1 p2 p3 p4 p5 p6
    have p4 : ¬ fnG 1 n 0 (u 2 - 1) ≠ 0 := by simpa using p4
    exact ⟨trivial, (V2 p6 p2 p5).1, trivial, (V2 p6 p2 p5).2, trivial, by rw [L p1, if_neg p3, if_neg p4], trivial⟩
  · intro p1 p2 p3 p4 p5 p6
    have p4 : ¬ fnG 1 n 0 (u 2 - 1) ≠ 0 := by simpa using p4
    exact ⟨trivial, (V3 p1 p6).1, trivial, (V3 p1 p6).2, trivial, by rw [L p1, if_neg p3, if_neg p4], trivial⟩
  · intro p1 p2 p3 p4 p5
    have p4 : fnG 1 n 0 (u 2 - 1) ≠ 0 := by simpa using p4
    exact ⟨trivial, (V1 p5).1, trivial, (V1 p5).2, trivial, by rw [L p1, if_neg p3, if_pos p4], trivial⟩
  · intro p1 p2 p3 p4 p5 p6
    have p4 : fnG 1 n 0 (u 2 - 1) ≠ 0 := by simpa using p4
    exact ⟨trivial, (V2 p6 p2 p5).1, trivial, (V2 p6 p2 p5).2, trivial, by rw [L p1, if_neg p3, if_pos p4], trivial⟩
  · intro p1 p2 p3 p4 p5 p6
    have p4 : fnG 1 n 0 (u 2 - 1) ≠ 0 := by simpa using p4
    exact ⟨trivial, (V3 p1 p6).1, trivial, (V3 p1 p6).2, trivial, by rw [L p1, if_neg p3, if_pos p4], trivial⟩

theorem down_bd (u : Nat → Int) (hk : KindOk u 0 downS.ks) (_ : pcOk ⟨u, fnG⟩ downS.pre) : downS.bds.ok ⟨u, fnG⟩ := by
  intro p hp
  simp only [downS, List.mem_singleton] at hp
  subst hp
  show Iv.has _ (lost (u 0 * 18446744073709551616 + u 1).toNat (u 2))
  unfold lost
  exact ⟨fun l hl => by cases hl; repeat' split
                        all_goals decide, fun l hl => by cases hl; repeat' split
                                                         all_goals decide⟩
/-! ### a product in two words -/
theorem or32 {A B : Int} (h1 : 0 ≤ A) (h2 : 0 ≤ B) (h3 : B < 4294967296) : bitI .or .u64 (IntKind.u64.wrap (A * 4294967296)) B = (A * 4294967296 + B) % 18446744073709551616 := by
  obtain ⟨k, rfl⟩ := Int.eq_ofNat_of_zero_le h2
  obtain ⟨m, hm⟩ : ∃ m : Nat, A % 4294967296 = m := ⟨(A % 4294967296).toNat, by omega⟩
  have hw : IntKind.u64.wrap (A * 4294967296) = ((m * 4294967296 : Nat) : Int) := by rw [u64_w]; omega
  have hs : (A * 4294967296 + (k : Int)) % 18446744073709551616 = ((m * 4294967296 + k : Nat) : Int) := by omega
  rw [hw, hs]
  clear hw hs h1
  unfold bitI
  have e : (BitVec.ofInt IntKind.u64.bits ((m * 4294967296 : Nat) : Int) ||| BitVec.ofInt IntKind.u64.bits ((k : Nat) : Int)).toNat = m * 4294967296 + k := by
    show (BitVec.ofInt 64 ((m * 4294967296 : Nat) : Int) ||| BitVec.ofInt 64 ((k : Nat) : Int)).toNat = _
    have e1 : (((k : Nat) : Int) % 18446744073709551616).toNat = k := by omega
    have e2 : (((m * 4294967296 : Nat) : Int) % 18446744073709551616).toNat = 2 ^ 32 * m := by omega
    rw [BitVec.toNat_or, ofInt_nat, ofInt_nat, e1, e2, ← Nat.two_pow_add_eq_or_of_lt (show k < 2 ^ 32 by omega)]
    omega
  simp only [e]
  rw [u64_w]
  omega
theorem mul_plain (u : Nat → Int) (hk : KindOk u 0 mulS.ks) (_ : pcOk ⟨u, fnG⟩ mulS.pre) : Keeps ⟨u, fnG⟩ mulS.res mulR := by
  have h0 : 0 ≤ u 0 ∧ u 0 ≤ 18446744073709551615 := of_kind hk.1
  have h1 : 0 ≤ u 1 ∧ u 1 ≤ 18446744073709551615 := of_kind hk.2.1
  simp only [mulS, mulR, Keeps, chain, unOne, List.length, SameL, w64, v, bi, Flt.u64, un, E.prop, E.den, Bi.den, Un.den, Nat.beq, w32_eq, W32]
  obtain ⟨a, ha⟩ : ∃ a, u 0 / 4294967296 = a := ⟨_, rfl⟩
  obtain ⟨b, hb⟩ : ∃ b, u 0 % 4294967296 = b := ⟨_, rfl⟩
  obtain ⟨c, hc⟩ : ∃ c, u 1 / 4294967296 = c := ⟨_, rfl⟩
  obtain ⟨d, hd⟩ : ∃ d, u 1 % 4294967296 = d := ⟨_, rfl⟩
  rw [ha, hb, hc, hd]
  have bd : ∀ x y : Int, 0 ≤ x → x < 4294967296 → 0 ≤ y → y < 4294967296 → 0 ≤ x * y ∧ x * y ≤ 18446744065119617025 := fun x y h1 h2 h3 h4 => by
    have e1 := Int.mul_nonneg h1 h3
    have e2 : x * y ≤ 4294967295 * y := Int.mul_le_mul_of_nonneg_right (by omega) h3
    omega
  have p1 := bd a c (by omega) (by omega) (by omega) (by omega)
  have p2 := bd a d (by omega) (by omega) (by omega) (by omega)
  have p3 := bd b c (by omega) (by omega) (by omega) (by omega)
  have p4 := bd b d (by omega) (by omega) (by omega) (by omega)
  have e : u 0 * u 1 = a * c * 18446744073709551616 + (a * d + b * c) * 4294967296 + b * d := by
    rw [show u 0 = a * 4294967296 + b by omega, show u 1 = c * 4294967296 + d by omega, Int.add_mul, Int.mul_add, Int.mul_add]
    have e1 : a * 4294967296 * (c * 4294967296) = a * c * 18446744073709551616 := by
      rw [Int.mul_assoc, ← Int.mul_assoc 4294967296 c, Int.mul_comm 4294967296 c, Int.mul_assoc c, ← Int.mul_assoc]; rfl
    have e2 : a * 4294967296 * d = a * d * 4294967296 := by rw [Int.mul_assoc, Int.mul_comm 4294967296 d, ← Int.mul_assoc]
    have e3 : b * (c * 4294967296) = b * c * 4294967296 := by rw [← Int.mul_assoc]
    rw [e1, e2, e3, Int.add_mul]
    omega
  rw [e]
  generalize a * c = x at *
  generalize a * d = y at *
  generalize b * c = z at *
  generalize b * d = w at *
  clear bd ha hb hc hd h0 h1 hk e
  refine ⟨⟨trivial, ?_, trivial, ?_, trivial⟩, trivial⟩
  · have e1 : x + (y + w / 4294967296) / 4294967296 + (z + (y + w / 4294967296) % 4294967296) / 4294967296 = (x * 18446744073709551616 + (y + z) * 4294967296 + w) / 18446744073709551616 := by omega
    rw [← e1, u64_w]; omega
  · rw [or32 (by omega) (by omega) (by omega), u64_w]; omega
/-! ### what hangs on the format alone -/
theorem sgn_plain (u : Nat → Int) (hk : KindOk u 0 sgnD.sp.ks) (_ : pcOk ⟨u, fnG⟩ sgnD.sp.pre) : Keeps ⟨u, fnG⟩ sgnD.sp.res sgnDR := by
  simp only [sgnD, sgnDR, Keeps, chain, unOne, List.length, SameL, v, E.prop, E.den]
  refine ⟨fun h => ⟨trivial, (if_pos h).symm, trivial⟩, fun h => ⟨trivial, (if_neg h).symm, trivial⟩, trivial⟩
theorem bias_plain (u : Nat → Int) (hk : KindOk u 0 biasD.sp.ks) (_ : pcOk ⟨u, fnG⟩ biasD.sp.pre) : Keeps ⟨u, fnG⟩ biasD.sp.res biasDR := ⟨⟨rfl, rfl, trivial⟩, trivial⟩
theorem least_plain (u : Nat → Int) (hk : KindOk u 0 leastD.sp.ks) (_ : pcOk ⟨u, fnG⟩ leastD.sp.pre) : Keeps ⟨u, fnG⟩ leastD.sp.res leastDR := ⟨⟨rfl, rfl, trivial⟩, trivial⟩
theorem top_plain (u : Nat → Int) (hk : KindOk u 0 topD.sp.ks) (_ : pcOk ⟨u, fnG⟩ topD.sp.pre) : Keeps ⟨u, fnG⟩ topD.sp.res topDR := ⟨⟨rfl, rfl, trivial⟩, trivial⟩
theorem nan_plain (u : Nat → Int) (hk : KindOk u 0 nanD.sp.ks) (_ : pcOk ⟨u, fnG⟩ nanD.sp.pre) : Keeps ⟨u, fnG⟩ nanD.sp.res nanDR := ⟨⟨rfl, rfl, trivial⟩, trivial⟩
theorem inf_plain (u : Nat → Int) (hk : KindOk u 0 infD.sp.ks) (_ : pcOk ⟨u, fnG⟩ infD.sp.pre) : Keeps ⟨u, fnG⟩ infD.sp.res infDR := by
  simp only [infD, infDR, Keeps, chain, unOne, List.length, SameL, v, E.prop, E.den, Bi.den, Un.den, b2i_ne, beq_iff_eq]
  refine ⟨⟨trivial, ?_, trivial⟩, trivial⟩
  by_cases h : u 0 = 0
  · simp [h, b2i]; decide
  · simp [h, b2i]; decide
end Go.Proofs.Ytnodelimomljbaa.PlainRefA
