/- From a run to a statement: what is left to show of numbers alone. -/
import Derived.Test.YtjgobpmhdeancaaSxN
namespace Go.Sx
open Go

/-! ### which functions have bodies -/
def bodyOf (fn : Func) : Known := ⟨fn, match fn.body with
  | some c => c
  | none => .skip⟩
def bodies : List (Nat × Func) → Bodies
  | [], _ => none
  | (g, fn) :: r, f => match Nat.beq g f with
    | true => some (bodyOf fn)
    | false => bodies r f
def AllKnown (P : Program) : List (Nat × Func) → Prop
  | [] => True
  | (f, fn) :: r => (P.funcs[f]? = some fn ∧ fn.body.isSome = true ∧ ∀ ys w', (callFunc f ys).run P w' = .ok (.enter f ys) w') ∧ AllKnown P r
theorem bodies_ok {P : Program} : ∀ {l : List (Nat × Func)}, AllKnown P l → BodiesOk P (bodies l)
  | [], _, f, k, h => by simp [bodies] at h
  | (g, fn) :: r, ha, f, k, h => by
    simp only [bodies] at h
    split at h
    · rename_i hb
      have := Nat.eq_of_beq_eq_true hb
      subst this
      cases h
      obtain ⟨⟨h1, h2, h3⟩, _⟩ := ha
      refine ⟨h1, ?_, h3⟩
      simp only [bodyOf]
      cases hbody : fn.body with
      | none => rw [hbody] at h2; cases h2
      | some c => rfl
    · exact bodies_ok ha.2 f k h

def noOracle : Oracle := fun _ _ _ => none
theorem noLoops_ok (P : Program) (w0 : Base) (bs : Bodies) : LoopsOk P w0 bs noLoops := fun cur p s outs h => by simp [noLoops] at h
theorem noOracle_ok (P : Program) (w0 : Base) : OracleOk P w0 noOracle := fun f s args l h => by simp [noOracle] at h

/-! ### where a run begins -/
abbrev Tabs := List (Nat × IntKind × List Nat)
/-- the tables that stand among the program's variables -/
def TabsOk (w0 : World) (gl : Tabs) : Prop := ∀ p ∈ gl, p.1 < w0.heap.size ∧ ∀ (j x : Nat), p.2.2[j]? = some x → w0.cell? ⟨p.1, j, none⟩ = some (.int p.2.1 x)
def supposeAll (b : Bd) : List E → Bd
  | [] => b
  | e :: r => suppose (supposeAll b r) e
theorem ok_supposeAll {ρ : Env} {b : Bd} (hb : b.ok ρ) : ∀ {pc : List E}, pcOk ρ pc → (supposeAll b pc).ok ρ
  | [], _ => hb
  | e :: _, h => ok_suppose e (ok_supposeAll hb fun p hp => h p (List.mem_cons_of_mem _ hp)) (h e List.mem_cons_self)
def start (nv : Nat) (bd : Bd) (pc : List E) (gl : Tabs) : St := { n := 0, tm := .e, hp := .e, nb := 0, nv := nv, bd := supposeAll bd pc, pc := pc, gl := gl }
def env (v : Nat → Int) (fn : Nat → Int → Int → Int → Int) : Env2 := { v := v, fn := fn, blk := fun _ => 0, raw := fun _ => undef }
theorem relW_start {w0 : Base} {w : World} (hx : Ext w0.w w) {v : Nat → Int} {nv : Nat} {bd : Bd} {pc : List E} {gl : Tabs} (hg : TabsOk w0.w gl)
    (h : ∀ ρ', Le (start nv bd pc gl) (env v w0.fn) ρ' → bd.ok ρ'.toEnv ∧ pcOk ρ'.toEnv pc) : RelW w0 (env v w0.fn) (start nv bd pc gl) w := fun ρ' hle =>
  ⟨hx, hle.2.2.1, fun i o ho => by simp [start, T.get] at ho, fun i j o o' ho => by simp [start, T.get] at ho, ⟨hg, fun sp hsp => by cases hsp⟩, ok_supposeAll (h ρ' hle).1 (h ρ' hle).2, (h ρ' hle).2⟩

/-- the bounds of the first names, each of a kind (none: a bool) -/
def kindBd : Nat → List (Option IntKind) → Bd
  | _, [] => []
  | i, none :: r => (.var i, iv01) :: kindBd (i + 1) r
  | i, some k :: r => (.var i, kindIv k) :: kindBd (i + 1) r
def kindArgs : Nat → List (Option IntKind) → List V
  | _, [] => []
  | i, none :: r => .bool (.var i) :: kindArgs (i + 1) r
  | i, some k :: r => .int k (.var i) :: kindArgs (i + 1) r
def kindVals (v : Nat → Int) : Nat → List (Option IntKind) → List Value
  | _, [] => []
  | i, none :: r => .bool (v i != 0) :: kindVals v (i + 1) r
  | i, some k :: r => .int k (v i) :: kindVals v (i + 1) r
def KindOk (v : Nat → Int) : Nat → List (Option IntKind) → Prop
  | _, [] => True
  | i, none :: r => iv01.has (v i) ∧ KindOk v (i + 1) r
  | i, some k :: r => (kindIv k).has (v i) ∧ KindOk v (i + 1) r
theorem kindBd_ok {ρ : Env} : ∀ {ks : List (Option IntKind)} {i : Nat}, KindOk ρ.v i ks → (kindBd i ks).ok ρ
  | [], _, _ => fun p hp => by simp [kindBd] at hp
  | none :: r, i, h => fun p hp => by
    simp only [kindBd, List.mem_cons] at hp
    rcases hp with rfl | hp
    · exact h.1
    · exact kindBd_ok h.2 p hp
  | some k :: r, i, h => fun p hp => by
    simp only [kindBd, List.mem_cons] at hp
    rcases hp with rfl | hp
    · exact h.1
    · exact kindBd_ok h.2 p hp
theorem kindVals_congr {v v' : Nat → Int} : ∀ {ks : List (Option IntKind)} {i : Nat}, (∀ j, j < i + ks.length → v' j = v j) → kindVals v' i ks = kindVals v i ks
  | [], _, _ => rfl
  | none :: r, i, h => by simp only [kindVals]; rw [h i (by simp), kindVals_congr fun j hj => h j (by simp at hj ⊢; omega)]
  | some k :: r, i, h => by simp only [kindVals]; rw [h i (by simp), kindVals_congr fun j hj => h j (by simp at hj ⊢; omega)]
theorem kindOk_congr {v v' : Nat → Int} : ∀ {ks : List (Option IntKind)} {i : Nat}, (∀ j, j < i + ks.length → v' j = v j) → KindOk v i ks → KindOk v' i ks
  | [], _, _, _ => trivial
  | none :: r, i, h, hk => ⟨by rw [h i (by simp)]; exact hk.1, kindOk_congr (fun j hj => h j (by simp at hj ⊢; omega)) hk.2⟩
  | some k :: r, i, h, hk => ⟨by rw [h i (by simp)]; exact hk.1, kindOk_congr (fun j hj => h j (by simp at hj ⊢; omega)) hk.2⟩
theorem den_kindArgs (ρ : Env2) : ∀ {ks : List (Option IntKind)} {i : Nat}, V.denL ρ (kindArgs i ks) = kindVals ρ.v i ks
  | [], _ => rfl
  | none :: r, i => by simp [kindArgs, kindVals, V.denL, V.den, E.den, den_kindArgs ρ]
  | some k :: r, i => by simp [kindArgs, kindVals, V.denL, V.den, E.den, den_kindArgs ρ]

/-- what a run comes to: on each way the tests that it has taken, and the answer -/
abbrev Leaf := List E × V
def leaves (l : List (V × St)) : List Leaf := l.map fun r => (r.2.pc, r.1)
def runOf (P : Program) (orc : Oracle) (lo : LoopOracle) (bs : Bodies) (gl : Tabs) (fuel f : Nat) (ks : List (Option IntKind)) (pre : List E) : Option (List Leaf) :=
  match callBy P noOracle bs (exec P orc lo bs fuel) f (start ks.length (kindBd 0 ks) pre gl) (kindArgs 0 ks) with
  | some l => some (leaves l)
  | none => none

def chain (ρ : Env) (goal : Prop) : List E → Prop
  | [] => goal
  | p :: r => chain ρ (p.prop ρ → goal) r
theorem chain_of {ρ : Env} : ∀ {pc : List E} {goal : Prop}, pcOk ρ pc → chain ρ goal pc → goal
  | [], _, _, h => h
  | p :: _, goal, hp, h => chain_of (goal := p.prop ρ → goal) (fun e he => hp e (List.mem_cons_of_mem _ he)) h ((E.prop_iff ρ p).2 (hp p List.mem_cons_self))

theorem Ext.grown {w w' : World} (h : Ext w w') : RowKit.Grown w w' := by
  refine ⟨⟨h.os, h.output, fun i hi => ?_⟩, h.frozen, h.size⟩
  rw [h.old i hi]
  cases w.heap[i]? with
  | none => rfl
  | some o => cases o <;> simp

/-- A run, told: from every world that goes on from the first one, the call ends on one of the ways. -/
theorem run_calls {P : Program} {orc : Oracle} {lo : LoopOracle} {fns : List (Nat × Func)} {w0 : Base} (ho : OracleOk P w0 orc) (hlo : LoopsOk P w0 (bodies fns) lo) (hf : AllKnown P fns) {gl : Tabs} (hg : TabsOk w0.w gl) {fuel f : Nat} {ks : List (Option IntKind)} {pre : List E} {ls : List Leaf}
    (hrun : runOf P orc lo (bodies fns) gl fuel f ks pre = some ls) (hpre : ∀ ρ ρ' : Env, ρ'.fn = ρ.fn → (∀ j, j < ks.length → ρ'.v j = ρ.v j) → pcOk ρ pre → pcOk ρ' pre)
    (v : Nat → Int) (hv : KindOk v 0 ks) (hp : pcOk ⟨v, w0.fn⟩ pre) {w : World} (hx : Ext w0.w w) (R : Ending → World → Prop)
    (hR : ∀ x ∈ ls, ∀ (ρ1 : Env2) (w1 : World), (∀ j, j < ks.length → ρ1.v j = v j) → ρ1.fn = w0.fn → pcOk ρ1.toEnv x.1 → Ext w0.w w1 → R (.returned (x.2.den ρ1)) w1) :
    Calls P f (kindVals v 0 ks).toArray w R := by
  have hbs := bodies_ok hf
  unfold runOf at hrun
  split at hrun
  · rename_i l hl'
    cases hrun
    have hc := callBy_ok (noOracle_ok P w0) hbs (exec_ok ho hbs hlo fuel)
    have hle : ∀ {ρ' : Env2}, Le (start ks.length (kindBd 0 ks) pre gl) (env v w0.fn) ρ' → ∀ j, j < ks.length → ρ'.v j = v j := fun h j hj => h.2.1 j hj
    have hent : ∀ ys w', (callFunc f ys).run P w' = .ok (.enter f ys) w' := by
      have h0 := hl'
      simp only [callBy, noOracle] at h0
      split at h0
      · cases h0
      · rename_i k hk; exact (hbs f k hk).2.2
    have h2 := hc _ _ _ _ hl' (env v w0.fn) w (relW_start hx hg fun ρ' h => ⟨kindBd_ok (kindOk_congr (v := v) (fun j hj => hle h j (by omega)) hv), hpre ⟨v, w0.fn⟩ ρ'.toEnv h.2.2.1 (hle h) hp⟩) (kindVals v 0 ks)
      (fun ρ' h => by rw [den_kindArgs]; exact kindVals_congr fun j hj => hle h j (by omega))
    have h2 := h2.resolve_right fun ⟨x, w1, hv1, _⟩ => by rw [hent] at hv1; cases hv1
    refine h2.2.mono ?_
    rintro e w1 ⟨out, hout, x, ρ1, rfl, hle1, _, _, hw1, hx1⟩
    have h0 := hw1.to
    rw [← hx1 ρ1 (Le.refl _ _)]
    exact hR (out.2.pc, out.1) (List.mem_map.2 ⟨out, hout, rfl⟩) ρ1 w1 (hle hle1) hle1.2.2.1 h0.pc h0.ext
  · cases hrun

/-! ### a law: the answer is true on every way -/
def Law (ρ : Env) : List Leaf → Prop
  | [] => True
  | (pc, .bool e) :: r => chain ρ (e.prop ρ) pc ∧ Law ρ r
  | _ :: _ => False
theorem law_at {ρ : Env} : ∀ {l : List Leaf}, Law ρ l → ∀ x ∈ l, ∃ e, x.2 = .bool e ∧ chain ρ (e.prop ρ) x.1
  | [], _, x, hx => by cases hx
  | (pc, v) :: r, h, x, hx => by
    cases v <;> simp only [Law] at h <;> first | exact h.elim | skip
    cases hx with
    | head => exact ⟨_, rfl, h.1⟩
    | tail _ hx => exact law_at h.2 x hx

/-- THE STATEMENT OF A LAW OVER NUMBERS AND BOOLS. -/
theorem law_calls {P : Program} {orc : Oracle} {lo : LoopOracle} {fns : List (Nat × Func)} {w : World} (fn : Nat → Int → Int → Int → Int) (ho : OracleOk P ⟨w, fn⟩ orc) (hlo : LoopsOk P ⟨w, fn⟩ (bodies fns) lo) (hf : AllKnown P fns) {gl : Tabs} (hg : TabsOk w gl) {fuel f : Nat} {ks : List (Option IntKind)} {ls : List Leaf}
    (hrun : runOf P orc lo (bodies fns) gl fuel f ks [] = some ls) (v : Nat → Int) (hv : KindOk v 0 ks)
    (hl : ∀ u : Nat → Int, KindOk u 0 ks → Law ⟨u, fn⟩ ls) :
    Calls P f (kindVals v 0 ks).toArray w fun e w' => e = .returned (.bool true) ∧ RowKit.Grown w w' := by
  refine run_calls (w0 := ⟨w, fn⟩) ho hlo hf hg hrun (fun _ _ _ _ _ => fun e he => by cases he) v hv (fun e he => by cases he) (Ext.refl w) _ ?_
  intro x hx ρ1 w1 hv1 hfn hpc hext
  refine ⟨?_, hext.grown⟩
  obtain ⟨be, hbe, hch⟩ := law_at (hl ρ1.v (kindOk_congr (fun j hj => hv1 j (by omega)) hv)) x hx
  have hρ : (⟨ρ1.v, fn⟩ : Env) = ρ1.toEnv := by
    have : ρ1.fn = fn := hfn
    rw [← this]
  rw [hρ] at hch
  have hp := chain_of hpc hch
  rw [hbe]
  simp only [V.den]
  rw [(bne_iff_ne (a := be.den ρ1.toEnv) (b := 0)).2 ((E.prop_iff _ _).1 hp)]

/-! ### a contract: the answers as expressions of what came in -/
structure FSpec where
  f : Nat
  ks : List (Option IntKind)
  pre : List E
  res : List (Option IntKind × E)
  bds : Bd

def resV1 (l : List E) : Option IntKind × E → V
  | (none, e) => .bool (e.at l)
  | (some k, e) => .int k (e.at l)
def resVal (ρ : Env) : Option IntKind × E → Value
  | (none, e) => .bool (e.den ρ != 0)
  | (some k, e) => .int k (e.den ρ)
def valOne : List Value → Value
  | [v] => v
  | vs => .tuple vs.toArray

theorem has_of_wf {k : IntKind} {n : Int} (h : (Lit.int k n).wf = true) : (kindIv k).has n := by
  have key : ∀ (a b x : Int), a ≤ x ∧ x ≤ b → Iv.has (some a, some b) x := fun a b x h => ⟨fun _ h' => (by injection h'; omega), fun _ h' => (by injection h'; omega)⟩
  cases k <;> (refine key _ _ _ ?_; simp [Lit.wf, IntKind.min, IntKind.max, IntKind.bits, IntKind.signed] at h; omega)
def vals (l : List Int) : Nat → Int := fun i => l.getD i 0
theorem of_kind {k : IntKind} {n : Int} (h : (kindIv k).has n) : (match k with
    | .i8 => -128 ≤ n ∧ n ≤ 127 | .i16 => -32768 ≤ n ∧ n ≤ 32767 | .i32 => -2147483648 ≤ n ∧ n ≤ 2147483647 | .i64 => -9223372036854775808 ≤ n ∧ n ≤ 9223372036854775807
    | .u8 => 0 ≤ n ∧ n ≤ 255 | .u16 => 0 ≤ n ∧ n ≤ 65535 | .u32 => 0 ≤ n ∧ n ≤ 4294967295 | .u64 => 0 ≤ n ∧ n ≤ 18446744073709551615 : Prop) := by
  cases k <;> exact ⟨h.1 _ rfl, h.2 _ rfl⟩

end Go.Sx
