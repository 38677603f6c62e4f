/- The operations: those that only reckon, in one; those that make or write memory. -/
import Derived.Test.YtjgobpmhdeancaaSxH
import Derived.Laws.Tables
import Derived.Great.BuildSlice
namespace Go.Sx
open Go

def partsV (s : St) (ps : Array (Nat × Operand)) : Option (List (Nat × V)) := mapO (fun p => match evO s p.2 with
  | some v => some (p.1, v)
  | none => none) ps.toList
theorem den_partsV {ρ : Env2} {s : St} {a : Act} (h : RelA0 ρ s a) {ps : Array (Nat × Operand)} {vs : List (Nat × V)} (hv : partsV s ps = some vs) :
    (ps.map fun (i, x) => (i, a.eval x)).toList = vs.map fun p => (p.1, p.2.den ρ) := by
  obtain ⟨hl, hg⟩ := mapO_some hv
  apply List.ext_getElem?
  intro i
  simp only [Array.toList_map, List.getElem?_map]
  cases hx : ps.toList[i]? with
  | none =>
    have : vs.length ≤ i := by rw [hl]; exact List.getElem?_eq_none_iff.1 hx
    simp [List.getElem?_eq_none this]
  | some x =>
    obtain ⟨v, hv1, hv2⟩ := hg i x hx
    split at hv2
    · rename_i u hu; cases hv2; simp [hv1, den_evO h hu]
    · cases hv2

def placesT (P : Program) : List Field → Option (List (Nat × Nat)) := mapO fun f => match P.info? f.type with
  | some i => some (f.offset, i.size)
  | none => none
theorem placesT_some {P : Program} : ∀ {fs : List Field} {ps : List (Nat × Nat)}, placesT P fs = some ps → fs.mapM (fun f => (P.info? f.type).map fun i => (f.offset, i.size)) = some ps
  | [], ps, h => by cases h; rfl
  | f :: r, ps, h => by
    unfold placesT at h
    simp only [mapO] at h
    split at h
    · rename_i x hx
      split at h
      · rename_i xs hxs
        cases h
        have := placesT_some (P := P) (fs := r) (ps := xs) hxs
        split at hx
        · rename_i i hi; cases hx; simp [List.mapM_cons, hi, this]
        · cases hx
      · cases h
    · cases h

def buildV (P : Program) (t : TypeId) (parts : List (Nat × V)) : Option V := match zeroT P t with
  | none => none
  | some z => match P.underlying t with
    | some (.struct fs) => match placesT P fs.toList with
      | some ps => match fillV (fun i => ps.toArray[i]?) z.cells parts with
        | some c => some (.agg c)
        | none => none
      | none => none
    | some (.array _ e) => match P.info? e with
      | some ie => match fillV (fun i => some (i * ie.size, ie.size)) z.cells parts with
        | some c => some (.agg c)
        | none => none
      | none => none
    | _ => none
theorem zeroT_some {P : Program} (ρ : Env2) {t : TypeId} {v : V} (h : zeroT P t = some v) : ∃ i, P.info? t = some i ∧ i.zero = some (v.den ρ) := by
  unfold zeroT at h
  split at h
  · rename_i i hi
    split at h
    · rename_i z hz; exact ⟨i, hi, by rw [hz, den_ofVal ρ _ _ _ h]⟩
    · cases h
  · cases h
theorem run_buildV {P : Program} (ρ : Env2) (w : World) {t : TypeId} {parts : List (Nat × V)} {v : V} (h : buildV P t parts = some v) (ps : Array (Nat × Value))
    (hps : ps.toList = parts.map fun p => (p.1, p.2.den ρ)) : (Instr.build t ps).run P w = .ok (v.den ρ) w := by
  unfold buildV at h
  split at h
  · cases h
  · rename_i z hz
    obtain ⟨i, hi, hzi⟩ := zeroT_some ρ hz
    split at h
    · rename_i fs hu
      split at h
      · rename_i pl hpl
        split at h
        · rename_i c hc
          cases h
          have := run_fillV ρ hc
          simp only [V.den]
          refine run_build w t ps _ ?_
          simp only [Program.built, hi, hu, hzi, placesT_some hpl, hps, den_cells _ _ (zeroT_raw hz)]
          exact this
        · cases h
      · cases h
    · rename_i n e hu
      split at h
      · rename_i ie hie
        split at h
        · rename_i c hc
          cases h
          have := run_fillV ρ hc
          simp only [V.den]
          refine run_build w t ps _ ?_
          simp only [Program.built, hi, hu, hzi, hie, hps, den_cells _ _ (zeroT_raw hz)]
          exact this
        · cases h
      · cases h
    · cases h

/-- operations that only reckon -/
def opV (P : Program) (s : St) (o : Oper) : Option V := match o.op with
  | .move x => evO s x
  | .assign x => evO s x
  | .pick c x y => match evO s c, evO s x, evO s y with
    | some c, some x, some y => pickV s.bd s.pc c x y
    | _, _, _ => none
  | .binOp op t x y _ => match evO s x, evO s y with
    | some a, some b => match plainV a with
      | true => binV P s.bd s.pc op t a b
      | false => none
    | _, _ => none
  | .unOp op _ x => match evO s x with
    | some a => unV s.bd op a
    | none => none
  | .convert src dst x => match evO s x with
    | some a => convV P s.bd src dst a
    | none => none
  | .field t x f => match evO s x with
    | some a => fieldV P t a f
    | none => none
  | .fieldAddr t x f => match evO s x with
    | some a => fieldAtV P t a f
    | none => none
  | .index t x i => match evO s x, evO s i with
    | some a, some b => indexV P s.bd t a b
    | _, _ => none
  | .indexAddr t x i => match evO s x, evO s i with
    | some a, some b => indexAtV P s.bd t a b
    | _, _ => none
  | .extract x i => match evO s x with
    | some a => extractV a i
    | none => none
  | .load t x => match evO s x with
    | some a => loadV P s t a
    | none => none
  | .build t ps => match partsV s ps with
    | some vs => buildV P t vs
    | none => none
  | .nilCheck x => match evO s x with
    | some (.ptr b off) => some (.ptr b off)
    | some (.gptr b off) => some (.gptr b off)
    | _ => none
  | .call c => match c.callee with
    | .builtin bi => match evs s c.args with
      | some vs => builtinV P s.bd s.pc bi c.argTypes vs
      | none => none
    | _ => none
  | _ => none

theorem run_opV {P : Program} {w0 : Base} {w : World} {ρ : Env2} {s : St} {a : Act} (hw : RelW0 w0 ρ s w) (ha : RelA0 ρ s a) {o : Oper} {v : V} (h : opV P s o = some v) :
    (execOp a.eval o).run P w = .ok (.value (v.den ρ)) w := by
  unfold opV at h
  split at h <;> rename_i ho <;> simp only [execOp, ho]
  · simp [den_evO ha h]
  · simp [den_evO ha h]
  · split at h
    · rename_i c x y hc hx hy
      obtain ⟨e, he, hv⟩ := pickV_some hw.bd hw.pc h
      subst he
      rw [den_evO ha hc, den_evO ha hx, den_evO ha hy, hv]
      simp [V.den, asBool]
    · cases h
  · split at h
    · rename_i x y hx hy
      split at h
      · rename_i hp
        simp only [Sem.run_bind, den_evO ha hx, den_evO ha hy, run_eqGuard w hp, Result.andThen_ok, run_binV hw.bd hw.pc w h, Sem.run_pure]
      · cases h
    · cases h
  · split at h
    · rename_i x hx
      simp only [Sem.run_bind, den_evO ha hx, run_unV hw.bd w h, Result.andThen_ok, Sem.run_pure]
    · cases h
  · split at h
    · rename_i x hx
      simp only [Sem.run_bind, den_evO ha hx, run_convV hw.bd w h, Result.andThen_ok, Sem.run_pure]
    · cases h
  · split at h
    · rename_i x hx
      simp only [Sem.run_bind, den_evO ha hx, run_fieldV ρ w h, Result.andThen_ok, Sem.run_pure]
    · cases h
  · split at h
    · rename_i x hx
      simp only [Sem.run_bind, den_evO ha hx, run_fieldAtV ρ w h, Result.andThen_ok, Sem.run_pure]
    · cases h
  · split at h
    · rename_i x y hx hy
      simp only [Sem.run_bind, den_evO ha hx, den_evO ha hy, run_indexV hw.bd w h, Result.andThen_ok, Sem.run_pure]
    · cases h
  · split at h
    · rename_i x y hx hy
      simp only [Sem.run_bind, den_evO ha hx, den_evO ha hy, run_indexAtV hw.bd w h, Result.andThen_ok, Sem.run_pure]
    · cases h
  · split at h
    · rename_i x hx
      simp only [Sem.run_bind, den_evO ha hx, run_extractV ρ w h, Result.andThen_ok, Sem.run_pure]
    · cases h
  · split at h
    · rename_i x hx
      simp only [Sem.run_bind, den_evO ha hx, run_loadV hw h, Result.andThen_ok, Sem.run_pure]
    · cases h
  · split at h
    · rename_i vs hvs
      have := den_partsV ha hvs
      simp only [Sem.run_bind, run_buildV ρ w h _ this, Result.andThen_ok, Sem.run_pure]
    · cases h
  · split at h
    · rename_i hx; cases h; rw [den_evO ha hx]; simp [V.den]
    · rename_i hx; cases h; rw [den_evO ha hx]; simp [V.den]
    · cases h
  · rename_i c
    split at h
    · rename_i bi hbi
      split at h
      · rename_i vs hvs
        have := den_evs ha hvs
        simp only [resolve, hbi, this, Sem.run_bind, Sem.run_pure, Result.andThen_ok, invoke]
        exact run_builtinV hw.bd hw.pc w h
      · cases h
    · cases h
  · cases h

end Go.Sx
