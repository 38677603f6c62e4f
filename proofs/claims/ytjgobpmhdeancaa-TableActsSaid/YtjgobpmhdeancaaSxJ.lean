/- Operations that make or write memory; what follows an operation. -/
import Derived.Test.YtjgobpmhdeancaaSxI
namespace Go.Sx
open Go

/-- What an operation that came to an end has left. -/
def Step (P : Program) (w0 : Base) (ρ : Env2) (s : St) (a : Act) (w : World) (o : Oper) (v : V) (s1 : St) : Prop :=
  ∃ r x ρ1 w1, (execOp a.eval o).run P w = .ok r w1 ∧ (r = .value x ∨ (r = .skip ∧ x = undef)) ∧ (∀ ρ', Le s1 ρ1 ρ' → v.den ρ' = x) ∧ Le s ρ ρ1 ∧ RelW w0 ρ1 s1 w1 ∧
    s1.n = s.n ∧ s1.tm = s.tm ∧ s.nb ≤ s1.nb ∧ s.nv ≤ s1.nv

theorem step_opV {P : Program} {w0 : Base} {w : World} {ρ : Env2} {s : St} {a : Act} (hw : RelW w0 ρ s w) (ha : RelA ρ s a) {o : Oper} {v : V} (h : opV P s o = some v) :
    Step P w0 ρ s a w o v s := by
  have h0 := run_opV hw.to ha.to h
  refine ⟨_, _, ρ, w, h0, .inl rfl, fun ρ' hle => ?_, Le.refl _ _, hw, rfl, rfl, Nat.le_refl _, Nat.le_refl _⟩
  have h1 := run_opV (hw ρ' hle) (ha ρ' hle) h
  rw [h0] at h1
  injection h1 with h1
  injection h1 with h1
  exact h1.symm

def zerosV (z : List V) (n : Nat) : List V := (List.range n).map fun i => z.getD (i % z.length) undefV
theorem den_zerosV (ρ : Env2) (z : List V) (n : Nat) (hz : 0 < z.length) : (Array.range n).map ((V.denL ρ z).toArray[· % (V.denL ρ z).toArray.size]!) = (V.denL ρ (zerosV z n)).toArray := by
  apply Array.ext'
  simp only [Array.toList_map, Array.toList_range, zerosV, denL_eq, List.map_map]
  apply List.map_congr_left
  intro i _
  have hm : i % z.length < z.length := Nat.mod_lt _ hz
  simp [List.getD, hm]

def opM (P : Program) (s : St) (o : Oper) : Option (V × St) := match o.op with
  | .alloc elem => match zeroT P elem with
    | some z => some (.ptr s.nb 0, s.alloc z.cells elem)
    | none => none
  | .box elem x => match evO s x with
    | some v => match isRaw v with
      | false => some (.ptr s.nb 0, s.alloc v.cells elem)
      | true => none
    | none => none
  | .store t x y => match evO s x, evO s y with
    | some p, some v => match storeS P s t p v with
      | some s1 => some (undefV, s1)
      | none => none
    | _, _ => none
  | .buildSlice t len ps => match P.underlying t with
    | some (.slice e) => match P.info? e with
      | some ie => match zeroT P e with
        | some z => match partsV s ps with
          | some vs => match Nat.ble (len * ie.size) 16777216 && Nat.ble 1 (len * ie.size) && Nat.ble 1 z.cells.length with
            | true => match fillV (fun i => some (i * ie.size, ie.size)) (zerosV z.cells (len * ie.size)) vs with
              | some c => some (.slice s.nb 0 len len, s.alloc c e)
              | none => none
            | false => none
          | none => none
        | none => none
      | none => none
    | _ => none
  | _ => none

theorem step_opM {P : Program} {w0 : Base} {w : World} {ρ : Env2} {s : St} {a : Act} (hw : RelW w0 ρ s w) (ha : RelA ρ s a) {o : Oper} {v : V} {s1 : St} (h : opM P s o = some (v, s1)) :
    Step P w0 ρ s a w o v s1 := by
  have hset : ∀ ρ', Le (s.alloc [] 0) (ρ.setBlk s.nb w.heap.size) ρ' → ρ'.blk s.nb = w.heap.size := fun ρ' hle => (hle.1 s.nb (by simp [St.alloc])).trans (by simp [Env2.setBlk])
  unfold opM at h
  split at h <;> rename_i ho
  · rename_i elem
    split at h
    · rename_i z hz
      cases h
      refine ⟨.value (.pointer (some ⟨w.heap.size, 0, none⟩)), _, ρ.setBlk s.nb w.heap.size, w.alloc (.cells (V.denL ρ z.cells).toArray elem), ?_, .inl rfl, fun ρ' hle => ?_, le_setBlk _ _ _, relW_alloc hw _ _ _ fun ρ' _ => ?_, rfl, rfl, Nat.le_succ _, Nat.le_refl _⟩
      · simp only [execOp, ho, Sem.run_bind, Instr.alloc, run_zeroT ρ w hz, Result.andThen_ok]
        simp [newVar, newRow, newObj, Sem.run, den_cells _ _ (zeroT_raw hz)]
      · simp only [V.den, hset ρ' hle]
      · have e1 := run_zeroT (P := P) ρ w hz
        have e2 := run_zeroT (P := P) ρ' w hz
        rw [e1] at e2
        injection e2 with e2
        rw [← den_cells _ _ (zeroT_raw hz), ← den_cells _ _ (zeroT_raw hz), e2]
    · cases h
  · rename_i elem x
    split at h
    · rename_i v' hv
      split at h
      · rename_i hraw
        cases h
        refine ⟨.value (.pointer (some ⟨w.heap.size, 0, none⟩)), _, ρ.setBlk s.nb w.heap.size, w.alloc (.cells (V.denL ρ v'.cells).toArray elem), ?_, .inl rfl, fun ρ' hle => ?_, le_setBlk _ _ _, relW_alloc hw _ _ _ fun ρ' hle => ?_, rfl, rfl, Nat.le_succ _, Nat.le_refl _⟩
        · simp only [execOp, ho, Sem.run_bind, Instr.box, den_evO ha.to hv]
          simp [newVar, newRow, newObj, Sem.run, den_cells _ _ hraw]
        · simp only [V.den, hset ρ' hle]
        · rw [← den_cells _ _ hraw, ← den_cells _ _ hraw, ← den_evO ha.to hv, ← den_evO (ha ρ' hle) hv]
      · cases h
    · cases h
  · rename_i t x y
    split at h
    · rename_i p v' hp hv
      split at h
      · rename_i s2 hs
        cases h
        obtain ⟨w1, hrun, hrel, h1, h2, h3, h4⟩ := run_storeS (P := P) hw hs (a.eval x) (a.eval y) (fun ρ' hle => (den_evO (ha ρ' hle) hp).symm) (fun ρ' hle => (den_evO (ha ρ' hle) hv).symm)
        refine ⟨.skip, undef, ρ, w1, ?_, .inr ⟨rfl, rfl⟩, fun _ _ => den_undef _, Le.refl _ _, hrel, h1, h2, by omega, by omega⟩
        simp only [execOp, ho, Sem.run_bind, hrun, Result.andThen_ok, Sem.run_pure]
      · cases h
    · cases h
  · rename_i t len ps
    split at h
    · rename_i e hu
      split at h
      · rename_i ie hie
        split at h
        · rename_i z hz
          split at h
          · rename_i vs hvs
            split at h
            · rename_i hc
              simp only [Bool.and_eq_true] at hc
              have hc1 := Nat.le_of_ble_eq_true hc.1.1
              have hc2 := Nat.le_of_ble_eq_true hc.1.2
              have hc3 := Nat.le_of_ble_eq_true hc.2
              split at h
              · rename_i c hf
                cases h
                have cell : ∀ ρ', Le s ρ ρ' → (Instr.buildSlice t len (ps.map fun (i, x) => (i, a.eval x))).run P w = .ok (.slice (some ⟨w.heap.size, 0, none⟩) len len) (w.alloc (.cells (V.denL ρ' c).toArray e)) := by
                  intro ρ' hle
                  obtain ⟨i, hi, hzi⟩ := zeroT_some ρ' hz
                  rw [hie] at hi
                  cases hi
                  have hf' := run_fillV ρ' hf
                  refine run_buildSlice w t e len _ _ ie _ hu hie hzi (by omega) (by omega) ?_
                  rw [den_partsV (ha ρ' hle) hvs, den_cells _ _ (zeroT_raw hz), den_zerosV ρ' _ _ hc3]
                  exact hf'
                have c0 := cell ρ (Le.refl _ _)
                refine ⟨.value (.slice (some ⟨w.heap.size, 0, none⟩) len len), _, ρ.setBlk s.nb w.heap.size, _, ?_, .inl rfl, fun ρ' hle => ?_, le_setBlk _ _ _, relW_alloc hw _ _ (V.denL ρ c).toArray fun ρ' hle => ?_, rfl, rfl, Nat.le_succ _, Nat.le_refl _⟩
                · simp only [execOp, ho, Sem.run_bind, c0, Result.andThen_ok, Sem.run_pure]
                · simp only [V.den, hset ρ' hle]
                · have c1 := cell ρ' hle
                  rw [c0] at c1
                  injection c1 with _ c1
                  have := congrArg (fun w : World => w.heap[w.heap.size - 1]?) c1
                  simp only [World.alloc, Array.size_push, Nat.add_sub_cancel] at this
                  simp at this
                  rw [this]
              · cases h
            · cases h
          · cases h
        · cases h
      · cases h
    · cases h
  · cases h

end Go.Sx
