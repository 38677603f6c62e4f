/- Memory of the call's own: new rows, loads, stores; the operations, one by one. -/
import Derived.Test.YtjgobpmhdeancaaSxF
import Derived.RowKit3
namespace Go.Sx
open Go

def St.allocO (s : St) (o : O) : St := { s with hp := s.hp.put s.nb o, nb := s.nb + 1 }
def St.alloc (s : St) (vs : List V) (elem : TypeId) : St := { s with hp := s.hp.put s.nb ⟨vs, elem, none⟩, nb := s.nb + 1 }
def Env2.setBlk (ρ : Env2) (i r : Nat) : Env2 := { ρ with blk := fun j => if j = i then r else ρ.blk j }
theorem le_setBlk (s : St) (ρ : Env2) (r : Nat) : Le s ρ (ρ.setBlk s.nb r) :=
  ⟨fun i hi => by simp [Env2.setBlk]; omega, fun _ _ => rfl, rfl, rfl⟩

theorem Ext.alloc (w : World) (c : Array Value) (t : TypeId) : Ext w (w.alloc (.cells c t)) :=
  ⟨rfl, rfl, by simp only [World.alloc, Array.size_push]; omega, fun i hi => heap_alloc_old w _ hi, fun a => RowKit.frozen?_alloc_cells w c t a⟩

theorem relW_allocO {w0 : Base} {w : World} {ρ : Env2} {s : St} (h : RelW w0 ρ s w) (o1 : O) (c : Array Value)
    (hc : ∀ ρ', Le s ρ ρ' → o1.cells ρ' = c) :
    RelW w0 (ρ.setBlk s.nb w.heap.size) (s.allocO o1) (w.alloc (.cells c o1.elem)) := by
  intro ρ' hle
  have hle0 : Le s ρ ρ' := (le_setBlk s ρ _).trans (s' := s.allocO o1) (by simp [St.allocO]) (by simp [St.allocO]) hle
  have hb : ρ'.blk s.nb = w.heap.size := (hle.1 s.nb (by simp [St.allocO])).trans (by simp [Env2.setBlk])
  have h0 := h ρ' hle0
  have hsz : (w.alloc (.cells c o1.elem)).heap.size = w.heap.size + 1 := by simp only [World.alloc, Array.size_push]
  refine ⟨h0.ext.trans (Ext.alloc w c o1.elem), h0.fn, ?_, ?_, h0.gl, h0.bd, h0.pc⟩
  · intro i o ho
    simp only [St.allocO, T.get_put] at ho
    split at ho
    · rename_i hi
      subst hi
      cases ho
      refine ⟨by simp [St.allocO], by rw [hb]; exact h0.ext.size, by rw [hb, hsz]; omega, ?_⟩
      rw [hb, heap_alloc_new]
      simp [O.den, hc ρ' hle0]
    · obtain ⟨h1, h2, h3, h4⟩ := h0.hp i o ho
      exact ⟨by simp [St.allocO]; omega, h2, by rw [hsz]; omega, by rw [heap_alloc_old _ _ h3]; exact h4⟩
  · intro i j o o' ho ho' he
    simp only [St.allocO, T.get_put] at ho ho'
    split at ho
    · rename_i hi
      split at ho'
      · rename_i hj; omega
      · have := (h0.hp j o' ho').2.2.1; rw [hi, hb] at he; omega
    · split at ho'
      · rename_i hj; have := (h0.hp i o ho).2.2.1; rw [hj, hb] at he; omega
      · exact h0.inj i j o o' ho ho' he

theorem relW_alloc {w0 : Base} {w : World} {ρ : Env2} {s : St} (h : RelW w0 ρ s w) (vs : List V) (elem : TypeId) (c : Array Value)
    (hc : ∀ ρ', Le s ρ ρ' → (V.denL ρ' vs).toArray = c) :
    RelW w0 (ρ.setBlk s.nb w.heap.size) (s.alloc vs elem) (w.alloc (.cells c elem)) := relW_allocO h ⟨vs, elem, none⟩ c hc

theorem relA_of {ρ ρ1 : Env2} {s s1 : St} {a : Act} (h : RelA ρ s a) (hle : Le s ρ ρ1) (hn : s1.n = s.n) (ht : s1.tm = s.tm) (hb : s.nb ≤ s1.nb) (hv : s.nv ≤ s1.nv) : RelA ρ1 s1 a := by
  intro ρ' hle'
  have h0 := h ρ' (hle.trans hb hv hle')
  exact ⟨by rw [hn]; exact h0.size, fun t v htn hg => h0.tm t v (by omega) (ht ▸ hg), h0.defers⟩

/-! ### loads -/
def lookG : List (Nat × IntKind × List Nat) → Nat → Option (IntKind × List Nat)
  | [], _ => none
  | p :: r, g => match Nat.beq p.1 g with
    | true => some p.2
    | false => lookG r g
theorem lookG_mem : ∀ {l : List (Nat × IntKind × List Nat)} {g : Nat} {k : IntKind} {t : List Nat}, lookG l g = some (k, t) → (g, k, t) ∈ l
  | [], _, _, _, h => by cases h
  | (g', k', t') :: r, g, k, t, h => by
    simp only [lookG] at h
    split at h
    · rename_i hb
      have := Nat.eq_of_beq_eq_true hb
      cases h
      subst this
      exact List.mem_cons_self
    · exact List.mem_cons_of_mem _ (lookG_mem h)
def loadV (P : Program) (s : St) (t : TypeId) (x : V) : Option V := match x with
  | .ptr b off => match s.hp.get b with
    | some ⟨vs, _, none⟩ => match aggT P t with
      | some true => match sizeT P t with
        | some n => match Nat.ble (off + n) vs.length with
          | true => some (.agg ((vs.drop off).take n))
          | false => none
        | none => none
      | some false => vs[off]?
      | none => none
    | _ => none
  | .gat g e => match lookG s.gl g with
    | some (k, l) => match aggT P t with
      | some false => match inside (itv s.bd e) l.length with
        | true => some (.int k (mkUn (.tab l) e))
        | false => none
      | _ => none
    | none => none
  | _ => none
theorem cell_of {w0 : Base} {w : World} {ρ : Env2} {s : St} (h : RelW0 w0 ρ s w) {b : Nat} {vs : List V} {e : TypeId} (ho : s.hp.get b = some ⟨vs, e, none⟩) (off : Nat) :
    w.cell? ⟨ρ.blk b, off, none⟩ = (vs[off]?).map (V.den ρ) := by
  have := (h.hp b _ ho).2.2.2
  simp [World.cell?, this, O.den, O.cells, denL_get]
theorem run_loadV {P : Program} {w0 : Base} {w : World} {ρ : Env2} {s : St} (h : RelW0 w0 ρ s w) {t : TypeId} {x v : V} (hv : loadV P s t x = some v) :
    (Instr.loadAt t (x.den ρ)).run P w = .ok (v.den ρ) w := by
  unfold loadV at hv
  split at hv
  · rename_i b off
    split at hv
    · rename_i vs el ho
      have hc := cell_of h ho
      split at hv
      · rename_i ha
        split at hv
        · rename_i n hn
          split at hv
          · rename_i hle
            have hle := Nat.le_of_ble_eq_true hle
            cases hv
            have hl : ((vs.drop off).take n).length = n := by simp; omega
            have := run_loadCells_list (P := P) w ⟨ρ.blk b, off, none⟩ (V.denL ρ ((vs.drop off).take n)) (fun j u hu => by
              rw [add_addr, hc]
              rw [denL_get] at hu
              rw [← hu]
              congr 1
              have hj : j < n := by
                rcases Nat.lt_or_ge j n with h' | h'
                · exact h'
                · rw [List.getElem?_eq_none (by omega)] at hu; cases hu
              rw [List.getElem?_take_of_lt hj, List.getElem?_drop])
            rw [denL_len, hl] at this
            simp only [Instr.loadAt, Instr.sureAddr, V.den, Sem.run_bind]
            simp only [loadVar, Sem.run_bind, Sem.run_pure, Result.andThen_ok, run_aggT w ha]
            simp only [if_true, Sem.run_bind, run_sizeT w hn, Result.andThen_ok, this, Sem.run_pure]
          · cases hv
        · cases hv
      · rename_i ha
        have h1 := hc off
        rw [hv] at h1
        simp only [Instr.loadAt, Instr.sureAddr, V.den, Sem.run_bind]
        simp only [loadVar, Sem.run_bind, Sem.run_pure, Result.andThen_ok, run_aggT w ha]
        simp [run_load, h1]
      · cases hv
    · cases hv
  · rename_i g e
    split at hv
    · rename_i k l hl
      split at hv
      · rename_i ha
        split at hv
        · rename_i hin
          cases hv
          obtain ⟨h0, h1⟩ := inside_of hin (has_itv h.bd e)
          obtain ⟨h2, h3⟩ := h.gl.1 _ (lookG_mem hl)
          have hlt : (e.den ρ.toEnv).toNat < l.length := by omega
          have h4 := h3 (e.den ρ.toEnv).toNat l[(e.den ρ.toEnv).toNat] (by simp [hlt])
          have h5 : w.cell? ⟨g, (e.den ρ.toEnv).toNat, none⟩ = w0.w.cell? ⟨g, (e.den ρ.toEnv).toNat, none⟩ := by
            simp [World.cell?, h.ext.old g h2]
          simp only at h4
          rw [← h5] at h4
          simp only [Instr.loadAt, Instr.sureAddr, V.den, Sem.run_bind]
          simp only [loadVar, Sem.run_bind, Sem.run_pure, Result.andThen_ok, run_aggT w ha]
          simp [run_load, h4, den_mkUn, Un.den, List.getD, hlt]
        · cases hv
      · cases hv
    · cases hv
  · cases hv

/-! ### stores -/
def oneV : V → Bool
  | .agg _ | .tup _ | .raw _ => false
  | _ => true
def allOne : List V → Bool
  | [] => true
  | v :: r => oneV v && allOne r
theorem one_den (ρ : Env2) {v : V} (h : oneV v = true) : (v.den ρ).oneCell' = true := by
  cases v with
  | vf f c =>
    obtain ⟨a, n, cap, e⟩ := sliceIn_slice (ρ.inAt f (c.den ρ.toEnv).toNat)
    simp only [V.den, e]; rfl
  | _ => simp [oneV] at h <;> rfl
theorem allOne_den (ρ : Env2) : ∀ {l : List V}, allOne l = true → ∀ u ∈ V.denL ρ l, u.oneCell' = true
  | [], _, u, hu => by simp [V.denL] at hu
  | v :: r, h, u, hu => by
    simp only [allOne, Bool.and_eq_true] at h
    simp only [V.denL, List.mem_cons] at hu
    rcases hu with rfl | hu
    · exact one_den ρ h.1
    · exact allOne_den ρ h.2 u hu

def St.setRow (s : St) (b : Nat) (o : O) : St := { s with hp := s.hp.put b o }
def storeS (P : Program) (s : St) (t : TypeId) (x v : V) : Option St := match x with
  | .ptr b off => match s.hp.get b with
    | some ⟨vs, el, none⟩ => match sizeT P t with
      | some n => match Nat.beq v.cells.length n && Nat.ble (off + n) vs.length && allOne v.cells && !isRaw v with
        | true => some (s.setRow b ⟨vs.take off ++ v.cells ++ vs.drop (off + n), el, none⟩)
        | false => none
      | none => none
    | _ => none
  | _ => none

theorem Ext.setRow {w0 w : World} (h : Ext w0 w) {g : Nat} (hg : w0.heap.size ≤ g) (old cs : Array Value) (t : TypeId) (ho : w.heap[g]? = some (.cells old t)) : Ext w0 (w.setRow g cs) := by
  refine ⟨h.os, h.output, by simpa using h.size, fun i hi => ?_, fun a => ?_⟩
  · rw [setRow_other _ _ _ _ (by omega)]; exact h.old i hi
  · rw [← h.frozen a]
    by_cases ha : a.block = g
    · simp [World.frozen?, ha, ho, setRow_heap w g old cs t (0, 0) ho]
    · simp [World.frozen?, setRow_other w g a.block cs ha]

theorem relW_setRow {w0 : Base} {w : World} {ρ : Env2} {s : St} (h : RelW w0 ρ s w) {b : Nat} {o : O} (ho : s.hp.get b = some o) (o1 : O) (he1 : o1.elem = o.elem) (c : Array Value)
    (hc : ∀ ρ', Le s ρ ρ' → o1.cells ρ' = c) : RelW w0 ρ (s.setRow b o1) (w.setRow (ρ.blk b) c) := by
  intro ρ' hle
  have hle : Le s ρ ρ' := hle
  have h0 := h ρ' hle
  obtain ⟨hb, hlo, hhi, hcell⟩ := h0.hp b o ho
  have hblk : ρ'.blk b = ρ.blk b := hle.1 b hb
  rw [hblk] at hlo hhi hcell
  refine ⟨h0.ext.setRow hlo _ c o.elem hcell, h0.fn, ?_, ?_, h0.gl, h0.bd, h0.pc⟩
  · intro i o' hi
    simp only [St.setRow, T.get_put] at hi
    split at hi
    · rename_i he
      subst he
      cases hi
      refine ⟨hb, by rw [hblk]; exact hlo, by rw [hblk]; simpa using hhi, ?_⟩
      rw [hblk, setRow_heap w _ _ c o.elem (0, 0) hcell]
      simp [O.den, hc ρ' hle, he1]
    · rename_i hne
      obtain ⟨h1, h2, h3, h4⟩ := h0.hp i o' hi
      refine ⟨h1, h2, by simpa using h3, ?_⟩
      rw [setRow_other _ _ _ _ (fun he => hne (h0.inj i b o' o hi ho (he.trans hblk.symm)))]
      exact h4
  · intro i j p q hi hj he
    simp only [St.setRow, T.get_put] at hi hj
    have look : ∀ k r, (if k = b then some o1 else s.hp.get k) = some r → ∃ r', s.hp.get k = some r' := by
      intro k r hk
      split at hk
      · rename_i he; exact ⟨o, by rw [he]; exact ho⟩
      · exact ⟨r, hk⟩
    obtain ⟨p', hp'⟩ := look i p hi
    obtain ⟨q', hq'⟩ := look j q hj
    exact h0.inj i j p' q' hp' hq' he

theorem run_storeS {P : Program} {w0 : Base} {w : World} {ρ : Env2} {s s1 : St} (h : RelW w0 ρ s w) {t : TypeId} {x v : V} (hs : storeS P s t x v = some s1) (xv vv : Value)
    (hx : ∀ ρ', Le s ρ ρ' → x.den ρ' = xv) (hv : ∀ ρ', Le s ρ ρ' → v.den ρ' = vv) :
    ∃ w1, (Instr.storeAt t xv vv).run P w = .ok () w1 ∧ RelW w0 ρ s1 w1 ∧ s1.n = s.n ∧ s1.tm = s.tm ∧ s1.nb = s.nb ∧ s1.nv = s.nv := by
  unfold storeS at hs
  split at hs
  · rename_i b off
    split at hs
    · rename_i vs el ho
      split at hs
      · rename_i n hn
        split at hs
        · rename_i hc
          simp only [Bool.and_eq_true] at hc
          obtain ⟨⟨⟨h1, h2⟩, h3⟩, h9⟩ := hc
          have h9 : isRaw v = false := by simpa using h9
          have h1 := Nat.eq_of_beq_eq_true h1
          have h2 := Nat.le_of_ble_eq_true h2
          cases hs
          have h0 := h.to
          obtain ⟨hb, hlo, hhi, hcell⟩ := h0.hp b _ ho
          have hvd := hv ρ (Le.refl _ _)
          have hcells : ∀ ρ', Le s ρ ρ' → V.denL ρ' v.cells = vv.cells.toList := fun ρ' hle => by rw [← hv ρ' hle, den_cells _ _ h9]
          have hlen : vv.cells.size = n := by rw [← hvd, den_cells _ _ h9]; simp [denL_len, h1]
          have hold : ∀ ρ', Le s ρ ρ' → V.denL ρ' vs = V.denL ρ vs := fun ρ' hle => by
            have e1 := (h ρ' hle).hp b _ ho
            have e2 := e1.2.2.2
            rw [hle.1 b hb, hcell] at e2
            simp [O.den, O.cells] at e2
            exact e2.symm
          refine ⟨w.setRow (ρ.blk b) ((V.denL ρ vs).take off ++ vv.cells.toList ++ (V.denL ρ vs).drop (off + n)).toArray, ?_, ?_, rfl, rfl, rfl, rfl⟩
          · have := run_storeCells_at (P := P) (ρ.blk b) off el vv.cells.toList 0 (V.denL ρ vs).toArray w hcell (by simp [denL_len]; omega) (by rw [← hcells ρ (Le.refl _ _)]; exact allOne_den ρ h3)
            simp only [Nat.add_zero, Array.length_toList, hlen] at this
            rw [← hx ρ (Le.refl _ _)]
            simp only [Instr.storeAt, Instr.sureAddr, V.den, Sem.run_bind, Sem.run_pure, Result.andThen_ok, storeVar, run_sizeT w hn, hlen, ne_eq, not_true_eq_false, if_false]
            exact this
          · exact relW_setRow h ho ⟨vs.take off ++ v.cells ++ vs.drop (off + n), el, none⟩ rfl _ fun ρ' hle => by simp only [O.cells]; rw [denL_app, denL_app, ← denL_take, ← denL_drop, hold ρ' hle, hcells ρ' hle]
        · cases hs
      · cases hs
    · cases hs
  · cases hs

end Go.Sx
