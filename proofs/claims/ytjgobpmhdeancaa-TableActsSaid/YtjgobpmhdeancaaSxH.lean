/- The operations of a statement, one by one. -/
import Derived.Test.YtjgobpmhdeancaaSxG
namespace Go.Sx
open Go

def evs (s : St) (xs : Array Operand) : Option (List V) := mapO (evO s) xs.toList
theorem den_evs {ρ : Env2} {s : St} {a : Act} (h : RelA0 ρ s a) {xs : Array Operand} {vs : List V} (hv : evs s xs = some vs) : xs.map a.eval = (V.denL ρ vs).toArray := by
  obtain ⟨hl, hg⟩ := mapO_some hv
  apply Array.ext'
  apply List.ext_getElem?
  intro i
  simp only [Array.toList_map, List.getElem?_map, denL_eq]
  cases hx : xs.toList[i]? with
  | none =>
    have : vs.length ≤ i := by rw [hl]; exact List.getElem?_eq_none_iff.1 hx
    simp [List.getElem?_eq_none this]
  | some x =>
    obtain ⟨v, hv1, hv2⟩ := hg i x hx
    simp [hv1, den_evO h hv2]

/-- built-ins on numbers, and lengths -/
def minE (b : Bd) (pc : List E) (less : Bool) (x y : E) : E :=
  match (match less with
    | true => mkBin .lt y x
    | false => mkBin .lt x y) with
  | c => match dec b pc c with
    | some true => y
    | some false => x
    | none => .ite c y x
theorem den_minE {ρ : Env} {b : Bd} {pc : List E} (hb : b.ok ρ) (hp : pcOk ρ pc) (less : Bool) (x y : E) :
    (minE b pc less x y).den ρ = if (if less then y.den ρ < x.den ρ else x.den ρ < y.den ρ) then y.den ρ else x.den ρ := by
  unfold minE
  have key : ∀ c : E, (c.den ρ != 0) = decide (if less = true then y.den ρ < x.den ρ else x.den ρ < y.den ρ) →
      (match dec b pc c with | some true => y | some false => x | none => E.ite c y x).den ρ = if (if less = true then y.den ρ < x.den ρ else x.den ρ < y.den ρ) then y.den ρ else x.den ρ := by
    intro c hc
    split
    · rename_i hd; rw [dec_some hb hp _ _ hd] at hc; simp [of_decide_eq_true hc.symm]
    · rename_i hd; rw [dec_some hb hp _ _ hd] at hc; simp [of_decide_eq_false hc.symm]
    · simp only [E.den]
      by_cases hh : (if less = true then y.den ρ < x.den ρ else x.den ρ < y.den ρ)
      · rw [decide_eq_true hh] at hc; simp [hh, bne_iff_ne.1 hc]
      · rw [decide_eq_false hh] at hc; simp at hc; simp [hh, hc]
  cases less
  · exact key _ (by simp [den_mkBin, Bi.den, b2i_bne])
  · exact key _ (by simp [den_mkBin, Bi.den, b2i_bne])

theorem ba_size (s : List UInt8) : (ByteArray.mk s.toArray).size = s.length := by
  show s.toArray.size = _
  simp
def builtinV (P : Program) (b : Bd) (pc : List E) (bi : Builtin) (ts : Array TypeId) (vs : List V) : Option V := match bi with
  | .len => match vs with
    | [x] => match ts[0]? with
      | some t => match P.underlying t with
        | some .string => match x with
          | .str s => some (.int .i64 (.lit (.ofNat s.length)))
          | _ => none
        | some (.array n _) => some (.int .i64 (.lit (.ofNat n)))
        | some (.slice _) => match x with
          | .slice _ _ n _ => some (.int .i64 (.lit (.ofNat n)))
          | .nils => some (.int .i64 (.lit (.ofNat 0)))
          | _ => none
        | _ => none
      | none => none
    | _ => none
  | .min => match vs with
    | [.int k x, .int _ y] => some (.int k (minE b pc true x y))
    | _ => none
  | .max => match vs with
    | [.int k x, .int _ y] => some (.int k (minE b pc false x y))
    | _ => none
  | _ => none
theorem run_builtinV {P : Program} {ρ : Env2} {b : Bd} {pc : List E} (hb : b.ok ρ.toEnv) (hp : pcOk ρ.toEnv pc) (w : World) {bi : Builtin} {ts : Array TypeId} {ty : TypeId} {cs : Array Bool} {vs : List V} {v : V}
    (h : builtinV P b pc bi ts vs = some v) : (builtin bi ts ty cs (V.denL ρ vs).toArray).run P w = .ok (.value (v.den ρ)) w := by
  unfold builtinV at h
  split at h
  · split at h
    · rename_i x
      split at h
      · rename_i t ht
        split at h
        · rename_i hu
          split at h
          · cases h; simp [builtin, Builtin.len_, ht, V.denL, run_underlying hu, V.den, E.den, goInt, ba_size]
          · cases h
        · rename_i hu
          cases h; simp [builtin, Builtin.len_, ht, V.denL, run_underlying hu, V.den, E.den, goInt]
        · rename_i hu
          split at h
          · cases h; simp [builtin, Builtin.len_, ht, V.denL, run_underlying hu, V.den, E.den, goInt]
          · cases h; simp [builtin, Builtin.len_, ht, V.denL, run_underlying hu, V.den, E.den, goInt]
          · cases h
        · cases h
      · cases h
    · cases h
  · split at h
    · cases h
      simp [builtin, Builtin.min_, Builtin.min2, V.denL, V.den, den_minE hb hp]
    · cases h
  · split at h
    · cases h
      simp [builtin, Builtin.max_, Builtin.max2, V.denL, V.den, den_minE hb hp]
    · cases h
  · cases h

/-! ### what is put together -/
def places (P : Program) : List Field → Option (List (Nat × Nat))
  | [] => some []
  | f :: r => match sizeT P f.type with
    | some n => match places P r with
      | some ps => some ((f.offset, n) :: ps)
      | none => none
    | none => none
theorem run_places {P : Program} (w : World) : ∀ {fs : List Field} {ps : List (Nat × Nat)}, places P fs = some ps →
    (fs.mapM fun f => do pure (f.offset, ← sizeOf f.type) : Sem (List (Nat × Nat))).run P w = .ok ps w
  | [], ps, h => by cases h; rfl
  | f :: r, ps, h => by
    simp only [places] at h
    split at h
    · rename_i n hn
      split at h
      · rename_i qs hq
        cases h
        have := run_places w hq
        simp only [List.mapM_cons, Sem.run_bind, run_sizeT w hn, Result.andThen_ok, Sem.run_pure, this]
      · cases h
    · cases h

def setAt (cs : List V) (off : Nat) : List V → List V
  | [] => cs
  | v :: r => setAt (cs.set off v) (off + 1) r
theorem setAt_len (cs : List V) (off : Nat) (l : List V) : (setAt cs off l).length = cs.length := by
  induction l generalizing cs off with
  | nil => rfl
  | cons v r ih => simp [setAt, ih]
theorem foldl_set (ρ : Env2) (off : Nat) : ∀ (l cs : List V) (j : Nat), ((V.denL ρ l).zipIdx j).foldl (fun (cs : Array Value) (x : Value × Nat) => cs.setIfInBounds (off + x.2) x.1) (V.denL ρ cs).toArray = (V.denL ρ (setAt cs (off + j) l)).toArray
  | [], cs, j => by simp [V.denL, setAt]
  | v :: r, cs, j => by
    have ih := foldl_set ρ off r (cs.set (off + j) v) (j + 1)
    have hset : (V.denL ρ cs).toArray.setIfInBounds (off + j) (v.den ρ) = (V.denL ρ (cs.set (off + j) v)).toArray := by
      simp [denL_eq, List.map_set]
    simp only [V.denL, List.zipIdx_cons, List.foldl_cons]
    rw [hset, ih]
    simp [setAt, Nat.add_assoc]

def fillV (place : Nat → Option (Nat × Nat)) (cells : List V) : List (Nat × V) → Option (List V)
  | [] => some cells
  | (i, v) :: rest => match place i with
    | none => none
    | some (off, size) => match Nat.beq v.cells.length size && Nat.ble (off + size) cells.length && !isRaw v with
      | true => fillV place (setAt cells off v.cells) rest
      | false => none
theorem run_fillV (ρ : Env2) {place : Nat → Option (Nat × Nat)} : ∀ {parts : List (Nat × V)} {cells out : List V}, fillV place cells parts = some out →
    Instr.fill place (V.denL ρ cells).toArray (parts.map fun p => (p.1, p.2.den ρ)) = some (V.denL ρ out).toArray
  | [], cells, out, h => by cases h; rfl
  | (i, v) :: rest, cells, out, h => by
    simp only [fillV] at h
    split at h
    · cases h
    · rename_i off size hp
      split at h
      · rename_i hc
        simp only [Bool.and_eq_true] at hc
        have h1 := Nat.eq_of_beq_eq_true hc.1.1
        have h2 := Nat.le_of_ble_eq_true hc.1.2
        have h9 : isRaw v = false := by simpa using hc.2
        have ih := run_fillV ρ h
        have e2 := foldl_set ρ off v.cells cells 0
        rw [Nat.add_zero] at e2
        have e4 : (v.den ρ).cells.zipIdx.foldl (fun (cs : Array Value) (x : Value × Nat) => cs.setIfInBounds (off + x.2) x.1) (V.denL ρ cells).toArray = (V.denL ρ (setAt cells off v.cells)).toArray := by
          rw [den_cells _ _ h9, ← Array.foldl_toList, Array.toList_zipIdx]; exact e2
        have e3 : (v.den ρ).cells.size = size := by rw [den_cells _ _ h9]; simp [denL_len, h1]
        have e5 : (V.denL ρ cells).toArray.size = cells.length := by simp [denL_len]
        simp only [List.map_cons, Instr.fill, hp, e3, e5]
        rw [if_neg (by simp; omega)]
        refine Eq.trans ?_ ih
        exact congrArg (fun c => Instr.fill place c _) e4
      · cases h

end Go.Sx
