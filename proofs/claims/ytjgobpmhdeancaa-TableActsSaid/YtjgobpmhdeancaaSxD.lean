/- Values, memory and states of a symbolic run; what a world must be to be told by one. -/
import Derived.Test.YtjgobpmhdeancaaSxC
namespace Go.Sx
open Go

/-- What stands at a place: one number, or what a function says of the place and of a code. -/
inductive D where
  | con (e : E)
  | fn (k : IntKind) (f : Nat) (sh cd : E)
  deriving Inhabited
def D.at (ρ : Env) : D → Int → Int
  | .con e, _ => e.den ρ
  | .fn k f sh cd, j => k.wrap (ρ.fn f (j + sh.den ρ) (cd.den ρ) 0)
/-- A row of numbers of one kind: how many, what stands where nothing was written, what was written (from where, to where, what; the last first). -/
structure Arr where
  size : E
  kind : IntKind
  dflt : D
  ws : List (E × E × D)
  deriving Inhabited
def readW (ρ : Env) (d : D) : List (E × E × D) → Int → Int
  | [], j => d.at ρ j
  | (lo, hi, v) :: r, j => if lo.den ρ ≤ j ∧ j < hi.den ρ then v.at ρ j else readW ρ d r j
def Arr.row (ρ : Env) (A : Arr) : List Int := (List.range (A.size.den ρ).toNat).map fun (j : Nat) => readW ρ A.dflt A.ws j
def Arr.den (ρ : Env) (A : Arr) : Array Value := ((A.row ρ).map (Value.int A.kind)).toArray
def Arr.bytes (ρ : Env) (A : Arr) : ByteArray := (A.row ρ).foldl (fun r n => r.push (UInt8.ofNat n.toNat)) ByteArray.empty

inductive V where
  | bool (e : E)
  | int (k : IntKind) (e : E)
  | flt (k : FloatKind) (e : E)
  | str (s : List UInt8)
  | ptr (b off : Nat)
  | gptr (g off : Nat)
  | gat (g : Nat) (e : E)
  | nilp
  | slice (b off len cap : Nat)
  | sl (b : Nat) (off len cap : E)
  | cel (b : Nat) (off : E)
  | astr (A : Arr)
  | nils
  | agg (vs : List V)
  | tup (vs : List V)
  | func (f : Nat)
  | iface (t : Nat) (v : V)
  | nili
  | raw (i : Nat)
  | vf (f : Nat) (c : E)
  | ia (f : Nat) (c j : E) (size off : Nat)
  deriving Inhabited

structure Env2 extends Env where
  blk : Nat → Nat
  raw : Nat → Value
/-- the input of this name, at a code -/
def Env2.inAt (ρ : Env2) (f c : Nat) : Value := ρ.raw (f + 64 * c)
def sliceIn : Value → Value
  | .slice a n c => .slice a n c
  | _ => .slice none 0 0
theorem sliceIn_slice (v : Value) : ∃ a n c, sliceIn v = .slice a n c := by
  unfold sliceIn; split
  · exact ⟨_, _, _, rfl⟩
  · exact ⟨_, _, _, rfl⟩
def addrIn : Value → Option Addr
  | .slice a _ _ => a
  | _ => none

mutual
def V.den (ρ : Env2) : V → Value
  | .bool e => .bool (e.den ρ.toEnv != 0)
  | .int k e => .int k (e.den ρ.toEnv)
  | .flt k e => .float k (e.den ρ.toEnv).toNat
  | .str s => .string ⟨s.toArray⟩
  | .ptr b off => .pointer (some ⟨ρ.blk b, off, none⟩)
  | .gptr g off => .pointer (some ⟨g, off, none⟩)
  | .gat g e => .pointer (some ⟨g, (e.den ρ.toEnv).toNat, none⟩)
  | .nilp => .pointer none
  | .slice b off len cap => .slice (some ⟨ρ.blk b, off, none⟩) len cap
  | .sl b off len cap => .slice (some ⟨ρ.blk b, (off.den ρ.toEnv).toNat, none⟩) (len.den ρ.toEnv).toNat (cap.den ρ.toEnv).toNat
  | .cel b off => .pointer (some ⟨ρ.blk b, (off.den ρ.toEnv).toNat, none⟩)
  | .astr A => .string (A.bytes ρ.toEnv)
  | .nils => .slice none 0 0
  | .agg vs => .agg (V.denL ρ vs).toArray
  | .tup vs => .tuple (V.denL ρ vs).toArray
  | .func f => .func (.func f) #[] #[]
  | .iface t v => .iface t (v.den ρ)
  | .nili => .nilIface
  | .raw i => ρ.raw i
  | .vf f c => sliceIn (ρ.inAt f (c.den ρ.toEnv).toNat)
  | .ia f c j size off => .pointer ((addrIn (ρ.inAt f (c.den ρ.toEnv).toNat)).map fun a => a.add ((j.den ρ.toEnv).toNat * size + off))
def V.denL (ρ : Env2) : List V → List Value
  | [] => []
  | v :: r => v.den ρ :: V.denL ρ r
end
theorem denL_eq (ρ : Env2) (l : List V) : V.denL ρ l = l.map (V.den ρ) := by
  induction l with
  | nil => simp [V.denL]
  | cons v r ih => simp [V.denL, ih]

def V.cells : V → List V
  | .agg vs => vs
  | v => [v]
def isRaw : V → Bool
  | .raw _ => true
  | _ => false
theorem den_cells (ρ : Env2) (v : V) (h : isRaw v = false) : (v.den ρ).cells = (V.denL ρ v.cells).toArray := by
  cases v with
  | vf f c =>
    obtain ⟨a, n, cap, e⟩ := sliceIn_slice (ρ.inAt f (c.den ρ.toEnv).toNat)
    simp only [V.den, V.cells, V.denL, e, Value.cells]
  | _ => simp [isRaw] at h <;> simp [V.den, V.cells, V.denL, Value.cells]

def undefV : V := .tup []
theorem den_undef (ρ : Env2) : undefV.den ρ = undef := by simp [undefV, V.den, V.denL, undef]

/-- A row of cells of the call's own. -/
structure O where
  vs : List V
  elem : TypeId
  arr : Option Arr
def O.cells (ρ : Env2) (o : O) : Array Value := match o.arr with
  | none => (V.denL ρ o.vs).toArray
  | some A => A.den ρ.toEnv
def O.den (ρ : Env2) (o : O) : Obj := .cells (o.cells ρ) o.elem

/-- An input row, of every code: how many cells an element has, how many elements (of var 0: the code), what stands in the cells (of var 0: the place, var 1: the code). -/
structure InSpec where
  f : Nat
  size : Nat
  len : E
  parts : List V
structure St where
  n : Nat
  tm : T V
  hp : T O
  nb : Nat
  nv : Nat
  bd : Bd
  pc : List E
  gl : List (Nat × IntKind × List Nat)
  inp : List InSpec := []

def St.tmp (s : St) (t : Nat) : V := (s.tm.get t).getD undefV

/-- The names that stand have the same meaning. -/
def Le (s : St) (ρ ρ' : Env2) : Prop := (∀ i, i < s.nb → ρ'.blk i = ρ.blk i) ∧ (∀ i, i < s.nv → ρ'.v i = ρ.v i) ∧ ρ'.fn = ρ.fn ∧ ρ'.raw = ρ.raw
theorem Le.refl (s : St) (ρ : Env2) : Le s ρ ρ := ⟨fun _ _ => rfl, fun _ _ => rfl, rfl, rfl⟩
theorem Le.trans {s s' : St} {ρ ρ' ρ'' : Env2} (h : Le s ρ ρ') (hb : s.nb ≤ s'.nb) (hv : s.nv ≤ s'.nv) (h' : Le s' ρ' ρ'') : Le s ρ ρ'' :=
  ⟨fun i hi => (h'.1 i (by omega)).trans (h.1 i hi), fun i hi => (h'.2.1 i (by omega)).trans (h.2.1 i hi), h'.2.2.1.trans h.2.2.1, h'.2.2.2.trans h.2.2.2⟩

/-- What was there is as it was; what is new is not frozen. -/
structure Ext (w w' : World) : Prop where
  os : w'.os = w.os
  output : w'.output = w.output
  size : w.heap.size ≤ w'.heap.size
  old : ∀ i, i < w.heap.size → w'.heap[i]? = w.heap[i]?
  frozen : ∀ a : Addr, w'.frozen? a = w.frozen? a
theorem Ext.refl (w : World) : Ext w w := ⟨rfl, rfl, Nat.le_refl _, fun _ _ => rfl, fun _ => rfl⟩
theorem Ext.trans {w w' w'' : World} (h : Ext w w') (h' : Ext w' w'') : Ext w w'' :=
  ⟨h'.os.trans h.os, h'.output.trans h.output, Nat.le_trans h.size h'.size, fun i hi => (h'.old i (Nat.lt_of_lt_of_le hi h.size)).trans (h.old i hi), fun a => (h'.frozen a).trans (h.frozen a)⟩

/-- Where a run begins: the world, and what the functions of numbers stand for. -/
structure Base where
  w : World
  fn : Nat → Int → Int → Int → Int
def Env2.two (ρ : Env2) (j c : Nat) : Env2 := { ρ with v := fun i => if i = 0 then (j : Int) else (c : Int) }
def InOk (w : World) (ρ : Env2) (sp : InSpec) : Prop := ∀ c : Nat, ∃ (a : Option Addr) (n cap : Nat), ρ.inAt sp.f c = .slice a n cap ∧ sp.len.den ⟨fun _ => (c : Int), ρ.fn⟩ = (n : Int) ∧
  ∀ j : Nat, j < n → ∃ b, a = some b ∧ b.block < w.heap.size ∧ ∀ (k : Nat) (v : V), sp.parts[k]? = some v → w.cell? (b.add (j * sp.size + k)) = some (v.den (ρ.two j c))
def GlOk (w0 : Base) (ρ : Env2) (s : St) : Prop := (∀ p ∈ s.gl, p.1 < w0.w.heap.size ∧ ∀ (j x : Nat), p.2.2[j]? = some x → w0.w.cell? ⟨p.1, j, none⟩ = some (.int p.2.1 x)) ∧ ∀ sp ∈ s.inp, InOk w0.w ρ sp
structure RelW0 (w0 : Base) (ρ : Env2) (s : St) (w : World) : Prop where
  ext : Ext w0.w w
  fn : ρ.fn = w0.fn
  hp : ∀ i o, s.hp.get i = some o → i < s.nb ∧ w0.w.heap.size ≤ ρ.blk i ∧ ρ.blk i < w.heap.size ∧ w.heap[ρ.blk i]? = some (o.den ρ)
  inj : ∀ i j o o', s.hp.get i = some o → s.hp.get j = some o' → ρ.blk i = ρ.blk j → i = j
  gl : GlOk w0 ρ s
  bd : s.bd.ok ρ.toEnv
  pc : pcOk ρ.toEnv s.pc
structure RelA0 (ρ : Env2) (s : St) (a : Act) : Prop where
  size : a.tmps.size = s.n
  tm : ∀ t v, t < s.n → s.tm.get t = some v → a.tmps[t]? = some (v.den ρ)
  defers : a.defers = []
def RelW (w0 : Base) (ρ : Env2) (s : St) (w : World) : Prop := ∀ ρ', Le s ρ ρ' → RelW0 w0 ρ' s w
def RelA (ρ : Env2) (s : St) (a : Act) : Prop := ∀ ρ', Le s ρ ρ' → RelA0 ρ' s a
theorem RelW.to {w0 : Base} {ρ : Env2} {s : St} {w : World} (h : RelW w0 ρ s w) : RelW0 w0 ρ s w := h ρ (Le.refl _ _)
theorem RelA.to {ρ : Env2} {s : St} {a : Act} (h : RelA ρ s a) : RelA0 ρ s a := h ρ (Le.refl _ _)

/-! ### constants and operands -/
def mapO {α β : Type} (g : α → Option β) : List α → Option (List β)
  | [] => some []
  | v :: r => match g v with
    | some x => match mapO g r with
      | some xs => some (x :: xs)
      | none => none
    | none => none
theorem mapO_some {α β : Type} {g : α → Option β} : ∀ {l : List α} {xs : List β}, mapO g l = some xs → xs.length = l.length ∧ ∀ (i : Nat) (v : α), l[i]? = some v → ∃ x, xs[i]? = some x ∧ g v = some x
  | [], xs, h => by cases h; exact ⟨rfl, fun i v hv => by simp at hv⟩
  | v :: r, xs, h => by
    simp only [mapO] at h
    split at h
    · rename_i x hx
      split at h
      · rename_i ys hys
        cases h
        have := mapO_some hys
        refine ⟨by simp [this.1], fun i u hu => ?_⟩
        cases i with
        | zero => simp at hu; subst hu; exact ⟨x, rfl, hx⟩
        | succ i => simp at hu; simpa using this.2 i u hu
      · cases h
    · cases h
def ofVal : Nat → Value → Option V
  | 0, _ => none
  | f + 1, v => match v with
    | .bool b => some (.bool (.lit (b2i b)))
    | .int k n => some (.int k (.lit n))
    | .float k b => some (.flt k (.lit (.ofNat b)))
    | .string s => some (.str s.data.toList)
    | .pointer none => some .nilp
    | .slice none 0 0 => some .nils
    | .nilIface => some .nili
    | .agg cs => match mapO (ofVal f) cs.toList with
      | some xs => some (.agg xs)
      | none => none
    | _ => none
theorem den_ofVal (ρ : Env2) : ∀ (f : Nat) (v : Value) (x : V), ofVal f v = some x → x.den ρ = v := by
  intro f
  induction f with
  | zero => intro v x h; simp [ofVal] at h
  | succ f ih =>
    have ihs : ∀ (l : List Value) (xs : List V), mapO (ofVal f) l = some xs → V.denL ρ xs = l := by
      intro l
      induction l with
      | nil => intro xs h; cases h; rfl
      | cons v r ihr =>
        intro xs h
        simp only [mapO] at h
        split at h
        · rename_i x hx
          split at h
          · rename_i ys hys; cases h; simp [V.denL, ih _ _ hx, ihr _ hys]
          · cases h
        · cases h
    intro v x h
    unfold ofVal at h
    split at h <;> try simp only [Option.some.injEq] at h
    · subst h; simp [V.den, E.den, b2i_bne]
    · subst h; simp [V.den, E.den]
    · subst h; simp [V.den, E.den]
    · subst h; simp [V.den]
    · subst h; simp [V.den]
    · subst h; simp [V.den]
    · subst h; simp [V.den]
    · split at h
      · rename_i xs hx; cases h; simp [V.den, ihs _ _ hx]
      · cases h
    · cases h

theorem ofVal_raw {f : Nat} {v : Value} {x : V} (h : ofVal f v = some x) : isRaw x = false := by
  cases f with
  | zero => simp [ofVal] at h
  | succ f =>
    unfold ofVal at h
    split at h <;> first | (cases h; done) | (cases h; rfl) | skip
    split at h <;> first | (cases h; done) | (cases h; rfl)

def evO (s : St) : Operand → Option V
  | .tmp t => match Nat.ble (t + 1) s.n with
    | true => s.tm.get t
    | false => none
  | .const v => ofVal 6 v
  | .global g => some (.gptr g 0)
  | .func f => some (.func f)
theorem den_evO {ρ : Env2} {s : St} {a : Act} (h : RelA0 ρ s a) {x : Operand} {v : V} (hv : evO s x = some v) : a.eval x = v.den ρ := by
  cases x with
  | tmp t =>
    simp only [evO] at hv
    split at hv
    · rename_i hb
      have := h.tm t v (Nat.le_of_ble_eq_true hb) hv
      simp [Act.eval, this]
    · cases hv
  | const c => simp only [Act.eval]; exact (den_ofVal ρ _ _ _ hv).symm
  | global g => cases hv; simp [Act.eval, V.den]
  | func f => cases hv; simp [Act.eval, V.den]

end Go.Sx
