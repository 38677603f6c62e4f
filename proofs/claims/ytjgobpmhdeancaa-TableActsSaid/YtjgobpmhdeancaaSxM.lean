/- Statements whose order is open; the whole run. -/
import Derived.Test.YtjgobpmhdeancaaSxL
namespace Go.Sx
open Go

/-! ### when two states are one -/
def D.beq : D → D → Bool
  | .con a, .con b => a.beq b
  | .fn k f a c, .fn l g b d => decide (k = l) && Nat.beq f g && a.beq b && c.beq d
  | _, _ => false
theorem D.eq_of_beq : ∀ {a b : D}, a.beq b = true → a = b
  | .con a, b, h => by cases b <;> simp [D.beq] at h; rw [E.eq_of_beq h]
  | .fn k f a c, b, h => by cases b <;> simp [D.beq] at h; rw [h.1.1.1, h.1.1.2, E.eq_of_beq h.1.2, E.eq_of_beq h.2]
def wsBeq : List (E × E × D) → List (E × E × D) → Bool
  | [], [] => true
  | (a, b, x) :: r, (c, d, y) :: q => a.beq c && b.beq d && x.beq y && wsBeq r q
  | _, _ => false
theorem ws_of_beq : ∀ {a b : List (E × E × D)}, wsBeq a b = true → a = b
  | [], b, h => by cases b <;> simp [wsBeq] at h; rfl
  | (a, c, d) :: r, b, h => by
    cases b with
    | nil => simp [wsBeq] at h
    | cons x q => obtain ⟨x, y, z⟩ := x; simp [wsBeq] at h; rw [E.eq_of_beq h.1.1.1, E.eq_of_beq h.1.1.2, D.eq_of_beq h.1.2, ws_of_beq h.2]
def Arr.beq (a b : Arr) : Bool := a.size.beq b.size && decide (a.kind = b.kind) && D.beq a.dflt b.dflt && wsBeq a.ws b.ws
theorem Arr.eq_of_beq {a b : Arr} (h : a.beq b = true) : a = b := by
  obtain ⟨x, y, z, u⟩ := a; obtain ⟨x', y', z', u'⟩ := b
  simp [Arr.beq] at h
  rw [E.eq_of_beq h.1.1.1, h.1.1.2, D.eq_of_beq h.1.2, ws_of_beq h.2]
def arrBeq : Option Arr → Option Arr → Bool
  | none, none => true
  | some a, some b => a.beq b
  | _, _ => false
theorem arr_of_beq : ∀ {a b : Option Arr}, arrBeq a b = true → a = b
  | none, b, h => by cases b <;> simp [arrBeq] at h; rfl
  | some a, b, h => by
    cases b with
    | none => simp [arrBeq] at h
    | some b => rw [Arr.eq_of_beq h]
mutual
def V.beq : V → V → Bool
  | .bool a, .bool b => a.beq b
  | .int k a, .int l b => decide (k = l) && a.beq b
  | .flt k a, .flt l b => decide (k = l) && a.beq b
  | .str a, .str b => decide (a = b)
  | .ptr a b, .ptr c d => Nat.beq a c && Nat.beq b d
  | .gptr a b, .gptr c d => Nat.beq a c && Nat.beq b d
  | .gat a b, .gat c d => Nat.beq a c && b.beq d
  | .nilp, .nilp => true
  | .slice a b c d, .slice e f g h => Nat.beq a e && Nat.beq b f && Nat.beq c g && Nat.beq d h
  | .sl a b c d, .sl e f g h => Nat.beq a e && b.beq f && c.beq g && d.beq h
  | .cel a b, .cel c d => Nat.beq a c && b.beq d
  | .astr a, .astr b => a.beq b
  | .nils, .nils => true
  | .agg a, .agg b => V.beqL a b
  | .tup a, .tup b => V.beqL a b
  | .func a, .func b => Nat.beq a b
  | .iface t a, .iface u b => Nat.beq t u && a.beq b
  | .nili, .nili => true
  | .raw a, .raw b => Nat.beq a b
  | .vf a b, .vf c d => Nat.beq a c && b.beq d
  | .ia a b c d e, .ia f g h i j => Nat.beq a f && b.beq g && c.beq h && Nat.beq d i && Nat.beq e j
  | _, _ => false
def V.beqL : List V → List V → Bool
  | [], [] => true
  | a :: r, b :: q => a.beq b && V.beqL r q
  | _, _ => false
end
mutual
theorem V.eq_of_beq : ∀ (a b : V), a.beq b = true → a = b
  | .bool a, b, h => by cases b <;> simp [V.beq] at h; rw [E.eq_of_beq h]
  | .int k a, b, h => by cases b <;> simp [V.beq] at h; rw [h.1, E.eq_of_beq h.2]
  | .flt k a, b, h => by cases b <;> simp [V.beq] at h; rw [h.1, E.eq_of_beq h.2]
  | .str a, b, h => by cases b <;> simp [V.beq] at h; rw [h]
  | .ptr a b, c, h => by cases c <;> simp [V.beq] at h; rw [h.1, h.2]
  | .gptr a b, c, h => by cases c <;> simp [V.beq] at h; rw [h.1, h.2]
  | .gat a b, c, h => by cases c <;> simp [V.beq] at h; rw [h.1, E.eq_of_beq h.2]
  | .nilp, b, h => by cases b <;> simp [V.beq] at h; rfl
  | .slice a b c d, x, h => by cases x <;> simp [V.beq] at h; rw [h.1.1.1, h.1.1.2, h.1.2, h.2]
  | .sl a b c d, x, h => by cases x <;> simp [V.beq] at h; rw [h.1.1.1, E.eq_of_beq h.1.1.2, E.eq_of_beq h.1.2, E.eq_of_beq h.2]
  | .cel a b, x, h => by cases x <;> simp [V.beq] at h; rw [h.1, E.eq_of_beq h.2]
  | .astr a, x, h => by cases x <;> simp [V.beq] at h; rw [Arr.eq_of_beq h]
  | .nils, b, h => by cases b <;> simp [V.beq] at h; rfl
  | .agg a, b, h => by cases b <;> simp [V.beq] at h; rw [V.eq_of_beqL _ _ h]
  | .tup a, b, h => by cases b <;> simp [V.beq] at h; rw [V.eq_of_beqL _ _ h]
  | .func a, b, h => by cases b <;> simp [V.beq] at h; rw [h]
  | .iface t a, b, h => by cases b <;> simp [V.beq] at h; rw [h.1, V.eq_of_beq _ _ h.2]
  | .nili, b, h => by cases b <;> simp [V.beq] at h; rfl
  | .raw a, b, h => by cases b <;> simp [V.beq] at h; rw [h]
  | .vf a b, x, h => by cases x <;> simp [V.beq] at h; rw [h.1, E.eq_of_beq h.2]
  | .ia a b c d e, x, h => by cases x <;> simp [V.beq] at h; rw [h.1.1.1.1, E.eq_of_beq h.1.1.1.2, E.eq_of_beq h.1.1.2, h.1.2, h.2]
theorem V.eq_of_beqL : ∀ (a b : List V), V.beqL a b = true → a = b
  | [], b, h => by cases b <;> simp [V.beqL] at h; rfl
  | a :: r, b, h => by cases b <;> simp [V.beqL] at h; rw [V.eq_of_beq _ _ h.1, V.eq_of_beqL _ _ h.2]
end
def O.beq (a b : O) : Bool := V.beqL a.vs b.vs && Nat.beq a.elem b.elem && arrBeq a.arr b.arr
theorem O.eq_of_beq {a b : O} (h : a.beq b = true) : a = b := by
  obtain ⟨x, y, p⟩ := a; obtain ⟨z, u, q⟩ := b
  simp [O.beq] at h
  rw [V.eq_of_beqL _ _ h.1.1, h.1.2, arr_of_beq h.2]
def oBeq {α : Type} (f : α → α → Bool) : Option α → Option α → Bool
  | none, none => true
  | some a, some b => f a b
  | _, _ => false
def T.beq {α : Type} (f : α → α → Bool) : T α → T α → Bool
  | .e, .e => true
  | .n l v r, .n l' v' r' => oBeq f v v' && T.beq f l l' && T.beq f r r'
  | _, _ => false
theorem T.eq_of_beq {α : Type} {f : α → α → Bool} (hf : ∀ a b, f a b = true → a = b) : ∀ {a b : T α}, T.beq f a b = true → a = b
  | .e, b, h => by cases b <;> simp [T.beq] at h; rfl
  | .n l v r, b, h => by
    cases b with
    | e => simp [T.beq] at h
    | n l' v' r' =>
      simp [T.beq] at h
      rw [T.eq_of_beq hf h.1.2, T.eq_of_beq hf h.2]
      have : v = v' := by
        have h := h.1.1
        cases v <;> cases v' <;> simp [oBeq] at h
        · rfl
        · rw [hf _ _ h]
      rw [this]
def lBeq {α : Type} (f : α → α → Bool) : List α → List α → Bool
  | [], [] => true
  | a :: r, b :: q => f a b && lBeq f r q
  | _, _ => false
theorem eq_of_lBeq {α : Type} {f : α → α → Bool} (hf : ∀ a b, f a b = true → a = b) : ∀ {a b : List α}, lBeq f a b = true → a = b
  | [], b, h => by cases b <;> simp [lBeq] at h; rfl
  | a :: r, b, h => by
    cases b <;> simp [lBeq] at h
    rw [hf _ _ h.1, eq_of_lBeq hf h.2]
def InSpec.beq (a b : InSpec) : Bool := Nat.beq a.f b.f && Nat.beq a.size b.size && a.len.beq b.len && V.beqL a.parts b.parts
theorem InSpec.eq_of_beq {a b : InSpec} (h : a.beq b = true) : a = b := by
  obtain ⟨x, y, p, q⟩ := a; obtain ⟨x', y', p', q'⟩ := b
  simp [InSpec.beq] at h
  rw [h.1.1.1, h.1.1.2, E.eq_of_beq h.1.2, V.eq_of_beqL _ _ h.2]
def bdBeq (a b : E × Iv) : Bool := a.1.beq b.1 && decide (a.2 = b.2)
def St.beq (a b : St) : Bool := Nat.beq a.n b.n && Nat.beq a.nb b.nb && Nat.beq a.nv b.nv && T.beq V.beq a.tm b.tm && T.beq O.beq a.hp b.hp && lBeq bdBeq a.bd b.bd && lBeq E.beq a.pc b.pc && decide (a.gl = b.gl) && lBeq InSpec.beq a.inp b.inp
theorem St.eq_of_beq {a b : St} (h : a.beq b = true) : a = b := by
  obtain ⟨n, tm, hp, nb, nv, bd, pc, gl, inp⟩ := a
  obtain ⟨n', tm', hp', nb', nv', bd', pc', gl', inp'⟩ := b
  simp only [St.beq, Bool.and_eq_true] at h
  obtain ⟨⟨⟨⟨⟨⟨⟨⟨h1, h2⟩, h3⟩, h4⟩, h5⟩, h6⟩, h7⟩, h8⟩, h9⟩ := h
  have e9 := eq_of_lBeq (fun a b => InSpec.eq_of_beq) h9
  have e8 := of_decide_eq_true h8
  have e1 := Nat.eq_of_beq_eq_true h1
  have e2 := Nat.eq_of_beq_eq_true h2
  have e3 := Nat.eq_of_beq_eq_true h3
  have e4 := T.eq_of_beq (fun a b => V.eq_of_beq a b) h4
  have e5 := T.eq_of_beq (fun a b => O.eq_of_beq) h5
  have e6 := eq_of_lBeq (fun (a b : E × Iv) h => by
    simp only [bdBeq, Bool.and_eq_true, decide_eq_true_eq] at h
    exact Prod.ext (E.eq_of_beq h.1) h.2) h6
  have e7 := eq_of_lBeq (fun a b => E.eq_of_beq) h7
  rw [e1, e2, e3, e4, e5, e6, e7, e8, e9]

/-! ### all orders at once -/
def bBeq (a b : Bool) : Bool := match a with
  | true => b
  | false => !b
theorem eq_of_bBeq (a b : Bool) (h : bBeq a b = true) : a = b := by cases a <;> cases b <;> simp [bBeq] at h <;> rfl
/-- what is done, as one number; and a state -/
abbrev Entry := Nat × St
def insertE (l : Nat) (s : St) : List Entry → Option (List Entry)
  | [] => some [(l, s)]
  | (m, t) :: r => match Nat.beq m l with
    | true => match t.beq s with
      | true => some ((m, t) :: r)
      | false => none
    | false => match insertE l s r with
      | some q => some ((m, t) :: q)
      | none => none
theorem insertE_ok {l : Nat} {s : St} : ∀ {es out : List Entry}, insertE l s es = some out → (l, s) ∈ out ∧ ∀ e ∈ es, e ∈ out
  | [], out, h => by cases h; exact ⟨by simp, fun e he => by cases he⟩
  | (m, t) :: r, out, h => by
    simp only [insertE] at h
    split at h
    · rename_i hm
      split at h
      · rename_i ht
        cases h
        have e1 := Nat.eq_of_beq_eq_true hm
        have e2 := St.eq_of_beq ht
        subst e1 e2
        exact ⟨by simp, fun e he => he⟩
      · cases h
    · split at h
      · rename_i q hq
        cases h
        obtain ⟨h1, h2⟩ := insertE_ok hq
        exact ⟨List.mem_cons_of_mem _ h1, fun e he => by
          cases he with
          | head => exact List.mem_cons_self
          | tail _ he => exact List.mem_cons_of_mem _ (h2 e he)⟩
      · cases h

/-- what an operation waits for, as one number -/
def aft : List Edge → Nat
  | [] => 0
  | e :: r => match Region.binds .any e with
    | true => Nat.lor (2 ^ e.on) (aft r)
    | false => aft r
def masks (ops : Array Oper) : List Nat := ops.toList.map fun o => aft o.after.toList
def readyM (m : Nat) : Nat → List Nat → List Nat
  | _, [] => []
  | i, a :: r => match Nat.testBit m i with
    | true => readyM m (i + 1) r
    | false => match Nat.beq (Nat.land a m) a with
      | true => i :: readyM m (i + 1) r
      | false => readyM m (i + 1) r
theorem aft_bit (j : Nat) : ∀ l : List Edge, (aft l).testBit j = true ↔ ∃ e ∈ l, Region.binds .any e = true ∧ e.on = j
  | [] => by simp [aft]
  | e :: r => by
    have ih := aft_bit j r
    simp only [aft]
    split
    · rename_i hb
      rw [show Nat.lor (2 ^ e.on) (aft r) = (2 ^ e.on ||| aft r) from rfl, Nat.testBit_or, Nat.testBit_two_pow, Bool.or_eq_true, ih, decide_eq_true_eq]
      constructor
      · rintro (h | ⟨e', h1, h2⟩)
        · exact ⟨e, List.mem_cons_self, hb, h⟩
        · exact ⟨e', List.mem_cons_of_mem _ h1, h2⟩
      · rintro ⟨e', h1, h2, h3⟩
        cases h1 with
        | head => exact .inl h3
        | tail _ h1 => exact .inr ⟨e', h1, h2, h3⟩
    · rename_i hb
      rw [ih]
      constructor
      · rintro ⟨e', h1, h2⟩; exact ⟨e', List.mem_cons_of_mem _ h1, h2⟩
      · rintro ⟨e', h1, h2, h3⟩
        cases h1 with
        | head => rw [hb] at h2; cases h2
        | tail _ h1 => exact ⟨e', h1, h2, h3⟩
theorem aft_sub (m : Nat) (l : List Edge) : Nat.beq (Nat.land (aft l) m) (aft l) = true ↔ ∀ e ∈ l, Region.binds .any e = true → m.testBit e.on = true := by
  constructor
  · intro h e he hb
    have h1 : (aft l &&& m) = aft l := Nat.eq_of_beq_eq_true h
    have h2 := (aft_bit e.on l).2 ⟨e, he, hb, rfl⟩
    rw [← h1, Nat.testBit_and, Bool.and_eq_true] at h2
    exact h2.2
  · intro h
    have : (aft l &&& m) = aft l := by
      apply Nat.eq_of_testBit_eq
      intro j
      rw [Nat.testBit_and]
      cases hb : (aft l).testBit j with
      | false => rfl
      | true =>
        obtain ⟨e, he, hb1, rfl⟩ := (aft_bit j l).1 hb
        rw [h e he hb1]; rfl
    rw [show Nat.land (aft l) m = aft l from this]
    exact Nat.beq_refl _
theorem mem_readyM {m i : Nat} : ∀ {k : Nat} {l : List Nat}, i ∈ readyM m k l ↔ ∃ d a, i = k + d ∧ l[d]? = some a ∧ m.testBit i = false ∧ Nat.beq (Nat.land a m) a = true
  | k, [] => by simp [readyM]
  | k, a :: r => by
    have ih := mem_readyM (m := m) (i := i) (k := k + 1) (l := r)
    have up : (∃ d b, i = k + d ∧ (a :: r)[d]? = some b ∧ m.testBit i = false ∧ Nat.beq (Nat.land b m) b = true) ↔
        (i = k ∧ m.testBit k = false ∧ Nat.beq (Nat.land a m) a = true) ∨ ∃ d b, i = k + 1 + d ∧ r[d]? = some b ∧ m.testBit i = false ∧ Nat.beq (Nat.land b m) b = true := by
      constructor
      · rintro ⟨d, b, h1, h2, h3, h4⟩
        cases d with
        | zero => simp at h2 h1; subst h2; subst h1; exact .inl ⟨rfl, h3, h4⟩
        | succ d => exact .inr ⟨d, b, by omega, by simpa using h2, h3, h4⟩
      · rintro (⟨h1, h3, h4⟩ | ⟨d, b, h1, h2, h3, h4⟩)
        · subst h1; exact ⟨0, a, rfl, rfl, h3, h4⟩
        · exact ⟨d + 1, b, by omega, by simpa using h2, h3, h4⟩
    rw [up]
    simp only [readyM]
    split
    · rename_i hb
      rw [ih]
      exact ⟨.inr, fun h => h.resolve_left fun ⟨_, h2, _⟩ => by rw [hb] at h2; cases h2⟩
    · rename_i hb
      split
      · rename_i ha
        rw [List.mem_cons, ih]
        exact ⟨fun h => h.imp (fun h => ⟨h, hb, ha⟩) id, fun h => h.imp (fun h => h.1) id⟩
      · rename_i ha
        rw [ih]
        exact ⟨.inr, fun h => h.resolve_left fun ⟨_, _, h3⟩ => by rw [ha] at h3; cases h3⟩
/-- the number says what is listed -/
def Holds (listed : Array Bool) (m n : Nat) : Prop := listed.size = n ∧ ∀ j, listed.getD j false = m.testBit j
theorem holds_start (n : Nat) : Holds (Array.replicate n false) 0 n := ⟨by simp, fun j => by simp [Array.getD]⟩
theorem holds_set {listed : Array Bool} {m n i : Nat} (h : Holds listed m n) (hi : i < n) : Holds (listed.setIfInBounds i true) (Nat.lor m (2 ^ i)) n := by
  refine ⟨by simp [h.1], fun j => ?_⟩
  rw [show Nat.lor m (2 ^ i) = (m ||| 2 ^ i) from rfl, Nat.testBit_or, Nat.testBit_two_pow]
  by_cases hij : i = j
  · subst hij
    have : i < listed.size := by rw [h.1]; exact hi
    simp [this]
  · rw [getD_set_ne false hij, h.2 j]
    simp [hij]
theorem ready_iff {ops : Array Oper} {listed : Array Bool} {m : Nat} (h : Holds listed m ops.size) (i : Nat) : i ∈ Region.ready .any ops listed ↔ i ∈ readyM m 0 (masks ops) := by
  rw [mem_ready, mem_readyM]
  have hun : ∀ j, j < ops.size → (listed.getD j true = false ↔ m.testBit j = false) := fun j hj => by
    rw [← h.2 j]
    have : j < listed.size := by rw [h.1]; exact hj
    simp [this]
  constructor
  · rintro ⟨h0, o, ho, hall⟩
    have hlt : i < ops.size := (Array.getElem?_eq_some_iff.1 ho).1
    refine ⟨i, aft o.after.toList, by omega, ?_, (hun i hlt).1 h0, (aft_sub _ _).2 fun e he hb => ?_⟩
    · simp [masks, List.getElem?_map, ho]
    · rw [← h.2]; exact hall e (by simpa using he) hb
  · rintro ⟨d, a, hd, ha, h0, hall⟩
    have hd : d = i := by omega
    subst hd
    simp only [masks, List.getElem?_map, Array.getElem?_toList] at ha
    cases ho : ops[d]? with
    | none => rw [ho] at ha; cases ha
    | some o =>
      rw [ho] at ha
      cases ha
      have hlt : d < ops.size := (Array.getElem?_eq_some_iff.1 ho).1
      refine ⟨(hun d hlt).2 h0, o, rfl, fun e he hb => ?_⟩
      rw [h.2]; exact (aft_sub _ _).1 hall e (by simpa using he) hb

/-- one operation that leads to one state alone -/
def lone1 (P : Program) (call : CallF) (ops : Array Oper) (i : Nat) (s : St) : Option St := match ops[i]? with
  | none => none
  | some o => match guardL s ops o with
    | some [(t, s1)] => match t with
      | true => match stepL P call s1 o with
        | some [s2] => some s2
        | _ => none
      | false => some (s1.put o.dst undefV)
    | _ => none
def grow (P : Program) (call : CallF) (ops : Array Oper) (l : Nat) (s : St) : List Nat → List Entry → Option (List Entry)
  | [], acc => some acc
  | i :: r, acc => match lone1 P call ops i s with
    | none => none
    | some s' => match insertE (Nat.lor l (2 ^ i)) s' acc with
      | none => none
      | some acc => grow P call ops l s r acc
def growAll (P : Program) (call : CallF) (ops : Array Oper) (ms : List Nat) : List Entry → List Entry → Option (List Entry)
  | [], acc => some acc
  | (l, s) :: r, acc => match readyM l 0 ms with
    | [] => none
    | i :: is => match grow P call ops l s (i :: is) acc with
      | none => none
      | some acc => growAll P call ops ms r acc
def exploreM (P : Program) (call : CallF) (ops : Array Oper) (ms : List Nat) : Nat → List Entry → Option St
  | 0, es => match es with
    | [(l, s)] => match readyM l 0 ms with
      | [] => some s
      | _ => none
    | _ => none
  | f + 1, es => match growAll P call ops ms es [] with
    | none => none
    | some next => exploreM P call ops ms f next
def explore (P : Program) (call : CallF) (ops : Array Oper) (s : St) : Option St := exploreM P call ops (masks ops) ops.size [(0, s)]

theorem grow_ok {P : Program} {call : CallF} {ops : Array Oper} {l : Nat} {s : St} : ∀ {is : List Nat} {acc out : List Entry}, grow P call ops l s is acc = some out →
    (∀ e ∈ acc, e ∈ out) ∧ ∀ i ∈ is, ∃ s', lone1 P call ops i s = some s' ∧ (Nat.lor l (2 ^ i), s') ∈ out
  | [], acc, out, h => by cases h; exact ⟨fun e he => he, fun i hi => by cases hi⟩
  | i :: r, acc, out, h => by
    simp only [grow] at h
    split at h
    · cases h
    · rename_i s' hs
      split at h
      · cases h
      · rename_i acc' hacc
        obtain ⟨h1, h2⟩ := insertE_ok hacc
        obtain ⟨h3, h4⟩ := grow_ok h
        exact ⟨fun e he => h3 e (h2 e he), fun j hj => by
          cases hj with
          | head => exact ⟨s', hs, h3 _ h1⟩
          | tail _ hj => exact h4 j hj⟩
theorem growAll_ok {P : Program} {call : CallF} {ops : Array Oper} {ms : List Nat} : ∀ {es acc out : List Entry}, growAll P call ops ms es acc = some out →
    (∀ e ∈ acc, e ∈ out) ∧ ∀ e ∈ es, readyM e.1 0 ms ≠ [] ∧ ∀ i ∈ readyM e.1 0 ms, ∃ s', lone1 P call ops i e.2 = some s' ∧ (Nat.lor e.1 (2 ^ i), s') ∈ out
  | [], acc, out, h => by cases h; exact ⟨fun e he => he, fun e he => by cases he⟩
  | (l, s) :: r, acc, out, h => by
    simp only [growAll] at h
    split at h
    · cases h
    · rename_i i is his
      split at h
      · cases h
      · rename_i acc' hacc
        obtain ⟨h1, h2⟩ := grow_ok hacc
        obtain ⟨h3, h4⟩ := growAll_ok h
        refine ⟨fun e he => h3 e (h1 e he), fun e he => ?_⟩
        cases he with
        | head => exact ⟨by rw [his]; simp, fun i hi => by
            rw [his] at hi
            obtain ⟨s', hs, hm⟩ := h2 i hi
            exact ⟨s', hs, h3 _ hm⟩⟩
        | tail _ he => exact h4 e he

theorem lone1_ok {P : Program} {call : CallF} {w0 : Base} {w : World} (hc : CallOk P w0 call) {ops : Array Oper} {Q : Exit → Act → World → Prop} {ρ : Env2} {s s' : St} {a : Act} {i : Nat}
    (hw : RelW w0 ρ s w) (ha : RelA ρ s a) (h : lone1 P call ops i s = some s') {K : Act → World → Prop} (hk : Goes w0 ρ s [s'] K) : wpOp P ops Q i K a w := by
  unfold lone1 at h
  unfold wpOp
  split at h
  · cases h
  · rename_i o ho
    simp only [ho]
    split at h
    · rename_i t s1 hg
      obtain ⟨s2, hm, hw1, ha1, hb1, hv1⟩ := guardL_ok hw ha hg
      simp at hm
      obtain ⟨rfl, rfl⟩ := hm
      have hle1 : ∀ {ρ' : Env2}, Le s2 ρ ρ' ↔ Le s ρ ρ' := by simp [Le, hb1, hv1]
      split at h
      · rename_i hwant
        rw [if_pos hwant]
        split at h
        · rename_i s3 hs3
          cases h
          refine .inl (stepL_ok hc hw1 ha1 hs3 fun s4 hs4 ρ4 a4 w4 hle hb hv hw4 ha4 => ?_)
          exact hk s4 hs4 ρ4 a4 w4 (hle1.1 hle) (by omega) (by omega) hw4 ha4
        · cases h
      · rename_i hwant
        rw [if_neg (by rw [hwant]; simp)]
        cases h
        obtain ⟨p1, p2, _⟩ := put_nb s2 o.dst undefV
        exact hk _ (by simp) ρ _ w (Le.refl _ _) (by omega) (by omega) (relW_put hw1) (relA_put ha1 fun ρ' _ => den_undef ρ')
    · cases h

theorem exploreM_ok {P : Program} {call : CallF} {w0 : Base} (hc : CallOk P w0 call) {ops : Array Oper} {Q : Exit → Act → World → Prop} : ∀ (f : Nat) {es : List Entry} {sf : St}, exploreM P call ops (masks ops) f es = some sf →
    ∀ e ∈ es, ∀ {listed : Array Bool}, Holds listed e.1 ops.size → ∀ {ρ : Env2} {a : Act} {w : World}, RelW w0 ρ e.2 w → RelA ρ e.2 a → Goes w0 ρ e.2 [sf] (Q .normal) → wpAny P .any ops Q f listed a w
  | 0, es, sf, h, e, he, listed, hl, ρ, a, w, hw, ha, hk => by
    simp only [exploreM] at h
    split at h
    · rename_i l s
      split at h
      · rename_i hr
        cases h
        simp at he
        subst he
        refine ⟨?_, hk sf (by simp) ρ a w (Le.refl _ _) (Nat.le_refl _) (Nat.le_refl _) hw ha⟩
        refine List.eq_nil_iff_forall_not_mem.2 fun i hi => ?_
        rw [ready_iff hl, hr] at hi
        cases hi
      · cases h
    · cases h
  | f + 1, es, sf, h, e, he, listed, hl, ρ, a, w, hw, ha, hk => by
    simp only [exploreM] at h
    split at h
    · cases h
    · rename_i next hn
      obtain ⟨_, h2⟩ := growAll_ok hn
      obtain ⟨hne, hall⟩ := h2 e he
      refine ⟨fun h0 => absurd (List.eq_nil_iff_forall_not_mem.2 fun i hi => by rw [← ready_iff hl, h0] at hi; cases hi) hne, fun i hi => ?_⟩
      have hlt : i < ops.size := by
        obtain ⟨_, o, ho, _⟩ := mem_ready.1 hi
        exact (Array.getElem?_eq_some_iff.1 ho).1
      obtain ⟨s', hs, hm⟩ := hall i ((ready_iff hl i).1 hi)
      refine lone1_ok hc hw ha hs fun s2 hs2 ρ2 a2 w2 hle hb hv hw2 ha2 => ?_
      simp at hs2
      subst hs2
      exact exploreM_ok hc f h _ hm (holds_set hl hlt) hw2 ha2 fun s3 hs3 ρ3 a3 w3 hle3 hb3 hv3 hw3 ha3 =>
        hk s3 hs3 ρ3 a3 w3 (hle.trans hb hv hle3) (by simp at hb3 ⊢; omega) (by simp at hv3 ⊢; omega) hw3 ha3
theorem explore_ok {P : Program} {call : CallF} {w0 : Base} (hc : CallOk P w0 call) {ops : Array Oper} {Q : Exit → Act → World → Prop} {s sf : St} (h : explore P call ops s = some sf)
    {ρ : Env2} {a : Act} {w : World} (hw : RelW w0 ρ s w) (ha : RelA ρ s a) (hk : Goes w0 ρ s [sf] (Q .normal)) : wpAny P .any ops Q ops.size (Array.replicate ops.size false) a w :=
  exploreM_ok hc ops.size h (0, s) (List.mem_singleton.2 rfl) (holds_start _) hw ha hk

/-! ### orders that lead to different states: each goes on -/
def insertL (l : Nat) (s : St) : List Entry → List Entry
  | [] => [(l, s)]
  | (m, t) :: r => match Nat.beq m l && t.beq s with
    | true => (m, t) :: r
    | false => (m, t) :: insertL l s r
theorem insertL_ok {l : Nat} {s : St} : ∀ {es : List Entry}, (l, s) ∈ insertL l s es ∧ ∀ e ∈ es, e ∈ insertL l s es
  | [] => ⟨by simp [insertL], fun e he => by cases he⟩
  | (m, t) :: r => by
    simp only [insertL]
    split
    · rename_i hm
      simp only [Bool.and_eq_true] at hm
      have e1 := Nat.eq_of_beq_eq_true hm.1
      have e2 := St.eq_of_beq hm.2
      subst e1 e2
      exact ⟨by simp, fun e he => he⟩
    · obtain ⟨h1, h2⟩ := insertL_ok (l := l) (s := s) (es := r)
      exact ⟨List.mem_cons_of_mem _ h1, fun e he => by
        cases he with
        | head => exact List.mem_cons_self
        | tail _ he => exact List.mem_cons_of_mem _ (h2 e he)⟩
/-- one operation, all its ways -/
def loneL (P : Program) (call : CallF) (ops : Array Oper) (i : Nat) (s : St) : Option (List St) := match ops[i]? with
  | none => none
  | some o => match guardL s ops o with
    | some gs => bindL gs fun g => match g.1 with
      | true => stepL P call g.2 o
      | false => some [g.2.put o.dst undefV]
    | none => none
theorem loneL_ok {P : Program} {call : CallF} {w0 : Base} {w : World} (hc : CallOk P w0 call) {ops : Array Oper} {Q : Exit → Act → World → Prop} {ρ : Env2} {s : St} {l : List St} {a : Act} {i : Nat}
    (hw : RelW w0 ρ s w) (ha : RelA ρ s a) (h : loneL P call ops i s = some l) {K : Act → World → Prop} (hk : Goes w0 ρ s l K) : wpOp P ops Q i K a w := by
  unfold loneL at h
  unfold wpOp
  split at h
  · cases h
  · rename_i o ho
    simp only [ho]
    split at h
    · rename_i gs hg
      obtain ⟨s2, hm, hw1, ha1, hb1, hv1⟩ := guardL_ok hw ha hg
      obtain ⟨x, hx, hsub⟩ := bindL_mem h _ hm
      have hle1 : ∀ {ρ' : Env2}, Le s2 ρ ρ' ↔ Le s ρ ρ' := by simp [Le, hb1, hv1]
      cases hwant : Region.wanted o (yielded ops a.tmps) with
      | true =>
        rw [if_pos rfl]
        rw [hwant] at hx
        refine .inl (stepL_ok hc hw1 ha1 hx fun s4 hs4 ρ4 a4 w4 hle hb hv hw4 ha4 => ?_)
        exact hk s4 (hsub _ hs4) ρ4 a4 w4 (hle1.1 hle) (by omega) (by omega) hw4 ha4
      | false =>
        rw [if_neg (by simp)]
        rw [hwant] at hx
        cases hx
        obtain ⟨p1, p2, _⟩ := put_nb s2 o.dst undefV
        exact hk _ (hsub _ (by simp)) ρ _ w (Le.refl _ _) (by omega) (by omega) (relW_put hw1) (relA_put ha1 fun ρ' _ => den_undef ρ')
    · cases h
def insertAll (l : Nat) : List St → List Entry → List Entry
  | [], acc => acc
  | s :: r, acc => insertAll l r (insertL l s acc)
theorem insertAll_ok {l : Nat} : ∀ {ss : List St} {es : List Entry}, (∀ s ∈ ss, (l, s) ∈ insertAll l ss es) ∧ ∀ e ∈ es, e ∈ insertAll l ss es
  | [], es => ⟨fun s hs => by (cases hs), fun e he => he⟩
  | s :: r, es => by
    obtain ⟨h1, h2⟩ := insertL_ok (l := l) (s := s) (es := es)
    obtain ⟨h3, h4⟩ := insertAll_ok (l := l) (ss := r) (es := insertL l s es)
    exact ⟨fun t ht => by
      cases ht with
      | head => exact h4 _ h1
      | tail _ ht => exact h3 t ht, fun e he => h4 e (h2 e he)⟩
def growL (P : Program) (call : CallF) (ops : Array Oper) (l : Nat) (s : St) : List Nat → List Entry → Option (List Entry)
  | [], acc => some acc
  | i :: r, acc => match loneL P call ops i s with
    | none => none
    | some s' => growL P call ops l s r (insertAll (Nat.lor l (2 ^ i)) s' acc)
def growAllL (P : Program) (call : CallF) (ops : Array Oper) (ms : List Nat) : List Entry → List Entry → Option (List Entry)
  | [], acc => some acc
  | (l, s) :: r, acc => match readyM l 0 ms with
    | [] => none
    | i :: is => match growL P call ops l s (i :: is) acc with
      | none => none
      | some acc => growAllL P call ops ms r acc
def allDone (ms : List Nat) : List Entry → Bool
  | [] => true
  | (l, _) :: r => match readyM l 0 ms with
    | [] => allDone ms r
    | _ => false
theorem allDone_ok {ms : List Nat} : ∀ {es : List Entry}, allDone ms es = true → ∀ e ∈ es, readyM e.1 0 ms = []
  | [], _, e, he => by cases he
  | (l, s) :: r, h, e, he => by
    simp only [allDone] at h
    split at h
    · rename_i h0
      cases he with
      | head => exact h0
      | tail _ he => exact allDone_ok h e he
    · cases h
def exploreN (P : Program) (call : CallF) (ops : Array Oper) (ms : List Nat) : Nat → List Entry → Option (List St)
  | 0, es => match allDone ms es with
    | true => some (es.map (·.2))
    | false => none
  | f + 1, es => match growAllL P call ops ms es [] with
    | none => none
    | some next => exploreN P call ops ms f next
def exploreL (P : Program) (call : CallF) (ops : Array Oper) (s : St) : Option (List St) := exploreN P call ops (masks ops) ops.size [(0, s)]
theorem growL_ok {P : Program} {call : CallF} {ops : Array Oper} {l : Nat} {s : St} : ∀ {is : List Nat} {acc out : List Entry}, growL P call ops l s is acc = some out →
    (∀ e ∈ acc, e ∈ out) ∧ ∀ i ∈ is, ∃ s', loneL P call ops i s = some s' ∧ ∀ t ∈ s', (Nat.lor l (2 ^ i), t) ∈ out
  | [], acc, out, h => by cases h; exact ⟨fun e he => he, fun i hi => by cases hi⟩
  | i :: r, acc, out, h => by
    simp only [growL] at h
    split at h
    · cases h
    · rename_i s' hs
      obtain ⟨h1, h2⟩ := insertAll_ok (l := Nat.lor l (2 ^ i)) (ss := s') (es := acc)
      obtain ⟨h3, h4⟩ := growL_ok h
      exact ⟨fun e he => h3 e (h2 e he), fun j hj => by
        cases hj with
        | head => exact ⟨s', hs, fun t ht => h3 _ (h1 t ht)⟩
        | tail _ hj => exact h4 j hj⟩
theorem growAllL_ok {P : Program} {call : CallF} {ops : Array Oper} {ms : List Nat} : ∀ {es acc out : List Entry}, growAllL P call ops ms es acc = some out →
    (∀ e ∈ acc, e ∈ out) ∧ ∀ e ∈ es, readyM e.1 0 ms ≠ [] ∧ ∀ i ∈ readyM e.1 0 ms, ∃ s', loneL P call ops i e.2 = some s' ∧ ∀ t ∈ s', (Nat.lor e.1 (2 ^ i), t) ∈ out
  | [], acc, out, h => by cases h; exact ⟨fun e he => he, fun e he => by cases he⟩
  | (l, s) :: r, acc, out, h => by
    simp only [growAllL] at h
    split at h
    · cases h
    · rename_i i is his
      split at h
      · cases h
      · rename_i acc' hacc
        obtain ⟨h1, h2⟩ := growL_ok hacc
        obtain ⟨h3, h4⟩ := growAllL_ok h
        refine ⟨fun e he => h3 e (h1 e he), fun e he => ?_⟩
        cases he with
        | head => exact ⟨by rw [his]; simp, fun i hi => by
            rw [his] at hi
            obtain ⟨s', hs, hm⟩ := h2 i hi
            exact ⟨s', hs, fun t ht => h3 _ (hm t ht)⟩⟩
        | tail _ he => exact h4 e he
theorem exploreN_ok {P : Program} {call : CallF} {w0 : Base} (hc : CallOk P w0 call) {ops : Array Oper} {Q : Exit → Act → World → Prop} : ∀ (f : Nat) {es : List Entry} {sf : List St}, exploreN P call ops (masks ops) f es = some sf →
    ∀ e ∈ es, ∀ {listed : Array Bool}, Holds listed e.1 ops.size → ∀ {ρ : Env2} {a : Act} {w : World}, RelW w0 ρ e.2 w → RelA ρ e.2 a → Goes w0 ρ e.2 sf (Q .normal) → wpAny P .any ops Q f listed a w
  | 0, es, sf, h, e, he, listed, hl, ρ, a, w, hw, ha, hk => by
    simp only [exploreN] at h
    split at h
    · rename_i hr
      cases h
      refine ⟨?_, hk e.2 (List.mem_map.2 ⟨e, he, rfl⟩) ρ a w (Le.refl _ _) (Nat.le_refl _) (Nat.le_refl _) hw ha⟩
      refine List.eq_nil_iff_forall_not_mem.2 fun i hi => ?_
      rw [ready_iff hl, allDone_ok hr e he] at hi
      cases hi
    · cases h
  | f + 1, es, sf, h, e, he, listed, hl, ρ, a, w, hw, ha, hk => by
    simp only [exploreN] at h
    split at h
    · cases h
    · rename_i next hn
      obtain ⟨_, h2⟩ := growAllL_ok hn
      obtain ⟨hne, hall⟩ := h2 e he
      refine ⟨fun h0 => absurd (List.eq_nil_iff_forall_not_mem.2 fun i hi => by rw [← ready_iff hl, h0] at hi; cases hi) hne, fun i hi => ?_⟩
      have hlt : i < ops.size := by
        obtain ⟨_, o, ho, _⟩ := mem_ready.1 hi
        exact (Array.getElem?_eq_some_iff.1 ho).1
      obtain ⟨s', hs, hm⟩ := hall i ((ready_iff hl i).1 hi)
      refine loneL_ok hc hw ha hs fun s2 hs2 ρ2 a2 w2 hle hb hv hw2 ha2 => ?_
      exact exploreN_ok hc f h _ (hm s2 hs2) (holds_set hl hlt) hw2 ha2 fun s3 hs3 ρ3 a3 w3 hle3 hb3 hv3 hw3 ha3 =>
        hk s3 hs3 ρ3 a3 w3 (hle.trans hb hv hle3) (by simp at hb3 ⊢; omega) (by simp at hv3 ⊢; omega) hw3 ha3
theorem exploreL_ok {P : Program} {call : CallF} {w0 : Base} (hc : CallOk P w0 call) {ops : Array Oper} {Q : Exit → Act → World → Prop} {s : St} {sf : List St} (h : exploreL P call ops s = some sf)
    {ρ : Env2} {a : Act} {w : World} (hw : RelW w0 ρ s w) (ha : RelA ρ s a) (hk : Goes w0 ρ s sf (Q .normal)) : wpAny P .any ops Q ops.size (Array.replicate ops.size false) a w :=
  exploreN_ok hc ops.size h (0, s) (List.mem_singleton.2 rfl) (holds_start _) hw ha hk
end Go.Sx
