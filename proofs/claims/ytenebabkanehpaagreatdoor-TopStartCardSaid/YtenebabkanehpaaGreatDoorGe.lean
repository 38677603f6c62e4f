/- The engine, part Ge: runs of the code over expressions, and that they tell the truth. No condition. -/
import Derived.Test.YtenebabkanehpaaGreatDoorGa
import Derived.Test.YtenebabkanehpaaGreatDoorGd
set_option linter.unusedVariables false
set_option linter.unusedSimpArgs false
/- The same digest with plans that are told: they are checked once for the whole program. -/
namespace Go.Gx
open Go Go.Sx

def natsBeq : List Nat → List Nat → Bool
  | [], [] => true
  | a :: r, b :: s => match Nat.beq a b with
    | true => natsBeq r s
    | false => false
  | _, _ => false
def planBeq : Plan → Plan → Bool
  | .done, q => match q with
    | .done => true
    | _ => false
  | .nop, q => match q with
    | .nop => true
    | _ => false
  | .calm i p, q => match q with
    | .calm j q => match Nat.beq i j with
      | true => planBeq p q
      | false => false
    | _ => false
  | .late i p, q => match q with
    | .late j q => match Nat.beq i j with
      | true => planBeq p q
      | false => false
    | _ => false
  | .eff i a b p, q => match q with
    | .eff j c d q => match Nat.beq i j with
      | true => match natsBeq a c with
        | true => match natsBeq b d with
          | true => planBeq p q
          | false => false
        | false => false
      | false => false
    | _ => false
def findPl : List (Nat × Plan) → Nat → Plan
  | [], _ => .nop
  | (i, p) :: r, id => match Nat.beq i id with
    | true => p
    | false => findPl r id
def dCodeP (P : Program) (n : Nat) (pl : List (Nat × Plan)) (rd : Bool) : Code → PC
  | .skip => ⟨fun _ k F h => k .normal F h⟩
  | .label _ => ⟨fun _ k F h => k .normal F h⟩
  | .ret => ⟨fun _ k F h => k .ret F h⟩
  | .exit id => ⟨fun _ k F h => k (.exit id) F h⟩
  | .scope b => match dCodeP P n pl rd b with
    | p => ⟨fun cx k F h => p.run cx k F h⟩
  | .seq a b => match dCodeP P n pl rd a, dCodeP P n pl rd b with
    | p, q => ⟨fun cx k F h => p.run cx (fun x F h => match x with
      | .normal => q.run cx k F h
      | x => k x F h) F h⟩
  | .cond c a b => match okOd n c with
    | true => match dCodeP P n pl rd a, dCodeP P n pl rd b with
      | p, q => ⟨fun cx k F h => match (od c).g F with
        | .bool e => brE e h (fun h => p.run cx k F h) (fun h => q.run cx k F h)
        | _ => none⟩
    | false => ⟨fun _ _ _ _ => none⟩
  | .block id b => match dCodeP P n pl rd b with
    | p => ⟨fun cx k F h => p.run cx (fun x F h => match x with
      | .exit j => match Nat.beq j id with
        | true => k .normal F h
        | false => k (.exit j) F h
      | x => k x F h) F h⟩
  | .loop b => match dCodeP P n pl rd b with
    | p => ⟨fun cx k F h => loopN p cx k cx.fuel F h⟩
  | .region id ops draw => match ops.toList with
    | l => match draw with
      | false => match rowO P n rd l l with
        | p => ⟨fun cx k F h => p.run cx (fun F h => k .normal F h) F h⟩
      | true => match planRun P n rd l (findPl pl id) with
        | p => ⟨fun cx k F h => p.run cx (fun F h => k .normal F h) F h⟩
  | .rangeFunc f ps as b => match rd, okOd n f && ps.toList.all (fun t => Nat.ble (t + 1) n) with
    | false, true => match dCodeP P n pl true as, dCodeP P n pl true b with
      | p, q => ⟨fun cx k F h => rangeF n f ps.toList p q cx k F h⟩
    | _, _ => ⟨fun _ _ _ _ => none⟩
  | _ => ⟨fun _ _ _ _ => none⟩
def dFuncP (P : Program) (quiet : List Nat) (pl : List (Nat × Plan)) (fn : Func) : Fnc := match fn.body with
  | some c => match Nat.ble fn.ntmps 250 with
    | true => match dCodeP P fn.ntmps pl false c, resL P fn.ntmps fn.results.toList, fn.ntmps with
      | pc, rs, n => ⟨fun cx args k h => match Nat.ble (lenL args 0) n with
        | true => pc.run cx (fun x F h => match x with
          | .exit _ => none
          | _ => leaveF quiet F.df h fun h => match rs.g F h with
            | some vs => k (resOne vs) h
            | none => none) ⟨enterF args 0 F0, []⟩ h
        | false => none⟩
    | false => ⟨fun _ _ _ _ => none⟩
  | none => ⟨fun _ _ _ _ => none⟩
/-! ### the check -/
def codeFine (P : Program) (n : Nat) (pl : List (Nat × Plan)) : Code → Bool
  | .scope b => codeFine P n pl b
  | .seq a b => codeFine P n pl a && codeFine P n pl b
  | .cond _ a b => codeFine P n pl a && codeFine P n pl b
  | .block _ b => codeFine P n pl b
  | .loop b => codeFine P n pl b
  | .region id ops draw => match draw with
    | false => true
    | true => match ops.toList with
      | l => match planOf l with
        | p => planBeq p (findPl pl id) && (planOk P l p && l.all (operFine P n))
  | .rangeFunc _ _ as b => codeFine P n pl as && codeFine P n pl b
  | _ => true
def funcFine (P : Program) (pl : List (Nat × Plan)) (fn : Func) : Bool := match fn.body with
  | some c => codeFine P fn.ntmps pl c
  | none => true

end Go.Gx

/- The digest with plans that are told is the digest. -/
namespace Go.Gx
open Go Go.Sx

theorem natsBeq_eq : ∀ {a b : List Nat}, natsBeq a b = true → a = b
  | [], [], _ => rfl
  | [], _ :: _, h => by simp [natsBeq] at h
  | _ :: _, [], h => by simp [natsBeq] at h
  | a :: r, b :: s, h => by
    simp only [natsBeq] at h
    split at h
    · rename_i h1; rw [Nat.eq_of_beq_eq_true h1, natsBeq_eq h]
    · cases h
theorem planBeq_eq : ∀ {a b : Plan}, planBeq a b = true → a = b
  | .done, b, h => by cases b <;> simp only [planBeq] at h <;> first | rfl | cases h
  | .nop, b, h => by cases b <;> simp only [planBeq] at h <;> first | rfl | cases h
  | .calm i p, b, h => by
    cases b <;> simp only [planBeq] at h <;> try (cases h; done)
    split at h
    · rename_i h1; rw [Nat.eq_of_beq_eq_true h1, planBeq_eq h]
    · cases h
  | .late i p, b, h => by
    cases b <;> simp only [planBeq] at h <;> try (cases h; done)
    split at h
    · rename_i h1; rw [Nat.eq_of_beq_eq_true h1, planBeq_eq h]
    · cases h
  | .eff i x y p, b, h => by
    cases b <;> simp only [planBeq] at h <;> try (cases h; done)
    split at h
    · rename_i h1
      split at h
      · rename_i h2
        split at h
        · rename_i h3; rw [Nat.eq_of_beq_eq_true h1, natsBeq_eq h2, natsBeq_eq h3, planBeq_eq h]
        · cases h
      · cases h
    · cases h
theorem dCodeP_eq (P : Program) (n : Nat) (pl : List (Nat × Plan)) : ∀ (c : Code) (rd : Bool), codeFine P n pl c = true → dCodeP P n pl rd c = dCode P n rd c := by
  intro c
  induction c with
  | scope b ih => intro rd h; simp only [codeFine] at h; simp only [dCodeP, dCode, ih rd h] <;> rfl
  | seq a b iha ihb => intro rd h; simp only [codeFine, Bool.and_eq_true] at h; simp only [dCodeP, dCode, iha rd h.1, ihb rd h.2] <;> rfl
  | cond c a b iha ihb => intro rd h; simp only [codeFine, Bool.and_eq_true] at h; simp only [dCodeP, dCode, iha rd h.1, ihb rd h.2] <;> rfl
  | block id b ih => intro rd h; simp only [codeFine] at h; simp only [dCodeP, dCode, ih rd h] <;> rfl
  | loop b ih => intro rd h; simp only [codeFine] at h; simp only [dCodeP, dCode, ih rd h] <;> rfl
  | region id ops draw =>
    intro rd h
    cases draw with
    | false => rfl
    | true =>
      simp only [codeFine, Bool.and_eq_true] at h
      obtain ⟨h1, h2, h3⟩ := h
      have h1 := planBeq_eq h1
      have key : drawO P n rd ops.toList = planRun P n rd ops.toList (findPl pl id) := by
        simp only [drawO, h2, h3, Bool.and_self, ← h1]
      simp only [dCodeP, dCode, key]
  | rangeFunc f ps as b iha ihb => intro rd h; simp only [codeFine, Bool.and_eq_true] at h; simp only [dCodeP, dCode, iha true h.1, ihb true h.2] <;> rfl
  | _ => intro rd h; rfl
theorem dFuncP_eq {P : Program} {quiet : List Nat} {pl : List (Nat × Plan)} {fn : Func} (h : funcFine P pl fn = true) : dFuncP P quiet pl fn = dFunc P quiet fn := by
  unfold dFuncP dFunc
  unfold funcFine at h
  split
  · rename_i c hc
    rw [hc] at h
    simp only [hc]
    rw [dCodeP_eq P fn.ntmps pl c false h]
    rfl
  · rename_i hc
    simp only [hc]

/-! ### a table with plans -/
abbrev FnE := Option (Func × List (Nat × Plan))
def findP (fs : List (List FnE)) (f : Nat) : FnE := match nthL fs (Nat.div f 16) with
  | some l => match nthL l (Nat.mod f 16) with
    | some x => x
    | none => none
  | none => none
def plRow (P : Program) : List FnE → Bool
  | [] => true
  | none :: r => plRow P r
  | some x :: r => funcFine P x.2 x.1 && plRow P r
def plRows (P : Program) : List (List FnE) → Bool
  | [] => true
  | l :: r => plRow P l && plRows P r
def KnownR (P : Program) : Nat → List FnE → Prop
  | _, [] => True
  | f, none :: r => KnownR P (f + 1) r
  | f, some x :: r => (P.funcs[f]? = some x.1 ∧ x.1.body.isSome = true ∧ ∀ ys w', (callFunc f ys).run P w' = .ok (.enter f ys) w') ∧ KnownR P (f + 1) r
def KnownP (P : Program) : Nat → List (List FnE) → Prop
  | _, [] => True
  | f, l :: r => KnownR P f l ∧ KnownP P (f + 16) r
theorem plRow_get {P : Program} : ∀ {l : List FnE} {j : Nat} {x : Func × List (Nat × Plan)}, plRow P l = true → l[j]? = some (some x) → funcFine P x.2 x.1 = true
  | [], j, x, _, h => by simp at h
  | none :: r, j, x, hf, h => by
    cases j with
    | zero => simp at h
    | succ j => exact plRow_get (l := r) hf (by simpa using h)
  | some y :: r, j, x, hf, h => by
    simp only [plRow, Bool.and_eq_true] at hf
    cases j with
    | zero => simp at h; subst h; exact hf.1
    | succ j => exact plRow_get (l := r) hf.2 (by simpa using h)
theorem plRows_get {P : Program} : ∀ {fs : List (List FnE)} {i j : Nat} {l : List FnE} {x : Func × List (Nat × Plan)}, plRows P fs = true → fs[i]? = some l → l[j]? = some (some x) → funcFine P x.2 x.1 = true
  | [], i, j, l, x, _, h, _ => by simp at h
  | m :: r, i, j, l, x, hf, h, hl => by
    simp only [plRows, Bool.and_eq_true] at hf
    cases i with
    | zero => simp at h; subst h; exact plRow_get hf.1 hl
    | succ i => exact plRows_get (fs := r) hf.2 (by simpa using h) hl
theorem knownR_get {P : Program} : ∀ {l : List FnE} {f j : Nat} {x : Func × List (Nat × Plan)}, KnownR P f l → l[j]? = some (some x) → P.funcs[f + j]? = some x.1 ∧ x.1.body.isSome = true ∧ ∀ ys w', (callFunc (f + j) ys).run P w' = .ok (.enter (f + j) ys) w'
  | [], f, j, x, _, h => by simp at h
  | none :: r, f, j, x, hk, h => by
    cases j with
    | zero => simp at h
    | succ j =>
      have := knownR_get (l := r) (f := f + 1) (j := j) hk (by simpa using h)
      rw [show f + (j + 1) = f + 1 + j by omega]; exact this
  | some y :: r, f, j, x, hk, h => by
    cases j with
    | zero => simp at h; subst h; exact hk.1
    | succ j =>
      have := knownR_get (l := r) (f := f + 1) (j := j) hk.2 (by simpa using h)
      rw [show f + (j + 1) = f + 1 + j by omega]; exact this
theorem knownP_get {P : Program} : ∀ {fs : List (List FnE)} {f i j : Nat} {l : List FnE} {x : Func × List (Nat × Plan)}, KnownP P f fs → fs[i]? = some l → l[j]? = some (some x) →
    P.funcs[f + 16 * i + j]? = some x.1 ∧ x.1.body.isSome = true ∧ ∀ ys w', (callFunc (f + 16 * i + j) ys).run P w' = .ok (.enter (f + 16 * i + j) ys) w'
  | [], f, i, j, l, x, _, h, _ => by simp at h
  | m :: r, f, i, j, l, x, hk, h, hl => by
    cases i with
    | zero => simp at h; subst h; exact knownR_get hk.1 hl
    | succ i =>
      have := knownP_get (fs := r) (f := f + 16) (i := i) hk.2 (by simpa using h) hl
      rw [show f + 16 * (i + 1) = f + 16 + 16 * i by omega]; exact this
theorem findP_some {fs : List (List FnE)} {f : Nat} {x : Func × List (Nat × Plan)} (h : findP fs f = some x) : ∃ l, fs[f / 16]? = some l ∧ l[f % 16]? = some (some x) := by
  unfold findP at h
  split at h
  · rename_i l hl
    split at h
    · rename_i y hy
      subst h
      rw [nthL_eq] at hl hy
      exact ⟨l, hl, hy⟩
    · cases h
  · cases h
def tabP (P : Program) (quiet : List Nat) (fs : List (List FnE)) (same nz : Nat) (e : TypeId) : Table := ⟨fun f => match findP fs f with
  | some x => some (dFuncP P quiet x.2 x.1)
  | none => match Nat.beq f same with
    | true => some sameF
    | false => match Nat.beq f nz with
      | true => some (noZeroF e)
      | false => none, fun f => match findP fs f with
  | some _ => true
  | none => false⟩
theorem tabP_ok {P : Program} (hm : P.follows .mixedOrders) {quiet : List Nat} {fs : List (List FnE)} {same nz : Nat} {e : TypeId} (hk : KnownP P 0 fs) (hfine : plRows P fs = true) (hq : ∀ f ∈ quiet, Quiet P f) (hs : FncOk P same sameF) (hz : FncOk P nz (noZeroF e)) : TabOk P (tabP P quiet fs same nz e) := by
  have get : ∀ f x, findP fs f = some x → (P.funcs[f]? = some x.1 ∧ x.1.body.isSome = true ∧ ∀ ys w', (callFunc f ys).run P w' = .ok (.enter f ys) w') ∧ funcFine P x.2 x.1 = true := by
    intro f x hx
    obtain ⟨l, h1, h2⟩ := findP_some hx
    have := knownP_get hk h1 h2
    rw [show 0 + 16 * (f / 16) + f % 16 = f by omega] at this
    exact ⟨this, plRows_get hfine h1 h2⟩
  refine ⟨fun f p hp => ?_, fun f hf => ?_⟩
  · simp only [tabP] at hp
    split at hp
    · rename_i x hx
      cases hp
      obtain ⟨⟨h1, h2, h3⟩, h4⟩ := get f x hx
      obtain ⟨c, hc⟩ := Option.isSome_iff_exists.1 h2
      rw [dFuncP_eq h4]
      exact fnc_ok hm h1 hc h3 hq
    · split at hp
      · rename_i hb
        cases hp
        rw [Nat.eq_of_beq_eq_true hb]; exact hs
      · split at hp
        · rename_i hb
          cases hp
          rw [Nat.eq_of_beq_eq_true hb]; exact hz
        · cases hp
  · simp only [tabP] at hf
    split at hf
    · rename_i x hx
      exact (get f x hx).1.2.2
    · cases hf

end Go.Gx

