/- Loops that keep what stands in memory: numbers that change get new names, the rest must stand as it stood. -/
import Derived.Test.YtjgobpmhdeancaaSxU
namespace Go.Sx
open Go

structure HSpec where
  f : Nat
  p : List Nat
  /-- numbers that get new names -/
  ints : List (Nat × IntKind)
  /-- what is forgotten -/
  gone : List Nat
  /-- rows, by what points to them, and what stands in them (over the new names, then the fixed ones) -/
  rows : List (Nat × D × List (E × E × D))
  /-- fixed numbers: a temporary, and which part of it -/
  pars : List (Nat × Nat)
  facts : List E
  meas : E

def dropAll {α : Type} (t : T α) : List Nat → T α
  | [] => t
  | k :: r => (dropAll t r).del k
theorem dropAll_get {α : Type} {t : T α} {j : Nat} {v : α} : ∀ {l : List Nat}, (dropAll t l).get j = some v → j ∉ l ∧ t.get j = some v
  | [], h => ⟨by simp, h⟩
  | k :: r, h => by
    simp only [dropAll, T.get_del] at h
    split at h
    · cases h
    · rename_i hk
      obtain ⟨h1, h2⟩ := dropAll_get h
      exact ⟨by simp [hk, h1], h2⟩
def putVars (t : T V) : Nat → List (Nat × IntKind) → T V
  | _, [] => t
  | i, (r, k) :: q => (putVars t (i + 1) q).put r (.int k (.var i))
theorem putVars_get {t : T V} {j : Nat} {v : V} : ∀ {ins : List (Nat × IntKind)} {i : Nat}, (putVars t i ins).get j = some v → (∃ m k, ins[m]? = some (j, k) ∧ v = .int k (.var (i + m))) ∨ t.get j = some v
  | [], _, h => .inr h
  | (r, k) :: q, i, h => by
    simp only [putVars, T.get_put] at h
    split at h
    · rename_i hj; cases h; exact .inl ⟨0, k, by simp [hj], by simp⟩
    · rcases putVars_get h with ⟨m, k', h1, h2⟩ | h
      · exact .inl ⟨m + 1, k', by simpa using h1, by rw [h2]; congr 2; omega⟩
      · exact .inr h

def sameE (x y : E) : Bool := x.beq y || (match apart x y with
  | some d => decide (d = 0)
  | none => false)
theorem sameE_den {x y : E} (ρ : Env) (h : sameE x y = true) : x.den ρ = y.den ρ := by
  unfold sameE at h
  rcases Bool.or_eq_true _ _ ▸ h with h | h
  · rw [E.eq_of_beq h]
  · split at h
    · rename_i d hd
      have := apart_some ρ hd
      have := of_decide_eq_true h
      omega
    · cases h
def sameD : D → D → Bool
  | .con a, .con b => sameE a b
  | .fn k f a c, .fn l g b d => decide (k = l) && Nat.beq f g && sameE a b && sameE c d
  | _, _ => false
theorem sameD_at (ρ : Env) (j : Int) : ∀ {a b : D}, sameD a b = true → a.at ρ j = b.at ρ j
  | .con a, b, h => by
    cases b with
    | con b => simp only [sameD] at h; simp only [D.at, sameE_den ρ h]
    | fn l g b d => cases h
  | .fn k f a c, b, h => by
    cases b with
    | con b => cases h
    | fn l g b d =>
      simp only [sameD, Bool.and_eq_true] at h
      have h1 := of_decide_eq_true h.1.1.1
      have h2 := Nat.eq_of_beq_eq_true h.1.1.2
      subst h1 h2
      simp only [D.at, sameE_den ρ h.1.2, sameE_den ρ h.2]
def sameW : List (E × E × D) → List (E × E × D) → Bool
  | [], [] => true
  | (a, b, x) :: r, (c, d, y) :: q => sameE a c && sameE b d && sameD x y && sameW r q
  | _, _ => false
theorem sameW_read (ρ : Env) {d d' : D} (hd : sameD d d' = true) (j : Int) : ∀ {ws ws' : List (E × E × D)}, sameW ws ws' = true → readW ρ d ws j = readW ρ d' ws' j
  | [], ws', h => by
    cases ws' with
    | nil => simp only [readW, sameD_at ρ j hd]
    | cons x r => cases h
  | (a, b, x) :: r, ws', h => by
    cases ws' with
    | nil => cases h
    | cons y q =>
      obtain ⟨c, e, y⟩ := y
      simp only [sameW, Bool.and_eq_true] at h
      simp only [readW, sameE_den ρ h.1.1.1, sameE_den ρ h.1.1.2, sameD_at ρ j h.1.2, sameW_read ρ hd j h.2]

/-! ### the state at the head of the loop -/
def varsFrom (i : Nat) : Nat → List E
  | 0 => []
  | n + 1 => .var i :: varsFrom (i + 1) n
theorem varsFrom_len : ∀ (n i : Nat), (varsFrom i n).length = n
  | 0, _ => rfl
  | n + 1, i => by simp [varsFrom, varsFrom_len n]
theorem varsFrom_get : ∀ (n i j : Nat), j < n → (varsFrom i n)[j]? = some (.var (i + j))
  | 0, _, _, h => by omega
  | n + 1, i, 0, _ => by simp [varsFrom]
  | n + 1, i, j + 1, h => by simp [varsFrom, varsFrom_get n (i + 1) j (by omega)]; omega
def kbd : Nat → List (Nat × IntKind) → Bd
  | _, [] => []
  | i, (_, k) :: r => (.var i, kindIv k) :: kbd (i + 1) r
theorem kbd_ok {ρ : Env} : ∀ {ins : List (Nat × IntKind)} {i : Nat}, (∀ m t k, ins[m]? = some (t, k) → (kindIv k).has (ρ.v (i + m))) → (kbd i ins).ok ρ
  | [], _, _ => fun p hp => by cases hp
  | (t, k) :: r, i, h => fun p hp => by
    cases hp with
    | head => exact h 0 t k (by simp)
    | tail _ hp => exact kbd_ok (ins := r) (i := i + 1) (fun m t' k' hm => by have := h (m + 1) t' k' (by simpa using hm); rwa [show i + 1 + m = i + (m + 1) by omega]) p hp
def intE (s : St) (x : Nat × IntKind) : Option E := match s.tm.get x.1 with
  | some (.int k e) => match decide (k = x.2) && Nat.ble (x.1 + 1) s.n && within (itv s.bd e) (kindIv k) with
    | true => some e
    | false => none
  | _ => none
def parE (s : St) (x : Nat × Nat) : Option E := match Nat.ble (x.1 + 1) s.n with
  | false => none
  | true => match s.tm.get x.1 with
    | some (.int _ e) => some e
    | some (.sl _ off len cap) => match x.2 with
      | 0 => match nonneg (itv s.bd off) with
        | true => some off
        | false => none
      | 1 => match nonneg (itv s.bd len) with
        | true => some len
        | false => none
      | _ => match nonneg (itv s.bd cap) with
        | true => some cap
        | false => none
    | _ => none
def rowOf (s : St) (t : Nat) : Option Nat := match s.tm.get t with
  | some (.sl b _ _ _) => some b
  | some (.cel b _) => some b
  | some (.ptr b _) => some b
  | _ => none
structure RowT where
  b : Nat
  vs : List V
  el : TypeId
  A : Arr
  d : D
  ws : List (E × E × D)
def rowAt (s : St) (x : Nat × D × List (E × E × D)) : Option RowT := match rowOf s x.1 with
  | some b => match s.hp.get b with
    | some ⟨vs, el, some A⟩ => some ⟨b, vs, el, A, x.2.1, x.2.2⟩
    | _ => none
  | none => none
def RowT.obj (r : RowT) (l : List E) : O := ⟨r.vs, r.el, some ⟨r.A.size, r.A.kind, r.d.sub l, subW l r.ws⟩⟩
def putRows (t : T O) (l : List E) : List RowT → T O
  | [] => t
  | r :: q => (putRows t l q).put r.b (r.obj l)
theorem putRows_get {t : T O} {l : List E} {j : Nat} {o : O} : ∀ {rs : List RowT}, (putRows t l rs).get j = some o → (∃ r ∈ rs, j = r.b ∧ o = r.obj l) ∨ t.get j = some o
  | [], h => .inr h
  | r :: q, h => by
    simp only [putRows, T.get_put] at h
    split at h
    · rename_i hj; cases h; exact .inl ⟨r, by simp, hj, rfl⟩
    · rcases putRows_get h with ⟨r', h1, h2⟩ | h
      · exact .inl ⟨r', List.mem_cons_of_mem _ h1, h2⟩
      · exact .inr h
def HSpec.base (sp : HSpec) (s : St) : T V := dropAll s.tm (sp.gone ++ sp.ints.map (·.1))
def HSpec.baseH (s : St) (rs : List RowT) : T O := dropAll s.hp (rs.map (·.b))
def HSpec.names (sp : HSpec) (s : St) : List E := varsFrom s.nv sp.ints.length
def HSpec.temp (sp : HSpec) (s : St) (rs : List RowT) (l : List E) : St :=
  { s with nv := s.nv + sp.ints.length, tm := putVars (sp.base s) s.nv sp.ints, hp := putRows (HSpec.baseH s rs) l rs,
           bd := supposeAll (kbd s.nv sp.ints ++ s.bd) (sp.facts.map (·.at l)), pc := sp.facts.map (·.at l) ++ s.pc }
/-- up to one of two: up to both -/
def uptoI (b : Bd) (pc : List E) (x : E) : E → Bool
  | .ite c p q => uptoE b pc x (.ite c p q) || (uptoI b pc x p && uptoI b pc x q)
  | y => uptoE b pc x y
theorem uptoI_of {ρ : Env} {b : Bd} {pc : List E} (hb : b.ok ρ) (hp : pcOk ρ pc) {x : E} : ∀ {y : E}, uptoI b pc x y = true → x.den ρ ≤ y.den ρ := by
  intro y
  induction y with
  | ite c p q _ ihp ihq =>
    intro h
    simp only [uptoI] at h
    rcases Bool.or_eq_true _ _ ▸ h with h | h
    · exact uptoE_of hb hp h
    · simp only [Bool.and_eq_true] at h
      have h1 := ihp h.1
      have h2 := ihq h.2
      simp only [E.den]
      split <;> assumption
  | _ => intro h; exact uptoE_of hb hp h
def holdsE (s : St) (e : E) : Bool := (match decB s.bd s.pc e with
  | some true => true
  | _ => false) || (match e with
  | .bin .le a b => uptoI s.bd s.pc a b
  | .bin .lt a b => belowE s.bd s.pc a b
  | _ => false)
theorem holdsE_den {s : St} {ρ : Env} (hb : s.bd.ok ρ) (hp : pcOk ρ s.pc) {e : E} (h : holdsE s e = true) : e.den ρ ≠ 0 := by
  unfold holdsE at h
  rcases Bool.or_eq_true _ _ ▸ h with h | h
  · split at h
    · rename_i hd
      have := decB_some hb hp _ _ hd
      simpa using this
    · cases h
  · split at h
    · exact (E.prop_iff _ _).1 (uptoI_of hb hp h)
    · exact (E.prop_iff _ _).1 (belowE_of hb hp h)
    · cases h
def fitT (n : Nat) (t1 t2 : T V) : Bool := (List.range n).all fun t => match t1.get t with
  | none => true
  | some v => oBeq V.beq (some v) (t2.get t)
def fitH (n : Nat) (t1 t2 : T O) : Bool := (List.range n).all fun t => match t1.get t with
  | none => true
  | some v => oBeq O.beq (some v) (t2.get t)
theorem fitT_get {n : Nat} {t1 t2 : T V} (h : fitT n t1 t2 = true) {t : Nat} (ht : t < n) {v : V} (hv : t1.get t = some v) : t2.get t = some v := by
  have := List.all_eq_true.1 h t (by simpa using ht)
  rw [hv] at this
  exact oBeq_some this rfl
theorem fitH_get {n : Nat} {t1 t2 : T O} (h : fitH n t1 t2 = true) {t : Nat} (ht : t < n) {v : O} (hv : t1.get t = some v) : t2.get t = some v := by
  have := List.all_eq_true.1 h t (by simpa using ht)
  rw [hv] at this
  cases h2 : t2.get t with
  | none => rw [h2] at this; cases this
  | some u => rw [h2] at this; simp only [oBeq] at this; rw [O.eq_of_beq this]
def rowFits (s1 : St) (l : List E) (r : RowT) : Bool := match s1.hp.get r.b with
  | some o => match o.arr with
    | some A => Nat.beq o.elem r.el && A.size.beq r.A.size && decide (A.kind = r.A.kind) && sameD A.dflt (r.d.sub l) && sameW A.ws (subW l r.ws)
    | none => false
  | none => false
def HSpec.fits (sp : HSpec) (s : St) (rs : List RowT) (ps : List E) (s1 : St) : Option (List E) := match mapO (intE s1) sp.ints with
  | some es => match Nat.beq s1.n s.n && Nat.ble s.nb s1.nb && fitT s.n (sp.base s) s1.tm && fitH s.nb (HSpec.baseH s rs) s1.hp && rs.all (rowFits s1 (es ++ ps)) && (sp.facts.all fun f => holdsE s1 (f.at (es ++ ps))) with
    | true => some es
    | false => none
  | none => none
def HSpec.leaf (sp : HSpec) (s : St) (id : Nat) (rs : List RowT) (ps l : List E) (r : X × St) : Option (Option (X × St)) := match r.1 with
  | .normal => match sp.fits s rs ps r.2 with
    | some es => match holdsE r.2 (mkBin .lt (sp.meas.at (es ++ ps)) (sp.meas.at l)) && holdsE r.2 (mkBin .le (.lit 0) (sp.meas.at (es ++ ps))) with
      | true => some none
      | false => none
    | none => none
  | .exit j => match Nat.beq j id with
    | true => some (some (.normal, r.2))
    | false => some (some (.exit j, r.2))
  | .ret => some (some (.ret, r.2))
def hrun (P : Program) (orc : Oracle) (lo : LoopOracle) (bs : Bodies) (fuel : Nat) (sp : HSpec) (s : St) : Option Outs := match codeAt bs sp.f sp.p with
  | some (.block id (.loop b)) => match mapO (parE s) sp.pars with
    | some ps => match mapO (rowAt s) sp.rows with
      | some rs => match sp.fits s rs ps s with
        | some _ => match exec P orc lo bs fuel sp.f (0 :: 0 :: sp.p) b (sp.temp s rs (sp.names s ++ ps)) with
          | some outs => match mapO (sp.leaf s id rs ps (sp.names s ++ ps)) outs with
            | some ls => some (ls.filterMap fun x => x)
            | none => none
          | none => none
        | none => none
      | none => none
    | none => none
  | _ => none
/-- the first loops are the outer ones -/
def hOracle (P : Program) (orc : Oracle) (lo : LoopOracle) (bs : Bodies) (fuel : Nat) : List HSpec → LoopOracle
  | [] => lo
  | sp :: r => fun cur p s => match Nat.beq cur sp.f && decide (p = sp.p) with
    | true => match hrun P orc (hOracle P orc lo bs fuel r) bs fuel sp s with
      | some outs => some (some outs)
      | none => hOracle P orc lo bs fuel r cur p s
    | false => hOracle P orc lo bs fuel r cur p s

/-! ### it is right -/
def rdI (a : Act) (t : Nat) : Int := match a.tmps[t]? with
  | some (.int _ n) => n
  | _ => 0
def HSpec.env (sp : HSpec) (ρ : Env2) (ps : List E) (a : Act) : Env := ⟨fun i => if i < sp.ints.length then rdI a (sp.ints.getD i (0, .i64)).1 else (ps.getD (i - sp.ints.length) (.lit 0)).den ρ.toEnv, ρ.fn⟩
theorem HSpec.env_at {sp : HSpec} {ρ ρ' : Env2} {xs ps : List E} {a : Act} (hl : xs.length = sp.ints.length) (h1 : ∀ i, i < sp.ints.length → (xs.getD i (.lit 0)).den ρ'.toEnv = rdI a (sp.ints.getD i (0, .i64)).1)
    (h2 : ∀ e ∈ ps, e.den ρ'.toEnv = e.den ρ.toEnv) (hf : ρ'.fn = ρ.fn) : atEnv ρ'.toEnv (xs ++ ps) = sp.env ρ ps a := by
  unfold atEnv HSpec.env
  congr 1
  funext i
  by_cases hi : i < sp.ints.length
  · rw [if_pos hi, ← h1 i hi]
    simp only [List.getD, List.getElem?_append_left (show i < xs.length by omega)]
  · rw [if_neg hi]
    simp only [List.getD, List.getElem?_append_right (show xs.length ≤ i by omega), hl]
    cases hg : ps[i - sp.ints.length]? with
    | none => rfl
    | some e => exact h2 e (List.mem_of_getElem? hg)

theorem rowAt_some {s : St} {x : Nat × D × List (E × E × D)} {r : RowT} (h : rowAt s x = some r) : s.hp.get r.b = some ⟨r.vs, r.el, some r.A⟩ := by
  unfold rowAt at h
  split at h
  · split at h
    · rename_i ho; cases h; exact ho
    · cases h
  · cases h
theorem mapO_mem {α β : Type} {g : α → Option β} : ∀ {l : List α} {xs : List β}, mapO g l = some xs → ∀ x ∈ xs, ∃ v ∈ l, g v = some x
  | [], xs, h, x, hx => by cases h; cases hx
  | v :: r, xs, h, x, hx => by
    simp only [mapO] at h
    split at h
    · rename_i y hy
      split at h
      · rename_i ys hys
        cases h
        cases hx with
        | head => exact ⟨v, by simp, hy⟩
        | tail _ hx => obtain ⟨u, hu, h2⟩ := mapO_mem hys x hx; exact ⟨u, List.mem_cons_of_mem _ hu, h2⟩
      · cases h
    · cases h
theorem parE_stable {w0 : Base} {ρ : Env2} {s : St} {w : World} {a : Act} (hw : RelW w0 ρ s w) (ha : RelA ρ s a) {x : Nat × Nat} {e : E} (h : parE s x = some e) : ∀ ρ', Le s ρ ρ' → e.den ρ'.toEnv = e.den ρ.toEnv := by
  intro ρ' hle
  unfold parE at h
  split at h
  · cases h
  · rename_i hn
    have hn := Nat.le_of_ble_eq_true hn
    split at h
    · rename_i k e' hg
      cases h
      have h1 := ha.to.tm _ _ (by omega) hg
      have h2 := (ha ρ' hle).tm _ _ (by omega) hg
      rw [h1] at h2
      simpa [V.den] using h2.symm
    · rename_i b off len cap hg
      have h1 := ha.to.tm _ _ (by omega) hg
      have h2 := (ha ρ' hle).tm _ _ (by omega) hg
      rw [h1] at h2
      simp only [V.den, Option.some.injEq, Value.slice.injEq, Addr.mk.injEq] at h2
      obtain ⟨⟨_, h3, _⟩, h4, h5⟩ := h2
      have key : ∀ e : E, nonneg (itv s.bd e) = true → (e.den ρ.toEnv).toNat = (e.den ρ'.toEnv).toNat → e.den ρ'.toEnv = e.den ρ.toEnv := fun e hn he => by
        have a1 := nonneg_of hn (has_itv hw.to.bd _)
        have a2 := nonneg_of hn (has_itv (hw ρ' hle).bd _)
        omega
      split at h
      · split at h
        · rename_i hnn; cases h; exact key _ hnn h3
        · cases h
      · split at h
        · rename_i hnn; cases h; exact key _ hnn h4
        · cases h
      · split at h
        · rename_i hnn; cases h; exact key _ hnn h5
        · cases h
    · cases h

theorem has_within {i : Iv} {k : IntKind} {n : Int} (h : within i (kindIv k) = true) (hn : i.has n) : (kindIv k).has n := by
  cases k <;> (obtain ⟨a, b⟩ := within_of h hn; exact ⟨fun x hx => by cases hx; exact a, fun x hx => by cases hx; exact b⟩)
theorem temp_rel {w0 : Base} {ρ ρ2 : Env2} {s : St} {w w2 : World} {a a2 : Act} (hw : RelW w0 ρ s w) (ha : RelA ρ s a) (hle : Le s ρ ρ2) {sp : HSpec} {rs : List RowT} {ps : List E}
    (hrs : mapO (rowAt s) sp.rows = some rs) (hps : ∀ e ∈ ps, ∀ ρ', Le s ρ ρ' → e.den ρ'.toEnv = e.den ρ.toEnv) {s1 : St} (hw2 : RelW0 w0 ρ2 s1 w2) (ha2 : RelA0 ρ2 s1 a2) {es : List E} (hf : sp.fits s rs ps s1 = some es) :
    (∃ ρ3, Le s ρ ρ3 ∧ RelW w0 ρ3 (sp.temp s rs (sp.names s ++ ps)) w2 ∧ RelA ρ3 (sp.temp s rs (sp.names s ++ ps)) a2 ∧ ∀ i, i < sp.ints.length → rdI a2 (sp.ints.getD i (0, .i64)).1 = ρ3.v (s.nv + i)) ∧
      atEnv ρ2.toEnv (es ++ ps) = sp.env ρ ps a2 := by
  unfold HSpec.fits at hf
  split at hf
  · rename_i es' hes
    split at hf
    · rename_i hc
      cases hf
      simp only [Bool.and_eq_true] at hc
      obtain ⟨⟨⟨⟨⟨c1, c2⟩, c3⟩, c4⟩, c5⟩, c6⟩ := hc
      have c1 := Nat.eq_of_beq_eq_true c1
      obtain ⟨elen, eget⟩ := mapO_some hes
      -- each number
      have hint : ∀ i, i < sp.ints.length → ∃ e, es[i]? = some e ∧ a2.tmps[(sp.ints.getD i (0, .i64)).1]? = some (.int (sp.ints.getD i (0, .i64)).2 (e.den ρ2.toEnv)) ∧ (kindIv (sp.ints.getD i (0, .i64)).2).has (e.den ρ2.toEnv) := by
        intro i hi
        have hgi : sp.ints[i]? = some (sp.ints.getD i (0, .i64)) := by simp [hi]
        obtain ⟨e, he, h1⟩ := eget i _ hgi
        refine ⟨e, he, ?_⟩
        unfold intE at h1
        split at h1
        · rename_i k e' hg
          split at h1
          · rename_i hk
            cases h1
            simp only [Bool.and_eq_true] at hk
            have hk1 := of_decide_eq_true hk.1.1
            have hk2 := Nat.le_of_ble_eq_true hk.1.2
            have h3 := ha2.tm _ _ (by omega) hg
            refine ⟨by rw [h3, ← hk1]; rfl, ?_⟩
            have hb := has_itv hw2.bd e
            rw [← hk1]
            exact has_within hk.2 hb
          · cases h1
        · cases h1
      have hrd : ∀ i, i < sp.ints.length → (es.getD i (.lit 0)).den ρ2.toEnv = rdI a2 (sp.ints.getD i (0, .i64)).1 := by
        intro i hi
        obtain ⟨e, h1, h2, _⟩ := hint i hi
        unfold rdI; rw [h2]; simp only [List.getD, h1, Option.getD_some]
      have henv := HSpec.env_at (sp := sp) (ρ := ρ) (ρ' := ρ2) (a := a2) elen hrd (fun e he => hps e he ρ2 hle) hle.2.2.1
      refine ⟨?_, henv⟩
      let ρ3 : Env2 := { ρ2 with v := fun j => if s.nv ≤ j ∧ j < s.nv + sp.ints.length then rdI a2 (sp.ints.getD (j - s.nv) (0, .i64)).1 else ρ2.v j }
      have hle3 : Le s ρ ρ3 := ⟨hle.1, fun i hi => by
        show (if s.nv ≤ i ∧ i < s.nv + sp.ints.length then _ else ρ2.v i) = ρ.v i
        rw [if_neg (by omega)]; exact hle.2.1 i hi, hle.2.2.1, hle.2.2.2⟩
      have hv3 : ∀ i, i < sp.ints.length → ρ3.v (s.nv + i) = rdI a2 (sp.ints.getD i (0, .i64)).1 := fun i hi => by
        show (if s.nv ≤ s.nv + i ∧ s.nv + i < s.nv + sp.ints.length then rdI a2 (sp.ints.getD (s.nv + i - s.nv) (0, .i64)).1 else ρ2.v (s.nv + i)) = _
        rw [if_pos (by omega), Nat.add_sub_cancel_left]
      have hles : ∀ {ρ' : Env2}, Le (sp.temp s rs (sp.names s ++ ps)) ρ3 ρ' → Le s ρ ρ' := fun h => Le.trans (s' := sp.temp s rs (sp.names s ++ ps)) hle3 (Nat.le_refl _) (Nat.le_add_right _ _) h
      have hvs : ∀ {ρ' : Env2}, Le (sp.temp s rs (sp.names s ++ ps)) ρ3 ρ' → ∀ i, i < sp.ints.length → ρ'.v (s.nv + i) = rdI a2 (sp.ints.getD i (0, .i64)).1 := fun h i hi => by
        rw [h.2.1 (s.nv + i) (show s.nv + i < s.nv + sp.ints.length by omega), hv3 i hi]
      have hen : ∀ {ρ' : Env2}, Le (sp.temp s rs (sp.names s ++ ps)) ρ3 ρ' → atEnv ρ'.toEnv (sp.names s ++ ps) = sp.env ρ ps a2 := fun {ρ'} h =>
        HSpec.env_at (varsFrom_len _ _) (fun i hi => by
          rw [← hvs h i hi]
          simp only [HSpec.names, List.getD, varsFrom_get _ _ _ hi, Option.getD_some, E.den]) (fun e he => hps e he ρ' (hles h)) (hles h).2.2.1
      have hpc : ∀ {ρ' : Env2}, Le (sp.temp s rs (sp.names s ++ ps)) ρ3 ρ' → pcOk ρ'.toEnv (sp.facts.map (·.at (sp.names s ++ ps))) := fun {ρ'} h e he => by
        obtain ⟨f, hf, rfl⟩ := List.mem_map.1 he
        have h1 := holdsE_den hw2.bd hw2.pc (List.all_eq_true.1 c6 f hf)
        rw [den_at, henv] at h1
        rw [den_at, hen h]
        exact h1
      have hbb : ∀ {ρ' : Env2}, Le (sp.temp s rs (sp.names s ++ ps)) ρ3 ρ' → ∀ i, i < s.nb → ρ'.blk i = ρ2.blk i := fun h i hi => h.1 i hi
      have hhp : ∀ i o, (sp.temp s rs (sp.names s ++ ps)).hp.get i = some o → ∃ o0 o1, s.hp.get i = some o0 ∧ s1.hp.get i = some o1 ∧ ∀ {ρ' : Env2}, Le (sp.temp s rs (sp.names s ++ ps)) ρ3 ρ' → o.den ρ' = o1.den ρ2 := by
        intro i o hg
        rcases putRows_get hg with ⟨r, hr, hi, ho⟩ | hg
        · obtain ⟨x, _, hx⟩ := mapO_mem hrs r hr
          have hsr := rowAt_some hx
          have hfit := List.all_eq_true.1 c5 r hr
          unfold rowFits at hfit
          split at hfit
          · rename_i o1 ho1
            split at hfit
            · rename_i A hA
              simp only [Bool.and_eq_true] at hfit
              obtain ⟨⟨⟨⟨f1, f2⟩, f3⟩, f4⟩, f5⟩ := hfit
              have g1 := Nat.eq_of_beq_eq_true f1
              have f2 := E.eq_of_beq f2
              have f3 := of_decide_eq_true f3
              refine ⟨_, o1, by rw [hi]; exact hsr, by rw [hi]; exact ho1, fun {ρ'} h => ?_⟩
              have hsize : (r.A.size.den ρ'.toEnv).toNat = (r.A.size.den ρ2.toEnv).toNat := by
                have key : ∀ ρ4, Le s ρ ρ4 → (r.A.size.den ρ4.toEnv).toNat = (r.A.size.den ρ.toEnv).toNat := fun ρ4 h4 => by
                  obtain ⟨b1, _, _, b4⟩ := hw.to.hp _ _ hsr
                  obtain ⟨_, _, _, b4'⟩ := (hw ρ4 h4).hp _ _ hsr
                  rw [h4.1 _ b1, b4] at b4'
                  simp only [O.den, O.cells, Option.some.injEq, Obj.cells.injEq, and_true] at b4'
                  rw [← den_size, ← den_size, b4']
                rw [key ρ' (hles h), key ρ2 hle]
              rw [ho]
              obtain ⟨vs1, el1, arr1⟩ := o1
              simp only at hA g1
              subst hA g1
              simp only [O.den, O.cells, RowT.obj, Arr.den, Arr.row, f2, f3]
              congr 3
              rw [hsize]
              refine List.map_congr_left fun j _ => ?_
              rw [readW_sub, hen h, ← henv, ← readW_sub, sameW_read ρ2.toEnv f4 _ f5]
            · cases hfit
          · cases hfit
        · obtain ⟨_, h0⟩ := dropAll_get hg
          have hnb := (hw.to.hp _ _ h0).1
          have h1 := fitH_get c4 hnb hg
          refine ⟨o, o, h0, h1, fun {ρ'} h => ?_⟩
          have key : ∀ ρ4, Le s ρ ρ4 → o.den ρ4 = o.den ρ := fun ρ4 h4 => by
            obtain ⟨b1, _, _, b4⟩ := hw.to.hp _ _ h0
            obtain ⟨_, _, _, b4'⟩ := (hw ρ4 h4).hp _ _ h0
            rw [h4.1 _ b1, b4] at b4'
            exact (Option.some.inj b4').symm
          rw [key ρ' (hles h), key ρ2 hle]
      refine ⟨ρ3, hle3, fun ρ' h => ?_, fun ρ' h => ?_, fun i hi => (hv3 i hi).symm⟩
      · have h0 := hw ρ' (hles h)
        refine ⟨hw2.ext, h0.fn, fun i o hg => ?_, fun i j o o' hi hj hij => ?_, h0.gl, ?_, ?_⟩
        · obtain ⟨o0, o1, e0, e1, e2⟩ := hhp i o hg
          have hnb := (hw.to.hp _ _ e0).1
          obtain ⟨_, b2, b3, b4⟩ := hw2.hp _ _ e1
          rw [hbb h i hnb, e2 h]
          exact ⟨hnb, b2, b3, b4⟩
        · obtain ⟨o0, o1, e0, e1, _⟩ := hhp i o hi
          obtain ⟨p0, p1, g0, g1, _⟩ := hhp j o' hj
          rw [hbb h i (hw.to.hp _ _ e0).1, hbb h j (hw.to.hp _ _ g0).1] at hij
          exact hw2.inj i j _ _ e1 g1 hij
        · refine ok_supposeAll (fun p hp => ?_) (hpc h)
          rcases List.mem_append.1 hp with hp | hp
          · refine kbd_ok (ρ := ρ'.toEnv) (ins := sp.ints) (i := s.nv) (fun m t k hm => ?_) p hp
            have hlt : m < sp.ints.length := (List.getElem?_eq_some_iff.1 hm).1
            obtain ⟨e, h1, h2, h3⟩ := hint m hlt
            have hr := hrd m hlt
            simp only [List.getD, h1, hm, Option.getD_some] at hr h3
            have hv := hvs h m hlt
            simp only [List.getD, hm, Option.getD_some] at hv
            rw [hv, ← hr]
            exact h3
          · exact h0.bd p hp
        · intro e he
          rcases List.mem_append.1 he with he | he
          · exact hpc h e he
          · exact h0.pc e he
      · have h0 := ha ρ' (hles h)
        refine ⟨ha2.size.trans c1, fun t v ht hg => ?_, ha2.defers⟩
        rcases putVars_get hg with ⟨m, k, hm, rfl⟩ | hg
        · have hlt : m < sp.ints.length := (List.getElem?_eq_some_iff.1 hm).1
          obtain ⟨e, h1, h2, h3⟩ := hint m hlt
          have hr := hrd m hlt
          have hv := hvs h m hlt
          simp only [List.getD, h1, hm, Option.getD_some] at hr h2 hv
          rw [h2]
          simp only [V.den, E.den, hv, hr]
        · obtain ⟨_, hg0⟩ := dropAll_get hg
          have h2 := ha2.tm _ _ (by rw [c1]; exact ht) (fitT_get c3 ht hg)
          have e1 := ha.to.tm _ _ ht hg0
          have e2 := h0.tm _ _ ht hg0
          have e3 := (ha ρ2 hle).tm _ _ ht hg0
          rw [h2, ← e3, e2]
    · cases hf
  · cases hf

theorem hrun_ok {P : Program} {w0 : Base} {orc : Oracle} {lo : LoopOracle} {bs : Bodies} (ho : OracleOk P w0 orc) (hbs : BodiesOk P bs) (hlo : LoopsOk P w0 bs lo) {fuel : Nat} {sp : HSpec} {s : St} {outs : Outs}
    (h : hrun P orc lo bs fuel sp s = some outs) {c : Code} (hat : codeAt bs sp.f sp.p = some c) {ρ : Env2} {a : Act} {w : World} {Q : Exit → Act → World → Prop} (hw : RelW w0 ρ s w) (ha : RelA ρ s a) (hk : GoesX w0 ρ s outs Q) : c.wp P Q a w := by
  unfold hrun at h
  rw [hat] at h
  split at h
  · rename_i id b hcb
    cases hcb
    split at h
    · rename_i ps hps
      split at h
      · rename_i rs hrs
        split at h
        · rename_i es hes
          split at h
          · rename_i outs1 hex
            split at h
            · rename_i ls hls
              cases h
              have hst : ∀ e ∈ ps, ∀ ρ', Le s ρ ρ' → e.den ρ'.toEnv = e.den ρ.toEnv := fun e he => by
                obtain ⟨x, _, hx⟩ := mapO_mem hps e he
                exact parE_stable hw ha hx
              obtain ⟨_, hmap⟩ := mapO_some hls
              obtain ⟨⟨ρ0, hl0, hw0, ha0, hv0⟩, _⟩ := temp_rel hw ha (Le.refl _ _) hrs hst hw.to ha.to hes
              refine wp_block (wp_loop
                (fun a1 w1 => ∃ ρ1, Le s ρ ρ1 ∧ RelW w0 ρ1 (sp.temp s rs (sp.names s ++ ps)) w1 ∧ RelA ρ1 (sp.temp s rs (sp.names s ++ ps)) a1 ∧ ∀ i, i < sp.ints.length → rdI a1 (sp.ints.getD i (0, .i64)).1 = ρ1.v (s.nv + i))
                (fun a1 _ => (sp.meas.den (sp.env ρ ps a1)).toNat) ⟨ρ0, hl0, hw0, ha0, hv0⟩ ?_)
              rintro a1 w1 ⟨ρ1, hl1, hw1, ha1, hv1⟩
              refine exec_ok ho hbs hlo fuel sp.f _ b _ outs1 hex (by simp [codeAt, hat, Code.sub]) ρ1 a1 w1 _ hw1 ha1 ?_
              intro r hr ρ2 a2 w2 hle2 hb2 hv2 hw2 ha2
              obtain ⟨i, hi1, hi2⟩ := List.getElem_of_mem hr
              obtain ⟨y, hy1, hy2⟩ := hmap i r (by rw [List.getElem?_eq_getElem hi1, hi2])
              have hyl : y ∈ ls := List.mem_of_getElem? hy1
              have hl2 : Le s ρ ρ2 := Le.trans (s' := sp.temp s rs (sp.names s ++ ps)) hl1 (Nat.le_refl _) (Nat.le_add_right _ _) hle2
              have hnb : s.nb ≤ r.2.nb := hb2
              have hnv : s.nv ≤ r.2.nv := Nat.le_trans (Nat.le_add_right _ _) hv2
              have out : ∀ x, y = some (x, r.2) → Q x.to a2 w2 := fun x hx => hk (x, r.2) (List.mem_filterMap.2 ⟨y, hyl, hx⟩) ρ2 a2 w2 hl2 hnb hnv hw2 ha2
              obtain ⟨x, s1⟩ := r
              unfold HSpec.leaf at hy2
              cases x with
              | normal =>
                simp only at hy2
                split at hy2
                · rename_i es2 hes2
                  split at hy2
                  · rename_i hm
                    cases hy2
                    simp only [Bool.and_eq_true] at hm
                    obtain ⟨⟨ρ3, hl3, hw3, ha3, hv3⟩, henv⟩ := temp_rel hw ha hl2 hrs hst hw2.to ha2.to hes2
                    have m1 := holdsE_den hw2.to.bd hw2.to.pc hm.1
                    have m2 := holdsE_den hw2.to.bd hw2.to.pc hm.2
                    rw [den_mkBin] at m1 m2
                    have m1 := (E.prop_iff ρ2.toEnv (.bin .lt (sp.meas.at (es2 ++ ps)) (sp.meas.at (sp.names s ++ ps)))).2 m1
                    have m2 := (E.prop_iff ρ2.toEnv (.bin .le (.lit 0) (sp.meas.at (es2 ++ ps)))).2 m2
                    simp only [E.prop] at m1 m2
                    refine ⟨⟨ρ3, hl3, hw3, ha3, hv3⟩, ?_⟩
                    have e1 : (sp.meas.at (sp.names s ++ ps)).den ρ2.toEnv = sp.meas.den (sp.env ρ ps a1) := by
                      rw [den_at]
                      congr 1
                      refine HSpec.env_at (varsFrom_len _ _) (fun i hi => ?_) (fun e he => hst e he ρ2 hl2) hl2.2.2.1
                      rw [hv1 i hi]
                      simp only [HSpec.names, List.getD, varsFrom_get _ _ _ hi, Option.getD_some, E.den]
                      exact hle2.2.1 (s.nv + i) (show s.nv + i < s.nv + sp.ints.length by omega)
                    have e2 : (sp.meas.at (es2 ++ ps)).den ρ2.toEnv = sp.meas.den (sp.env ρ ps a2) := by rw [den_at, henv]
                    rw [e1, e2] at m1
                    rw [e2] at m2
                    simp only [E.den] at m2
                    show (sp.meas.den (sp.env ρ ps a2)).toNat < (sp.meas.den (sp.env ρ ps a1)).toNat
                    omega
                  · cases hy2
                · cases hy2
              | exit j =>
                simp only at hy2
                show Exit.inBlock id Q (.exit j) a2 w2
                split at hy2
                · rename_i hj
                  have hj := Nat.eq_of_beq_eq_true hj
                  cases hy2
                  simp only [Exit.inBlock, hj, if_true]
                  exact out .normal rfl
                · rename_i hj
                  have hj : ¬ j = id := fun e => by simp [e] at hj
                  cases hy2
                  simp only [Exit.inBlock]
                  rw [if_neg hj]
                  exact out (.exit j) rfl
              | ret =>
                simp only at hy2
                cases hy2
                show Exit.inBlock id Q .ret a2 w2
                exact out .ret rfl
            · cases h
          · cases h
        · cases h
      · cases h
    · cases h
  · cases h

theorem hOracle_ok {P : Program} {w0 : Base} {orc : Oracle} {lo : LoopOracle} {bs : Bodies} (ho : OracleOk P w0 orc) (hbs : BodiesOk P bs) (hlo : LoopsOk P w0 bs lo) {fuel : Nat} : ∀ specs : List HSpec, LoopsOk P w0 bs (hOracle P orc lo bs fuel specs)
  | [] => hlo
  | sp :: r => fun cur p s outs h c hat ρ a w Q hw ha hk => by
    have ih := hOracle_ok ho hbs hlo (fuel := fuel) r
    simp only [hOracle] at h
    split at h
    · rename_i hc
      simp only [Bool.and_eq_true] at hc
      have c1 := Nat.eq_of_beq_eq_true hc.1
      have c2 := of_decide_eq_true hc.2
      subst c1 c2
      split at h
      · rename_i o1 ho1
        cases h
        exact hrun_ok ho hbs ih ho1 hat hw ha hk
      · exact ih _ _ s outs h c hat ρ a w Q hw ha hk
    · exact ih cur p s outs h c hat ρ a w Q hw ha hk

/-! ### a law under a condition -/
theorem law_calls_pre {P : Program} {orc : Oracle} {lo : LoopOracle} {fns : List (Nat × Func)} {w : World} (fn : Nat → Int → Int → Int → Int) (ho : OracleOk P ⟨w, fn⟩ orc) (hlo : LoopsOk P ⟨w, fn⟩ (bodies fns) lo) (hf : AllKnown P fns) {gl : Tabs} (hg : TabsOk w gl) {fuel f : Nat} {ks : List (Option IntKind)} {pre : List E} {ls : List Leaf}
    (hrun : runOf P orc lo (bodies fns) gl fuel f ks pre = some ls) (hu : allUnder ks.length pre = true) (v : Nat → Int) (hv : KindOk v 0 ks) (hp : pcOk ⟨v, fn⟩ pre)
    (hl : ∀ u : Nat → Int, KindOk u 0 ks → Law ⟨u, fn⟩ ls) :
    Calls P f (kindVals v 0 ks).toArray w fun e w' => e = .returned (.bool true) ∧ RowKit.Grown w w' := by
  refine run_calls (w0 := ⟨w, fn⟩) ho hlo hf hg hrun (fun ρ ρ' h1 h2 h3 => pc_under hu ρ ρ' h1 h2 h3) v hv hp (Ext.refl w) _ ?_
  intro x hx ρ1 w1 hv1 hfn hpc hext
  refine ⟨?_, hext.grown⟩
  obtain ⟨be, hbe, hch⟩ := law_at (hl ρ1.v (kindOk_congr (fun j hj => hv1 j (by omega)) hv)) x hx
  have hρ : (⟨ρ1.v, fn⟩ : Env) = ρ1.toEnv := by
    have : ρ1.fn = fn := hfn
    rw [← this]
  rw [hρ] at hch
  have hp := chain_of hpc hch
  rw [hbe]
  simp only [V.den]
  rw [(bne_iff_ne (a := be.den ρ1.toEnv) (b := 0)).2 ((E.prop_iff _ _).1 hp)]

end Go.Sx
