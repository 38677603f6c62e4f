/- Loops told by a template of the state: numbers get new names, rows may lie elsewhere after each round, what a row holds may be told by a code. -/
import Derived.Test.YtjgobpmhdeancaaSxV
namespace Go.Sx
open Go

/-! ### what a template is -/
structure Src where
  t : Nat
  cell : Option Nat
  part : Nat
  by_ : Int := 1
inductive OT where
  | row (vs : List V)
  | arr (A : Arr)
  | code (size len : E) (kind : IntKind) (cf : Nat := 90)
structure Item where
  t : Nat
  cell : Option Nat
  moves : Bool
  o : OT
structure GSpec where
  f : Nat
  p : List Nat
  gone : List Nat
  ints : List (Src × Iv)
  tmps : List (Nat × V)
  objs : List Item
  pars : List Src
  facts : List E
  meas : E
  lems : List (List E × E) := []

def placeV (s : St) (t : Nat) (cell : Option Nat) : Option V := match Nat.ble (t + 1) s.n with
  | false => none
  | true => match s.tm.get t with
    | none => none
    | some v => match cell with
      | none => some v
      | some k => match v with
        | .ptr b 0 => match s.hp.get b with
          | some ⟨vs, _, none⟩ => vs[k]?
          | _ => none
        | _ => none
def numE1 (s : St) (x : Src) : Option E := match placeV s x.t x.cell with
  | some (.int _ e) => some e
  | some (.sl _ off len cap) => match x.part with
    | 1 => some off
    | 2 => some len
    | 3 => some cap
    | _ => some (canE (mkSub cap len))
  | some (.vf _ c) => some c
  | _ => none
/-- of the row that a slice lies in: 5 the code of what stands in it first, 6 its size -/
def rowE (s : St) (x : Src) : Option E := match placeV s x.t x.cell with
  | some (.sl b _ len _) => match s.hp.get b with
    | some ⟨_, _, some A⟩ => match x.part with
      | 6 => some A.size
      | 7 => some (canE (mkSub A.size len))
      | _ => match A.ws.reverse with
        | (_, _, .fn _ _ _ c) :: _ => some c
        | _ => none
    | _ => none
  | _ => none
def numE2 (s : St) (x : Src) : Option E := match Nat.ble 5 x.part with
  | true => rowE s x
  | false => numE1 s x
def numE (s : St) (x : Src) : Option E := match numE2 s x with
  | none => none
  | some e => match decide (x.by_ = 1) with
    | true => some e
    | false => quotE x.by_ e
def parN (s : St) (x : Src) : Option E := match numE s x with
  | some e => match e.low s.nv with
    | true => some e
    | false => none
  | none => none
def blkE (s : St) (x : Item) : Option Nat := match placeV s x.t x.cell with
  | some (.ptr b _) => some b
  | some (.sl b _ _ _) => some b
  | some (.cel b _) => some b
  | _ => none
def elemAt (s : St) (b : Nat) : Option TypeId := match s.hp.get b with
  | some o => some o.elem
  | none => none

/-! ### the state at the head -/
def newB (nb : Nat) : Nat → List Item → List Nat → List Nat
  | i, x :: r, b :: q => (match x.moves with
    | true => nb + i
    | false => b) :: newB nb (i + 1) r q
  | _, _, _ => []
def OT.obj (el : TypeId) (l : List E) (bl : List Nat) (ce : E) : OT → O
  | .row vs => ⟨V.subL l bl vs, el, none⟩
  | .arr A => ⟨[], el, some (A.sub l)⟩
  | .code size len kind cf => ⟨[], el, some ⟨size.at l, kind, .con (.lit 0), [(.lit 0, len.at l, .fn kind cf (.lit 0) ce)]⟩⟩
def putTs (t : T V) (l : List E) (bl : List Nat) : List (Nat × V) → T V
  | [] => t
  | (k, v) :: r => (putTs t l bl r).put k (v.sub l bl)
def putOs (t : T O) (l : List E) (bl : List Nat) (ce : E) : List Item → List TypeId → List Nat → T O
  | x :: r, el :: es, b :: q => (putOs t l bl ce r es q).put b (x.o.obj el l bl ce)
  | _, _, _ => t
def ivBd : Nat → List (Src × Iv) → Bd
  | _, [] => []
  | i, (_, k) :: r => (.var i, k) :: ivBd (i + 1) r
def GSpec.names (sp : GSpec) (s : St) (ps : List E) : List E := varsFrom s.nv sp.ints.length ++ ps
def GSpec.baseT (sp : GSpec) (s : St) : T V := dropAll s.tm (sp.gone ++ sp.tmps.map (·.1))
def GSpec.temp (sp : GSpec) (s : St) (bs : List Nat) (els : List TypeId) (ps : List E) : St :=
  { s with nv := s.nv + sp.ints.length + 1, nb := s.nb + sp.objs.length,
           tm := putTs (sp.baseT s) (sp.names s ps) (newB s.nb 0 sp.objs bs) sp.tmps,
           hp := putOs (dropAll s.hp bs) (sp.names s ps) (newB s.nb 0 sp.objs bs) (.var (s.nv + sp.ints.length)) sp.objs els (newB s.nb 0 sp.objs bs),
           bd := supposeAll (ivBd s.nv sp.ints ++ s.bd) (sp.facts.map (·.at (sp.names s ps))), pc := sp.facts.map (·.at (sp.names s ps)) ++ s.pc }

/-! ### when a state fits -/
def sameS (s : St) (x y : E) : Bool := sameE x y || (uptoE s.bd s.pc x y && uptoE s.bd s.pc y x)
theorem sameS_den {s : St} {ρ : Env} (hb : s.bd.ok ρ) (hp : pcOk ρ s.pc) {x y : E} (h : sameS s x y = true) : x.den ρ = y.den ρ := by
  unfold sameS at h
  rcases Bool.or_eq_true _ _ ▸ h with h | h
  · exact sameE_den ρ h
  · simp only [Bool.and_eq_true] at h
    have h1 := uptoE_of hb hp h.1
    have h2 := uptoE_of hb hp h.2
    omega
def sameV (s : St) : V → V → Bool
  | .int k a, .int l b => decide (k = l) && sameS s a b
  | .sl b x y z, .sl c u v w => Nat.beq b c && sameS s x u && sameS s y v && sameS s z w
  | a, b => a.beq b
theorem sameV_den {s : St} {ρ : Env2} (hb : s.bd.ok ρ.toEnv) (hp : pcOk ρ.toEnv s.pc) : ∀ {a b : V}, sameV s a b = true → a.den ρ = b.den ρ := by
  intro a b h
  unfold sameV at h
  split at h
  · simp only [Bool.and_eq_true] at h
    simp only [V.den, of_decide_eq_true h.1, sameS_den hb hp h.2]
  · simp only [Bool.and_eq_true] at h
    simp only [V.den, Nat.eq_of_beq_eq_true h.1.1.1, sameS_den hb hp h.1.1.2, sameS_den hb hp h.1.2, sameS_den hb hp h.2]
  · rw [V.eq_of_beq _ _ h]
def sameVs (s : St) : List V → List V → Bool
  | [], [] => true
  | a :: r, b :: q => sameV s a b && sameVs s r q
  | _, _ => false
theorem sameVs_den {s : St} {ρ : Env2} (hb : s.bd.ok ρ.toEnv) (hp : pcOk ρ.toEnv s.pc) : ∀ {a b : List V}, sameVs s a b = true → V.denL ρ a = V.denL ρ b
  | [], b, h => by cases b <;> simp [sameVs] at h; rfl
  | a :: r, b, h => by
    cases b <;> simp [sameVs] at h
    simp only [V.denL, sameV_den hb hp h.1, sameVs_den hb hp h.2]
def sameWS (s : St) : List (E × E × D) → List (E × E × D) → Bool
  | [], [] => true
  | (a, b, x) :: r, (c, d, y) :: q => sameS s a c && sameS s b d && sameD x y && sameWS s r q
  | _, _ => false
theorem sameWS_read {s : St} {ρ : Env} (hb : s.bd.ok ρ) (hp : pcOk ρ s.pc) {d d' : D} (hd : sameD d d' = true) (j : Int) : ∀ {ws ws' : List (E × E × D)}, sameWS s ws ws' = true → readW ρ d ws j = readW ρ d' ws' j
  | [], ws', h => by
    cases ws' with
    | nil => simp only [readW, sameD_at ρ j hd]
    | cons x r => cases h
  | (a, b, x) :: r, ws', h => by
    cases ws' with
    | nil => cases h
    | cons y q =>
      obtain ⟨c, e, y⟩ := y
      simp only [sameWS, Bool.and_eq_true] at h
      simp only [readW, sameS_den hb hp h.1.1.1, sameS_den hb hp h.1.1.2, sameD_at ρ j h.1.2, sameWS_read hb hp hd j h.2]
def rangeD (b : Bd) (k : IntKind) : D → Bool
  | .con e => within (itv b e) (kindIv k)
  | .fn k' _ _ _ => decide (k' = k)
theorem rangeD_of {ρ : Env} {b : Bd} (hb : b.ok ρ) {k : IntKind} (j : Int) : ∀ {d : D}, rangeD b k d = true → (kindIv k).has (d.at ρ j)
  | .con e, h => has_within h (has_itv hb e)
  | .fn k' f sh cd, h => by
    have := of_decide_eq_true h
    subst this
    exact has_kind _ _
def rangeWs (b : Bd) (k : IntKind) : List (E × E × D) → Bool
  | [] => true
  | (_, _, d) :: r => rangeD b k d && rangeWs b k r
theorem rangeWs_of {ρ : Env} {b : Bd} (hb : b.ok ρ) {k : IntKind} {d : D} (hd : rangeD b k d = true) (j : Int) : ∀ {ws : List (E × E × D)}, rangeWs b k ws = true → (kindIv k).has (readW ρ d ws j)
  | [], _ => rangeD_of hb j hd
  | (lo, hi, v) :: r, h => by
    simp only [rangeWs, Bool.and_eq_true] at h
    simp only [readW]
    split
    · exact rangeD_of hb j h.1
    · exact rangeWs_of hb hd j h.2
theorem within_has {i j : Iv} {n : Int} (h : within i j = true) (hn : i.has n) : j.has n := by
  obtain ⟨a, b⟩ := i; obtain ⟨c, d⟩ := j
  cases a <;> cases b <;> cases c <;> cases d <;> simp [within] at h
  have h1 := hn.1 _ rfl
  have h2 := hn.2 _ rfl
  exact ⟨fun x hx => by cases hx; omega, fun x hx => by cases hx; omega⟩
def lowIv : Iv := (some (-1), some 9223372036854775807)
/-- numbers not below -1, by what is known of functions: rl says up to where a function's numbers are not below nought -/
def lowD (s1 : St) (rl : List (Nat × E)) (lo hi : E) : D → Bool
  | .con e => within (itv s1.bd e) lowIv
  | .fn k g sh c => decide (k = .i64) && (Nat.beq g 91 || rl.any fun q => Nat.beq q.1 g && holdsE s1 (.bin .le (canE (mkAdd hi sh)) (q.2.at [c])) && holdsE s1 (.bin .le (.lit 0) (mkAdd lo sh)))
def lowWs (s1 : St) (rl : List (Nat × E)) : List (E × E × D) → Bool
  | [] => true
  | (lo, hi, d) :: r => lowD s1 rl lo hi d && lowWs s1 rl r
def RangeOk (fn : Nat → Int → Int → Int → Int) (rl : List (Nat × E)) : Prop := ∀ q ∈ rl, ∀ (v : Nat → Int) (j : Int), 0 ≤ j → j < q.2.den ⟨v, fn⟩ → 0 ≤ IntKind.i64.wrap (fn q.1 j (v 0) 0)
theorem lowWs_of {ρ : Env} {s1 : St} (hb : s1.bd.ok ρ) (hp : pcOk ρ s1.pc) {rl : List (Nat × E)} (hr : RangeOk ρ.fn rl) (h91 : ∀ j c, -1 ≤ IntKind.i64.wrap (ρ.fn 91 j c 0)) {d0 : D} (hd : zeroD d0 = true) (j : Int) : ∀ {ws : List (E × E × D)}, lowWs s1 rl ws = true → -1 ≤ readW ρ d0 ws j ∧ readW ρ d0 ws j ≤ 9223372036854775807
  | [], _ => by rw [zeroD_eq hd]; simp only [readW, D.at, E.den]; omega
  | (lo, hi, d) :: r, h => by
    simp only [lowWs, Bool.and_eq_true] at h
    simp only [readW]
    split
    · rename_i hj
      have h1 := h.1
      cases d with
      | con e =>
        have h2 := within_has (j := lowIv) h1 (has_itv hb e)
        exact ⟨h2.1 _ rfl, h2.2 _ rfl⟩
      | fn k g sh c =>
        simp only [lowD, Bool.and_eq_true] at h1
        have hk := of_decide_eq_true h1.1
        subst hk
        refine ⟨?_, (has_kind .i64 _).2 _ rfl⟩
        rcases Bool.or_eq_true _ _ ▸ h1.2 with h2 | h2
        · have := Nat.eq_of_beq_eq_true h2
          subst this
          exact h91 _ _
        · obtain ⟨q, hq, h2⟩ := List.any_eq_true.1 h2
          simp only [Bool.and_eq_true] at h2
          have e1 := Nat.eq_of_beq_eq_true h2.1.1
          have e2 := (E.prop_iff ρ _).2 (holdsE_den hb hp h2.1.2)
          have e3 := (E.prop_iff ρ _).2 (holdsE_den hb hp h2.2)
          simp only [E.prop, den_canE, den_mkAdd, den_at, E.den] at e2 e3
          have := hr q hq (atEnv ρ [c]).v (j + sh.den ρ) (by omega) (by
            have : (⟨(atEnv ρ [c]).v, ρ.fn⟩ : Env) = atEnv ρ [c] := rfl
            rw [this]; omega)
          rw [e1] at this
          have hc : (atEnv ρ [c]).v 0 = c.den ρ := rfl
          rw [hc] at this
          simp only [D.at]
          omega
    · exact lowWs_of hb hp hr h91 hd j h.2
def rangeC (s1 : St) (rl : List (Nat × E)) (cf : Nat) (k : IntKind) (ws : List (E × E × D)) : Bool := rangeWs s1.bd k ws && (Nat.beq cf 90 || (Nat.beq cf 91 && lowWs s1 rl ws))
/-- the row that says what the code is -/
def firstCode (s1 : St) : List Item → List Nat → Option (Arr × E × Nat)
  | x :: r, b :: q => match x.o with
    | .code _ len _ cf => match s1.hp.get b with
      | some ⟨_, _, some B⟩ => some (B, len, cf)
      | _ => none
    | _ => firstCode s1 r q
  | _, _ => none
def fitO (s1 : St) (rl : List (Nat × E)) (o1 : O) (el : TypeId) (l : List E) (bl : List Nat) (fc : Option (Arr × E × Nat)) : OT → Bool
  | .row vs => match o1.arr with
    | none => Nat.beq o1.elem el && sameVs s1 o1.vs (V.subL l bl vs)
    | some _ => false
  | .arr A => match o1.arr with
    | some B => Nat.beq o1.elem el && sameE B.size (A.size.at l) && decide (B.kind = A.kind) && sameD B.dflt (A.dflt.sub l) && sameW B.ws (subW l A.ws)
    | none => false
  | .code size len kind cf => match o1.arr with
    | some B => match fc with
      | some (B0, len0, cf0) => Nat.beq cf cf0 && Nat.beq o1.elem el && sameS s1 B.size (size.at l) && decide (B.kind = kind) && zeroD B.dflt && insideWs s1.bd s1.pc (len.at l) B.ws && sameE (len.at l) (len0.at l) && decide (B0.kind = kind) && zeroD B0.dflt && rangeC s1 rl cf kind B0.ws && sameWS s1 (trimW s1.bd s1.pc (len.at l) B.ws) (trimW s1.bd s1.pc (len.at l) B0.ws)
      | none => false
    | none => false
def fitOs (s1 : St) (rl : List (Nat × E)) (l : List E) (bl : List Nat) (fc : Option (Arr × E × Nat)) : List Item → List TypeId → List Nat → Bool
  | x :: r, el :: es, b :: q => (match s1.hp.get b with
    | some o => fitO s1 rl o el l bl fc x.o
    | none => false) && fitOs s1 rl l bl fc r es q
  | [], [], [] => true
  | _, _, _ => false
def fitTs (s1 : St) (l : List E) (bl : List Nat) : List (Nat × V) → Bool
  | [] => true
  | (k, v) :: r => (match s1.tm.get k with
    | some u => sameV s1 u (v.sub l bl)
    | none => false) && fitTs s1 l bl r
def stays : List Item → List Nat → List Nat → Bool
  | x :: r, b :: q, c :: p => (match x.moves with
    | true => true
    | false => Nat.beq b c) && stays r q p
  | [], [], [] => true
  | _, _, _ => false
def apartB : List Nat → Bool
  | [] => true
  | b :: r => (!r.elem b) && apartB r
def inIv (s1 : St) (e : E) (i : Iv) : Bool := within (itv s1.bd e) i || (match i with
  | (some l, some h) => uptoE s1.bd s1.pc (litE l) e && uptoE s1.bd s1.pc e (litE h)
  | _ => false)
def fitI (s1 : St) : List (Src × Iv) → List E → Bool
  | (_, i) :: r, e :: q => inIv s1 e i && fitI s1 r q
  | [], [] => true
  | _, _ => false
/-- a fact that holds, or follows by a law of the functions -/
def factOk (s1 : St) (lems : List (List E × E)) (l : List E) (e : E) : Bool := holdsE s1 e || lems.any fun q => (q.2.at l).beq e && q.1.all fun p => holdsE s1 (p.at l)
def LemsOk (fn : Nat → Int → Int → Int → Int) (lems : List (List E × E)) : Prop := ∀ q ∈ lems, ∀ v : Nat → Int, (∀ p ∈ q.1, p.den ⟨v, fn⟩ ≠ 0) → q.2.den ⟨v, fn⟩ ≠ 0
theorem factOk_den {s : St} {ρ : Env} (hb : s.bd.ok ρ) (hp : pcOk ρ s.pc) {lems : List (List E × E)} (hl : LemsOk ρ.fn lems) {l : List E} {e : E} (h : factOk s lems l e = true) : e.den ρ ≠ 0 := by
  unfold factOk at h
  rcases Bool.or_eq_true _ _ ▸ h with h | h
  · exact holdsE_den hb hp h
  · obtain ⟨q, hq, h⟩ := List.any_eq_true.1 h
    simp only [Bool.and_eq_true] at h
    rw [← E.eq_of_beq h.1, den_at]
    refine hl q hq _ fun p hpm => ?_
    have := holdsE_den hb hp (List.all_eq_true.1 h.2 p hpm)
    rw [den_at] at this
    exact this
def GSpec.fits (sp : GSpec) (s : St) (bs : List Nat) (els : List TypeId) (ps : List E) (s1 : St) : Option (List E × List Nat) := match mapO (fun x => numE s1 x.1) sp.ints, mapO (blkE s1) sp.objs with
  | some es, some bs1 => match Nat.beq s1.n s.n && Nat.ble s.nb s1.nb && Nat.ble 1 s.nb && fitI s1 sp.ints es && stays sp.objs bs bs1 && apartB bs1 && (bs1.all fun b => match (dropAll s.hp bs).get b with
      | none => true
      | some _ => false) && fitT s.n (sp.baseT s) s1.tm && fitTs s1 (es ++ ps) bs1 sp.tmps && fitH s.nb (dropAll s.hp bs) s1.hp && fitOs s1 [] (es ++ ps) bs1 (firstCode s1 sp.objs bs1) sp.objs els bs1 && (sp.facts.all fun f => factOk s1 sp.lems (sp.names s ps) (f.at (es ++ ps))) with
    | true => some (es, bs1)
    | false => none
  | _, _ => none
def GSpec.leaf (sp : GSpec) (s : St) (id : Nat) (bs : List Nat) (els : List TypeId) (ps : List E) (r : X × St) : Option (Option (X × St)) := match r.1 with
  | .normal => match sp.fits s bs els ps r.2 with
    | some (es, _) => match holdsE r.2 (mkBin .lt (sp.meas.at (es ++ ps)) (sp.meas.at (sp.names s ps))) && holdsE r.2 (mkBin .le (.lit 0) (sp.meas.at (es ++ ps))) with
      | true => some none
      | false => none
    | none => none
  | .exit j => match Nat.beq j id with
    | true => some (some (.normal, r.2))
    | false => some (some (.exit j, r.2))
  | .ret => some (some (.ret, r.2))
def grun (P : Program) (orc : Oracle) (lo : LoopOracle) (bs : Bodies) (fuel : Nat) (sp : GSpec) (s : St) : Option Outs := match codeAt bs sp.f sp.p with
  | some (.block id (.loop b)) => match mapO (parN s) sp.pars with
    | some ps => match mapO (blkE s) sp.objs with
      | some bl => match mapO (elemAt s) bl with
        | some els => match sp.fits s bl els ps s with
          | some _ => match exec P orc lo bs fuel sp.f (0 :: 0 :: sp.p) b (sp.temp s bl els ps) with
            | some outs => match mapO (sp.leaf s id bl els ps) outs with
              | some ls => some (ls.filterMap fun x => x)
              | none => none
            | none => none
          | none => none
        | none => none
      | none => none
    | none => none
  | _ => none
/-- the first loops are the outer ones -/
def gOracle (P : Program) (orc : Oracle) (lo : LoopOracle) (bs : Bodies) (fuel : Nat) : List GSpec → LoopOracle
  | [] => lo
  | sp :: r => fun cur p s => match Nat.beq cur sp.f && decide (p = sp.p) with
    | true => match grun P orc (gOracle P orc lo bs fuel r) bs fuel sp s with
      | some outs => some (some outs)
      | none => gOracle P orc lo bs fuel r cur p s
    | false => gOracle P orc lo bs fuel r cur p s

/-! ### it is right -/
/-- rows of numbers have codes -/
def CodeOk (fn : Nat → Int → Int → Int → Int) : Prop := (∀ (n : Nat) (g : Nat → Int), (∀ j, j < n → -9223372036854775808 ≤ g j ∧ g j ≤ 18446744073709551615) → ∃ c : Int, ∀ j : Nat, j < n → fn 90 (j : Int) c 0 = g j) ∧
  (∀ (n : Nat) (g : Nat → Int), (∀ j, j < n → -1 ≤ g j ∧ g j ≤ 9223372036854775807) → ∃ c : Int, ∀ j : Nat, j < n → fn 91 (j : Int) c 0 = g j) ∧ ∀ j c, -1 ≤ IntKind.i64.wrap (fn 91 j c 0)
theorem kind_wide {k : IntKind} {n : Int} (h : (kindIv k).has n) : -9223372036854775808 ≤ n ∧ n ≤ 18446744073709551615 := by
  have := of_kind h
  cases k <;> simp only at this <;> omega
theorem wrap_has {k : IntKind} {n : Int} (h : (kindIv k).has n) : k.wrap n = n := wrap_of_within (i := kindIv k) (by cases k <;> decide) h
theorem putTs_get {t : T V} {l : List E} {bl : List Nat} {j : Nat} {v : V} : ∀ {ts : List (Nat × V)}, (putTs t l bl ts).get j = some v → (∃ u, (j, u) ∈ ts ∧ v = u.sub l bl) ∨ t.get j = some v
  | [], h => .inr h
  | (k, u) :: r, h => by
    simp only [putTs, T.get_put] at h
    split at h
    · rename_i hj; cases h; subst hj; exact .inl ⟨u, List.mem_cons_self, rfl⟩
    · rcases putTs_get h with ⟨u', h1, h2⟩ | h
      · exact .inl ⟨u', List.mem_cons_of_mem _ h1, h2⟩
      · exact .inr h
theorem putOs_get {t : T O} {l : List E} {bl : List Nat} {ce : E} {j : Nat} {o : O} : ∀ {xs : List Item} {els : List TypeId} {q : List Nat}, (putOs t l bl ce xs els q).get j = some o →
    (∃ (k : Nat) (x : Item) (el : TypeId), xs[k]? = some x ∧ els[k]? = some el ∧ q[k]? = some j ∧ o = x.o.obj el l bl ce) ∨ t.get j = some o
  | [], _, _, h => .inr (by simpa [putOs] using h)
  | x :: r, [], _, h => .inr (by simpa [putOs] using h)
  | x :: r, el :: es, [], h => .inr (by simpa [putOs] using h)
  | x :: r, el :: es, b :: q, h => by
    simp only [putOs, T.get_put] at h
    split at h
    · rename_i hj; cases h; exact .inl ⟨0, x, el, rfl, rfl, by simp [hj], rfl⟩
    · rcases putOs_get h with ⟨k, x', el', h1, h2, h3, h4⟩ | h
      · exact .inl ⟨k + 1, x', el', by simpa using h1, by simpa using h2, by simpa using h3, h4⟩
      · exact .inr h
theorem fitTs_mem {s1 : St} {l : List E} {bl : List Nat} : ∀ {ts : List (Nat × V)}, fitTs s1 l bl ts = true → ∀ {k : Nat} {v : V}, (k, v) ∈ ts → ∃ u, s1.tm.get k = some u ∧ sameV s1 u (v.sub l bl) = true
  | [], _, k, v, h => by cases h
  | (k', v') :: r, hf, k, v, h => by
    simp only [fitTs, Bool.and_eq_true] at hf
    cases h with
    | head =>
      have h1 := hf.1
      split at h1
      · rename_i u hu; exact ⟨u, hu, h1⟩
      · cases h1
    | tail _ h => exact fitTs_mem hf.2 h
theorem fitOs_at {s1 : St} {rl : List (Nat × E)} {l : List E} {bl : List Nat} {fc : Option (Arr × E × Nat)} : ∀ {xs : List Item} {els : List TypeId} {q : List Nat}, fitOs s1 rl l bl fc xs els q = true →
    els.length = xs.length ∧ q.length = xs.length ∧ ∀ (k : Nat) (x : Item), xs[k]? = some x → ∃ el b o, els[k]? = some el ∧ q[k]? = some b ∧ s1.hp.get b = some o ∧ fitO s1 rl o el l bl fc x.o = true
  | [], [], [], _ => ⟨rfl, rfl, fun k x h => by simp at h⟩
  | [], [], _ :: _, h => by simp [fitOs] at h
  | [], _ :: _, _, h => by simp [fitOs] at h
  | _ :: _, [], _, h => by simp [fitOs] at h
  | _ :: _, _ :: _, [], h => by simp [fitOs] at h
  | x :: r, el :: es, b :: q, h => by
    simp only [fitOs, Bool.and_eq_true] at h
    obtain ⟨h1, h2, h3⟩ := fitOs_at h.2
    refine ⟨by simp [h1], by simp [h2], fun k y hy => ?_⟩
    cases k with
    | zero =>
      simp at hy
      subst hy
      have h4 := h.1
      split at h4
      · rename_i o ho; exact ⟨el, b, o, rfl, rfl, ho, h4⟩
      · cases h4
    | succ k => exact h3 k y (by simpa using hy)
theorem newB_get {nb : Nat} : ∀ {i : Nat} {xs : List Item} {bs : List Nat} {k : Nat} {x : Item} {b : Nat}, xs[k]? = some x → bs[k]? = some b → (newB nb i xs bs)[k]? = some (match x.moves with
    | true => nb + (i + k)
    | false => b)
  | i, [], bs, k, x, b, h, _ => by simp at h
  | i, y :: r, [], k, x, b, _, h => by simp at h
  | i, y :: r, c :: q, 0, x, b, h1, h2 => by simp at h1 h2; subst h1 h2; simp [newB]
  | i, y :: r, c :: q, k + 1, x, b, h1, h2 => by
    simp only [newB, List.getElem?_cons_succ]
    rw [newB_get (by simpa using h1) (by simpa using h2), show i + 1 + k = i + (k + 1) by omega]
theorem newB_len {nb : Nat} : ∀ {i : Nat} {xs : List Item} {bs : List Nat}, bs.length = xs.length → (newB nb i xs bs).length = xs.length
  | _, [], bs, h => by cases bs <;> simp [newB]
  | i, x :: r, [], h => by simp at h
  | i, x :: r, b :: q, h => by simp only [newB, List.length_cons]; rw [newB_len (by simpa using h)]
theorem stays_get : ∀ {xs : List Item} {bs cs : List Nat}, stays xs bs cs = true → bs.length = xs.length ∧ cs.length = xs.length ∧ ∀ (k : Nat) (x : Item) (b c : Nat), xs[k]? = some x → bs[k]? = some b → cs[k]? = some c → x.moves = false → b = c
  | [], [], [], _ => ⟨rfl, rfl, fun k x b c h => by simp at h⟩
  | [], _ :: _, _, h => by simp [stays] at h
  | [], [], _ :: _, h => by simp [stays] at h
  | _ :: _, [], _, h => by simp [stays] at h
  | _ :: _, _ :: _, [], h => by simp [stays] at h
  | x :: r, b :: q, c :: p, h => by
    simp only [stays, Bool.and_eq_true] at h
    obtain ⟨h1, h2, h3⟩ := stays_get h.2
    refine ⟨by simp [h1], by simp [h2], fun k y b' c' e1 e2 e3 hm => ?_⟩
    cases k with
    | zero =>
      simp at e1 e2 e3
      subst e1 e2 e3
      have h4 := h.1
      rw [hm] at h4
      exact Nat.eq_of_beq_eq_true h4
    | succ k => exact h3 k y b' c' (by simpa using e1) (by simpa using e2) (by simpa using e3) hm
theorem apartB_get : ∀ {l : List Nat}, apartB l = true → ∀ {i j : Nat} {b : Nat}, l[i]? = some b → l[j]? = some b → i = j
  | [], _, i, j, b, h, _ => by simp at h
  | x :: r, h, i, j, b, hi, hj => by
    simp only [apartB, Bool.and_eq_true, Bool.not_eq_true', List.elem_eq_mem, decide_eq_false_iff_not] at h
    cases i with
    | zero =>
      cases j with
      | zero => rfl
      | succ j => simp at hi hj; subst hi; exact absurd (List.mem_of_getElem? hj) h.1
    | succ i =>
      cases j with
      | zero => simp at hi hj; subst hj; exact absurd (List.mem_of_getElem? hi) h.1
      | succ j => exact congrArg (· + 1) (apartB_get h.2 (by simpa using hi) (by simpa using hj))
theorem fitI_get {s1 : St} : ∀ {xs : List (Src × Iv)} {es : List E}, fitI s1 xs es = true → es.length = xs.length ∧ ∀ (k : Nat) (x : Src × Iv) (e : E), xs[k]? = some x → es[k]? = some e → inIv s1 e x.2 = true
  | [], [], _ => ⟨rfl, fun k x e h => by simp at h⟩
  | [], _ :: _, h => by simp [fitI] at h
  | _ :: _, [], h => by simp [fitI] at h
  | (x, i) :: r, e :: q, h => by
    simp only [fitI, Bool.and_eq_true] at h
    obtain ⟨h1, h2⟩ := fitI_get h.2
    refine ⟨by simp [h1], fun k y e' e1 e2 => ?_⟩
    cases k with
    | zero => simp at e1 e2; subst e1 e2; exact h.1
    | succ k => exact h2 k y e' (by simpa using e1) (by simpa using e2)
theorem inIv_has {ρ : Env} {s1 : St} (hb : s1.bd.ok ρ) (hp : pcOk ρ s1.pc) {e : E} {i : Iv} (h : inIv s1 e i = true) : i.has (e.den ρ) := by
  unfold inIv at h
  rcases Bool.or_eq_true _ _ ▸ h with h | h
  · exact within_has h (has_itv hb e)
  · split at h
    · rename_i l u
      simp only [Bool.and_eq_true] at h
      have h1 := uptoE_of hb hp h.1
      have h2 := uptoE_of hb hp h.2
      rw [den_litE] at h1 h2
      exact ⟨fun x hx => by cases hx; exact h1, fun x hx => by cases hx; exact h2⟩
    · cases h
theorem ivBd_ok {ρ : Env} : ∀ {ins : List (Src × Iv)} {i : Nat}, (∀ (m : Nat) (x : Src × Iv), ins[m]? = some x → x.2.has (ρ.v (i + m))) → (ivBd i ins).ok ρ
  | [], _, _ => fun p hp => by cases hp
  | (t, k) :: r, i, h => fun p hp => by
    cases hp with
    | head => exact h 0 (t, k) (by simp)
    | tail _ hp => exact ivBd_ok (ins := r) (i := i + 1) (fun m x hm => by have := h (m + 1) x (by simpa using hm); rwa [show i + 1 + m = i + (m + 1) by omega]) p hp

/-- what a row told by a code stands for -/
theorem code_row (ρ' ρ2 : Env) {size size' len : E} {kind : IntKind} {cf : Nat} {B : Arr} {cv : Int} {L : Int} (hs : size.den ρ' = B.size.den ρ2) (hk : B.kind = kind) (hlen : len.den ρ' = L) {ce : E} (hce : ce.den ρ' = cv)
    (hin : ∀ j : Nat, (j : Int) < L → kind.wrap (ρ'.fn cf (j : Int) cv 0) = readW ρ2 B.dflt B.ws (j : Int)) (hout : ∀ j : Nat, L ≤ (j : Int) → readW ρ2 B.dflt B.ws (j : Int) = 0) (_ : size = size') :
    Arr.den ρ' ⟨size, kind, .con (.lit 0), [(.lit 0, len, .fn kind cf (.lit 0) ce)]⟩ = Arr.den ρ2 B := by
  simp only [Arr.den, Arr.row, hs, hk]
  congr 2
  refine List.map_congr_left fun j _ => ?_
  simp only [readW, D.at, E.den, hlen, hce, Int.add_zero]
  by_cases h : (j : Int) < L
  · rw [if_pos ⟨by omega, h⟩]; exact hin j h
  · rw [if_neg (by omega)]; exact (hout j (by omega)).symm

/-- a code for what the first coded row holds -/
theorem code_some {w0 : Base} (hcode : CodeOk w0.fn) {rl : List (Nat × E)} (hrl : RangeOk w0.fn rl) {ρ2 : Env2} {s1 : St} {w2 : World} (hw2 : RelW0 w0 ρ2 s1 w2) {l : List E} {fc : Option (Arr × E × Nat)} :
    ∃ cv : Int, ∀ B len cf, fc = some (B, len, cf) → zeroD B.dflt = true → rangeC s1 rl cf B.kind B.ws = true → ∀ j : Nat, (j : Int) < (len.at l).den ρ2.toEnv → B.kind.wrap (w0.fn cf (j : Int) cv 0) = readW ρ2.toEnv B.dflt B.ws (j : Int) := by
  cases fc with
  | none => exact ⟨0, fun B len cf h => by cases h⟩
  | some q =>
    obtain ⟨B, len, cf⟩ := q
    by_cases hz : zeroD B.dflt = true ∧ rangeC s1 rl cf B.kind B.ws = true
    · obtain ⟨hz1, hz2⟩ := hz
      simp only [rangeC, Bool.and_eq_true] at hz2
      have hrange : ∀ j : Nat, (kindIv B.kind).has (readW ρ2.toEnv B.dflt B.ws (j : Int)) := fun j => by
        refine rangeWs_of hw2.bd ?_ _ hz2.1
        rw [zeroD_eq hz1]
        simp only [rangeD]
        cases B.kind <;> rfl
      rcases Bool.or_eq_true _ _ ▸ hz2.2 with h90 | h91
      · have := Nat.eq_of_beq_eq_true h90
        subst this
        obtain ⟨cv, hcv⟩ := hcode.1 ((len.at l).den ρ2.toEnv).toNat (fun j => readW ρ2.toEnv B.dflt B.ws (j : Int)) fun j _ => kind_wide (hrange j)
        refine ⟨cv, fun B' len' cf' h _ _ j hj => ?_⟩
        cases h
        rw [hcv j (by omega), wrap_has (hrange j)]
      · simp only [Bool.and_eq_true] at h91
        have := Nat.eq_of_beq_eq_true h91.1
        subst this
        obtain ⟨cv, hcv⟩ := hcode.2.1 ((len.at l).den ρ2.toEnv).toNat (fun j => readW ρ2.toEnv B.dflt B.ws (j : Int)) fun j _ =>
          lowWs_of hw2.bd hw2.pc (by rw [hw2.fn]; exact hrl) (by rw [hw2.fn]; exact hcode.2.2) hz1 _ h91.2
        refine ⟨cv, fun B' len' cf' h _ _ j hj => ?_⟩
        cases h
        rw [hcv j (by omega), wrap_has (hrange j)]
    · exact ⟨0, fun B' len' cf' h h1 h2 => by cases h; exact absurd ⟨h1, h2⟩ hz⟩
theorem blocks_lt {w0 : Base} {ρ : Env2} {s : St} {w : World} (hw : RelW w0 ρ s w) {bs : List Nat} {els : List TypeId} (hels : mapO (elemAt s) bs = some els) : ∀ (k b : Nat), bs[k]? = some b → b < s.nb := by
  intro k b hb
  obtain ⟨_, hm⟩ := mapO_some hels
  obtain ⟨el, _, h2⟩ := hm k b hb
  unfold elemAt at h2
  split at h2
  · rename_i o ho; exact (hw.to.hp b o ho).1
  · cases h2
theorem gtemp_rel {w0 : Base} (hcode : CodeOk w0.fn) {ρ ρ2 : Env2} {s : St} {w w2 : World} {a a2 : Act} (hw : RelW w0 ρ s w) (ha : RelA ρ s a) (hle : Le s ρ ρ2) {sp : GSpec} (hlem : LemsOk w0.fn sp.lems) {bs : List Nat} {els : List TypeId} {ps : List E}
    (hblt : ∀ (k b : Nat), bs[k]? = some b → b < s.nb) (hps : ∀ e ∈ ps, e.low s.nv = true) {s1 : St} (hw2 : RelW0 w0 ρ2 s1 w2) (ha2 : RelA0 ρ2 s1 a2) {es : List E} {bs1 : List Nat} (hf : sp.fits s bs els ps s1 = some (es, bs1)) :
    ∃ ρ3, Le s ρ ρ3 ∧ RelW w0 ρ3 (sp.temp s bs els ps) w2 ∧ RelA ρ3 (sp.temp s bs els ps) a2 ∧ ∀ ρ', Le (sp.temp s bs els ps) ρ3 ρ' → atEnv ρ'.toEnv (sp.names s ps) = atEnv ρ2.toEnv (es ++ ps) := by
  unfold GSpec.fits at hf
  split at hf
  · rename_i es bs1 hes hbs'
    split at hf
    · rename_i hc
      simp only [Option.some.injEq, Prod.mk.injEq] at hf
      obtain ⟨rfl, rfl⟩ := hf
      simp only [Bool.and_eq_true] at hc
      obtain ⟨⟨⟨⟨⟨⟨⟨⟨⟨⟨⟨c1, c2⟩, c3⟩, c4⟩, c5⟩, c6⟩, c7⟩, c8⟩, c9⟩, c10⟩, c11⟩, c12⟩ := hc
      have c1 := Nat.eq_of_beq_eq_true c1
      have c2 := Nat.le_of_ble_eq_true c2
      have c3 := Nat.le_of_ble_eq_true c3
      obtain ⟨elen, c4⟩ := fitI_get c4
      obtain ⟨blen, blen1, c5⟩ := stays_get c5
      obtain ⟨ellen, _, c11⟩ := fitOs_at c11
      -- the code
      obtain ⟨cv, hcv⟩ := code_some hcode (rl := []) (by intro q hq; cases hq) hw2 (l := es ++ ps) (fc := firstCode s1 sp.objs bs1)
      let nbs := newB s.nb 0 sp.objs bs
      let ρ3 : Env2 := { ρ2 with
        v := fun j => if j < s.nv then ρ2.v j else if j < s.nv + sp.ints.length then (es.getD (j - s.nv) (.lit 0)).den ρ2.toEnv else if j = s.nv + sp.ints.length then cv else ρ2.v j
        blk := fun i => if i < s.nb then ρ2.blk i else ρ2.blk (bs1.getD (i - s.nb) 0) }
      have hle3 : Le s ρ ρ3 := ⟨fun i hi => by
        show (if i < s.nb then ρ2.blk i else _) = _
        rw [if_pos hi]; exact hle.1 i hi, fun i hi => by
        show (if i < s.nv then ρ2.v i else _) = _
        rw [if_pos hi]; exact hle.2.1 i hi, hle.2.2.1, hle.2.2.2⟩
      have hles : ∀ {ρ' : Env2}, Le (sp.temp s bs els ps) ρ3 ρ' → Le s ρ ρ' := fun h => Le.trans (s' := sp.temp s bs els ps) hle3 (Nat.le_add_right _ _) (by show s.nv ≤ s.nv + sp.ints.length + 1; omega) h
      have hv : ∀ {ρ' : Env2}, Le (sp.temp s bs els ps) ρ3 ρ' → ∀ i, i < sp.ints.length → ρ'.v (s.nv + i) = (es.getD i (.lit 0)).den ρ2.toEnv := fun h i hi => by
        rw [h.2.1 (s.nv + i) (show s.nv + i < s.nv + sp.ints.length + 1 by omega)]
        show (if s.nv + i < s.nv then _ else if s.nv + i < s.nv + sp.ints.length then _ else _) = _
        rw [if_neg (by omega), if_pos (by omega), Nat.add_sub_cancel_left]
      have hcvv : ∀ {ρ' : Env2}, Le (sp.temp s bs els ps) ρ3 ρ' → ρ'.v (s.nv + sp.ints.length) = cv := fun h => by
        rw [h.2.1 (s.nv + sp.ints.length) (show s.nv + sp.ints.length < s.nv + sp.ints.length + 1 by omega)]
        show (if s.nv + sp.ints.length < s.nv then _ else if s.nv + sp.ints.length < s.nv + sp.ints.length then _ else if s.nv + sp.ints.length = s.nv + sp.ints.length then _ else _) = _
        rw [if_neg (by omega), if_neg (by omega), if_pos rfl]
      have hold : ∀ {ρ' : Env2}, Le (sp.temp s bs els ps) ρ3 ρ' → (∀ i, i < s.nb → ρ'.blk i = ρ2.blk i) ∧ (∀ i, i < s.nv → ρ'.v i = ρ2.v i) ∧ ρ'.fn = ρ2.fn ∧ ρ'.raw = ρ2.raw := fun h =>
        ⟨fun i hi => ((hles h).1 i hi).trans (hle.1 i hi).symm, fun i hi => ((hles h).2.1 i hi).trans (hle.2.1 i hi).symm, h.2.2.1, h.2.2.2⟩
      have hatv : ∀ {ρ' : Env2}, Le (sp.temp s bs els ps) ρ3 ρ' → ∀ i, ((sp.names s ps).getD i (.lit 0)).den ρ'.toEnv = ((es ++ ps).getD i (.lit 0)).den ρ2.toEnv := fun {ρ'} h i => by
        unfold GSpec.names
        by_cases hi : i < sp.ints.length
        · simp only [List.getD, List.getElem?_append_left (show i < (varsFrom s.nv sp.ints.length).length by rw [varsFrom_len]; exact hi), List.getElem?_append_left (show i < es.length by omega), varsFrom_get _ _ _ hi, Option.getD_some, E.den]
          rw [hv h i hi]; rfl
        · simp only [List.getD, List.getElem?_append_right (show (varsFrom s.nv sp.ints.length).length ≤ i by rw [varsFrom_len]; omega), List.getElem?_append_right (show es.length ≤ i by omega), varsFrom_len, elen]
          cases hg : ps[i - sp.ints.length]? with
          | none => rfl
          | some e => exact den_low (hold h).2.2.1 (hold h).2.1 (hps e (List.mem_of_getElem? hg))
      have hat : ∀ {ρ' : Env2}, Le (sp.temp s bs els ps) ρ3 ρ' → atEnv ρ'.toEnv (sp.names s ps) = atEnv ρ2.toEnv (es ++ ps) := fun {ρ'} h => by
        unfold atEnv
        congr 1
        · funext i; exact hatv h i
        · exact (hold h).2.2.1
      have hnb : ∀ {ρ' : Env2}, Le (sp.temp s bs els ps) ρ3 ρ' → ∀ (k n b1 : Nat), nbs[k]? = some n → bs1[k]? = some b1 → ρ'.blk n = ρ2.blk b1 := fun {ρ'} h k n b1 hn hb1 => by
        have hk : k < sp.objs.length := by rw [← blen1]; exact (List.getElem?_eq_some_iff.1 hb1).1
        obtain ⟨b, hb⟩ : ∃ b, bs[k]? = some b := ⟨_, List.getElem?_eq_getElem (by rw [blen]; exact hk)⟩
        have hx : sp.objs[k]? = some sp.objs[k] := List.getElem?_eq_getElem hk
        have h1 := newB_get (nb := s.nb) (i := 0) hx hb
        rw [show (newB s.nb 0 sp.objs bs)[k]? = some n from hn] at h1
        injection h1 with h1
        cases hm : sp.objs[k].moves with
        | true =>
          rw [hm] at h1
          simp only [Nat.zero_add] at h1
          subst h1
          rw [h.1 (s.nb + k) (show s.nb + k < s.nb + sp.objs.length by omega)]
          show (if s.nb + k < s.nb then _ else ρ2.blk (bs1.getD (s.nb + k - s.nb) 0)) = _
          rw [if_neg (by omega), Nat.add_sub_cancel_left]
          simp only [List.getD, hb1, Option.getD_some]
        | false =>
          rw [hm] at h1
          subst h1
          rw [(hold h).1 n (hblt k n hb), c5 k _ n b1 hx hb hb1 hm]
      have hblk : ∀ {ρ' : Env2}, Le (sp.temp s bs els ps) ρ3 ρ' → ∀ i, ρ'.blk (blkOf nbs i) = ρ2.blk (blkOf bs1 i) := fun {ρ'} h i => by
        have hnl : nbs.length = sp.objs.length := newB_len blen
        unfold blkOf
        by_cases hi : i < sp.objs.length
        · obtain ⟨n, hn⟩ : ∃ n, nbs[i]? = some n := ⟨_, List.getElem?_eq_getElem (by rw [hnl]; exact hi)⟩
          obtain ⟨b1, hb1⟩ : ∃ n, bs1[i]? = some n := ⟨_, List.getElem?_eq_getElem (by rw [blen1]; exact hi)⟩
          simp only [List.getD, hn, hb1, Option.getD_some]
          exact hnb h i n b1 hn hb1
        · simp only [List.getD, List.getElem?_eq_none (show nbs.length ≤ i by omega), List.getElem?_eq_none (show bs1.length ≤ i by omega), Option.getD_none]
          cases hq : bs1 with
          | nil =>
            have : nbs = [] := List.eq_nil_of_length_eq_zero (by rw [hnl, ← blen1, hq]; rfl)
            rw [this]
            exact (hold h).1 0 (by omega)
          | cons b1 r =>
            have h0 : 0 < nbs.length := by rw [hnl, ← blen1, hq]; simp
            cases hq2 : nbs with
            | nil => rw [hq2] at h0; cases h0
            | cons n r' => exact hnb h 0 n b1 (by rw [hq2]; rfl) (by rw [hq]; rfl)
      have hatL : ∀ {ρ' : Env2}, Le (sp.temp s bs els ps) ρ3 ρ' → ρ'.atL (sp.names s ps) nbs = ρ2.atL (es ++ ps) bs1 := fun {ρ'} h => by
        have e1 : (fun i => ((sp.names s ps).getD i (.lit 0)).den ρ'.toEnv) = fun i => ((es ++ ps).getD i (.lit 0)).den ρ2.toEnv := funext (hatv h)
        have e2 : (fun i => ρ'.blk (blkOf nbs i)) = fun i => ρ2.blk (blkOf bs1 i) := funext (hblk h)
        have e3 := (hold h).2.2.1
        have e4 := (hold h).2.2.2
        unfold Env2.atL
        obtain ⟨⟨v, fn⟩, blk, raw⟩ := ρ'
        simp only at e1 e2 e3 e4 ⊢
        subst e3 e4
        rw [e1, e2]
      have hpc : ∀ {ρ' : Env2}, Le (sp.temp s bs els ps) ρ3 ρ' → pcOk ρ'.toEnv (sp.facts.map (·.at (sp.names s ps))) := fun {ρ'} h e he => by
        obtain ⟨f, hf, rfl⟩ := List.mem_map.1 he
        have h1 := factOk_den hw2.bd hw2.pc (by rw [hw2.fn]; exact hlem) (List.all_eq_true.1 c12 f hf)
        rw [den_at] at h1
        rw [den_at, hat h]
        exact h1
      -- an object
      have hobj : ∀ (k n : Nat) (x : Item) (el : TypeId), sp.objs[k]? = some x → els[k]? = some el → nbs[k]? = some n → ∃ b1 o1, bs1[k]? = some b1 ∧ s1.hp.get b1 = some o1 ∧
          ∀ {ρ' : Env2}, Le (sp.temp s bs els ps) ρ3 ρ' → (x.o.obj el (sp.names s ps) nbs (.var (s.nv + sp.ints.length))).den ρ' = o1.den ρ2 := by
        intro k n x el hx hel hn
        obtain ⟨el', b1, o1, h1, h2, h3, h4⟩ := c11 k x hx
        rw [hel] at h1
        cases h1
        refine ⟨b1, o1, h2, h3, fun {ρ'} h => ?_⟩
        cases hxo : x.o with
        | row vs =>
          rw [hxo] at h4
          simp only [fitO] at h4
          split at h4
          · rename_i ha1
            simp only [Bool.and_eq_true] at h4
            have e1 := Nat.eq_of_beq_eq_true h4.1
            have e2 := sameVs_den hw2.bd hw2.pc h4.2
            rw [V.den_subL] at e2
            obtain ⟨vs1, el1, arr1⟩ := o1
            simp only at ha1 e1 e2
            subst ha1 e1
            simp only [OT.obj, O.den, O.cells, V.den_subL, hatL h, e2]
          · cases h4
        | arr A =>
          rw [hxo] at h4
          simp only [fitO] at h4
          split at h4
          · rename_i B hB
            simp only [Bool.and_eq_true] at h4
            obtain ⟨⟨⟨⟨g1, g2⟩, g3⟩, g4⟩, g5⟩ := h4
            have e1 := Nat.eq_of_beq_eq_true g1
            have e3 := of_decide_eq_true g3
            obtain ⟨vs1, el1, arr1⟩ := o1
            simp only at hB e1
            subst hB e1
            simp only [OT.obj, O.den, O.cells]
            rw [Arr.den_sub, hat h, ← Arr.den_sub ρ2.toEnv]
            congr 1
            simp only [Arr.den, Arr.row, Arr.sub, e3, sameE_den ρ2.toEnv g2]
            congr 2
            exact List.map_congr_left fun j _ => (sameW_read ρ2.toEnv g4 _ g5).symm
          · cases h4
        | code size len kind cf =>
          rw [hxo] at h4
          simp only [fitO] at h4
          split at h4
          · rename_i B hB
            split at h4
            · rename_i B0 len0 cf0 hfc
              simp only [Bool.and_eq_true] at h4
              obtain ⟨⟨⟨⟨⟨⟨⟨⟨⟨⟨g0, g1⟩, g2⟩, g3⟩, g4⟩, g5⟩, g6⟩, g7⟩, g8⟩, g9⟩, g10⟩ := h4
              have e0 := Nat.eq_of_beq_eq_true g0
              subst e0
              have e1 := Nat.eq_of_beq_eq_true g1
              have e3 := of_decide_eq_true g3
              have e7 := of_decide_eq_true g7
              subst e7
              obtain ⟨vs1, el1, arr1⟩ := o1
              simp only at hB e1
              subst hB e1
              simp only [OT.obj, O.den, O.cells]
              congr 1
              have hl : (len.at (sp.names s ps)).den ρ'.toEnv = (len.at (es ++ ps)).den ρ2.toEnv := by rw [den_at, den_at, hat h]
              have hsz : (size.at (sp.names s ps)).den ρ'.toEnv = B.size.den ρ2.toEnv := by rw [sameS_den hw2.bd hw2.pc g2, den_at, den_at, hat h]
              have hd : sameD B.dflt B0.dflt = true := by rw [zeroD_eq g4, zeroD_eq g8]; rfl
              refine code_row ρ'.toEnv ρ2.toEnv hsz e3 hl (cv := cv) (ce := .var (s.nv + sp.ints.length)) (hcvv h) (fun j hj => ?_) (fun j hj => ?_) rfl
              · rw [(hold h).2.2.1, hw2.fn, hcv B0 len0 cf hfc g8 g9 j (by rw [← sameE_den ρ2.toEnv g6]; exact hj)]
                rw [← trimW_read hw2.bd hw2.pc hj B.ws, ← trimW_read hw2.bd hw2.pc hj B0.ws]
                exact (sameWS_read hw2.bd hw2.pc hd _ g10).symm
              · rw [insideWs_of hw2.bd hw2.pc g5 B.dflt j hj, zeroD_eq g4]; rfl
            · cases h4
          · cases h4
      -- which object of the state stands behind one of the template
      have hhp : ∀ i o, (sp.temp s bs els ps).hp.get i = some o → ∃ b1 o1, s1.hp.get b1 = some o1 ∧ i < s.nb + sp.objs.length ∧ (((dropAll s.hp bs).get i).isSome = true ∧ b1 = i ∨ ∃ k : Nat, nbs[k]? = some i ∧ bs1[k]? = some b1) ∧
          ∀ {ρ' : Env2}, Le (sp.temp s bs els ps) ρ3 ρ' → o.den ρ' = o1.den ρ2 ∧ ρ'.blk i = ρ2.blk b1 := by
        intro i o hg
        rcases putOs_get hg with ⟨k, x, el, hx, hel, hn, rfl⟩ | hg
        · obtain ⟨b1, o1, h1, h2, h3⟩ := hobj k i x el hx hel hn
          have hk : k < sp.objs.length := (List.getElem?_eq_some_iff.1 hx).1
          refine ⟨b1, o1, h2, ?_, .inr ⟨k, hn, h1⟩, fun {ρ'} h => ⟨h3 h, hnb h k i b1 hn h1⟩⟩
          obtain ⟨b, hb⟩ : ∃ b, bs[k]? = some b := ⟨_, List.getElem?_eq_getElem (by rw [blen]; exact hk)⟩
          have h4 := newB_get (nb := s.nb) (i := 0) hx hb
          rw [show (newB s.nb 0 sp.objs bs)[k]? = some i from hn] at h4
          injection h4 with h4
          cases hm : x.moves with
          | true => rw [hm] at h4; simp only at h4; omega
          | false => rw [hm] at h4; simp only at h4; have := hblt k b hb; omega
        · obtain ⟨hni, h0⟩ := dropAll_get hg
          have hnb' := (hw.to.hp _ _ h0).1
          have h1 := fitH_get c10 hnb' hg
          refine ⟨i, o, h1, by omega, .inl ⟨by rw [hg]; rfl, rfl⟩, fun {ρ'} h => ⟨?_, (hold h).1 i hnb'⟩⟩
          have key : ∀ ρ4, Le s ρ ρ4 → o.den ρ4 = o.den ρ := fun ρ4 h4 => by
            obtain ⟨b1, _, _, b4⟩ := hw.to.hp _ _ h0
            obtain ⟨_, _, _, b4'⟩ := (hw ρ4 h4).hp _ _ h0
            rw [h4.1 _ b1, b4] at b4'
            exact (Option.some.inj b4').symm
          rw [key ρ' (hles h), key ρ2 hle]
      refine ⟨ρ3, hle3, fun ρ' h => ?_, fun ρ' h => ?_, fun ρ' h => hat h⟩
      · have h0 := hw ρ' (hles h)
        refine ⟨hw2.ext, h0.fn, fun i o hg => ?_, fun i j o o' hi hj hij => ?_, h0.gl, ?_, ?_⟩
        · obtain ⟨b1, o1, g1, g2, _, g4⟩ := hhp i o hg
          obtain ⟨e1, e2⟩ := g4 h
          obtain ⟨_, q2, q3, q4⟩ := hw2.hp _ _ g1
          rw [e2, e1]
          exact ⟨g2, q2, q3, q4⟩
        · obtain ⟨b1, o1, g1, _, g3, g4⟩ := hhp i o hi
          obtain ⟨b2, o2, k1, _, k3, k4⟩ := hhp j o' hj
          have hb : b1 = b2 := hw2.inj b1 b2 _ _ g1 k1 (by rw [← (g4 h).2, ← (k4 h).2]; exact hij)
          subst hb
          have hno : ∀ (k : Nat), bs1[k]? = some b1 → ((dropAll s.hp bs).get b1).isSome = true → False := fun k hk hsome => by
            have := List.all_eq_true.1 c7 b1 (List.mem_of_getElem? hk)
            cases hg : (dropAll s.hp bs).get b1 with
            | none => rw [hg] at hsome; cases hsome
            | some o => rw [hg] at this; cases this
          rcases g3 with ⟨g3, rfl⟩ | ⟨k, g3, g5⟩ <;> rcases k3 with ⟨k3, rfl⟩ | ⟨m, k3, k5⟩
          · rfl
          · exact (hno m k5 g3).elim
          · exact (hno k g5 k3).elim
          · have := apartB_get c6 g5 k5
            subst this
            rw [g3] at k3
            exact Option.some.inj k3
        · refine ok_supposeAll (fun p hp => ?_) (hpc h)
          rcases List.mem_append.1 hp with hp | hp
          · refine ivBd_ok (ρ := ρ'.toEnv) (ins := sp.ints) (i := s.nv) (fun m x hm => ?_) p hp
            have hlt : m < sp.ints.length := (List.getElem?_eq_some_iff.1 hm).1
            have he : es[m]? = some es[m] := List.getElem?_eq_getElem (by omega)
            have h3 := inIv_has hw2.bd hw2.pc (c4 m x _ hm he)
            rw [hv h m hlt]
            simp only [List.getD, he, Option.getD_some]
            exact h3
          · exact h0.bd p hp
        · intro e he
          rcases List.mem_append.1 he with he | he
          · exact hpc h e he
          · exact h0.pc e he
      · have h0 := ha ρ' (hles h)
        refine ⟨ha2.size.trans c1, fun t v ht hg => ?_, ha2.defers⟩
        rcases putTs_get hg with ⟨u, hm, rfl⟩ | hg
        · obtain ⟨u1, h1, h2⟩ := fitTs_mem c9 hm
          have h3 := ha2.tm t u1 (by rw [c1]; exact ht) h1
          rw [h3, V.den_sub, sameV_den hw2.bd hw2.pc h2, V.den_sub]
          exact congrArg some (congrArg (fun r => V.den r u) (hatL h).symm)
        · obtain ⟨_, hg0⟩ := dropAll_get hg
          have h2 := ha2.tm _ _ (by rw [c1]; exact ht) (fitT_get c8 ht hg)
          have e1 := ha.to.tm _ _ ht hg0
          have e2 := h0.tm _ _ ht hg0
          have e3 := (ha ρ2 hle).tm _ _ ht hg0
          rw [h2, ← e3, e2]
    · cases hf
  · cases hf

theorem least_of {p : Nat → Prop} (h : ∃ n, p n) : ∃ n, p n ∧ ∀ m, p m → n ≤ m := by
  obtain ⟨n, hn⟩ := h
  induction n using Nat.strongRecOn with
  | ind n ih =>
    by_cases hx : ∃ m, m < n ∧ p m
    · obtain ⟨m, h1, h2⟩ := hx; exact ih m h1 h2
    · exact ⟨n, hn, fun m hm => Nat.le_of_not_lt fun hlt => hx ⟨m, hlt, hm⟩⟩
open Classical in
/-- a measure of what may be told in more than one way: the least -/
noncomputable def leastM (I : Act → World → Nat → Prop) (a : Act) (w : World) : Nat := if h : ∃ n, I a w n then (least_of h).choose else 0
theorem leastM_spec {I : Act → World → Nat → Prop} {a : Act} {w : World} {n : Nat} (h : I a w n) : I a w (leastM I a w) ∧ leastM I a w ≤ n := by
  have hx : ∃ n, I a w n := ⟨n, h⟩
  unfold leastM
  rw [dif_pos hx]
  exact ⟨(least_of hx).choose_spec.1, (least_of hx).choose_spec.2 n h⟩

theorem grun_ok {P : Program} {w0 : Base} (hcode : CodeOk w0.fn) {orc : Oracle} {lo : LoopOracle} {bs : Bodies} (ho : OracleOk P w0 orc) (hbs : BodiesOk P bs) (hlo : LoopsOk P w0 bs lo) {fuel : Nat} {sp : GSpec} (hlem : LemsOk w0.fn sp.lems) {s : St} {outs : Outs}
    (h : grun P orc lo bs fuel sp s = some outs) {c : Code} (hat : codeAt bs sp.f sp.p = some c) {ρ : Env2} {a : Act} {w : World} {Q : Exit → Act → World → Prop} (hw : RelW w0 ρ s w) (ha : RelA ρ s a) (hk : GoesX w0 ρ s outs Q) : c.wp P Q a w := by
  unfold grun at h
  rw [hat] at h
  split at h
  · rename_i id b hcb
    cases hcb
    split at h
    · rename_i ps hps
      split at h
      · rename_i bl hbl
        split at h
        · rename_i els hels
          split at h
          · rename_i es hes
            split at h
            · rename_i outs1 hex
              split at h
              · rename_i ls hls
                cases h
                obtain ⟨es, bs1⟩ := es
                have hlow : ∀ e ∈ ps, e.low s.nv = true := fun e he => by
                  obtain ⟨x, _, hx⟩ := mapO_mem hps e he
                  unfold parN at hx
                  split at hx
                  · split at hx
                    · rename_i hl; cases hx; exact hl
                    · cases hx
                  · cases hx
                obtain ⟨_, hmap⟩ := mapO_some hls
                have hblt := blocks_lt hw hels
                let I : Act → World → Nat → Prop := fun a1 w1 n => ∃ ρ1, Le s ρ ρ1 ∧ RelW w0 ρ1 (sp.temp s bl els ps) w1 ∧ RelA ρ1 (sp.temp s bl els ps) a1 ∧ n = ((sp.meas.at (sp.names s ps)).den ρ1.toEnv).toNat
                obtain ⟨ρ0, hl0, hw0, ha0, _⟩ := gtemp_rel hcode hw ha (Le.refl _ _) hlem hblt hlow hw.to ha.to hes
                refine wp_block (wp_loop (fun a1 w1 => ∃ n, I a1 w1 n) (leastM I) ⟨_, ρ0, hl0, hw0, ha0, rfl⟩ ?_)
                rintro a1 w1 ⟨n, hn⟩
                obtain ⟨⟨ρ1, hl1, hw1, ha1, hmeas⟩, _⟩ := leastM_spec hn
                refine exec_ok ho hbs hlo fuel sp.f _ b _ outs1 hex (by simp [codeAt, hat, Code.sub]) ρ1 a1 w1 _ hw1 ha1 ?_
                intro r hr ρ2 a2 w2 hle2 hb2 hv2 hw2 ha2
                obtain ⟨i, hi1, hi2⟩ := List.getElem_of_mem hr
                obtain ⟨y, hy1, hy2⟩ := hmap i r (by rw [List.getElem?_eq_getElem hi1, hi2])
                have hyl : y ∈ ls := List.mem_of_getElem? hy1
                have hvv : s.nv ≤ (sp.temp s bl els ps).nv := by show s.nv ≤ s.nv + sp.ints.length + 1; omega
                have hbb : s.nb ≤ (sp.temp s bl els ps).nb := Nat.le_add_right _ _
                have hl2 : Le s ρ ρ2 := Le.trans (s' := sp.temp s bl els ps) hl1 hbb hvv hle2
                have hnb : s.nb ≤ r.2.nb := Nat.le_trans hbb hb2
                have hnv : s.nv ≤ r.2.nv := Nat.le_trans hvv hv2
                have out : ∀ x, y = some (x, r.2) → Q x.to a2 w2 := fun x hx => hk (x, r.2) (List.mem_filterMap.2 ⟨y, hyl, hx⟩) ρ2 a2 w2 hl2 hnb hnv hw2 ha2
                obtain ⟨x, s1⟩ := r
                unfold GSpec.leaf at hy2
                cases x with
                | normal =>
                  simp only at hy2
                  split at hy2
                  · rename_i es2 bs2 hes2
                    split at hy2
                    · rename_i hm
                      cases hy2
                      simp only [Bool.and_eq_true] at hm
                      obtain ⟨ρ3, hl3, hw3, ha3, hv3⟩ := gtemp_rel hcode hw ha hl2 hlem hblt hlow hw2.to ha2.to hes2
                      have m1 := holdsE_den hw2.to.bd hw2.to.pc hm.1
                      have m2 := holdsE_den hw2.to.bd hw2.to.pc hm.2
                      rw [den_mkBin] at m1 m2
                      have m1 := (E.prop_iff ρ2.toEnv (.bin .lt (sp.meas.at (es2 ++ ps)) (sp.meas.at (sp.names s ps)))).2 m1
                      have m2 := (E.prop_iff ρ2.toEnv (.bin .le (.lit 0) (sp.meas.at (es2 ++ ps)))).2 m2
                      simp only [E.prop] at m1 m2
                      have e1 : (sp.meas.at (sp.names s ps)).den ρ2.toEnv = (sp.meas.at (sp.names s ps)).den ρ1.toEnv := by
                        rw [den_at, den_at]
                        congr 1
                        unfold atEnv
                        congr 1
                        · funext i
                          unfold GSpec.names
                          by_cases hi : i < sp.ints.length
                          · simp only [List.getD, List.getElem?_append_left (show i < (varsFrom s.nv sp.ints.length).length by rw [varsFrom_len]; exact hi), varsFrom_get _ _ _ hi, Option.getD_some, E.den]
                            exact hle2.2.1 (s.nv + i) (show s.nv + i < s.nv + sp.ints.length + 1 by omega)
                          · simp only [List.getD, List.getElem?_append_right (show (varsFrom s.nv sp.ints.length).length ≤ i by rw [varsFrom_len]; omega), varsFrom_len]
                            cases hg : ps[i - sp.ints.length]? with
                            | none => rfl
                            | some e => exact (low_le hl2 (hlow e (List.mem_of_getElem? hg))).trans (low_le hl1 (hlow e (List.mem_of_getElem? hg))).symm
                        · exact hle2.2.2.1
                      have e2 : (sp.meas.at (es2 ++ ps)).den ρ2.toEnv = (sp.meas.at (sp.names s ps)).den ρ3.toEnv := by
                        rw [den_at, den_at, hv3 ρ3 (Le.refl _ _)]
                      have hI : I a2 w2 ((sp.meas.at (sp.names s ps)).den ρ3.toEnv).toNat := ⟨ρ3, hl3, hw3, ha3, rfl⟩
                      refine ⟨⟨_, hI⟩, ?_⟩
                      have := (leastM_spec hI).2
                      simp only [E.den] at m2
                      show leastM I a2 w2 < leastM I a1 w1
                      omega
                    · cases hy2
                  · cases hy2
                | exit j =>
                  simp only at hy2
                  show Exit.inBlock id Q (.exit j) a2 w2
                  split at hy2
                  · rename_i hj
                    have hj := Nat.eq_of_beq_eq_true hj
                    cases hy2
                    simp only [Exit.inBlock, hj, if_true]
                    exact out .normal rfl
                  · rename_i hj
                    have hj : ¬ j = id := fun e => by simp [e] at hj
                    cases hy2
                    simp only [Exit.inBlock]
                    rw [if_neg hj]
                    exact out (.exit j) rfl
                | ret =>
                  simp only at hy2
                  cases hy2
                  show Exit.inBlock id Q .ret a2 w2
                  exact out .ret rfl
              · cases h
            · cases h
          · cases h
        · cases h
      · cases h
    · cases h
  · cases h
theorem gOracle_ok {P : Program} {w0 : Base} (hcode : CodeOk w0.fn) {orc : Oracle} {lo : LoopOracle} {bs : Bodies} (ho : OracleOk P w0 orc) (hbs : BodiesOk P bs) (hlo : LoopsOk P w0 bs lo) {fuel : Nat} : ∀ specs : List GSpec, (∀ sp ∈ specs, LemsOk w0.fn sp.lems) → LoopsOk P w0 bs (gOracle P orc lo bs fuel specs)
  | [], _ => hlo
  | sp :: r, hlem => fun cur p s outs h c hat ρ a w Q hw ha hk => by
    have ih := gOracle_ok hcode ho hbs hlo (fuel := fuel) r fun q hq => hlem q (List.mem_cons_of_mem _ hq)
    simp only [gOracle] at h
    split at h
    · rename_i hc
      simp only [Bool.and_eq_true] at hc
      have c1 := Nat.eq_of_beq_eq_true hc.1
      have c2 := of_decide_eq_true hc.2
      subst c1 c2
      split at h
      · rename_i o1 ho1
        cases h
        exact grun_ok hcode ho hbs ih (hlem sp List.mem_cons_self) ho1 hat hw ha hk
      · exact ih _ _ s outs h c hat ρ a w Q hw ha hk
    · exact ih cur p s outs h c hat ρ a w Q hw ha hk
end Go.Sx
