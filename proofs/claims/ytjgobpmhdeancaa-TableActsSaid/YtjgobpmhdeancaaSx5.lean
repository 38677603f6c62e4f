/- Loops by contract: the round is run from a closed template, in several cases, each by itself; what cannot be is told by clauses. -/
import Derived.Test.YtjgobpmhdeancaaSx3
namespace Go.Sx
open Go

structure CSpec where
  f : Nat
  p : List Nat
  n : Nat
  ints : List (Src × Iv)
  tmps : List (Nat × V)
  objs : List Item
  els : List TypeId
  facts : List E
  meas : E
  inp : List InSpec
  rl : List (Nat × E) := []

def natsFrom (nb : Nat) : Nat → List Nat
  | 0 => []
  | n + 1 => nb :: natsFrom (nb + 1) n
theorem natsFrom_len : ∀ (n nb : Nat), (natsFrom nb n).length = n
  | 0, _ => rfl
  | n + 1, nb => by simp [natsFrom, natsFrom_len n]
theorem natsFrom_get : ∀ (n nb j : Nat), j < n → (natsFrom nb n)[j]? = some (nb + j)
  | 0, _, _, h => by omega
  | n + 1, nb, 0, _ => by simp [natsFrom]
  | n + 1, nb, j + 1, h => by simp [natsFrom, natsFrom_get n (nb + 1) j (by omega)]; omega
def CSpec.mkSt (sp : CSpec) (nv nb : Nat) (bd : Bd) (pc : List E) (gl : List (Nat × IntKind × List Nat)) : St :=
  { n := sp.n, nv := nv + sp.ints.length + 1, nb := nb + sp.objs.length,
    tm := putTs .e (varsFrom nv sp.ints.length) (natsFrom nb sp.objs.length) sp.tmps,
    hp := putOs .e (varsFrom nv sp.ints.length) (natsFrom nb sp.objs.length) (.var (nv + sp.ints.length)) sp.objs sp.els (natsFrom nb sp.objs.length),
    bd := supposeAll (ivBd nv sp.ints ++ bd) (sp.facts.map (·.at (varsFrom nv sp.ints.length))), pc := sp.facts.map (·.at (varsFrom nv sp.ints.length)) ++ pc, gl := gl, inp := sp.inp }
def CSpec.head (sp : CSpec) : St := sp.mkSt 0 0 [] [] []
def CSpec.over (sp : CSpec) (s : St) : St := sp.mkSt s.nv s.nb s.bd s.pc s.gl
def lowInp : List InSpec → Bool
  | [] => true
  | sp :: r => allLow2 sp.parts && lowInp r
theorem lowInp_mem : ∀ {l : List InSpec}, lowInp l = true → ∀ sp ∈ l, allLow2 sp.parts = true
  | [], _, sp, h => by cases h
  | q :: r, hl, sp, h => by
    simp only [lowInp, Bool.and_eq_true] at hl
    cases h with
    | head => exact hl.1
    | tail _ h => exact lowInp_mem hl.2 sp h
def CSpec.cfits (sp : CSpec) (s1 : St) : Option (List E × List Nat) := match mapO (fun x => numE s1 x.1) sp.ints, mapO (blkE s1) sp.objs with
  | some es, some bs1 => match Nat.beq s1.n sp.n && Nat.ble 1 sp.objs.length && fitI s1 sp.ints es && apartB bs1 && fitTs s1 es bs1 sp.tmps && fitOs s1 sp.rl es bs1 (firstCode s1 sp.objs bs1) sp.objs sp.els bs1 && (sp.facts.all fun f => holdsE s1 (f.at es)) && lBeq InSpec.beq s1.inp sp.inp && lowInp sp.inp with
    | true => some (es, bs1)
    | false => none
  | _, _ => none
def refuted (cl : List (List E)) (pc : List E) : Bool := cl.any fun c => c.all fun e => pc.any fun x => e.beq x
def ClOk (fn : Nat → Int → Int → Int → Int) (cl : List (List E)) : Prop := ∀ c ∈ cl, ∀ v : Nat → Int, (∀ e ∈ c, e.den ⟨v, fn⟩ ≠ 0) → False
theorem refuted_of {ρ : Env} {cl : List (List E)} (hcl : ClOk ρ.fn cl) {pc : List E} (hp : pcOk ρ pc) (h : refuted cl pc = true) : False := by
  obtain ⟨c, hc, h⟩ := List.any_eq_true.1 h
  refine hcl c hc ρ.v fun e he => ?_
  obtain ⟨x, hx, hb⟩ := List.any_eq_true.1 (List.all_eq_true.1 h e he)
  rw [E.eq_of_beq hb]
  exact hp x hx
def CSpec.leafOk (sp : CSpec) (cl : List (List E)) (id : Nat) (r : X × St) : Bool := (match r.1 with
  | .normal => match sp.cfits r.2 with
    | some (es, _) => holdsE r.2 (mkBin .lt (sp.meas.at es) (sp.meas.at (varsFrom 0 sp.ints.length))) && holdsE r.2 (mkBin .le (.lit 0) (sp.meas.at es))
    | none => false
  | .exit j => Nat.beq j id && (sp.cfits r.2).isSome
  | .ret => false) || refuted cl r.2.pc
def St.assumeL (s : St) : List E → St
  | [] => s
  | e :: r => (s.assumeL r).assume e
def lowL (n : Nat) : List E → Bool
  | [] => true
  | e :: r => e.low n && lowL n r
theorem lowL_mem {n : Nat} : ∀ {l : List E}, lowL n l = true → ∀ e ∈ l, e.low n = true
  | [], _, e, h => by cases h
  | x :: r, hl, e, h => by
    simp only [lowL, Bool.and_eq_true] at hl
    cases h with
    | head => exact hl.1
    | tail _ h => exact lowL_mem hl.2 e h
theorem assumeL_le {s : St} {ρ ρ' : Env2} : ∀ {l : List E}, Le (s.assumeL l) ρ ρ' ↔ Le s ρ ρ'
  | [] => Iff.rfl
  | _ :: r => assumeL_le (l := r)
theorem relW_assumeL {w0 : Base} {w : World} {ρ : Env2} {s : St} (h : RelW w0 ρ s w) : ∀ {l : List E}, (∀ e ∈ l, ∀ ρ', Le s ρ ρ' → e.den ρ'.toEnv ≠ 0) → RelW w0 ρ (s.assumeL l) w
  | [], _ => h
  | e :: r, he => relW_assume (relW_assumeL h (l := r) fun x hx => he x (List.mem_cons_of_mem _ hx)) fun ρ' hle => he e List.mem_cons_self ρ' (assumeL_le.1 hle)
theorem relA_assumeL {ρ : Env2} {s : St} {a : Act} (h : RelA ρ s a) : ∀ (l : List E), RelA ρ (s.assumeL l) a
  | [] => h
  | e :: r => relA_assume (relA_assumeL h r) e
theorem assumeL_n {s : St} : ∀ {l : List E}, (s.assumeL l).nb = s.nb ∧ (s.assumeL l).nv = s.nv
  | [] => ⟨rfl, rfl⟩
  | _ :: r => assumeL_n (l := r)
def CSpec.caseOk (sp : CSpec) (P : Program) (orc : Oracle) (lo : LoopOracle) (bs : Bodies) (fuel : Nat) (cl : List (List E)) (e : List E) : Bool := match codeAt bs sp.f sp.p with
  | some (.block id (.loop b)) => match exec P orc lo bs fuel sp.f (0 :: 0 :: sp.p) b (sp.head.assumeL e) with
    | some outs => lowL sp.head.nv e && outs.all (sp.leafOk cl id)
    | none => false
  | _ => false
def cOracle (sp : CSpec) (lo : LoopOracle) : LoopOracle := fun cur p s => match Nat.beq cur sp.f && decide (p = sp.p) with
  | true => match sp.cfits s with
    | some _ => some (some [(.normal, sp.over s)])
    | none => lo cur p s
  | false => lo cur p s

/-! ### it is right -/
theorem lowV2_congr {ρ ρ' : Env2} (hf : ρ'.fn = ρ.fn) (hr : ρ'.raw = ρ.raw) (hv : ∀ j, j < 2 → ρ'.v j = ρ.v j) {v : V} (h : lowV2 v = true) : v.den ρ' = v.den ρ := by
  have key : ∀ {e : E}, e.low 2 = true → e.den ρ'.toEnv = e.den ρ.toEnv := fun h => den_low hf hv h
  unfold lowV2 at h
  split at h
  · simp only [V.den, key h]
  · simp only [V.den, key h]
  · simp only [V.den, key h, Env2.inAt, hr]
  · rename_i sz k k' f sh cd
    simp only [Bool.and_eq_true] at h
    simp only [V.den, Arr.bytes, Arr.row, readW, D.at, key h.1.1, key h.1.2, key h.2, hf]
  · cases h
theorem InOk.congr {w : World} {ρ ρ' : Env2} (hf : ρ'.fn = ρ.fn) (hr : ρ'.raw = ρ.raw) {sp : InSpec} (hl : allLow2 sp.parts = true) (h : InOk w ρ sp) : InOk w ρ' sp := by
  intro c
  obtain ⟨a, n, cap, h1, h2, h3⟩ := h c
  refine ⟨a, n, cap, by rw [← h1]; simp [Env2.inAt, hr], by rw [← h2, hf], fun j hj => ?_⟩
  obtain ⟨b, e1, e2, e3⟩ := h3 j hj
  refine ⟨b, e1, e2, fun k v hv => ?_⟩
  rw [e3 k v hv]
  exact congrArg some (lowV2_congr (ρ := ρ'.two j c) (ρ' := ρ.two j c) hf.symm hr.symm (fun i _ => rfl) (allLow2_get hl hv))

theorem crel {w0 : Base} (hcode : CodeOk w0.fn) {ρ2 : Env2} {s1 : St} {w2 : World} {a2 : Act} (hw2 : RelW0 w0 ρ2 s1 w2) (ha2 : RelA0 ρ2 s1 a2) {sp : CSpec} (hrl : RangeOk w0.fn sp.rl) {es : List E} {bs1 : List Nat} (hf : sp.cfits s1 = some (es, bs1))
    (nv nb : Nat) (bd : Bd) (pc : List E) (gl : List (Nat × IntKind × List Nat)) (ρb : Env2)
    (hb : ∀ ρ' : Env2, (∀ j, j < nv → ρ'.v j = ρb.v j) → (∀ i, i < nb → ρ'.blk i = ρb.blk i) → ρ'.fn = ρ2.fn → ρ'.raw = ρ2.raw → bd.ok ρ'.toEnv ∧ pcOk ρ'.toEnv pc)
    (hgl : ∀ p ∈ gl, p.1 < w0.w.heap.size ∧ ∀ (j x : Nat), p.2.2[j]? = some x → w0.w.cell? ⟨p.1, j, none⟩ = some (.int p.2.1 x)) :
    ∃ ρ3, (∀ j, j < nv → ρ3.v j = ρb.v j) ∧ (∀ i, i < nb → ρ3.blk i = ρb.blk i) ∧ ρ3.fn = ρ2.fn ∧ ρ3.raw = ρ2.raw ∧ RelW w0 ρ3 (sp.mkSt nv nb bd pc gl) w2 ∧ RelA ρ3 (sp.mkSt nv nb bd pc gl) a2 ∧
      atEnv ρ3.toEnv (varsFrom nv sp.ints.length) = atEnv ρ2.toEnv es := by
  unfold CSpec.cfits at hf
  split at hf
  · rename_i es bs1 hes hbs'
    split at hf
    · rename_i hc
      simp only [Option.some.injEq, Prod.mk.injEq] at hf
      obtain ⟨rfl, rfl⟩ := hf
      simp only [Bool.and_eq_true] at hc
      obtain ⟨⟨⟨⟨⟨⟨⟨⟨c1, c3⟩, c4⟩, c6⟩, c9⟩, c11⟩, c12⟩, c13⟩, c14⟩ := hc
      have c1 := Nat.eq_of_beq_eq_true c1
      have c3 := Nat.le_of_ble_eq_true c3
      obtain ⟨elen, c4⟩ := fitI_get c4
      obtain ⟨ellen, blen1, c11⟩ := fitOs_at c11
      have c13 := eq_of_lBeq (fun a b => InSpec.eq_of_beq) c13
      obtain ⟨cv, hcv⟩ := code_some hcode (rl := sp.rl) (by exact hrl) hw2 (l := es) (fc := firstCode s1 sp.objs bs1)
      let T := sp.mkSt nv nb bd pc gl
      let nbs := natsFrom nb sp.objs.length
      let nms := varsFrom nv sp.ints.length
      let ρ3 : Env2 := { v := fun j => if j < nv then ρb.v j else if j < nv + sp.ints.length then (es.getD (j - nv) (.lit 0)).den ρ2.toEnv else cv, fn := ρ2.fn, blk := fun i => if i < nb then ρb.blk i else ρ2.blk (bs1.getD (i - nb) 0), raw := ρ2.raw }
      have hnbT : T.nb = nb + sp.objs.length := rfl
      have hnvT : T.nv = nv + sp.ints.length + 1 := rfl
      have hv : ∀ {ρ' : Env2}, Le T ρ3 ρ' → ∀ i, i < sp.ints.length → ρ'.v (nv + i) = (es.getD i (.lit 0)).den ρ2.toEnv := fun h i hi => by
        rw [h.2.1 (nv + i) (by omega)]
        show (if nv + i < nv then _ else if nv + i < nv + sp.ints.length then _ else _) = _
        rw [if_neg (by omega), if_pos (by omega), Nat.add_sub_cancel_left]
      have hcvv : ∀ {ρ' : Env2}, Le T ρ3 ρ' → ρ'.v (nv + sp.ints.length) = cv := fun h => by
        rw [h.2.1 (nv + sp.ints.length) (by omega)]
        show (if nv + sp.ints.length < nv then _ else if nv + sp.ints.length < nv + sp.ints.length then _ else cv) = _
        rw [if_neg (by omega), if_neg (by omega)]
      have hfn : ∀ {ρ' : Env2}, Le T ρ3 ρ' → ρ'.fn = ρ2.fn := fun h => h.2.2.1
      have hraw : ∀ {ρ' : Env2}, Le T ρ3 ρ' → ρ'.raw = ρ2.raw := fun h => h.2.2.2
      have hold : ∀ {ρ' : Env2}, Le T ρ3 ρ' → bd.ok ρ'.toEnv ∧ pcOk ρ'.toEnv pc := fun {ρ'} h => hb ρ' (fun j hj => by
          rw [h.2.1 j (by omega)]
          show (if j < nv then _ else _) = _
          rw [if_pos hj]) (fun i hi => by
          rw [h.1 i (by omega)]
          show (if i < nb then _ else _) = _
          rw [if_pos hi]) h.2.2.1 h.2.2.2
      have hatv : ∀ {ρ' : Env2}, Le T ρ3 ρ' → ∀ i, (nms.getD i (.lit 0)).den ρ'.toEnv = (es.getD i (.lit 0)).den ρ2.toEnv := fun {ρ'} h i => by
        by_cases hi : i < sp.ints.length
        · rw [← hv h i hi]
          simp only [List.getD, nms, varsFrom_get _ _ _ hi, Option.getD_some, E.den]
        · simp only [List.getD, List.getElem?_eq_none (show nms.length ≤ i by rw [varsFrom_len]; omega), List.getElem?_eq_none (show es.length ≤ i by omega), Option.getD_none, E.den]
      have hat : ∀ {ρ' : Env2}, Le T ρ3 ρ' → atEnv ρ'.toEnv nms = atEnv ρ2.toEnv es := fun {ρ'} h => by
        unfold atEnv
        congr 1
        · funext i; exact hatv h i
        · exact hfn h
      have hnb : ∀ {ρ' : Env2}, Le T ρ3 ρ' → ∀ (k n b1 : Nat), nbs[k]? = some n → bs1[k]? = some b1 → ρ'.blk n = ρ2.blk b1 := fun {ρ'} h k n b1 hn hb1 => by
        have hk : k < sp.objs.length := by rw [← blen1]; exact (List.getElem?_eq_some_iff.1 hb1).1
        have h1 := natsFrom_get sp.objs.length nb k hk
        rw [show (natsFrom nb sp.objs.length)[k]? = some n from hn] at h1
        injection h1 with h1
        subst h1
        rw [h.1 (nb + k) (by omega)]
        show (if nb + k < nb then _ else ρ2.blk (bs1.getD (nb + k - nb) 0)) = _
        rw [if_neg (by omega), Nat.add_sub_cancel_left]
        simp only [List.getD, hb1, Option.getD_some]
      have hnl : nbs.length = sp.objs.length := natsFrom_len _ _
      have hblk : ∀ {ρ' : Env2}, Le T ρ3 ρ' → ∀ i, ρ'.blk (blkOf nbs i) = ρ2.blk (blkOf bs1 i) := fun {ρ'} h i => by
        unfold blkOf
        by_cases hi : i < sp.objs.length
        · obtain ⟨n, hn⟩ : ∃ n, nbs[i]? = some n := ⟨_, List.getElem?_eq_getElem (by rw [hnl]; exact hi)⟩
          obtain ⟨b1, hb1⟩ : ∃ n, bs1[i]? = some n := ⟨_, List.getElem?_eq_getElem (by rw [blen1]; exact hi)⟩
          simp only [List.getD, hn, hb1, Option.getD_some]
          exact hnb h i n b1 hn hb1
        · simp only [List.getD, List.getElem?_eq_none (show nbs.length ≤ i by omega), List.getElem?_eq_none (show bs1.length ≤ i by omega), Option.getD_none]
          cases hq : bs1 with
          | nil => rw [hq] at blen1; simp at blen1; omega
          | cons b1 r =>
            have h0 : 0 < nbs.length := by rw [hnl]; omega
            cases hq2 : nbs with
            | nil => rw [hq2] at h0; cases h0
            | cons n r' => exact hnb h 0 n b1 (by rw [hq2]; rfl) (by rw [hq]; rfl)
      have hatL : ∀ {ρ' : Env2}, Le T ρ3 ρ' → ρ'.atL nms nbs = ρ2.atL es bs1 := fun {ρ'} h => by
        have e1 : (fun i => (nms.getD i (.lit 0)).den ρ'.toEnv) = fun i => (es.getD i (.lit 0)).den ρ2.toEnv := funext (hatv h)
        have e2 : (fun i => ρ'.blk (blkOf nbs i)) = fun i => ρ2.blk (blkOf bs1 i) := funext (hblk h)
        have e3 := hfn h
        have e4 := hraw h
        unfold Env2.atL
        obtain ⟨⟨v, fn⟩, blk, raw⟩ := ρ'
        simp only at e1 e2 e3 e4 ⊢
        subst e3 e4
        rw [e1, e2]
      have hpc : ∀ {ρ' : Env2}, Le T ρ3 ρ' → pcOk ρ'.toEnv (sp.facts.map (·.at nms)) := fun {ρ'} h e he => by
        obtain ⟨f, hf, rfl⟩ := List.mem_map.1 he
        have h1 := holdsE_den hw2.bd hw2.pc (List.all_eq_true.1 c12 f hf)
        rw [den_at] at h1
        rw [den_at, hat h]
        exact h1
      have hobj : ∀ (k n : Nat) (x : Item) (el : TypeId), sp.objs[k]? = some x → sp.els[k]? = some el → nbs[k]? = some n → ∃ b1 o1, bs1[k]? = some b1 ∧ s1.hp.get b1 = some o1 ∧
          ∀ {ρ' : Env2}, Le T ρ3 ρ' → (x.o.obj el nms nbs (.var (nv + sp.ints.length))).den ρ' = o1.den ρ2 := by
        intro k n x el hx hel hn
        obtain ⟨el', b1, o1, h1, h2, h3, h4⟩ := c11 k x hx
        rw [hel] at h1
        cases h1
        refine ⟨b1, o1, h2, h3, fun {ρ'} h => ?_⟩
        cases hxo : x.o with
        | row vs =>
          rw [hxo] at h4
          simp only [fitO] at h4
          split at h4
          · rename_i ha1
            simp only [Bool.and_eq_true] at h4
            have e1 := Nat.eq_of_beq_eq_true h4.1
            have e2 := sameVs_den hw2.bd hw2.pc h4.2
            rw [V.den_subL] at e2
            obtain ⟨vs1, el1, arr1⟩ := o1
            simp only at ha1 e1 e2
            subst ha1 e1
            simp only [OT.obj, O.den, O.cells, V.den_subL, hatL h, e2]
          · cases h4
        | arr A =>
          rw [hxo] at h4
          simp only [fitO] at h4
          split at h4
          · rename_i B hB
            simp only [Bool.and_eq_true] at h4
            obtain ⟨⟨⟨⟨g1, g2⟩, g3⟩, g4⟩, g5⟩ := h4
            have e1 := Nat.eq_of_beq_eq_true g1
            have e3 := of_decide_eq_true g3
            obtain ⟨vs1, el1, arr1⟩ := o1
            simp only at hB e1
            subst hB e1
            simp only [OT.obj, O.den, O.cells]
            rw [Arr.den_sub, hat h, ← Arr.den_sub ρ2.toEnv]
            congr 1
            simp only [Arr.den, Arr.row, Arr.sub, e3, sameE_den ρ2.toEnv g2]
            congr 2
            exact List.map_congr_left fun j _ => (sameW_read ρ2.toEnv g4 _ g5).symm
          · cases h4
        | code size len kind cf =>
          rw [hxo] at h4
          simp only [fitO] at h4
          split at h4
          · rename_i B hB
            split at h4
            · rename_i B0 len0 cf0 hfc
              simp only [Bool.and_eq_true] at h4
              obtain ⟨⟨⟨⟨⟨⟨⟨⟨⟨⟨g0, g1⟩, g2⟩, g3⟩, g4⟩, g5⟩, g6⟩, g7⟩, g8⟩, g9⟩, g10⟩ := h4
              have e0 := Nat.eq_of_beq_eq_true g0
              subst e0
              have e1 := Nat.eq_of_beq_eq_true g1
              have e3 := of_decide_eq_true g3
              have e7 := of_decide_eq_true g7
              subst e7
              obtain ⟨vs1, el1, arr1⟩ := o1
              simp only at hB e1
              subst hB e1
              simp only [OT.obj, O.den, O.cells]
              congr 1
              have hl : (len.at nms).den ρ'.toEnv = (len.at es).den ρ2.toEnv := by rw [den_at, den_at, hat h]
              have hsz : (size.at nms).den ρ'.toEnv = B.size.den ρ2.toEnv := by rw [sameS_den hw2.bd hw2.pc g2, den_at, den_at, hat h]
              have hd : sameD B.dflt B0.dflt = true := by rw [zeroD_eq g4, zeroD_eq g8]; rfl
              refine code_row ρ'.toEnv ρ2.toEnv hsz e3 hl (cv := cv) (ce := .var (nv + sp.ints.length)) (hcvv h) (fun j hj => ?_) (fun j hj => ?_) rfl
              · rw [hfn h, hw2.fn, hcv B0 len0 cf hfc g8 g9 j (by rw [← sameE_den ρ2.toEnv g6]; exact hj)]
                rw [← trimW_read hw2.bd hw2.pc hj B.ws, ← trimW_read hw2.bd hw2.pc hj B0.ws]
                exact (sameWS_read hw2.bd hw2.pc hd _ g10).symm
              · rw [insideWs_of hw2.bd hw2.pc g5 B.dflt j hj, zeroD_eq g4]; rfl
            · cases h4
          · cases h4
      have hhp : ∀ i o, T.hp.get i = some o → ∃ b1 o1, s1.hp.get b1 = some o1 ∧ i < nb + sp.objs.length ∧ (∃ k : Nat, nbs[k]? = some i ∧ bs1[k]? = some b1) ∧
          ∀ {ρ' : Env2}, Le T ρ3 ρ' → o.den ρ' = o1.den ρ2 ∧ ρ'.blk i = ρ2.blk b1 := by
        intro i o hg
        rcases putOs_get hg with ⟨k, x, el, hx, hel, hn, rfl⟩ | hg
        · obtain ⟨b1, o1, h1, h2, h3⟩ := hobj k i x el hx hel hn
          have hk : k < sp.objs.length := (List.getElem?_eq_some_iff.1 hx).1
          have h4 := natsFrom_get sp.objs.length nb k hk
          rw [hn] at h4
          injection h4 with h4
          exact ⟨b1, o1, h2, by omega, ⟨k, hn, h1⟩, fun {ρ'} h => ⟨h3 h, hnb h k i b1 hn h1⟩⟩
        · simp [Go.Sx.T.get] at hg
      have hfresh : ρ3.fn = ρ2.fn ∧ ρ3.raw = ρ2.raw := ⟨rfl, rfl⟩
      refine ⟨ρ3, fun j hj => ?_, fun i hi => ?_, rfl, rfl, fun ρ' h => ?_, fun ρ' h => ?_, hat (Le.refl T ρ3)⟩
      · show (if j < nv then _ else _) = _
        rw [if_pos hj]
      · show (if i < nb then _ else _) = _
        rw [if_pos hi]
      · refine ⟨hw2.ext, (hfn h).trans hw2.fn, fun i o hg => ?_, fun i j o o' hi hj hij => ?_, ⟨hgl, fun q hq => ?_⟩, ?_, ?_⟩
        · obtain ⟨b1, o1, g1, g2, _, g4⟩ := hhp i o hg
          obtain ⟨e1, e2⟩ := g4 h
          obtain ⟨_, q2, q3, q4⟩ := hw2.hp _ _ g1
          rw [e2, e1]
          exact ⟨g2, q2, q3, q4⟩
        · obtain ⟨b1, o1, g1, _, ⟨k, g3, g5⟩, g4⟩ := hhp i o hi
          obtain ⟨b2, o2, k1, _, ⟨m, k3, k5⟩, k4⟩ := hhp j o' hj
          have hb : b1 = b2 := hw2.inj b1 b2 _ _ g1 k1 (by rw [← (g4 h).2, ← (k4 h).2]; exact hij)
          subst hb
          have := apartB_get c6 g5 k5
          subst this
          rw [g3] at k3
          exact Option.some.inj k3
        · have hq : q ∈ sp.inp := hq
          exact InOk.congr (hfn h) (hraw h) (lowInp_mem c14 q hq) (hw2.gl.2 q (by rw [c13]; exact hq))
        · refine ok_supposeAll (fun p hp => ?_) (hpc h)
          rcases List.mem_append.1 hp with hp | hp
          · refine ivBd_ok (ρ := ρ'.toEnv) (ins := sp.ints) (i := nv) (fun m x hm => ?_) p hp
            have hlt : m < sp.ints.length := (List.getElem?_eq_some_iff.1 hm).1
            have he : es[m]? = some es[m] := List.getElem?_eq_getElem (by omega)
            have h3 := inIv_has hw2.bd hw2.pc (c4 m x _ hm he)
            rw [hv h m hlt]
            simp only [List.getD, he, Option.getD_some]
            exact h3
          · exact (hold h).1 p hp
        · intro e he
          rcases List.mem_append.1 he with he | he
          · exact hpc h e he
          · exact (hold h).2 e he
      · refine ⟨ha2.size.trans c1, fun t v ht hg => ?_, ha2.defers⟩
        rcases putTs_get hg with ⟨u, hm, rfl⟩ | hg
        · obtain ⟨u1, h1, h2⟩ := fitTs_mem c9 hm
          have h3 := ha2.tm t u1 (by rw [c1]; exact ht) h1
          rw [h3, V.den_sub, sameV_den hw2.bd hw2.pc h2, V.den_sub]
          exact congrArg some (congrArg (fun r => V.den r u) (hatL h).symm)
        · simp [Go.Sx.T.get] at hg
    · cases hf
  · cases hf

theorem closed_ok {P : Program} {w0 : Base} (hcode : CodeOk w0.fn) {orc : Oracle} {lo lo2 : LoopOracle} {bs : Bodies} (ho : OracleOk P w0 orc) (hbs : BodiesOk P bs) (hlo : LoopsOk P w0 bs lo) (hlo2 : LoopsOk P w0 bs lo2) {fuel : Nat} {sp : CSpec} (hrl : RangeOk w0.fn sp.rl) {cl : List (List E)} (hcl : ClOk w0.fn cl)
    {cases_ : List (List E)} (hcover : ∀ v : Nat → Int, ∃ c ∈ cases_, ∀ e ∈ c, e.den ⟨v, w0.fn⟩ ≠ 0) (hcases : ∀ e ∈ cases_, sp.caseOk P orc lo bs fuel cl e = true) : LoopsOk P w0 bs (cOracle sp lo2) := by
  intro cur p s outs h c hat ρ a w Q hw ha hk
  simp only [cOracle] at h
  split at h
  · rename_i hc
    simp only [Bool.and_eq_true] at hc
    have c1 := Nat.eq_of_beq_eq_true hc.1
    have c2 := of_decide_eq_true hc.2
    subst c1 c2
    split at h
    · rename_i eb heb
      obtain ⟨es0, bs0⟩ := eb
      cases h
      -- the code is a loop
      obtain ⟨id, b, hcode2⟩ : ∃ id b, codeAt bs sp.f sp.p = some (.block id (.loop b)) := by
        obtain ⟨e, he, _⟩ := hcover (fun _ => 0)
        have := hcases e he
        unfold CSpec.caseOk at this
        split at this
        · rename_i id b hb; exact ⟨id, b, hb⟩
        · cases this
      rw [hat] at hcode2
      cases hcode2
      have none : ∀ ρ' : Env2, (∀ j, j < 0 → ρ'.v j = ρ.v j) → (∀ i, i < 0 → ρ'.blk i = ρ.blk i) → ρ'.fn = ρ.fn → ρ'.raw = ρ.raw → Bd.ok ρ'.toEnv [] ∧ pcOk ρ'.toEnv [] := fun ρ' _ _ _ _ => ⟨fun p hp => (by cases hp), fun p hp => (by cases hp)⟩
      let I : Act → World → Nat → Prop := fun a1 w1 n => ∃ ρ1 : Env2, ρ1.raw = ρ.raw ∧ RelW w0 ρ1 sp.head w1 ∧ RelA ρ1 sp.head a1 ∧ n = ((sp.meas.at (varsFrom 0 sp.ints.length)).den ρ1.toEnv).toNat
      obtain ⟨ρ0, _, _, _, hr0, hw0, ha0, _⟩ := crel hcode hw.to ha.to hrl heb 0 0 [] [] [] ρ none (fun p hp => (by cases hp))
      refine wp_block (wp_loop (fun a1 w1 => ∃ n, I a1 w1 n) (leastM I) ⟨_, ρ0, hr0, hw0, ha0, rfl⟩ ?_)
      rintro a1 w1 ⟨n, hn⟩
      obtain ⟨⟨ρ1, hr1, hw1, ha1, hmeas⟩, _⟩ := leastM_spec hn
      obtain ⟨e, he, hed⟩ := hcover ρ1.v
      have hfn1 : ρ1.fn = w0.fn := hw1.to.fn
      have hed1 : ∀ x ∈ e, x.den ρ1.toEnv ≠ 0 := fun x hx => by
        have : (⟨ρ1.v, w0.fn⟩ : Env) = ρ1.toEnv := by rw [← hfn1]
        have hed := hed x hx
        rwa [this] at hed
      have hce := hcases e he
      unfold CSpec.caseOk at hce
      rw [hat] at hce
      simp only at hce
      split at hce
      · rename_i outs1 hex
        simp only [Bool.and_eq_true] at hce
        have hw1' : RelW w0 ρ1 (sp.head.assumeL e) w1 := relW_assumeL hw1 fun x hx ρ' hle => by rw [low_le hle (lowL_mem hce.1 x hx)]; exact hed1 x hx
        refine exec_ok ho hbs hlo fuel sp.f _ b _ outs1 hex (by simp [codeAt, hat, Code.sub]) ρ1 a1 w1 _ hw1' (relA_assumeL ha1 e) ?_
        intro r hr ρ2 a2 w2 hle2 hb2 hv2 hw2 ha2
        have hleaf := List.all_eq_true.1 hce.2 r hr
        have hle2 : Le sp.head ρ1 ρ2 := assumeL_le.1 hle2
        have hr2 : ρ2.raw = ρ.raw := hle2.2.2.2.trans hr1
        unfold CSpec.leafOk at hleaf
        rcases Bool.or_eq_true _ _ ▸ hleaf with hleaf | hleaf
        · obtain ⟨x, s1⟩ := r
          cases x with
          | normal =>
            simp only at hleaf
            split at hleaf
            · rename_i es2 bs2 hes2
              simp only [Bool.and_eq_true] at hleaf
              obtain ⟨ρ3, _, _, _, hr3, hw3, ha3, hv3⟩ := crel hcode hw2.to ha2.to hrl hes2 0 0 [] [] [] ρ2 (fun ρ' _ _ _ _ => ⟨fun p hp => (by cases hp), fun p hp => (by cases hp)⟩) (fun p hp => (by cases hp))
              have m1 := holdsE_den hw2.to.bd hw2.to.pc hleaf.1
              have m2 := holdsE_den hw2.to.bd hw2.to.pc hleaf.2
              rw [den_mkBin] at m1 m2
              have m1 := (E.prop_iff ρ2.toEnv (.bin .lt (sp.meas.at es2) (sp.meas.at (varsFrom 0 sp.ints.length)))).2 m1
              have m2 := (E.prop_iff ρ2.toEnv (.bin .le (.lit 0) (sp.meas.at es2))).2 m2
              simp only [E.prop] at m1 m2
              have e1 : (sp.meas.at (varsFrom 0 sp.ints.length)).den ρ2.toEnv = (sp.meas.at (varsFrom 0 sp.ints.length)).den ρ1.toEnv := by
                rw [den_at, den_at]
                congr 1
                unfold atEnv
                congr 1
                · funext i
                  by_cases hi : i < sp.ints.length
                  · simp only [List.getD, varsFrom_get _ _ _ hi, Option.getD_some, E.den]
                    exact hle2.2.1 (0 + i) (show 0 + i < 0 + sp.ints.length + 1 by omega)
                  · simp only [List.getD, List.getElem?_eq_none (show (varsFrom 0 sp.ints.length).length ≤ i by rw [varsFrom_len]; omega), Option.getD_none, E.den]
                · exact hle2.2.2.1
              have e2 : (sp.meas.at es2).den ρ2.toEnv = (sp.meas.at (varsFrom 0 sp.ints.length)).den ρ3.toEnv := by
                rw [den_at, den_at, hv3]
              have hI : I a2 w2 ((sp.meas.at (varsFrom 0 sp.ints.length)).den ρ3.toEnv).toNat := ⟨ρ3, hr3.trans hr2, hw3, ha3, rfl⟩
              refine ⟨⟨_, hI⟩, ?_⟩
              have := (leastM_spec hI).2
              simp only [E.den] at m2
              show leastM I a2 w2 < leastM I a1 w1
              omega
            · cases hleaf
          | exit j =>
            simp only [Bool.and_eq_true] at hleaf
            have hj := Nat.eq_of_beq_eq_true hleaf.1
            show Exit.inBlock id Q (.exit j) a2 w2
            simp only [Exit.inBlock, hj, if_true]
            cases hq : sp.cfits s1 with
            | none => rw [hq] at hleaf; cases hleaf.2
            | some q =>
              obtain ⟨es2, bs2⟩ := q
              have hfn2 : ρ2.fn = ρ.fn := hw2.to.fn.trans hw.to.fn.symm
              have hlo' : ∀ ρ' : Env2, (∀ j, j < s.nv → ρ'.v j = ρ.v j) → (∀ i, i < s.nb → ρ'.blk i = ρ.blk i) → ρ'.fn = ρ2.fn → ρ'.raw = ρ2.raw → Le s ρ ρ' := fun ρ' h1 h2 h3 h4 => ⟨h2, h1, h3.trans hfn2, h4.trans hr2⟩
              obtain ⟨ρ3, hv3, hb3, hf3, hr3, hw3, ha3, _⟩ := crel hcode hw2.to ha2.to hrl hq s.nv s.nb s.bd s.pc s.gl ρ (fun ρ' h1 h2 h3 h4 => ⟨(hw ρ' (hlo' ρ' h1 h2 h3 h4)).bd, (hw ρ' (hlo' ρ' h1 h2 h3 h4)).pc⟩) hw.to.gl.1
              exact hk (.normal, sp.over s) (by simp) ρ3 a2 w2 (hlo' ρ3 hv3 hb3 hf3 hr3) (Nat.le_add_right _ _) (by show s.nv ≤ s.nv + sp.ints.length + 1; omega) hw3 ha3
          | ret => cases hleaf
        · refine (refuted_of (ρ := ρ2.toEnv) ?_ hw2.to.pc hleaf).elim
          have : ρ2.fn = w0.fn := hw2.to.fn
          rw [show ρ2.toEnv.fn = w0.fn from this]
          exact hcl
      · cases hce
    · exact hlo2 _ _ s outs h c hat ρ a w Q hw ha hk
  · exact hlo2 cur p s outs h c hat ρ a w Q hw ha hk
end Go.Sx
