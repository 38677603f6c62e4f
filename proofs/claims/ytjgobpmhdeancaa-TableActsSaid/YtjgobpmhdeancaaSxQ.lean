/- Contracts: proved by a run, used in other runs. -/
import Derived.Test.YtjgobpmhdeancaaSxO
namespace Go.Sx
open Go

/-- For every world that goes on from the first one: the answers are these, and nothing that was there is changed. -/
def FSpec.Ok (P : Program) (w0 : Base) (sp : FSpec) : Prop :=
  (∀ ys w', (callFunc sp.f ys).run P w' = .ok (.enter sp.f ys) w') ∧
  ∀ v : Nat → Int, KindOk v 0 sp.ks → pcOk ⟨v, w0.fn⟩ sp.pre → sp.bds.ok ⟨v, w0.fn⟩ ∧ ∀ w, Ext w0.w w → Calls P sp.f (kindVals v 0 sp.ks).toArray w fun e w1 => e = .returned (valOne (sp.res.map (resVal ⟨v, w0.fn⟩))) ∧ Ext w w1

theorem relW_ext {w0 : Base} {w w1 : World} {ρ : Env2} {s : St} (h : RelW w0 ρ s w) (hx : Ext w w1) : RelW w0 ρ s w1 := fun ρ' hle =>
  let h0 := h ρ' hle
  ⟨h0.ext.trans hx, h0.fn, fun i o ho => let ⟨a, b, c, d⟩ := h0.hp i o ho; ⟨a, b, Nat.lt_of_lt_of_le c hx.size, (hx.old _ c).trans d⟩, h0.inj, h0.gl, h0.bd, h0.pc⟩

/-! ### expressions over the first names alone -/
def E.under (n : Nat) : E → Bool
  | .lit _ => true
  | .var i => Nat.ble (i + 1) n
  | .un _ a => a.under n
  | .bin _ a b => a.under n && b.under n
  | .ite c a b => c.under n && a.under n && b.under n
  | .fn _ a b c => a.under n && b.under n && c.under n
theorem den_under {n : Nat} {ρ ρ' : Env} (hf : ρ'.fn = ρ.fn) (hv : ∀ j, j < n → ρ'.v j = ρ.v j) : ∀ {e : E}, e.under n = true → e.den ρ' = e.den ρ
  | .lit _, _ => rfl
  | .var i, h => hv i (Nat.le_of_ble_eq_true h)
  | .un o a, h => by simp only [E.den]; rw [den_under hf hv (e := a) h]
  | .bin o a b, h => by
    simp only [E.under, Bool.and_eq_true] at h
    simp only [E.den]; rw [den_under hf hv h.1, den_under hf hv h.2]
  | .ite c a b, h => by
    simp only [E.under, Bool.and_eq_true] at h
    simp only [E.den]; rw [den_under hf hv h.1.1, den_under hf hv h.1.2, den_under hf hv h.2]
  | .fn f a b c, h => by
    simp only [E.under, Bool.and_eq_true] at h
    simp only [E.den]; rw [den_under hf hv h.1.1, den_under hf hv h.1.2, den_under hf hv h.2, hf]
def allUnder (n : Nat) (l : List E) : Bool := l.all (E.under n)
theorem pc_under {n : Nat} {l : List E} (h : allUnder n l = true) (ρ ρ' : Env) (hf : ρ'.fn = ρ.fn) (hv : ∀ j, j < n → ρ'.v j = ρ.v j) (hp : pcOk ρ l) : pcOk ρ' l := fun e he => by
  rw [den_under hf hv (List.all_eq_true.1 h e he)]; exact hp e he

/-! ### a contract used -/
def argE (b : Bd) : List (Option IntKind) → List V → Option (List E)
  | [], [] => some []
  | none :: ks, .bool e :: vs => match argE b ks vs with
    | some l => some (mkNot (mkNot e) :: l)
    | none => none
  | some k :: ks, .int k' e :: vs => match decide (k = k') && within (itv b e) (kindIv k) with
    | true => match argE b ks vs with
      | some l => some (e :: l)
      | none => none
    | false => none
  | _, _ => none
def preOk (b : Bd) (pc : List E) (l : List E) : List E → Bool
  | [] => true
  | p :: r => match dec b pc (p.at l) with
    | some true => preOk b pc l r
    | _ => false
def FSpec.use (sp : FSpec) (s : St) (args : List V) : Option (List (V × St)) := match argE s.bd sp.ks args with
  | none => none
  | some l => match preOk s.bd s.pc l sp.pre && allUnder sp.ks.length (sp.res.map (·.2)) with
    | true => some [(resOne (sp.res.map (resV1 l)), { s with bd := sp.bds.map (fun p => (p.1.at l, p.2)) ++ s.bd })]
    | false => none
def specOracle : List FSpec → Oracle
  | [], _, _, _ => none
  | sp :: r, f, s, args => match Nat.beq sp.f f with
    | true => some (sp.use s args)
    | false => specOracle r f s args

theorem argE_some {ρ : Env2} {b : Bd} (hb : b.ok ρ.toEnv) : ∀ {ks : List (Option IntKind)} {args : List V} {l : List E} (pfx : List E), argE b ks args = some l →
    KindOk (atEnv ρ.toEnv (pfx ++ l)).v pfx.length ks ∧ kindVals (atEnv ρ.toEnv (pfx ++ l)).v pfx.length ks = V.denL ρ args
  | [], [], l, pfx, h => by cases h; exact ⟨trivial, rfl⟩
  | none :: ks, .bool e :: vs, l, pfx, h => by
    simp only [argE] at h
    split at h
    · rename_i l' hl
      cases h
      have ih := argE_some hb (pfx ++ [mkNot (mkNot e)]) hl
      simp only [List.length_append, List.length_singleton, List.append_assoc, List.singleton_append] at ih
      have h1 : (atEnv ρ.toEnv (pfx ++ mkNot (mkNot e) :: l')).v pfx.length = b2i (e.den ρ.toEnv != 0) := by
        simp only [atEnv, List.getD_eq_getElem?_getD, List.getElem?_append_right (Nat.le_refl _), Nat.sub_self, List.getElem?_cons_zero, Option.getD_some, den_mkNot]
        cases h : e.den ρ.toEnv == 0 <;> simp [h, b2i, bne]
      refine ⟨⟨by rw [h1]; exact has_b2i _, ih.1⟩, ?_⟩
      simp only [kindVals, V.denL, V.den, h1, b2i_bne, ih.2]
    · cases h
  | some k :: ks, .int k' e :: vs, l, pfx, h => by
    simp only [argE] at h
    split at h
    · rename_i hc
      simp only [Bool.and_eq_true, decide_eq_true_eq] at hc
      obtain ⟨rfl, hc⟩ := hc
      split at h
      · rename_i l' hl
        cases h
        have ih := argE_some hb (pfx ++ [e]) hl
        simp only [List.length_append, List.length_singleton, List.append_assoc, List.singleton_append] at ih
        have h1 : (atEnv ρ.toEnv (pfx ++ e :: l')).v pfx.length = e.den ρ.toEnv := by
          simp only [atEnv, List.getD_eq_getElem?_getD, List.getElem?_append_right (Nat.le_refl _), Nat.sub_self, List.getElem?_cons_zero, Option.getD_some]
        refine ⟨⟨?_, ih.1⟩, ?_⟩
        · rw [h1]
          have := wrap_of_within hc (has_itv hb e)
          rw [← this]
          exact has_kind k _
        · simp only [kindVals, V.denL, V.den, h1, ih.2]
      · cases h
    · cases h
  | [], _ :: _, _, _, h => by simp [argE] at h
  | none :: _, [], _, _, h => by simp [argE] at h
  | some _ :: _, [], _, _, h => by simp [argE] at h
  | none :: _, .int _ _ :: _, _, _, h => by simp [argE] at h
  | none :: _, .flt _ _ :: _, _, _, h => by simp [argE] at h
  | none :: _, .str _ :: _, _, _, h => by simp [argE] at h
  | none :: _, .ptr _ _ :: _, _, _, h => by simp [argE] at h
  | none :: _, .gptr _ _ :: _, _, _, h => by simp [argE] at h
  | none :: _, .gat _ _ :: _, _, _, h => by simp [argE] at h
  | none :: _, .nilp :: _, _, _, h => by simp [argE] at h
  | none :: _, .slice _ _ _ _ :: _, _, _, h => by simp [argE] at h
  | none :: _, .nils :: _, _, _, h => by simp [argE] at h
  | none :: _, .agg _ :: _, _, _, h => by simp [argE] at h
  | none :: _, .tup _ :: _, _, _, h => by simp [argE] at h
  | none :: _, .func _ :: _, _, _, h => by simp [argE] at h
  | none :: _, .iface _ _ :: _, _, _, h => by simp [argE] at h
  | none :: _, .nili :: _, _, _, h => by simp [argE] at h
  | some _ :: _, .bool _ :: _, _, _, h => by simp [argE] at h
  | some _ :: _, .flt _ _ :: _, _, _, h => by simp [argE] at h
  | some _ :: _, .str _ :: _, _, _, h => by simp [argE] at h
  | some _ :: _, .ptr _ _ :: _, _, _, h => by simp [argE] at h
  | some _ :: _, .gptr _ _ :: _, _, _, h => by simp [argE] at h
  | some _ :: _, .gat _ _ :: _, _, _, h => by simp [argE] at h
  | some _ :: _, .nilp :: _, _, _, h => by simp [argE] at h
  | some _ :: _, .slice _ _ _ _ :: _, _, _, h => by simp [argE] at h
  | some _ :: _, .nils :: _, _, _, h => by simp [argE] at h
  | some _ :: _, .agg _ :: _, _, _, h => by simp [argE] at h
  | some _ :: _, .tup _ :: _, _, _, h => by simp [argE] at h
  | some _ :: _, .func _ :: _, _, _, h => by simp [argE] at h
  | some _ :: _, .iface _ _ :: _, _, _, h => by simp [argE] at h
  | some _ :: _, .nili :: _, _, _, h => by simp [argE] at h

theorem preOk_pc {ρ : Env} {b : Bd} {pc : List E} (hb : b.ok ρ) (hp : pcOk ρ pc) {l : List E} : ∀ {pre : List E}, preOk b pc l pre = true → pcOk (atEnv ρ l) pre
  | [], _ => fun e he => by cases he
  | p :: r, h => by
    simp only [preOk] at h
    split at h
    · rename_i hd
      intro e he
      cases he with
      | head => rw [← den_at]; simpa using dec_some hb hp _ _ hd
      | tail _ he => exact preOk_pc hb hp h e he
    · cases h

theorem den_resOne (ρ : Env2) (l : List E) (rs : List (Option IntKind × E)) : (resOne (rs.map (resV1 l))).den ρ = valOne (rs.map (resVal (atEnv ρ.toEnv l))) := by
  have h1 : ∀ r : Option IntKind × E, (resV1 l r).den ρ = resVal (atEnv ρ.toEnv l) r := by
    rintro ⟨k, e⟩; cases k <;> simp [resV1, resVal, V.den, den_at]
  have h2 : V.denL ρ (rs.map (resV1 l)) = rs.map (resVal (atEnv ρ.toEnv l)) := by
    rw [denL_eq, List.map_map]; exact List.map_congr_left fun r _ => h1 r
  match rs with
  | [] => simp [resOne, valOne, V.den, V.denL]
  | [r] => simp [resOne, valOne, h1]
  | r :: q :: t =>
    simp only [List.map_cons] at h2 ⊢
    simp only [resOne, valOne, V.den, h2]

theorem kindVals_inj {v v' : Nat → Int} : ∀ {ks : List (Option IntKind)} {i : Nat}, KindOk v i ks → KindOk v' i ks → kindVals v i ks = kindVals v' i ks → ∀ j, j < ks.length → v (i + j) = v' (i + j)
  | [], _, _, _, _, j, hj => by simp at hj
  | none :: r, i, h, h', he, j, hj => by
    simp only [kindVals, List.cons.injEq, Value.bool.injEq] at he
    cases j with
    | zero =>
      have h1 := h.1.1 _ rfl; have h2 := h.1.2 _ rfl; have h3 := h'.1.1 _ rfl; have h4 := h'.1.2 _ rfl
      have h5 := he.1
      rcases (show v i = 0 ∨ v i = 1 by omega) with e | e <;> rcases (show v' i = 0 ∨ v' i = 1 by omega) with e' | e' <;> simp [e, e'] at h5 ⊢
    | succ j =>
      have := kindVals_inj h.2 h'.2 he.2 j (by simpa using hj)
      rwa [show i + (j + 1) = i + 1 + j by omega]
  | some k :: r, i, h, h', he, j, hj => by
    simp only [kindVals, List.cons.injEq, Value.int.injEq] at he
    cases j with
    | zero => exact he.1.2
    | succ j =>
      have := kindVals_inj h.2 h'.2 he.2 j (by simpa using hj)
      rwa [show i + (j + 1) = i + 1 + j by omega]

theorem spec_use {P : Program} {w0 : Base} {w : World} {sp : FSpec} (hsp : sp.Ok P w0) {s : St} {args : List V} {l : List (V × St)} (h : sp.use s args = some l)
    {ρ : Env2} (hw : RelW w0 ρ s w) (xs : List Value) (hx : ∀ ρ', Le s ρ ρ' → V.denL ρ' args = xs) :
    Calls P sp.f xs.toArray w (Answers w0 ρ s l) := by
  unfold FSpec.use at h
  split at h
  · cases h
  · rename_i es hes
    split at h
    · rename_i hpre
      simp only [Bool.and_eq_true] at hpre
      obtain ⟨hpre, hunder⟩ := hpre
      cases h
      have key : ∀ ρ', Le s ρ ρ' → KindOk (atEnv ρ'.toEnv es).v 0 sp.ks ∧ kindVals (atEnv ρ'.toEnv es).v 0 sp.ks = xs ∧ pcOk (atEnv ρ'.toEnv es) sp.pre := fun ρ' hle => by
        obtain ⟨h1, h2⟩ := argE_some (ρ := ρ') (hw ρ' hle).bd [] hes
        exact ⟨h1, h2.trans (hx ρ' hle), preOk_pc (hw ρ' hle).bd (hw ρ' hle).pc hpre⟩
      have hfn' : ∀ ρ', Le s ρ ρ' → (⟨(atEnv ρ'.toEnv es).v, w0.fn⟩ : Env) = atEnv ρ'.toEnv es := fun ρ' hle => by
        have : ρ'.fn = w0.fn := (hw ρ' hle).fn
        rw [← this]; rfl
      obtain ⟨k1, k2, k3⟩ := key ρ (Le.refl _ _)
      obtain ⟨hb, hc⟩ := hsp.2 (atEnv ρ.toEnv es).v k1 (by rw [hfn' ρ (Le.refl _ _)]; exact k3)
      have hcall := hc w hw.to.ext
      rw [k2] at hcall
      refine hcall.mono ?_
      rintro e w1 ⟨rfl, hext⟩
      refine ⟨_, List.mem_singleton.2 rfl, _, ρ, rfl, Le.refl _ _, Nat.le_refl _, Nat.le_refl _, ?_, ?_⟩
      · intro ρ' hle
        have hle : Le s ρ ρ' := hle
        have h0 := relW_ext hw hext ρ' hle
        obtain ⟨j1, j2, j3⟩ := key ρ' hle
        obtain ⟨hb', _⟩ := hsp.2 (atEnv ρ'.toEnv es).v j1 (by rw [hfn' ρ' hle]; exact j3)
        rw [hfn' ρ' hle] at hb'
        refine ⟨h0.ext, h0.fn, h0.hp, h0.inj, h0.gl, fun p hp => ?_, h0.pc⟩
        rcases List.mem_append.1 hp with hp | hp
        · obtain ⟨q, hq, rfl⟩ := List.mem_map.1 hp
          rw [den_at]
          exact hb' q hq
        · exact h0.bd p hp
      · intro ρ' hle
        have hle : Le s ρ ρ' := hle
        rw [den_resOne, hfn' ρ (Le.refl _ _)]
        obtain ⟨j1, j2, j3⟩ := key ρ' hle
        have hv := kindVals_inj j1 k1 (j2.trans k2.symm)
        have h1 : sp.res.map (resVal (atEnv ρ'.toEnv es)) = sp.res.map (resVal (atEnv ρ.toEnv es)) := by
          apply List.map_congr_left
          intro r hr
          have hu := List.all_eq_true.1 hunder r.2 (List.mem_map.2 ⟨r, hr, rfl⟩)
          have := den_under (ρ := atEnv ρ.toEnv es) (ρ' := atEnv ρ'.toEnv es) hle.2.2.1 (fun j hj => by simpa using hv j hj) hu
          obtain ⟨k, e⟩ := r
          cases k <;> simp only [resVal] <;> rw [this]
        rw [h1]
    · cases h

theorem specOracle_ok {P : Program} {w0 : Base} : ∀ {sps : List FSpec}, (∀ sp ∈ sps, sp.Ok P w0) → OracleOk P w0 (specOracle sps)
  | [], _, f, s, args, l, h => by simp [specOracle] at h
  | sp :: r, hall, f, s, args, l, h => by
    intro ρ w hw xs hx
    simp only [specOracle] at h
    split at h
    · rename_i hb
      have := Nat.eq_of_beq_eq_true hb
      subst this
      have hs : sp.use s args = some l := by injection h
      exact .inl ⟨(hall sp List.mem_cons_self).1, spec_use (hall sp List.mem_cons_self) hs hw xs hx⟩
    · exact specOracle_ok (fun q hq => hall q (List.mem_cons_of_mem _ hq)) f s args l h ρ w hw xs hx

/-- contracts hold in all worlds that go on from the first one -/
theorem FSpec.Ok.later {P : Program} {w0 : Base} {w : World} {sp : FSpec} (h : sp.Ok P w0) (hx : Ext w0.w w) : sp.Ok P ⟨w, w0.fn⟩ :=
  ⟨h.1, fun v hv hp => ⟨(h.2 v hv hp).1, fun w' hx' => (h.2 v hv hp).2 w' (hx.trans hx')⟩⟩
theorem TabsOk.later {w0 w : World} {gl : Tabs} (h : TabsOk w0 gl) (hx : Ext w0 w) : TabsOk w gl := fun p hp =>
  ⟨Nat.lt_of_lt_of_le (h p hp).1 hx.size, fun j x hj => by
    have := (h p hp).2 j x hj
    rw [← this]
    simp [World.cell?, hx.old p.1 (h p hp).1]⟩

/-- that an answer is as the contract says -/
def SameL (ρ : Env) : List (Option IntKind × E) → List V → Prop
  | [], [] => True
  | (none, e) :: rs, .bool a :: vs => (a.prop ρ ↔ e.prop ρ) ∧ SameL ρ rs vs
  | (some k, e) :: rs, .int k' a :: vs => k' = k ∧ a.den ρ = e.den ρ ∧ SameL ρ rs vs
  | _, _ => False
def unOne (n : Nat) : V → List V
  | .tup vs => match Nat.beq n 1 with
    | true => [.tup vs]
    | false => vs
  | v => [v]
def Keeps (ρ : Env) (res : List (Option IntKind × E)) : List Leaf → Prop
  | [] => True
  | (pc, v) :: r => chain ρ (SameL ρ res (unOne res.length v)) pc ∧ Keeps ρ res r
theorem keeps_at {ρ : Env} {res : List (Option IntKind × E)} : ∀ {l : List Leaf}, Keeps ρ res l → ∀ x ∈ l, chain ρ (SameL ρ res (unOne res.length x.2)) x.1
  | [], _, x, hx => by cases hx
  | _ :: _, h, x, hx => by
    cases hx with
    | head => exact h.1
    | tail _ hx => exact keeps_at h.2 x hx
theorem sameL_den {ρ : Env2} : ∀ {rs : List (Option IntKind × E)} {vs : List V}, SameL ρ.toEnv rs vs → V.denL ρ vs = rs.map (resVal ρ.toEnv)
  | [], [], _ => rfl
  | [], v :: vs, h => by cases v <;> exact h.elim
  | (none, e) :: rs, [], h => h.elim
  | (some k, e) :: rs, [], h => h.elim
  | (none, e) :: rs, v :: vs, h => by
    cases v with
    | bool a =>
      have h1 : (a.den ρ.toEnv != 0) = (e.den ρ.toEnv != 0) := by
        rw [Bool.eq_iff_iff, bne_iff_ne, bne_iff_ne]
        exact (E.prop_iff _ _).symm.trans (h.1.trans (E.prop_iff _ _))
      simp only [V.denL, V.den, List.map_cons, resVal, h1, sameL_den h.2]
    | _ => exact h.elim
  | (some k, e) :: rs, v :: vs, h => by
    cases v with
    | int k' a =>
      obtain ⟨rfl, h1, h2⟩ := h
      simp only [V.denL, V.den, List.map_cons, resVal, h1, sameL_den h2]
    | _ => exact h.elim
theorem unOne_den {ρ : Env2} {n : Nat} {v : V} {ys : List Value} (hn : ys.length = n) (h : V.denL ρ (unOne n v) = ys) : v.den ρ = valOne ys := by
  have plain : ∀ v : V, unOne n v = [v] → V.denL ρ (unOne n v) = ys → v.den ρ = valOne ys := fun v hv h => by
    rw [hv] at h; subst h; simp [valOne, V.denL]
  cases v <;> first | exact plain _ rfl h | skip
  rename_i vs
  simp only [unOne] at h
  split at h
  · subst h; simp [valOne, V.denL, V.den]
  · rename_i hb
    subst h
    have hne : (V.denL ρ vs).length ≠ 1 := fun he => by rw [he] at hn; subst hn; simp at hb
    match vs with
    | [] => simp [V.den, V.denL, valOne]
    | [u] => simp [V.denL] at hne
    | u :: t :: r => simp [V.den, V.denL, valOne]

/-- A CONTRACT BY A RUN. -/
theorem spec_run {P : Program} {orc : Oracle} {lo : LoopOracle} {fns : List (Nat × Func)} {w0 : Base} {gl : Tabs} {sp : FSpec} {fuel : Nat} {ls : List Leaf}
    (hcall : ∀ ys w', (callFunc sp.f ys).run P w' = .ok (.enter sp.f ys) w')
    (ho : ∀ w, Ext w0.w w → OracleOk P ⟨w, w0.fn⟩ orc) (hlo : ∀ w, Ext w0.w w → LoopsOk P ⟨w, w0.fn⟩ (bodies fns) lo) (hf : AllKnown P fns) (hg : TabsOk w0.w gl)
    (hrun : runOf P orc lo (bodies fns) gl fuel sp.f sp.ks sp.pre = some ls) (hu : (allUnder sp.ks.length sp.pre && allUnder sp.ks.length (sp.res.map (·.2))) = true)
    (hb : ∀ u : Nat → Int, KindOk u 0 sp.ks → pcOk ⟨u, w0.fn⟩ sp.pre → sp.bds.ok ⟨u, w0.fn⟩)
    (hl : ∀ u : Nat → Int, KindOk u 0 sp.ks → pcOk ⟨u, w0.fn⟩ sp.pre → Keeps ⟨u, w0.fn⟩ sp.res ls) : sp.Ok P w0 := by
  simp only [Bool.and_eq_true] at hu
  refine ⟨hcall, fun v hv hp => ⟨hb v hv hp, fun w hx => ?_⟩⟩
  refine run_calls (w0 := ⟨w, w0.fn⟩) (ho w hx) (hlo w hx) hf (hg.later hx) hrun (pc_under hu.1) v hv hp (Ext.refl w) _ ?_
  intro x hx1 ρ1 w1 hv1 hfn hpc hext
  refine ⟨?_, hext⟩
  have hρ : (⟨ρ1.v, w0.fn⟩ : Env) = ρ1.toEnv := by
    have : ρ1.fn = w0.fn := hfn
    rw [← this]
  have hk := hl ρ1.v (kindOk_congr (fun j hj => hv1 j (by omega)) hv) (by rw [hρ]; exact pc_under hu.1 ⟨v, w0.fn⟩ ρ1.toEnv hfn hv1 hp)
  rw [hρ] at hk
  have hs := sameL_den (chain_of hpc (keeps_at hk x hx1))
  have h1 : sp.res.map (resVal ρ1.toEnv) = sp.res.map (resVal ⟨v, w0.fn⟩) := by
    apply List.map_congr_left
    intro r hr
    have := den_under (ρ := ⟨v, w0.fn⟩) (ρ' := ρ1.toEnv) hfn hv1 (List.all_eq_true.1 hu.2 r.2 (List.mem_map.2 ⟨r, hr, rfl⟩))
    obtain ⟨k, e⟩ := r
    cases k <;> simp only [resVal] <;> rw [this]
  rw [h1] at hs
  exact congrArg Ending.returned (unOne_den (by simp) hs)

/-- a law over numbers and bools, where something of them is known ahead -/
theorem law_calls_if {P : Program} {orc : Oracle} {lo : LoopOracle} {fns : List (Nat × Func)} {w : World} (fn : Nat → Int → Int → Int → Int) (ho : OracleOk P ⟨w, fn⟩ orc) (hlo : LoopsOk P ⟨w, fn⟩ (bodies fns) lo) (hf : AllKnown P fns) {gl : Tabs} (hg : TabsOk w gl) {fuel f : Nat} {ks : List (Option IntKind)} {pre : List E} {ls : List Leaf}
    (hrun : runOf P orc lo (bodies fns) gl fuel f ks pre = some ls) (hu : allUnder ks.length pre = true) (v : Nat → Int) (hv : KindOk v 0 ks) (hp : pcOk ⟨v, fn⟩ pre)
    (hl : ∀ u : Nat → Int, KindOk u 0 ks → pcOk ⟨u, fn⟩ pre → Law ⟨u, fn⟩ ls) :
    Calls P f (kindVals v 0 ks).toArray w fun e w' => e = .returned (.bool true) ∧ RowKit.Grown w w' := by
  refine run_calls (w0 := ⟨w, fn⟩) ho hlo hf hg hrun (pc_under hu) v hv hp (Ext.refl w) _ ?_
  intro x hx ρ1 w1 hv1 hfn hpc hext
  refine ⟨?_, hext.grown⟩
  have hρ : (⟨ρ1.v, fn⟩ : Env) = ρ1.toEnv := by
    have : ρ1.fn = fn := hfn
    rw [← this]
  obtain ⟨be, hbe, hch⟩ := law_at (hl ρ1.v (kindOk_congr (fun j hj => hv1 j (by omega)) hv) (by rw [hρ]; exact pc_under hu ⟨v, fn⟩ ρ1.toEnv hfn hv1 hp)) x hx
  rw [hρ] at hch
  have hpp := chain_of hpc hch
  rw [hbe]
  simp only [V.den]
  rw [(bne_iff_ne (a := be.den ρ1.toEnv) (b := 0)).2 ((E.prop_iff _ _).1 hpp)]

end Go.Sx
