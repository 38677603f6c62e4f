/- A loop's contract by the run of one round. -/
import Derived.Test.YtjgobpmhdeancaaSxS
namespace Go.Sx
open Go

def LSpec.fine (sp : LSpec) : Bool := allUnder sp.ks.length sp.pre && allUnder sp.ks.length (sp.outs.map (·.2.2)) && sp.meas.under sp.ks.length && (sp.ins.map (·.1)).all (fun t => Nat.ble (t + 1) sp.n) && (sp.outs.map (·.1)).all (fun t => Nat.ble (t + 1) sp.n)

theorem allProp_pc {ρ : Env} {l : List E} : ∀ {pre : List E}, allProp ρ l pre → pcOk (atEnv ρ l) pre
  | [], _ => fun e he => by cases he
  | p :: r, h => fun e he => by
    cases he with
    | head => rw [← den_at]; exact (E.prop_iff _ _).1 h.1
    | tail _ he => exact allProp_pc h.2 e he
theorem allSame_res {ρ : Env} {l : List E} : ∀ {os : List (Nat × Option IntKind × E)}, allSame ρ l os → ∀ o ∈ os, resVal (atEnv ρ l) o.2 = resVal ρ o.2
  | [], _, o, ho => by cases ho
  | (t, none, e) :: r, h, o, ho => by
    cases ho with
    | head =>
      simp only [resVal]
      congr 1
      rw [Bool.eq_iff_iff, bne_iff_ne, bne_iff_ne, ← den_at]
      exact (E.prop_iff _ _).symm.trans (h.1.trans (E.prop_iff _ _))
    | tail _ ho => exact allSame_res h.2 o ho
  | (t, some k, e) :: r, h, o, ho => by
    cases ho with
    | head => simp only [resVal]; rw [← den_at, h.1]
    | tail _ ho => exact allSame_res h.2 o ho
theorem mapO_outs {ρ : Env2} {s : St} {a : Act} (ha : RelA0 ρ s a) : ∀ {os : List (Nat × Option IntKind × E)} {vs : List V}, mapO (fun o : Nat × Option IntKind × E => s.tm.get o.1) os = some vs →
    (∀ x ∈ os.map (·.1), x < s.n) → V.denL ρ vs = os.map (fun o => resVal ρ.toEnv o.2) → ∀ o ∈ os, a.tmps[o.1]? = some (resVal ρ.toEnv o.2)
  | [], _, _, _, _, o, ho => by cases ho
  | q :: r, vs, h, hn, hd, o, ho => by
    simp only [mapO] at h
    split at h
    · rename_i x hx
      split at h
      · rename_i xs hxs
        cases h
        simp only [V.denL, List.map_cons, List.cons.injEq] at hd
        cases ho with
        | head => rw [ha.tm q.1 x (hn q.1 (by simp)) hx, hd.1]
        | tail _ ho => exact mapO_outs ha hxs (fun y hy => hn y (List.mem_cons_of_mem _ hy)) hd.2 o ho
      · cases h
    · cases h
theorem oBeq_some {x y : Option V} {v : V} (h : oBeq V.beq x y = true) (hx : x = some v) : y = some v := by
  subst hx
  cases y with
  | none => cases h
  | some u => simp only [oBeq] at h; rw [V.eq_of_beq _ _ h]

theorem lspec_run {P : Program} {orc : Oracle} {lo : LoopOracle} {fns : List (Nat × Func)} {w0 : Base} {gl : Tabs} {sp : LSpec} {fuel : Nat} {ll : List LL}
    (ho : ∀ w, Ext w0.w w → OracleOk P ⟨w, w0.fn⟩ orc) (hlo : ∀ w, Ext w0.w w → LoopsOk P ⟨w, w0.fn⟩ (bodies fns) lo) (hf : AllKnown P fns) (hg : TabsOk w0.w gl)
    (hrun : lrunOf P orc lo (bodies fns) gl fuel sp = some ll) (hu : sp.fine = true)
    (hl : ∀ u : Nat → Int, KindOk u 0 sp.ks → pcOk ⟨u, w0.fn⟩ sp.pre → LKeeps ⟨u, w0.fn⟩ sp ll) : sp.Ok P w0 (bodies fns) := by
  simp only [LSpec.fine, Bool.and_eq_true] at hu
  obtain ⟨⟨⟨⟨hu1, hu2⟩, hu3⟩, hu4⟩, hu5⟩ := hu
  have hins : ∀ x ∈ sp.ins.map (·.1), x < sp.n := fun x hx => Nat.le_of_ble_eq_true (List.all_eq_true.1 hu4 x hx)
  have houts : ∀ x ∈ sp.outs.map (·.1), x < sp.n := fun x hx => Nat.le_of_ble_eq_true (List.all_eq_true.1 hu5 x hx)
  have hlen : sp.ks.length = sp.ins.length := by simp [LSpec.ks]
  intro c hc w hx a v hv hp hs hd hi Q hQ
  unfold lrunOf at hrun
  rw [hc] at hrun
  split at hrun
  · rename_i id b hcb
    cases hcb
    split at hrun
    · cases hrun
    · rename_i outs hexec
      obtain ⟨_, hmap⟩ := mapO_some hrun
      refine wp_block (wp_loop
        (fun a1 w1 => ∃ u : Nat → Int, KindOk u 0 sp.ks ∧ pcOk ⟨u, w0.fn⟩ sp.pre ∧ insOk a1 u 0 sp.ins ∧ (∀ o ∈ sp.outs, resVal ⟨u, w0.fn⟩ o.2 = resVal ⟨v, w0.fn⟩ o.2) ∧ a1.tmps.size = sp.n ∧ a1.defers = [] ∧
          (∀ t, t ∉ sp.written → a1.tmps[t]? = a.tmps[t]?) ∧ Ext w w1)
        (fun a1 _ => (sp.meas.den ⟨readIns a1 sp.ins, w0.fn⟩).toNat)
        ⟨v, hv, hp, hi, fun _ _ => rfl, hs, hd, fun _ _ => rfl, Ext.refl w⟩ ?_)
      rintro a1 w1 ⟨u, ku, pu, iu, ou, su, du, fu, xu⟩
      have hx1 : Ext w0.w w1 := hx.trans xu
      have hat : codeAt (bodies fns) sp.f (0 :: 0 :: sp.p) = some b := by simp [codeAt, hc, Code.sub]
      let ρ : Env2 := { v := u, fn := w0.fn, blk := fun _ => 0, raw := fun t => (a1.tmps[t]?).getD undef }
      have hle : ∀ {ρ' : Env2}, Le (sp.start gl) ρ ρ' → ∀ j, j < sp.ks.length → ρ'.v j = u j := fun h j hj => h.2.1 j hj
      have hW : RelW ⟨w1, w0.fn⟩ ρ (sp.start gl) w1 := fun ρ' h => by
        have hb := kindBd_ok (ρ := ρ'.toEnv) (kindOk_congr (v := u) (v' := ρ'.v) (fun j hj => hle h j (by omega)) ku)
        have hpc : pcOk ρ'.toEnv sp.pre := pc_under hu1 ⟨u, w0.fn⟩ ρ'.toEnv h.2.2.1 (hle h) pu
        exact ⟨Ext.refl w1, h.2.2.1, fun i o ho => by simp [LSpec.start, T.get] at ho, fun i j o o' ho => by simp [LSpec.start, T.get] at ho, ⟨hg.later hx1, fun sp hsp => by cases hsp⟩, ok_supposeAll hb hpc, hpc⟩
      have hA : RelA ρ (sp.start gl) a1 := fun ρ' h => by
        refine ⟨su, fun t x _ hget => ?_, du⟩
        have hraw : ρ'.raw = fun t => (a1.tmps[t]?).getD undef := h.2.2.2
        refine putIns_get (insOk_congr (v := u) (fun j hj => hle h j (by omega)) iu) (fun j y hy => ?_) t x hget
        rw [rawsTo_get] at hy
        split at hy
        · rename_i hjn
          cases hy
          simp only [V.den, hraw]
          have : j < a1.tmps.size := by omega
          simp [this]
        · cases hy
      refine exec_ok (ho w1 hx1) (bodies_ok hf) (hlo w1 hx1) fuel sp.f _ b _ outs hexec hat ρ a1 w1 _ hW hA ?_
      intro r hr ρ2 a2 w2 hle2 _ _ hw2 ha2
      obtain ⟨i, hi1, hi2⟩ := List.getElem_of_mem hr
      obtain ⟨y, hy1, hy2⟩ := hmap i r (by rw [List.getElem?_eq_getElem hi1, hi2])
      have hyl : y ∈ ll := List.mem_of_getElem? hy1
      have hfn2 : ρ2.fn = w0.fn := hle2.2.2.1
      have hρ2 : (⟨ρ2.v, w0.fn⟩ : Env) = ρ2.toEnv := by rw [← hfn2]
      have hp2 : pcOk ρ2.toEnv sp.pre := pc_under hu1 ⟨u, w0.fn⟩ ρ2.toEnv hfn2 (hle hle2) pu
      have hk2 : KindOk ρ2.v 0 sp.ks := kindOk_congr (v := u) (fun j hj => hle hle2 j (by omega)) ku
      have lk := lkeeps_at (hl ρ2.v hk2 (by rw [hρ2]; exact hp2)) y hyl
      rw [hρ2] at lk
      obtain ⟨x, s1⟩ := r
      unfold llOf at hy2
      split at hy2
      · cases hy2
      · rename_i hfr
        simp only [Bool.and_eq_true] at hfr
        obtain ⟨hfr, hn1⟩ := hfr
        have hn1 : s1.n = sp.n := Nat.eq_of_beq_eq_true hn1
        have hs2 : a2.tmps.size = sp.n := ha2.to.size.trans hn1
        have hframe : ∀ t, t ∉ sp.written → a2.tmps[t]? = a.tmps[t]? := by
          intro t ht
          rw [← fu t ht]
          by_cases htn : t < sp.n
          · have h1 := List.all_eq_true.1 hfr t (by simpa using htn)
            simp only [Bool.or_eq_true, memN_iff] at h1
            have h1 := h1.resolve_left ht
            have h2 : ((sp.start gl).tm.get t).isSome = true := putIns_some (by rw [rawsTo_get, if_pos htn]; rfl)
            obtain ⟨v0, hv0⟩ := Option.isSome_iff_exists.1 h2
            have h3 := oBeq_some h1 hv0
            rw [ha2.to.tm t v0 (show t < s1.n by omega) h3, (hA ρ2 hle2).tm t v0 htn hv0]
          · rw [Array.getElem?_eq_none (by omega), Array.getElem?_eq_none (by omega)]
        have hou : ∀ o ∈ sp.outs, resVal ρ2.toEnv o.2 = resVal ⟨v, w0.fn⟩ o.2 := by
          intro o hoo
          rw [← ou o hoo]
          have := den_under (ρ := ⟨u, w0.fn⟩) (ρ' := ρ2.toEnv) hfn2 (hle hle2) (List.all_eq_true.1 hu2 o.2.2 (List.mem_map.2 ⟨o, hoo, rfl⟩))
          obtain ⟨t, k, e⟩ := o
          cases k <;> simp only [resVal] <;> rw [this]
        have hext : Ext w w2 := xu.trans hw2.to.ext
        cases x with
        | normal =>
          simp only at hy2
          split at hy2
          · cases hy2
          · rename_i vs hvs
            split at hy2
            · cases hy2
            · rename_i l hl'
              cases hy2
              obtain ⟨c1, c2, c3, c4⟩ := chain_of hw2.to.pc lk
              obtain ⟨k1, k2⟩ := argE_some (ρ := ρ2) hw2.to.bd [] hl'
              have k1 : KindOk (atEnv ρ2.toEnv l).v 0 sp.ks := k1
              have hio : insOk a2 (atEnv ρ2.toEnv l).v 0 sp.ins := insOk_of ha2.to hvs (fun z hz => by rw [hn1]; exact hins z hz) k2
              have hat2 : (⟨(atEnv ρ2.toEnv l).v, w0.fn⟩ : Env) = atEnv ρ2.toEnv l := by rw [← hfn2]; rfl
              refine ⟨⟨(atEnv ρ2.toEnv l).v, k1, by rw [hat2]; exact allProp_pc c1, hio, fun o hoo => ?_, hs2, ha2.to.defers, hframe, hext⟩, ?_⟩
              · rw [hat2, allSame_res c2 o hoo, hou o hoo]
              · have m1 : sp.meas.den ⟨readIns a2 sp.ins, w0.fn⟩ = (sp.meas.at l).den ρ2.toEnv := by
                  rw [den_at, ← hat2]
                  exact den_under (ρ := ⟨(atEnv ρ2.toEnv l).v, w0.fn⟩) (ρ' := ⟨readIns a2 sp.ins, w0.fn⟩) rfl (fun j hj => readIns_eq (all := sp.ins) (ins := sp.ins) (i := 0) rfl hio k1 j (Nat.zero_le _) (by rw [hlen] at hj; omega)) hu3
                have m2 : sp.meas.den ⟨readIns a1 sp.ins, w0.fn⟩ = sp.meas.den ρ2.toEnv := by
                  rw [den_under (ρ := ⟨u, w0.fn⟩) (ρ' := ⟨readIns a1 sp.ins, w0.fn⟩) rfl (fun j hj => readIns_eq (all := sp.ins) (ins := sp.ins) (i := 0) rfl iu ku j (Nat.zero_le _) (by rw [hlen] at hj; omega)) hu3]
                  exact (den_under (ρ := ⟨u, w0.fn⟩) (ρ' := ρ2.toEnv) hfn2 (hle hle2) hu3).symm
                show (sp.meas.den ⟨readIns a2 sp.ins, w0.fn⟩).toNat < (sp.meas.den ⟨readIns a1 sp.ins, w0.fn⟩).toNat
                rw [m1, m2]
                omega
        | exit j =>
          simp only at hy2
          split at hy2
          · rename_i hj
            have hj := Nat.eq_of_beq_eq_true hj
            split at hy2
            · cases hy2
            · rename_i vs hvs
              cases hy2
              have hsame := sameL_den (chain_of hw2.to.pc lk)
              rw [List.map_map] at hsame
              have hout := mapO_outs ha2.to hvs (fun z hz => by rw [hn1]; exact houts z hz) hsame
              show Exit.inBlock id Q (.exit j) a2 w2
              simp only [Exit.inBlock, hj, if_true]
              exact hQ a2 w2 hs2 ha2.to.defers hframe (fun o hoo => by rw [hout o hoo, hou o hoo]) hext
          · cases hy2
            exact (chain_of hw2.to.pc lk).elim
        | ret =>
          simp only at hy2
          cases hy2
          exact (chain_of hw2.to.pc lk).elim
  · cases hrun

end Go.Sx
