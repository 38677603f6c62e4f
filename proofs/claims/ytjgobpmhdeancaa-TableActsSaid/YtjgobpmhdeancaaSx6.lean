/- Loops of which the first round is run by itself: what is not there yet at the entry is there after it. -/
import Derived.Test.YtjgobpmhdeancaaSx5
namespace Go.Sx
open Go

/-- a loop whose first round is another's -/
theorem wp_loop_first {P : Program} {c : Code} {Q : Exit → Act → World → Prop} {a : Act} {w : World} (I : Act → World → Prop) (μ : Act → World → Nat)
    (h0 : c.wp P (Exit.then I Q) a w) (round : ∀ a w, I a w → c.wp P (Exit.then (fun a' w' => I a' w' ∧ μ a' w' < μ a w) Q) a w) : (Code.loop c).wp P Q a w := by
  have rest : ∀ a w, I a w → (Code.loop c).wp P Q a w := fun a w h => wp_loop I μ h round
  let μ2 : Act → World → Nat := fun a' w' => μ a' w'
  intro b k cs
  have key : ∀ n a w, μ a w = n → I a w →
      ∃ e a' w', Q e a' w' ∧ Arrives P (lone (b.at a (.code c :: .inLoop c :: k)) cs w) b k cs e a' w' := by
    intro n
    induction n using Nat.strongRecOn with
    | _ n ih =>
      intro a w hn hI
      obtain ⟨e, a1, w1, hq, harr⟩ := round a w hI b (.inLoop c :: k) cs
      cases e with
      | normal =>
        obtain ⟨h1, hlt⟩ := hq
        obtain ⟨e2, a2, w2, hq2, harr2⟩ := ih (μ a1 w1) (hn ▸ hlt) a1 w1 rfl h1
        exact ⟨e2, a2, w2, hq2, .of_steps (Steps.trans harr (.one step_inLoop)) harr2⟩
      | _ => first
        | exact ⟨_, a1, w1, hq, .pass (x := .inLoop c) rfl (fun _ _ => .inl (by simp)) harr⟩
  obtain ⟨e, a1, w1, hq, harr⟩ := h0 b (.inLoop c :: k) cs
  have fin : ∃ e a' w', Q e a' w' ∧ Arrives P (lone (b.at a (.code c :: .inLoop c :: k)) cs w) b k cs e a' w' := by
    cases e with
    | normal =>
      obtain ⟨e2, a2, w2, hq2, harr2⟩ := key _ a1 w1 rfl hq
      exact ⟨e2, a2, w2, hq2, .of_steps (Steps.trans harr (.one step_inLoop)) harr2⟩
    | _ => first
      | exact ⟨_, a1, w1, hq, .pass (x := .inLoop c) rfl (fun _ _ => .inl (by simp)) harr⟩
  obtain ⟨e, a', w', hq, harr⟩ := fin
  exact ⟨e, a', w', hq, .of_steps (.one step_loop) harr⟩

structure PSpec where
  g : GSpec
  els : List TypeId
def PSpec.bs0 (sp : PSpec) (s : St) : Option (List Nat) := match sp.g.objs with
  | x0 :: _ => match blkE s x0 with
    | some b0 => mapO (fun x => match x.moves with
      | true => some b0
      | false => blkE s x) sp.g.objs
    | none => none
  | [] => none
def PSpec.leaf1 (sp : PSpec) (s : St) (id : Nat) (bs : List Nat) (ps : List E) (r : X × St) : Option (Option (X × St)) := match r.1 with
  | .normal => match sp.g.fits s bs sp.els ps r.2 with
    | some _ => some none
    | none => none
  | .exit j => match Nat.beq j id with
    | true => some (some (.normal, r.2))
    | false => some (some (.exit j, r.2))
  | .ret => some (some (.ret, r.2))
def prun (P : Program) (orc : Oracle) (lo : LoopOracle) (bs : Bodies) (fuel : Nat) (sp : PSpec) (s : St) : Option Outs := match codeAt bs sp.g.f sp.g.p with
  | some (.block id (.loop b)) => match mapO (parN s) sp.g.pars with
    | some ps => match sp.bs0 s with
      | some bl => match mapO (elemAt s) bl with
        | some _ => match exec P orc lo bs fuel sp.g.f (0 :: 0 :: sp.g.p) b s with
          | some outs0 => match mapO (sp.leaf1 s id bl ps) outs0 with
            | some ls0 => match exec P orc lo bs fuel sp.g.f (0 :: 0 :: sp.g.p) b (sp.g.temp s bl sp.els ps) with
              | some outs => match mapO (sp.g.leaf s id bl sp.els ps) outs with
                | some ls => some ((ls0.filterMap fun x => x) ++ ls.filterMap fun x => x)
                | none => none
              | none => none
            | none => none
          | none => none
        | none => none
      | none => none
    | none => none
  | _ => none
def pOracle (P : Program) (orc : Oracle) (lo2 : LoopOracle) (bs : Bodies) (fuel : Nat) (sp : PSpec) (lo : LoopOracle) : LoopOracle := fun cur p s => match Nat.beq cur sp.g.f && decide (p = sp.g.p) with
  | true => match prun P orc lo2 bs fuel sp s with
    | some outs => some (some outs)
    | none => lo cur p s
  | false => lo cur p s
theorem prun_ok {P : Program} {w0 : Base} (hcode : CodeOk w0.fn) {orc : Oracle} {lo : LoopOracle} {bs : Bodies} (ho : OracleOk P w0 orc) (hbs : BodiesOk P bs) (hlo : LoopsOk P w0 bs lo) {fuel : Nat} {sp : PSpec} (hlem : LemsOk w0.fn sp.g.lems) {s : St} {outs : Outs}
    (h : prun P orc lo bs fuel sp s = some outs) {c : Code} (hat : codeAt bs sp.g.f sp.g.p = some c) {ρ : Env2} {a : Act} {w : World} {Q : Exit → Act → World → Prop} (hw : RelW w0 ρ s w) (ha : RelA ρ s a) (hk : GoesX w0 ρ s outs Q) : c.wp P Q a w := by
  unfold prun at h
  rw [hat] at h
  split at h
  · rename_i id b hcb
    cases hcb
    split at h
    · rename_i ps hps
      split at h
      · rename_i bl hbl
        split at h
        · rename_i els0 hels
          split at h
          · rename_i outs0 hex0
            split at h
            · rename_i ls0 hls0
              split at h
              · rename_i outs1 hex
                split at h
                · rename_i ls hls
                  cases h
                  have hlow : ∀ e ∈ ps, e.low s.nv = true := fun e he => by
                    obtain ⟨x, _, hx⟩ := mapO_mem hps e he
                    unfold parN at hx
                    split at hx
                    · split at hx
                      · rename_i hl; cases hx; exact hl
                      · cases hx
                    · cases hx
                  obtain ⟨_, hmap⟩ := mapO_some hls
                  obtain ⟨_, hmap0⟩ := mapO_some hls0
                  have hblt := blocks_lt hw hels
                  let I : Act → World → Nat → Prop := fun a1 w1 n => ∃ ρ1, Le s ρ ρ1 ∧ RelW w0 ρ1 (sp.g.temp s bl sp.els ps) w1 ∧ RelA ρ1 (sp.g.temp s bl sp.els ps) a1 ∧ n = ((sp.g.meas.at (sp.g.names s ps)).den ρ1.toEnv).toNat
                  have first : b.wp P (Exit.then (fun a1 w1 => ∃ n, I a1 w1 n) (Exit.inBlock id Q)) a w := by
                    refine exec_ok ho hbs hlo fuel sp.g.f _ b _ outs0 hex0 (by simp [codeAt, hat, Code.sub]) ρ a w _ hw ha ?_
                    intro r hr ρ2 a2 w2 hle2 hb2 hv2 hw2 ha2
                    obtain ⟨i, hi1, hi2⟩ := List.getElem_of_mem hr
                    obtain ⟨y, hy1, hy2⟩ := hmap0 i r (by rw [List.getElem?_eq_getElem hi1, hi2])
                    have hyl : y ∈ ls0 := List.mem_of_getElem? hy1
                    have out : ∀ x, y = some (x, r.2) → Q x.to a2 w2 := fun x hx => hk (x, r.2) (List.mem_append_left _ (List.mem_filterMap.2 ⟨y, hyl, hx⟩)) ρ2 a2 w2 hle2 hb2 hv2 hw2 ha2
                    obtain ⟨x, s1⟩ := r
                    unfold PSpec.leaf1 at hy2
                    cases x with
                    | normal =>
                      simp only at hy2
                      split at hy2
                      · rename_i es hes
                        obtain ⟨es, bs1⟩ := es
                        obtain ⟨ρ0, hl0, hw0, ha0, _⟩ := gtemp_rel hcode hw ha hle2 hlem hblt hlow hw2.to ha2.to hes
                        exact ⟨_, ρ0, hl0, hw0, ha0, rfl⟩
                      · cases hy2
                    | exit j =>
                      simp only at hy2
                      show Exit.inBlock id Q (.exit j) a2 w2
                      split at hy2
                      · rename_i hj
                        have hj := Nat.eq_of_beq_eq_true hj
                        cases hy2
                        simp only [Exit.inBlock, hj, if_true]
                        exact out .normal rfl
                      · rename_i hj
                        have hj : ¬ j = id := fun e => by simp [e] at hj
                        cases hy2
                        simp only [Exit.inBlock]
                        rw [if_neg hj]
                        exact out (.exit j) rfl
                    | ret =>
                      simp only at hy2
                      cases hy2
                      show Exit.inBlock id Q .ret a2 w2
                      exact out .ret rfl
                  refine wp_block (wp_loop_first (fun a1 w1 => ∃ n, I a1 w1 n) (leastM I) first ?_)
                  rintro a1 w1 ⟨n, hn⟩
                  obtain ⟨⟨ρ1, hl1, hw1, ha1, hmeas⟩, _⟩ := leastM_spec hn
                  refine exec_ok ho hbs hlo fuel sp.g.f _ b _ outs1 hex (by simp [codeAt, hat, Code.sub]) ρ1 a1 w1 _ hw1 ha1 ?_
                  intro r hr ρ2 a2 w2 hle2 hb2 hv2 hw2 ha2
                  obtain ⟨i, hi1, hi2⟩ := List.getElem_of_mem hr
                  obtain ⟨y, hy1, hy2⟩ := hmap i r (by rw [List.getElem?_eq_getElem hi1, hi2])
                  have hyl : y ∈ ls := List.mem_of_getElem? hy1
                  have hvv : s.nv ≤ (sp.g.temp s bl sp.els ps).nv := by show s.nv ≤ s.nv + sp.g.ints.length + 1; omega
                  have hbb : s.nb ≤ (sp.g.temp s bl sp.els ps).nb := Nat.le_add_right _ _
                  have hl2 : Le s ρ ρ2 := Le.trans (s' := sp.g.temp s bl sp.els ps) hl1 hbb hvv hle2
                  have hnb : s.nb ≤ r.2.nb := Nat.le_trans hbb hb2
                  have hnv : s.nv ≤ r.2.nv := Nat.le_trans hvv hv2
                  have out : ∀ x, y = some (x, r.2) → Q x.to a2 w2 := fun x hx => hk (x, r.2) (List.mem_append_right _ (List.mem_filterMap.2 ⟨y, hyl, hx⟩)) ρ2 a2 w2 hl2 hnb hnv hw2 ha2
                  obtain ⟨x, s1⟩ := r
                  unfold GSpec.leaf at hy2
                  cases x with
                  | normal =>
                    simp only at hy2
                    split at hy2
                    · rename_i es2 bs2 hes2
                      split at hy2
                      · rename_i hm
                        cases hy2
                        simp only [Bool.and_eq_true] at hm
                        obtain ⟨ρ3, hl3, hw3, ha3, hv3⟩ := gtemp_rel hcode hw ha hl2 hlem hblt hlow hw2.to ha2.to hes2
                        have m1 := holdsE_den hw2.to.bd hw2.to.pc hm.1
                        have m2 := holdsE_den hw2.to.bd hw2.to.pc hm.2
                        rw [den_mkBin] at m1 m2
                        have m1 := (E.prop_iff ρ2.toEnv (.bin .lt (sp.g.meas.at (es2 ++ ps)) (sp.g.meas.at (sp.g.names s ps)))).2 m1
                        have m2 := (E.prop_iff ρ2.toEnv (.bin .le (.lit 0) (sp.g.meas.at (es2 ++ ps)))).2 m2
                        simp only [E.prop] at m1 m2
                        have e1 : (sp.g.meas.at (sp.g.names s ps)).den ρ2.toEnv = (sp.g.meas.at (sp.g.names s ps)).den ρ1.toEnv := by
                          rw [den_at, den_at]
                          congr 1
                          unfold atEnv
                          congr 1
                          · funext i
                            unfold GSpec.names
                            by_cases hi : i < sp.g.ints.length
                            · simp only [List.getD, List.getElem?_append_left (show i < (varsFrom s.nv sp.g.ints.length).length by rw [varsFrom_len]; exact hi), varsFrom_get _ _ _ hi, Option.getD_some, E.den]
                              exact hle2.2.1 (s.nv + i) (show s.nv + i < s.nv + sp.g.ints.length + 1 by omega)
                            · simp only [List.getD, List.getElem?_append_right (show (varsFrom s.nv sp.g.ints.length).length ≤ i by rw [varsFrom_len]; omega), varsFrom_len]
                              cases hg : ps[i - sp.g.ints.length]? with
                              | none => rfl
                              | some e => exact (low_le hl2 (hlow e (List.mem_of_getElem? hg))).trans (low_le hl1 (hlow e (List.mem_of_getElem? hg))).symm
                          · exact hle2.2.2.1
                        have e2 : (sp.g.meas.at (es2 ++ ps)).den ρ2.toEnv = (sp.g.meas.at (sp.g.names s ps)).den ρ3.toEnv := by
                          rw [den_at, den_at, hv3 ρ3 (Le.refl _ _)]
                        have hI : I a2 w2 ((sp.g.meas.at (sp.g.names s ps)).den ρ3.toEnv).toNat := ⟨ρ3, hl3, hw3, ha3, rfl⟩
                        refine ⟨⟨_, hI⟩, ?_⟩
                        have := (leastM_spec hI).2
                        simp only [E.den] at m2
                        show leastM I a2 w2 < leastM I a1 w1
                        omega
                      · cases hy2
                    · cases hy2
                  | exit j =>
                    simp only at hy2
                    show Exit.inBlock id Q (.exit j) a2 w2
                    split at hy2
                    · rename_i hj
                      have hj := Nat.eq_of_beq_eq_true hj
                      cases hy2
                      simp only [Exit.inBlock, hj, if_true]
                      exact out .normal rfl
                    · rename_i hj
                      have hj : ¬ j = id := fun e => by simp [e] at hj
                      cases hy2
                      simp only [Exit.inBlock]
                      rw [if_neg hj]
                      exact out (.exit j) rfl
                  | ret =>
                    simp only at hy2
                    cases hy2
                    show Exit.inBlock id Q .ret a2 w2
                    exact out .ret rfl
                · cases h
              · cases h
            · cases h
          · cases h
        · cases h
      · cases h
    · cases h
  · cases h
theorem pOracle_ok {P : Program} {w0 : Base} (hcode : CodeOk w0.fn) {orc : Oracle} {lo lo2 : LoopOracle} {bs : Bodies} (ho : OracleOk P w0 orc) (hbs : BodiesOk P bs) (hlo : LoopsOk P w0 bs lo) (hlo2 : LoopsOk P w0 bs lo2) {fuel : Nat} {sp : PSpec} (hlem : LemsOk w0.fn sp.g.lems) : LoopsOk P w0 bs (pOracle P orc lo2 bs fuel sp lo) := by
  intro cur p s outs h c hat ρ a w Q hw ha hk
  simp only [pOracle] at h
  split at h
  · rename_i hc
    simp only [Bool.and_eq_true] at hc
    have c1 := Nat.eq_of_beq_eq_true hc.1
    have c2 := of_decide_eq_true hc.2
    subst c1 c2
    split at h
    · rename_i o1 ho1
      cases h
      exact prun_ok hcode ho hbs hlo2 hlem ho1 hat hw ha hk
    · exact hlo _ _ s outs h c hat ρ a w Q hw ha hk
  · exact hlo _ _ s outs h c hat ρ a w Q hw ha hk
end Go.Sx
