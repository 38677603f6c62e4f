/- Rows that are copied into rows. -/
import Derived.Test.YtjgobpmhdeancaaSx0
namespace Go.Sx
open Go
set_option linter.unusedSimpArgs false
variable {P : Program} {w0 : Base} {w : World} {ρ : Env2} {s : St} {a : Act}

/-! ### pieces: what is written over a row, the last first -/
def conP (k : IntKind) (lo : E) : Nat → List V → Option (List (E × E × D))
  | _, [] => some []
  | i, .int k' e :: r => match decide (k' = k) with
    | true => match conP k lo (i + 1) r with
      | some l => some ((mkAdd lo (litE (i : Int)), mkAdd lo (litE ((i : Int) + 1)), .con e) :: l)
      | none => none
    | false => none
  | _, _ => none
theorem conP_some {k : IntKind} {lo : E} {ρ' : Env2} (d : D) (ws : List (E × E × D)) : ∀ {vs : List V} {i : Nat} {ps : List (E × E × D)}, conP k lo i vs = some ps →
    (∀ m : Nat, m < vs.length → (V.denL ρ' vs)[m]? = some (.int k (readW ρ'.toEnv d (ps ++ ws) (lo.den ρ'.toEnv + i + m)))) ∧
    ∀ j : Int, ¬ (lo.den ρ'.toEnv + i ≤ j ∧ j < lo.den ρ'.toEnv + i + vs.length) → readW ρ'.toEnv d (ps ++ ws) j = readW ρ'.toEnv d ws j
  | [], i, ps, h => by
    cases h
    exact ⟨fun m hm => by simp at hm, fun j _ => rfl⟩
  | v :: r, i, ps, h => by
    cases v with
    | int k' e =>
      simp only [conP] at h
      split at h
      · rename_i hk
        have hk := of_decide_eq_true hk
        subst hk
        split at h
        · rename_i l hl
          cases h
          obtain ⟨h1, h2⟩ := conP_some (ρ' := ρ') d ws hl
          have hlo : (mkAdd lo (litE (i : Int))).den ρ'.toEnv = lo.den ρ'.toEnv + i := by rw [den_mkAdd, den_litE]
          have hhi : (mkAdd lo (litE ((i : Int) + 1))).den ρ'.toEnv = lo.den ρ'.toEnv + i + 1 := by rw [den_mkAdd, den_litE]; omega
          have hi : ((i + 1 : Nat) : Int) = (i : Int) + 1 := by omega
          rw [hi] at h1 h2
          refine ⟨fun m hm => ?_, fun j hj => ?_⟩
          · cases m with
            | zero =>
              simp only [V.denL, V.den, List.getElem?_cons_zero, List.cons_append, readW, hlo, hhi]
              rw [if_pos (by omega)]
              rfl
            | succ m =>
              simp only [V.denL, List.getElem?_cons_succ, List.cons_append, readW, hlo, hhi]
              rw [if_neg (by omega)]
              have := h1 m (by simpa using hm)
              rw [this]
              congr 3
              omega
          · simp only [List.cons_append, readW, hlo, hhi]
            simp only [List.length_cons] at hj
            rw [if_neg (by omega)]
            exact h2 j (by omega)
        · cases h
      · cases h
    | _ => simp [conP] at h
/-- are all writes of a row inside this part -/
def insideP (s : St) (lo hi : E) : List (E × E × D) → Bool
  | [] => true
  | (x, y, _) :: r => uptoE s.bd s.pc lo x && uptoE s.bd s.pc y hi && insideP s lo hi r
theorem moved_app {ρ' : Env} (m : E) (d0 d : D) (lo hi : E) (ws : List (E × E × D)) : ∀ (aws : List (E × E × D)),
    (∀ j : Int, lo.den ρ' ≤ j → j < hi.den ρ' → readW ρ' d (movedWs m aws ++ (lo, hi, D.moved m d0) :: ws) j = readW ρ' d0 aws (j + m.den ρ'))
  | [], j, h1, h2 => by
    simp only [movedWs, List.nil_append, readW]
    rw [if_pos ⟨h1, h2⟩, moved_at]
  | (x, y, v) :: r, j, h1, h2 => by
    simp only [movedWs, List.cons_append, readW, den_flatE, den_mkSub, moved_at, moved_app m d0 d lo hi ws r j h1 h2]
    by_cases h : x.den ρ' ≤ j + m.den ρ' ∧ j + m.den ρ' < y.den ρ'
    · rw [if_pos (by omega), if_pos h]
    · rw [if_neg (by omega), if_neg h]
theorem moved_out {ρ' : Env} {s : St} (hb : s.bd.ok ρ') (hp : pcOk ρ' s.pc) (m : E) (d0 d : D) (lo hi slo shi : E) (hlo : lo.den ρ' + m.den ρ' = slo.den ρ') (hhi : hi.den ρ' + m.den ρ' = shi.den ρ') (ws : List (E × E × D)) : ∀ (aws : List (E × E × D)), insideP s slo shi aws = true →
    ∀ j : Int, ¬ (lo.den ρ' ≤ j ∧ j < hi.den ρ') → readW ρ' d (movedWs m aws ++ (lo, hi, D.moved m d0) :: ws) j = readW ρ' d ws j
  | [], _, j, h => by
    simp only [movedWs, List.nil_append, readW]
    rw [if_neg h]
  | (x, y, v) :: r, hi', j, h => by
    simp only [insideP, Bool.and_eq_true] at hi'
    have h1 := uptoE_of hb hp hi'.1.1
    have h2 := uptoE_of hb hp hi'.1.2
    simp only [movedWs, List.cons_append, readW, den_flatE, den_mkSub]
    rw [if_neg (by omega)]
    exact moved_out hb hp m d0 d lo hi slo shi hlo hhi ws r hi'.2 j h
/-- what fills a part of a row -/
def fillA (s : St) (A : Arr) (off hi : E) : Option D := match A.ws with
  | [] => some A.dflt
  | (x, y, d) :: _ => match uptoE s.bd s.pc x off && uptoE s.bd s.pc hi y with
    | true => some d
    | false => none
theorem fillA_of {ρ : Env} {s : St} (hb : s.bd.ok ρ) (hp : pcOk ρ s.pc) {A : Arr} {d : D} {off hi : E} (h : fillA s A off hi = some d) {j : Int} (h0 : off.den ρ ≤ j) (h1 : j < hi.den ρ) : readW ρ A.dflt A.ws j = d.at ρ j := by
  unfold fillA at h
  split at h
  · rename_i he; cases h; rw [he]; rfl
  · rename_i x y d' r he
    split at h
    · rename_i hc
      cases h
      simp only [Bool.and_eq_true] at hc
      have e1 := uptoE_of hb hp hc.1
      have e2 := uptoE_of hb hp hc.2
      rw [he]
      simp only [readW]
      rw [if_pos (by omega)]
    · cases h
/-- without what lies behind the end -/
def trimW (b : Bd) (pc : List E) (len : E) : List (E × E × D) → List (E × E × D)
  | [] => []
  | (lo, hi, d) :: r => match uptoE b pc len lo || uptoE b pc hi lo with
    | true => trimW b pc len r
    | false => (lo, hi, d) :: trimW b pc len r
theorem trimW_read {ρ : Env} {b : Bd} {pc : List E} (hb : b.ok ρ) (hp : pcOk ρ pc) {len : E} {d : D} {j : Int} (hj : j < len.den ρ) : ∀ ws : List (E × E × D), readW ρ d (trimW b pc len ws) j = readW ρ d ws j
  | [] => rfl
  | (lo, hi, v) :: r => by
    simp only [trimW]
    split
    · rename_i h
      simp only [readW]
      rw [if_neg (by
        rcases Bool.or_eq_true _ _ ▸ h with h | h
        · have := uptoE_of hb hp h; omega
        · have := uptoE_of hb hp h; omega)]
      exact trimW_read hb hp hj r
    · simp only [readW, trimW_read hb hp hj r]
/-- a row without what lies behind a place -/
def cutA (s : St) (A : Arr) (hi : E) : Arr := ⟨A.size, A.kind, A.dflt, trimW s.bd s.pc hi A.ws⟩
/-- a slice's first numbers as pieces that lie from lo on -/
def lenV (s : St) : V → Option E
  | .slice _ _ n _ => some (.lit (n : Int))
  | .sl _ _ n _ => some n
  | .nils => some (.lit 0)
  | .vf f c => match inpOf s.inp f with
    | some sp => match nonneg (itv s.bd c) && sp.len.low 1 with
      | true => some (sp.lenAt c)
      | false => none
    | none => none
  | _ => none
/-- which function says what a row of numbers that came in holds -/
def fnOf (k : IntKind) : List V → Option Nat
  | [.int k1 (.un (.wrap k2) (.fn g (.var 0) (.var 1) (.lit 0)))] => match decide (k1 = k) && decide (k2 = k) with
    | true => some g
    | false => none
  | _ => none
theorem fnOf_some {k : IntKind} {l : List V} {g : Nat} (h : fnOf k l = some g) : l = [.int k (.un (.wrap k) (.fn g (.var 0) (.var 1) (.lit 0)))] := by
  unfold fnOf at h
  split at h
  · split at h
    · rename_i hc
      simp only [Bool.and_eq_true] at hc
      have e1 := of_decide_eq_true hc.1
      have e2 := of_decide_eq_true hc.2
      subst e1 e2
      cases h
      rfl
    · cases h
  · cases h
def srcP (s : St) (k : IntKind) (cnt lo : E) : V → Option (List (E × E × D))
  | .slice b off len _ => match cnt with
    | .lit n => match s.hp.get b with
      | some ⟨vs, _, none⟩ => match decide (0 ≤ n) && decide (n ≤ (len : Int)) && Nat.ble (off + n.toNat) vs.length with
        | true => conP k lo 0 ((vs.drop off).take n.toNat)
        | false => none
      | _ => none
    | _ => none
  | .sl b off _ _ => match arrAt s b with
    | some (A, _) => match decide (A.kind = k) && nonneg (itv s.bd off) && nonneg (itv s.bd cnt) && uptoE s.bd s.pc (mkAdd off cnt) A.size with
      | true => match fillA s (cutA s A (mkAdd off cnt)) off (mkAdd off cnt) with
        | some d => some [(lo, mkAdd lo cnt, D.moved (mkSub off lo) d)]
        | none => match insideP s off (mkAdd off cnt) (cutA s A (mkAdd off cnt)).ws with
          | true => some (movedWs (mkSub off lo) (cutA s A (mkAdd off cnt)).ws ++ [(lo, mkAdd lo cnt, D.moved (mkSub off lo) A.dflt)])
          | false => none
      | false => none
    | none => none
  | .nils => match cnt with
    | .lit n => match decide (n = 0) with
      | true => some []
      | false => none
    | _ => none
  | .vf f c => match inpOf s.inp f with
    | some sp => match fnOf k sp.parts with
      | some g => match Nat.beq sp.size 1 && nonneg (itv s.bd c) && sp.len.low 1 && nonneg (itv s.bd cnt) && uptoE s.bd s.pc cnt (sp.lenAt c) with
        | true => some [(lo, mkAdd lo cnt, .fn k g (mkSub (.lit 0) lo) c)]
        | false => none
      | none => none
    | none => none
  | _ => none
theorem firstCells_list (w : World) (bs : Addr) (ln cp : Nat) (cs : List Value) (hc : ∀ (j : Nat) (v : Value), cs[j]? = some v → w.cell? (bs.add j) = some v) :
    (Builtin.firstCells 1 cs.length (.slice (some bs) ln cp)).run P w = .ok cs.toArray w := by
  have h := run_loadCells_list (P := P) w bs cs hc
  simpa [Builtin.firstCells] using h
theorem denL_one {k : IntKind} {cs : List Value} {f : Nat → Int} (h : ∀ m : Nat, m < cs.length → cs[m]? = some (.int k (f m))) : ∀ u ∈ cs, u.oneCell' = true := fun u hu => by
  obtain ⟨i, hi, rfl⟩ := List.getElem_of_mem hu
  have := h i hi
  rw [List.getElem?_eq_getElem hi] at this
  injection this with this
  rw [this]; rfl
theorem srcP_ok {ρ' : Env2} (h0 : RelW0 w0 ρ' s w) {k : IntKind} {cnt lo : E} {v : V} {ps : List (E × E × D)} (h : srcP s k cnt lo v = some ps) (d : D) (ws : List (E × E × D)) :
    ∃ cs : List Value, (cs.length : Int) = cnt.den ρ'.toEnv ∧ (Builtin.firstCells 1 cs.length (v.den ρ')).run P w = .ok cs.toArray w ∧
      (∀ m : Nat, m < cs.length → cs[m]? = some (.int k (readW ρ'.toEnv d (ps ++ ws) (lo.den ρ'.toEnv + m)))) ∧
      ∀ j : Int, ¬ (lo.den ρ'.toEnv ≤ j ∧ j < lo.den ρ'.toEnv + cnt.den ρ'.toEnv) → readW ρ'.toEnv d (ps ++ ws) j = readW ρ'.toEnv d ws j := by
  unfold srcP at h
  split at h
  · rename_i b off len cp
    split at h
    · rename_i n
      split at h
      · rename_i vs el hg
        split at h
        · rename_i hc
          simp only [Bool.and_eq_true] at hc
          have c1 := of_decide_eq_true hc.1.1
          have c3 := Nat.le_of_ble_eq_true hc.2
          obtain ⟨p1, p2⟩ := conP_some (ρ' := ρ') d ws h
          have hlen : ((vs.drop off).take n.toNat).length = n.toNat := by simp; omega
          rw [hlen] at p1 p2
          have hl2 : (V.denL ρ' ((vs.drop off).take n.toNat)).length = n.toNat := by rw [denL_len, hlen]
          refine ⟨V.denL ρ' ((vs.drop off).take n.toNat), by rw [hl2]; simp only [E.den]; omega, ?_, fun m hm => ?_, fun j hj => ?_⟩
          · refine firstCells_list w ⟨ρ'.blk b, off, none⟩ _ _ _ fun j u hu => ?_
            have hcell := cell_of h0 hg
            rw [add_addr, hcell]
            rw [denL_get] at hu
            rw [← hu]
            congr 1
            have hj : j < n.toNat := by
              rcases Nat.lt_or_ge j n.toNat with h' | h'
              · exact h'
              · rw [List.getElem?_eq_none (by omega)] at hu; cases hu
            rw [List.getElem?_take_of_lt hj, List.getElem?_drop]
          · have := p1 m (by omega)
            rw [this]
            congr 3
            omega
          · exact p2 j (by simp only [E.den] at hj; omega)
        · cases h
      · cases h
    · cases h
  · rename_i b off len cp
    split at h
    · rename_i A el hA
      split at h
      · rename_i hc
        simp only [Bool.and_eq_true] at hc
        obtain ⟨⟨⟨c1, c2⟩, c3⟩, c4⟩ := hc
        have c1 := of_decide_eq_true c1
        have d2 := nonneg_of c2 (has_itv h0.bd off)
        have d3 := nonneg_of c3 (has_itv h0.bd cnt)
        have d4 := uptoE_of h0.bd h0.pc c4
        rw [den_mkAdd] at d4
        obtain ⟨vs', hg⟩ := arrAt_some hA
        obtain ⟨cs, hcs⟩ : ∃ cs, ((List.range (cnt.den ρ'.toEnv).toNat).map fun (m : Nat) => Value.int A.kind (readW ρ'.toEnv A.dflt A.ws (off.den ρ'.toEnv + (m : Int)))) = cs := ⟨_, rfl⟩
        have hlen : cs.length = (cnt.den ρ'.toEnv).toNat := by rw [← hcs]; simp
        have hget : ∀ m : Nat, m < cs.length → cs[m]? = some (.int A.kind (readW ρ'.toEnv A.dflt A.ws (off.den ρ'.toEnv + (m : Int)))) := fun m hm => by
          rw [← hcs, List.getElem?_map, List.getElem?_range (by omega)]; rfl
        have hfirst : (Builtin.firstCells 1 cs.length (V.den ρ' (.sl b off len cp))).run P w = .ok cs.toArray w := by
          simp only [V.den]
          refine firstCells_list w _ _ _ _ fun j u hu => ?_
          have hj : j < cs.length := by
            rcases Nat.lt_or_ge j cs.length with h' | h'
            · exact h'
            · rw [List.getElem?_eq_none h'] at hu; cases hu
          rw [hget j hj] at hu
          have := cell_arr h0 hA (j := off.den ρ'.toEnv + (j : Int)) (by omega) (by omega)
          rw [add_addr, show (off.den ρ'.toEnv).toNat + j = (off.den ρ'.toEnv + (j : Int)).toNat by omega, this]
          exact hu
        have hm : (mkSub off lo).den ρ'.toEnv = off.den ρ'.toEnv - lo.den ρ'.toEnv := den_mkSub _ _ _
        have hget2 : ∀ m : Nat, m < cs.length → cs[m]? = some (.int A.kind (readW ρ'.toEnv (cutA s A (mkAdd off cnt)).dflt (cutA s A (mkAdd off cnt)).ws (off.den ρ'.toEnv + (m : Int)))) := fun m hm => by
          rw [hget m hm]
          exact congrArg some (congrArg (Value.int A.kind) (trimW_read h0.bd h0.pc (by rw [den_mkAdd]; omega) A.ws).symm)
        split at h
        · rename_i d' hd
          cases h
          refine ⟨cs, by omega, hfirst, fun m hm' => ?_, fun j hj => ?_⟩
          · rw [hget2 m hm', ← c1]
            simp only [List.cons_append, List.nil_append, readW, den_mkAdd]
            rw [if_pos (by omega), moved_at, fillA_of h0.bd h0.pc hd (by omega) (by rw [den_mkAdd]; omega), hm]
            congr 3
            omega
          · simp only [List.cons_append, List.nil_append, readW, den_mkAdd]
            rw [if_neg hj]
        · split at h
          · rename_i hin
            cases h
            refine ⟨cs, by omega, hfirst, fun m hm' => ?_, fun j hj => ?_⟩
            · rw [hget2 m hm', ← c1, List.append_assoc]
              have := moved_app (ρ' := ρ'.toEnv) (mkSub off lo) A.dflt d lo (mkAdd lo cnt) ws (cutA s A (mkAdd off cnt)).ws (lo.den ρ'.toEnv + (m : Int)) (by omega) (by rw [den_mkAdd]; omega)
              simp only [List.cons_append, List.nil_append]
              rw [this, hm]
              congr 3
              omega
            · rw [List.append_assoc]
              simp only [List.cons_append, List.nil_append]
              exact moved_out h0.bd h0.pc (mkSub off lo) A.dflt d lo (mkAdd lo cnt) off (mkAdd off cnt) (by rw [hm]; omega) (by rw [hm, den_mkAdd, den_mkAdd]; omega) ws (cutA s A (mkAdd off cnt)).ws hin j (by rw [den_mkAdd]; exact hj)
          · cases h
      · cases h
    · cases h
  · split at h
    · split at h
      · rename_i hn
        have hn := of_decide_eq_true hn
        cases h
        exact ⟨[], by simp [E.den, hn], rfl, fun m hm => by simp at hm, fun j _ => rfl⟩
      · cases h
    · cases h
  · split at h
    · rename_i f c _ sp hsp
      split at h
      · rename_i g hg
        split at h
        · rename_i hc
          cases h
          simp only [Bool.and_eq_true] at hc
          obtain ⟨⟨⟨⟨c1, c2⟩, c3⟩, c4⟩, c5⟩ := hc
          have c1 := Nat.eq_of_beq_eq_true c1
          have d2 := nonneg_of c2 (has_itv h0.bd c)
          have d4 := nonneg_of c4 (has_itv h0.bd cnt)
          have d5 := uptoE_of h0.bd h0.pc c5
          obtain ⟨a', n, cap, h1, h2, h3⟩ := in_len h0 hsp d2 c3
          rw [h2] at d5
          have hp := fnOf_some hg
          obtain ⟨cs, hcs⟩ : ∃ cs, ((List.range (cnt.den ρ'.toEnv).toNat).map fun (m : Nat) => Value.int k (k.wrap (ρ'.fn g (m : Int) (c.den ρ'.toEnv) 0))) = cs := ⟨_, rfl⟩
          have hlen : cs.length = (cnt.den ρ'.toEnv).toNat := by rw [← hcs]; simp
          have hget : ∀ m : Nat, m < cs.length → cs[m]? = some (.int k (k.wrap (ρ'.fn g (m : Int) (c.den ρ'.toEnv) 0))) := fun m hm => by
            rw [← hcs, List.getElem?_map, List.getElem?_range (by omega)]; rfl
          have hv : V.den ρ' (.vf f c) = .slice a' n cap := by simp only [V.den, h1, sliceIn]
          have hfirst : (Builtin.firstCells 1 cs.length (V.den ρ' (.vf f c))).run P w = .ok cs.toArray w := by
            rw [hv]
            by_cases hz : cs.length = 0
            · have : cs = [] := List.eq_nil_of_length_eq_zero hz
              subst this
              cases a' with
              | none => rfl
              | some b => exact firstCells_list w b n cap [] (fun j v hj => by simp at hj)
            · obtain ⟨b, rfl, _, _⟩ := h3 0 (by omega)
              refine firstCells_list w b n cap cs fun j u hu => ?_
              have hj : j < cs.length := by
                rcases Nat.lt_or_ge j cs.length with h' | h'
                · exact h'
                · rw [List.getElem?_eq_none h'] at hu; cases hu
              rw [hget j hj] at hu
              obtain ⟨b', e1, _, e3⟩ := h3 j (by omega)
              cases e1
              have := e3 0 _ (by rw [hp]; rfl)
              rw [c1, Nat.mul_one, Nat.add_zero] at this
              rw [this, ← hu]
              simp only [V.den, E.den, Un.den, Env2.two, if_true]
              rw [show (((c.den ρ'.toEnv).toNat : Nat) : Int) = c.den ρ'.toEnv by omega]
              rfl
          refine ⟨cs, by omega, hfirst, fun m hm' => ?_, fun j hj => ?_⟩
          · rw [hget m hm']
            simp only [List.cons_append, List.nil_append, readW, den_mkAdd]
            rw [if_pos (by omega)]
            simp only [D.at, den_mkSub, E.den]
            congr 4
            omega
          · simp only [List.cons_append, List.nil_append, readW, den_mkAdd]
            rw [if_neg hj]
        · cases h
      · cases h
    · cases h
  · cases h
/-! ### two pieces that hold the same number and touch are one -/
def D.con? : D → Option E
  | .con e => some e
  | _ => none
def normW : List (E × E × D) → List (E × E × D)
  | (lo, hi, .con e) :: (x, y, .con f) :: r => match e.beq f && lo.beq y with
    | true => (x, hi, .con e) :: r
    | false => (lo, hi, .con e) :: (x, y, .con f) :: r
  | ws => ws
/-- it holds where pieces are not the wrong way round -/
def straight (s : St) : List (E × E × D) → Bool
  | (lo, hi, .con _) :: (x, y, .con _) :: _ => uptoE s.bd s.pc lo hi && uptoE s.bd s.pc x y
  | _ => true
theorem normW_read {ρ' : Env} {s : St} (hb : s.bd.ok ρ') (hp : pcOk ρ' s.pc) (d : D) : ∀ {ws : List (E × E × D)}, straight s ws = true → ∀ j, readW ρ' d (normW ws) j = readW ρ' d ws j := by
  intro ws h j
  unfold normW
  split
  · rename_i lo hi e x y f r
    simp only [straight, Bool.and_eq_true] at h
    have h1 := uptoE_of hb hp h.1
    have h2 := uptoE_of hb hp h.2
    split
    · rename_i hc
      simp only [Bool.and_eq_true] at hc
      have e1 := E.eq_of_beq hc.1
      have e2 := E.eq_of_beq hc.2
      subst e1 e2
      simp only [readW, D.at]
      by_cases c1 : lo.den ρ' ≤ j ∧ j < hi.den ρ'
      · rw [if_pos c1, if_pos (by omega)]
      · by_cases c2 : x.den ρ' ≤ j ∧ j < lo.den ρ'
        · rw [if_neg c1, if_pos c2, if_pos (by omega)]
        · rw [if_neg c1, if_neg c2, if_neg (by omega)]
    · rfl
  · rfl
def normS (s : St) (ws : List (E × E × D)) : List (E × E × D) := match straight s ws with
  | true => normW ws
  | false => ws
theorem normS_read {ρ' : Env} {s : St} (hb : s.bd.ok ρ') (hp : pcOk ρ' s.pc) (d : D) (ws : List (E × E × D)) (j : Int) : readW ρ' d (normS s ws) j = readW ρ' d ws j := by
  unfold normS
  split
  · rename_i h; exact normW_read hb hp d h j
  · rfl
/-! ### a row written over, told by what is read -/
theorem set_any (ρ' : Env) (B B' : Arr) (lo : Nat) (cs : List Value) (hs : B'.size = B.size) (hk : B'.kind = B.kind) (h1 : lo + cs.length ≤ (B.size.den ρ').toNat)
    (hcs : ∀ j : Nat, j < cs.length → cs[j]? = some (Value.int B.kind (readW ρ' B'.dflt B'.ws ((lo + j : Nat) : Int))))
    (hout : ∀ j : Nat, ¬ (lo ≤ j ∧ j < lo + cs.length) → readW ρ' B'.dflt B'.ws (j : Int) = readW ρ' B.dflt B.ws (j : Int)) :
    (((B.den ρ').toList.take lo) ++ cs ++ ((B.den ρ').toList.drop (lo + cs.length))).toArray = B'.den ρ' := by
  apply Array.ext'
  apply List.ext_getElem?
  intro j
  have hsz : (B.den ρ').toList.length = (B.size.den ρ').toNat := by rw [Array.length_toList, den_size]
  rw [List.append_assoc]
  by_cases hj : j < (B.size.den ρ').toNat
  · rw [Array.getElem?_toList (xs := B'.den ρ'), den_get ρ' B' (by rw [hs]; exact hj), hk]
    have hold := den_get ρ' B hj
    rw [← Array.getElem?_toList] at hold
    by_cases c1 : j < lo
    · rw [List.getElem?_append_left (by rw [List.length_take]; omega), List.getElem?_take_of_lt c1, hold, hout j (by omega)]
    · rw [List.getElem?_append_right (by rw [List.length_take]; omega), List.length_take, show min lo (B.den ρ').toList.length = lo by omega]
      by_cases c2 : j < lo + cs.length
      · rw [List.getElem?_append_left (by omega), hcs _ (by omega), show lo + (j - lo) = j by omega]
      · rw [List.getElem?_append_right (by omega), List.getElem?_drop, hout j (by omega), ← hold]
        congr 1
        omega
  · rw [List.getElem?_eq_none (by simp only [List.length_append, List.length_take, List.length_drop]; omega), List.getElem?_eq_none (by rw [Array.length_toList, den_size, hs]; exact Nat.le_of_not_lt hj)]
/-! ### copy -/
/-- a number that is known -/
def litOf (s : St) (e : E) : E := match itv s.bd e with
  | (some a, some b) => match decide (a = b) with
    | true => .lit a
    | false => e
  | _ => e
theorem den_litOf {ρ' : Env} {s : St} (hb : s.bd.ok ρ') (e : E) : (litOf s e).den ρ' = e.den ρ' := by
  unfold litOf
  split
  · rename_i a b he
    split
    · rename_i hab
      have hab := of_decide_eq_true hab
      have h := has_itv hb e
      rw [he] at h
      have h1 := h.1 a rfl
      have h2 := h.2 b rfl
      simp only [E.den]
      omega
    · rfl
  · rfl
def copyOne (s : St) (b : Nat) (off cnt dl : E) (src : V) : Option (V × St) := match s.hp.get b with
  | some ⟨vs', el, some B⟩ => match nonneg (itv s.bd off) && uptoE s.bd s.pc (mkAdd off dl) B.size && uptoE s.bd s.pc cnt dl with
    | true => match srcP s B.kind cnt off src with
      | some ps => some (.int .i64 cnt, s.setRow b ⟨vs', el, some ⟨B.size, B.kind, B.dflt, normS s (ps ++ B.ws)⟩⟩)
      | none => none
    | false => none
  | _ => none
def copyR (P : Program) (s : St) (bi : Builtin) (ts : Array TypeId) (vs : List V) : Option (List (V × St)) := match bi with
  | .copy => match vs with
    | [.sl b off dl _, src] => match ts[0]? with
      | some t => match P.underlying t with
        | some (.slice e) => match sizeT P e with
          | some 1 => match lenV s src with
            | some sl => match (mkBin .le sl dl).low s.nv && nonneg (itv s.bd sl) && nonneg (itv s.bd dl) with
              | true => mapO (fun p : Bool × St => copyOne p.2 b off (litOf p.2 (match p.1 with | true => sl | false => dl)) dl src) (branch s (mkBin .le sl dl))
              | false => none
            | none => none
          | _ => none
        | _ => none
      | none => none
    | _ => none
  | _ => none
theorem lenV_run {ρ' : Env2} (h0 : RelW0 w0 ρ' s w) {v : V} {sl : E} (h : lenV s v = some sl) : (Builtin.lenOf (v.den ρ')).run P w = .ok (sl.den ρ'.toEnv).toNat w := by
  unfold lenV at h
  split at h
  · cases h; simp [V.den, Builtin.lenOf, E.den]
  · cases h; simp [V.den, Builtin.lenOf]
  · cases h; simp [V.den, Builtin.lenOf, E.den]
  · split at h
    · rename_i f c _ sp hsp
      split at h
      · rename_i hc
        cases h
        simp only [Bool.and_eq_true] at hc
        obtain ⟨a', n, cap, h1, h2, _⟩ := in_len h0 hsp (nonneg_of hc.1 (has_itv h0.bd c)) hc.2
        simp [V.den, h1, sliceIn, Builtin.lenOf, h2]
      · cases h
    · cases h
  · cases h
theorem step_copyR (hw : RelW w0 ρ s w) (ha : RelA ρ s a) {o : Oper} {c : Call} {bi : Builtin} {vs : List V} (ho : o.op = .call c) (hc : c.callee = .builtin bi) (hvs : evs s c.args = some vs) {r : List (V × St)} (hr : copyR P s bi c.argTypes vs = some r) :
    ∃ p ∈ r, Step P w0 ρ s a w o p.1 p.2 := by
  unfold copyR at hr
  split at hr
  · split at hr
    · rename_i b off dl dc src
      split at hr
      · rename_i t t0
        split at hr
        · rename_i e ht
          split at hr
          · rename_i hz
            split at hr
            · rename_i sl hsl
              split at hr
              · rename_i hcond
                simp only [Bool.and_eq_true] at hcond
                obtain ⟨⟨cl, cs1⟩, cd⟩ := hcond
                have hst : ∀ ρ', Le s ρ ρ' → ((mkBin .le sl dl).den ρ'.toEnv != 0) = ((mkBin .le sl dl).den ρ.toEnv != 0) := fun ρ' hle => by rw [low_le hle cl]
                obtain ⟨s1, hm, hw1, ha1, h3, h4, h5, h6⟩ := branch_ok hw ha (mkBin .le sl dl) _ hst
                obtain ⟨i, hi1, hi2⟩ := List.getElem_of_mem hm
                obtain ⟨y, hy1, hy2⟩ := (mapO_some hr).2 i _ (by rw [List.getElem?_eq_getElem hi1, hi2])
                have hmem : y ∈ r := List.mem_of_getElem? hy1
                refine ⟨y, hmem, ?_⟩
                obtain ⟨cnt, hcnt⟩ : ∃ cnt, litOf s1 (match ((mkBin .le sl dl).den ρ.toEnv != 0) with | true => sl | false => dl) = cnt := ⟨_, rfl⟩
                simp only [hcnt] at hy2
                have hle1 : ∀ {ρ'}, Le s1 ρ ρ' ↔ Le s ρ ρ' := by simp [Le, h3, h4]
                unfold copyOne at hy2
                split at hy2
                · rename_i vs' el B hg
                  split at hy2
                  · rename_i hq
                    simp only [Bool.and_eq_true] at hq
                    obtain ⟨⟨q1, q2⟩, q3⟩ := hq
                    split at hy2
                    · rename_i ps hps
                      cases hy2
                      have cell : ∀ ρ', Le s ρ ρ' → (execOp a.eval o).run P w = .ok (.value (.int .i64 (cnt.den ρ'.toEnv))) (w.setRow (ρ.blk b) (Arr.den ρ'.toEnv ⟨B.size, B.kind, B.dflt, normS s1 (ps ++ B.ws)⟩)) := by
                        intro ρ' hle
                        have h0 := hw1 ρ' (hle1.2 hle)
                        have h00 := hw ρ' hle
                        obtain ⟨hb, hlo, hhi, hcell⟩ := h0.hp b _ hg
                        have d1 := nonneg_of q1 (has_itv h0.bd off)
                        have d2 := uptoE_of h0.bd h0.pc q2
                        have d3 := uptoE_of h0.bd h0.pc q3
                        have d4 := nonneg_of cs1 (has_itv h00.bd sl)
                        have d5 := nonneg_of cd (has_itv h00.bd dl)
                        rw [den_mkAdd] at d2
                        obtain ⟨cs, k1, k2, k3, k4⟩ := srcP_ok (P := P) h0 hps B.dflt B.ws
                        have hblk : ρ'.blk b = ρ.blk b := (hle1.2 hle).1 b hb
                        have hcv : cnt.den ρ'.toEnv = min (sl.den ρ'.toEnv) (dl.den ρ'.toEnv) := by
                          have h7 := hst ρ' hle
                          rw [den_mkBin] at h7
                          simp only [Bi.den, b2i_bne] at h7
                          rw [← hcnt, den_litOf h0.bd]
                          cases hbv : ((mkBin .le sl dl).den ρ.toEnv != 0) with
                          | true => rw [hbv, decide_eq_true_eq] at h7; simp only; omega
                          | false => rw [hbv, decide_eq_false_iff_not] at h7; simp only; omega
                        have hset := set_any ρ'.toEnv B ⟨B.size, B.kind, B.dflt, normS s1 (ps ++ B.ws)⟩ (off.den ρ'.toEnv).toNat cs rfl rfl (by omega)
                          (fun j hj => by
                            rw [k3 j hj]
                            simp only
                            rw [normS_read h0.bd h0.pc]
                            congr 3
                            omega)
                          (fun j hj => by
                            simp only
                            rw [normS_read h0.bd h0.pc]
                            exact k4 j (by omega))
                        have hrun := run_storeCells_at (P := P) (ρ'.blk b) (off.den ρ'.toEnv).toNat el cs 0 (B.den ρ'.toEnv) w hcell (by rw [den_size]; omega) (denL_one k3)
                        simp only [Nat.add_zero] at hrun
                        rw [hset, hblk] at hrun
                        have hmin : Nat.min (sl.den ρ'.toEnv).toNat (dl.den ρ'.toEnv).toNat = cs.length := by
                          have : Nat.min (sl.den ρ'.toEnv).toNat (dl.den ρ'.toEnv).toNat = min (sl.den ρ'.toEnv).toNat (dl.den ρ'.toEnv).toNat := rfl
                          omega
                        have hargs := den_evs (ha ρ' hle) hvs
                        simp only [execOp, ho, resolve, hc, hargs, Sem.run_bind, Sem.run_pure, Result.andThen_ok, invoke, builtin, V.denL, V.den, Builtin.copy_, t0, List.getElem?_toArray, List.getElem?_cons_zero, List.getElem?_cons_succ, run_underlying ht, lenV_run (P := P) h00 hsl, hmin, run_sizeT w hz, k2, List.toList_toArray, hblk, hrun]
                        simp only [goInt]
                        congr 3
                      have c0 := cell ρ (Le.refl _ _)
                      refine ⟨.value _, _, ρ, _, c0, .inl rfl, fun ρ' hle => ?_, Le.refl _ _, relW_setRow hw1 hg ⟨vs', el, some ⟨B.size, B.kind, B.dflt, normS s1 (ps ++ B.ws)⟩⟩ rfl _ fun ρ' hle => ?_, h5, h6, Nat.le_of_eq h3.symm, Nat.le_of_eq h4.symm⟩
                      · have h1 := cell ρ' (hle1.1 hle)
                        rw [c0] at h1
                        injection h1 with h1
                        injection h1 with h1
                        exact h1.symm
                      · have h1 := cell ρ' (hle1.1 hle)
                        rw [c0] at h1
                        injection h1 with _ h1
                        have hcell := (hw1.to.hp b _ hg).2.2.2
                        have := congrArg (fun w : World => w.heap[ρ.blk b]?) h1
                        simp only [O.den] at hcell
                        rw [setRow_heap w _ _ _ el (0, 0) hcell, setRow_heap w _ _ _ el (0, 0) hcell] at this
                        simp at this
                        exact this.symm
                    · cases hy2
                  · cases hy2
                · cases hy2
              · cases hr
            · cases hr
          · cases hr
        · cases hr
      · cases hr
    · cases hr
  · cases hr
/-! ### append of numbers to nothing: a new row -/
theorem growBy_le4 (need : Nat) : ∀ (r c : Nat), c ≤ need + need / 4 + 512 → Builtin.growBy need r c ≤ need + need / 4 + 512
  | 0, c, h => h
  | r + 1, c, h => by
    simp only [Builtin.growBy]
    split
    · exact h
    · exact growBy_le4 need r _ (by omega)
theorem next_le4 {need cap : Nat} (h : cap < need) : Builtin.nextslicecap need cap ≤ need + need / 4 + 512 := by
  unfold Builtin.nextslicecap
  split
  · omega
  · split
    · omega
    · exact growBy_le4 need 4 cap (by omega)
theorem run_appendV (w : World) {ts : Array TypeId} {t tx ty e ex : TypeId} {ie : TypeInfo} {k : IntKind} (t0 : ts[0]? = some t) (t1 : ts[1]? = some tx) (ht : P.underlying t = some (.slice e)) (hx : P.underlying tx = some (.slice ex))
    (hi : P.info? e = some ie) (hz : ie.zero = some (.int k 0)) (hs : ie.size = 1) (hb : ie.bytes ≤ 8) (base : Option Addr) (sLen sCap n : Nat) (x : Value) (olds news : Array Value)
    (hlen : (Builtin.lenOf x).run P w = .ok n w) (hold : (Builtin.firstCells 1 sLen (.slice base sLen sCap)).run P w.drew = .ok olds w.drew) (hnew : (Builtin.firstCells 1 n x).run P w.drew = .ok news w.drew)
    (hg : sCap < sLen + n) (hl : sLen + n ≤ 17592186044416) (N : Nat) (hN : N = (Question.appendCap (sLen + n) sCap e).cut (w.tape w.drawn (.appendCap (sLen + n) sCap e))) :
    (Builtin.append_ ts ty #[.slice base sLen sCap, x]).run P w =
      .ok (.slice (some ⟨w.heap.size, 0, none⟩) (sLen + n) N) (({ w with drawn := w.drawn + 1 } : World).alloc (.cells (olds ++ news ++ Array.replicate (N - (sLen + n)) (.int k 0)) e)) := by
  have h3 : ¬ (sLen + n ≤ sCap) := by omega
  have h4 : ¬ (9223372036854775807 < ((sLen : Int) + (n : Int))) := by omega
  have hnx := next_le4 hg
  have h5 : ¬ (281474976710656 < Builtin.nextslicecap (sLen + n) sCap * ie.bytes) := by
    have : Builtin.nextslicecap (sLen + n) sCap * ie.bytes ≤ Builtin.nextslicecap (sLen + n) sCap * 8 := Nat.mul_le_mul_left _ hb
    omega
  have hq : (Question.appendCap (sLen + n) sCap e).forced = false := rfl
  simp [Builtin.append_, t0, t1, run_underlying ht, run_underlying hx, sizeOf, typeInfo, hi, hs, hlen, h3, h4, h5, hq, zeroValue, hz, newRow, newObj, Sem.run, zero_cells, ← hN]
  rw [hold]
  simp only [Result.andThen_ok, hnew]
  rfl
theorem new_row (ρ' : Env) (k : IntKind) (ps : List (E × E × D)) (cs : List Value) (N : Nat) (hN : cs.length ≤ N)
    (h1 : ∀ m : Nat, m < cs.length → cs[m]? = some (.int k (readW ρ' (.con (.lit 0)) ps (m : Int)))) (h2 : ∀ j : Int, (cs.length : Int) ≤ j → readW ρ' (.con (.lit 0)) ps j = 0) :
    cs.toArray ++ Array.replicate (N - cs.length) (.int k 0) = Arr.den ρ' ⟨.lit (N : Int), k, .con (.lit 0), ps⟩ := by
  apply Array.ext
  · rw [Array.size_append, Array.size_replicate, den_size, List.size_toArray]; show cs.length + (N - cs.length) = (N : Int).toNat; omega
  · intro i h3 h4
    have hi : i < N := by rw [den_size] at h4; exact h4
    have e := den_get ρ' ⟨.lit (N : Int), k, .con (.lit 0), ps⟩ (j := i) (by show i < (N : Int).toNat; omega)
    rw [Array.getElem?_eq_getElem h4] at e
    injection e with e
    rw [e]
    by_cases hlt : i < cs.length
    · rw [Array.getElem_append_left (by rw [List.size_toArray]; exact hlt)]
      have g := h1 i hlt
      rw [List.getElem?_eq_getElem hlt] at g
      injection g with g
    · rw [Array.getElem_append_right (by rw [List.size_toArray]; omega), Array.getElem_replicate, h2 (i : Int) (by omega)]
/-- is it nothing that can be written to -/
def emptyV : V → Bool
  | .nils => true
  | .slice _ _ len cap => Nat.beq len 0 && Nat.beq cap 0
  | _ => false
def appendNew (s : St) (e : TypeId) (k : IntKind) (sl : E) (src : V) : Option (V × St) := match within (itv s.bd sl) (some 1, some 17592186044416) with
  | true => match srcP s k sl (.lit 0) src with
    | some ps => some (.sl s.nb (.lit 0) sl (.var s.nv), ((s.fresh (capBd s)).assume (mkBin .le sl (.var s.nv))).allocO ⟨[], e, some ⟨.var s.nv, k, .con (.lit 0), ps⟩⟩)
    | none => none
  | false => none
def appendN (P : Program) (s : St) (bi : Builtin) (ts : Array TypeId) (vs : List V) : Option (List (V × St)) := match bi with
  | .append => match vs with
    | [base, src] => match ts[0]?, ts[1]? with
      | some t, some tx => match P.underlying t, P.underlying tx with
        | some (.slice e), some (.slice _) => match P.info? e with
          | some ie => match ie.zero with
            | some (.int k 0) => match lenV s src with
              | some sl => match emptyV base && Nat.beq ie.size 1 && Nat.ble ie.bytes 8 && sl.low s.nv with
                | true => match appendNew s e k sl src with
                  | some r => some [r]
                  | none => none
                | false => none
              | none => none
            | _ => none
          | none => none
        | _, _ => none
      | _, _ => none
    | _ => none
  | _ => none
theorem step_appendN (hw : RelW w0 ρ s w) (ha : RelA ρ s a) {o : Oper} {c : Call} {bi : Builtin} {vs : List V} (ho : o.op = .call c) (hc : c.callee = .builtin bi) (hvs : evs s c.args = some vs) {r : List (V × St)} (hr : appendN P s bi c.argTypes vs = some r) :
    ∃ p ∈ r, Step P w0 ρ s a w o p.1 p.2 := by
  unfold appendN at hr
  split at hr
  · split at hr
    · rename_i base src
      split at hr
      · rename_i t tx t0 t1
        split at hr
        · rename_i e ex ht hx
          split at hr
          · rename_i ie hi
            split at hr
            · rename_i k hz
              split at hr
              · rename_i sl hsl
                split at hr
                · rename_i hcond
                  simp only [Bool.and_eq_true] at hcond
                  obtain ⟨⟨⟨c1, c2⟩, c3⟩, c4⟩ := hcond
                  have c2 := Nat.eq_of_beq_eq_true c2
                  have c3 := Nat.le_of_ble_eq_true c3
                  split at hr
                  · rename_i q hq
                    cases hr
                    unfold appendNew at hq
                    split at hq
                    · rename_i hwi
                      split at hq
                      · rename_i ps hps
                        cases hq
                        have hbase : ∃ b : Option Addr, ∀ ρ' : Env2, Le s ρ ρ' → ∃ b' : Option Addr, base.den ρ' = .slice b' 0 0 := by
                          refine ⟨none, fun ρ' _ => ?_⟩
                          cases base <;> simp only [emptyV] at c1 <;> try contradiction
                          · rename_i b off len cp
                            simp only [Bool.and_eq_true] at c1
                            have e1 := Nat.eq_of_beq_eq_true c1.1
                            have e2 := Nat.eq_of_beq_eq_true c1.2
                            subst e1 e2
                            exact ⟨_, rfl⟩
                          · exact ⟨_, rfl⟩
                        have nums : ∀ ρ', Le s ρ ρ' → 1 ≤ sl.den ρ'.toEnv ∧ sl.den ρ'.toEnv ≤ 17592186044416 := fun ρ' hle => within_of hwi (has_itv (hw ρ' hle).bd sl)
                        have stab : ∀ ρ', Le s ρ ρ' → sl.den ρ'.toEnv = sl.den ρ.toEnv := fun ρ' hle => low_le hle c4
                        obtain ⟨m, hm⟩ : ∃ m, (Question.appendCap (sl.den ρ.toEnv).toNat 0 e).cut (w.tape w.drawn (.appendCap (sl.den ρ.toEnv).toNat 0 e)) = m := ⟨_, rfl⟩
                        have hm2 : (sl.den ρ.toEnv).toNat ≤ m ∧ m ≤ 9223372036854775807 := by
                          have h1 := nums ρ (Le.refl _ _)
                          rw [← hm]
                          simp only [Question.cut]
                          have := Nat.mod_lt (w.tape w.drawn (.appendCap (sl.den ρ.toEnv).toNat 0 e)) (show 0 < 2 ^ 63 - (sl.den ρ.toEnv).toNat by omega)
                          omega
                        have cell : ∀ ρ', Le s ρ ρ' → (execOp a.eval o).run P w = .ok (.value (.slice (some ⟨w.heap.size, 0, none⟩) (sl.den ρ.toEnv).toNat m)) (({ w with drawn := w.drawn + 1 } : World).alloc (.cells (Arr.den ρ'.toEnv ⟨.lit (m : Int), k, .con (.lit 0), ps⟩) e)) := by
                          intro ρ' hle
                          have h0 := hw ρ' hle
                          have n1 := nums ρ' hle
                          have s1 := stab ρ' hle
                          obtain ⟨b', hb'⟩ := hbase.choose_spec ρ' hle
                          obtain ⟨cs, k1, k2, k3, k4⟩ := srcP_ok (P := P) h0 hps (.con (.lit 0)) []
                          obtain ⟨cs', k1', k2', k3', k4'⟩ := srcP_ok (P := P) (w := w.drew) (relW_drawn hw ρ' hle) hps (.con (.lit 0)) []
                          have hlen : cs.length = (sl.den ρ.toEnv).toNat := by omega
                          have hlen' : cs'.length = (sl.den ρ.toEnv).toNat := by omega
                          have hcc : cs' = cs := by
                            apply List.ext_getElem?
                            intro j
                            by_cases hj : j < cs.length
                            · rw [k3 j hj, k3' j (by omega)]
                            · rw [List.getElem?_eq_none (by omega), List.getElem?_eq_none (by omega)]
                          rw [hcc] at k2'
                          have hrun := run_appendV (P := P) (ty := o.type) w t0 t1 ht hx hi hz c2 c3 b' 0 0 cs.length (src.den ρ') #[] cs.toArray (by rw [lenV_run h0 hsl]; congr 1; omega) (by
                            cases b' with
                            | none => rfl
                            | some ad =>
                              have := firstCells_list (P := P) w.drew ad 0 0 [] (fun j v hv => by simp at hv)
                              simpa using this) k2' (by omega) (by omega) m (by rw [← hm, hlen, Nat.zero_add])
                          have hrow := new_row ρ'.toEnv k ps cs m (by omega) (fun j hj => by
                            have := k3 j hj
                            simp only [List.append_nil, E.den] at this
                            rw [this]
                            congr 3
                            omega) (fun j hj => by
                            have := k4 j (by simp only [E.den]; omega)
                            simp only [List.append_nil, readW, D.at, E.den] at this
                            exact this)
                          have hargs := den_evs (ha ρ' hle) hvs
                          rw [Nat.zero_add] at hrun
                          have hemp : (#[] : Array Value) ++ cs.toArray = cs.toArray := by simp
                          rw [hemp, hrow] at hrun
                          simp only [execOp, ho, resolve, hc, hargs, Sem.run_bind, Sem.run_pure, Result.andThen_ok, invoke, builtin, V.denL, hb']
                          rw [hlen] at hrun
                          simp only [hrun, Result.andThen_ok]
                        have h1 : RelW w0 (ρ.setV s.nv (m : Int)) (s.fresh (capBd s)) { w with drawn := w.drawn + 1 } := relW_fresh (relW_drawn hw) fun ρ' hv p hp => by
                          simp only [capBd, List.mem_singleton] at hp
                          subst hp
                          show Iv.has _ (ρ'.v s.nv)
                          rw [hv]
                          exact ⟨fun l hl => by cases hl; omega, fun l hl => by cases hl; omega⟩
                        have h2 : RelW w0 (ρ.setV s.nv (m : Int)) ((s.fresh (capBd s)).assume (mkBin .le sl (.var s.nv))) { w with drawn := w.drawn + 1 } := relW_assume h1 fun ρ' hle => by
                          obtain ⟨hle0, hv⟩ := le_fresh hle
                          rw [den_mkBin]
                          show b2i (decide (_ ≤ ρ'.v s.nv)) ≠ 0
                          have s1 := stab ρ' hle0
                          have n1 := nums ρ (Le.refl _ _)
                          rw [hv, s1, b2i_ne, decide_eq_true_eq]
                          omega
                        have c0 := cell ρ (Le.refl _ _)
                        have hdenm : ∀ ρ' : Env2, ρ'.v s.nv = (m : Int) → O.cells ρ' ⟨[], e, some ⟨.var s.nv, k, .con (.lit 0), ps⟩⟩ = Arr.den ρ'.toEnv ⟨.lit (m : Int), k, .con (.lit 0), ps⟩ := fun ρ' hv => by
                          show Arr.den ρ'.toEnv _ = _
                          simp only [Arr.den, Arr.row, E.den, hv]
                        have h3 := relW_allocO h2 ⟨[], e, some ⟨.var s.nv, k, .con (.lit 0), ps⟩⟩ (Arr.den ρ.toEnv ⟨.lit (m : Int), k, .con (.lit 0), ps⟩) fun ρ' hle => by
                          obtain ⟨hle0, hv⟩ := le_fresh (s := s) (ρ := ρ) (n := (m : Int)) (b := capBd s) hle
                          rw [hdenm ρ' hv]
                          have h1 := cell ρ' hle0
                          rw [c0] at h1
                          injection h1 with _ h1
                          have := congrArg (fun w : World => w.heap[w.heap.size - 1]?) h1
                          simp only [World.alloc, Array.size_push, Nat.add_sub_cancel] at this
                          simp at this
                          exact this.symm
                        have hle1 : Le s ρ ((ρ.setV s.nv (m : Int)).setBlk s.nb w.heap.size) := (le_setV s ρ m).trans (s' := (s.fresh (capBd s)).assume (mkBin .le sl (.var s.nv))) (Nat.le_refl _) (Nat.le_succ _) (le_setBlk ((s.fresh (capBd s)).assume (mkBin .le sl (.var s.nv))) _ _)
                        refine ⟨_, List.mem_singleton.2 rfl, _, _, (ρ.setV s.nv (m : Int)).setBlk s.nb w.heap.size, _, c0, .inl rfl, fun ρ' hle => ?_, hle1, h3, rfl, rfl, Nat.le_succ _, Nat.le_succ _⟩
                        have hblk : ρ'.blk s.nb = w.heap.size := (hle.1 s.nb (Nat.lt_succ_self _)).trans (by simp [Env2.setBlk])
                        have hvar : ρ'.v s.nv = (m : Int) := (hle.2.1 s.nv (Nat.lt_succ_self _)).trans (by simp [Env2.setBlk, Env2.setV])
                        have hle2 : Le s ρ ρ' := hle1.trans (s' := ((s.fresh (capBd s)).assume (mkBin .le sl (.var s.nv))).allocO ⟨[], e, some ⟨.var s.nv, k, .con (.lit 0), ps⟩⟩) (Nat.le_succ _) (Nat.le_succ _) hle
                        have s1 := stab ρ' hle2
                        simp only [V.den, E.den, hblk, hvar, s1, Int.toNat_natCast, Int.toNat_zero]
                      · cases hq
                    · cases hq
                  · cases hr
                · cases hr
              · cases hr
            · cases hr
          · cases hr
        · cases hr
      · cases hr
    · cases hr
  · cases hr
/-! ### the first part of a row -/
def sliceH (P : Program) (s : St) (t : TypeId) (x hi : V) : Option (List (V × St)) := match x with
  | .sl b off _ cap => match P.underlying t with
    | some (.slice e) => match sizeT P e with
      | some 1 => match hi with
        | .int _ h => match nonneg (itv s.bd off) && nonneg (itv s.bd h) && uptoE s.bd s.pc h cap with
          | true => some [(.sl b off h cap, s)]
          | false => none
        | _ => none
      | _ => none
    | _ => none
  | _ => none
theorem step_sliceH (hw : RelW w0 ρ s w) (ha : RelA ρ s a) {o : Oper} {t : TypeId} {x h : Operand} {xv hv : V} (ho : o.op = .slice t x none (some h) none) (hx : evO s x = some xv) (hh : evO s h = some hv)
    {r : List (V × St)} (hr : sliceH P s t xv hv = some r) : ∃ p ∈ r, Step P w0 ρ s a w o p.1 p.2 := by
  unfold sliceH at hr
  split at hr
  · rename_i b off len cap
    split at hr
    · rename_i e hu
      split at hr
      · rename_i hz
        split at hr
        · rename_i kh he
          split at hr
          · rename_i hc
            cases hr
            simp only [Bool.and_eq_true] at hc
            obtain ⟨⟨c1, c2⟩, c3⟩ := hc
            refine ⟨_, List.mem_singleton.2 rfl, step_calm hw fun ρ' hle => ?_⟩
            have h0 := hw ρ' hle
            have d1 := nonneg_of c1 (has_itv h0.bd off)
            have d2 := nonneg_of c2 (has_itv h0.bd he)
            have d3 := uptoE_of h0.bd h0.pc c3
            have hbd : ∀ c, (Instr.sliceBound (Value.int kh (he.den ρ'.toEnv)) (cap.den ρ'.toEnv).toNat c).run P w = .ok (he.den ρ'.toEnv).toNat w := fun c =>
              run_sliceBound (P := P) w kh (he.den ρ'.toEnv) (cap.den ρ'.toEnv).toNat c (by omega) (by omega)
            simp only [execOp, ho, den_evO (ha ρ' hle) hx, evO_opt (ha ρ' hle) hh, Option.map_none, V.den, Instr.sliceAt, Sem.run_bind, run_underlying hu, Result.andThen_ok, Instr.slice, Instr.sliceBounds, Sem.run_pure,
              hbd, run_sizeT w hz, Option.isSome_some, if_true, Option.map_some, Nat.mul_one, Nat.sub_zero, add_addr, Nat.zero_mul, Nat.add_zero]
            simp
          · cases hr
        · cases hr
      · cases hr
    · cases hr
  · cases hr
/-! ### a slice against nil -/
def nilS (P : Program) (s : St) (op : BinOp) (t : TypeId) (x y : V) : Option (List (V × St)) := match P.underlying t with
  | some (.slice _) => match y with
    | .nils => match (match x with
        | .sl _ _ _ _ => some false
        | .slice _ _ _ _ => some false
        | .nils => some true
        | _ => none) with
      | some r => match op with
        | .eql => some [(.bool (.lit (b2i r)), s)]
        | .neq => some [(.bool (.lit (b2i (!r))), s)]
        | _ => none
      | none => none
    | _ => none
  | _ => none
theorem equal_nils (w : World) {t e : TypeId} (h : P.underlying t = some (.slice e)) (a : Option Addr) (l c : Nat) : (Op.equal t (.slice a l c) (.slice none 0 0)).run P w = .ok a.isNone w := by
  have key : ∀ n, (Op.equalIn (n + 1) t (.slice a l c) (.slice none 0 0)).run P w = .ok a.isNone w := fun n => by
    cases a <;> simp [Op.equalIn, run_underlying h]
  exact key 9999
theorem step_nilS (hw : RelW w0 ρ s w) (ha : RelA ρ s a) {o : Oper} {op : BinOp} {t t2 : TypeId} {x y : Operand} {xv yv : V} (ho : o.op = .binOp op t x y t2) (hx : evO s x = some xv) (hy : evO s y = some yv) {r : List (V × St)} (hr : nilS P s op t xv yv = some r) :
    ∃ p ∈ r, Step P w0 ρ s a w o p.1 p.2 := by
  unfold nilS at hr
  split at hr
  · rename_i e hu
    split at hr
    · split at hr
      · rename_i r' hr'
        have hd : ∀ ρ' : Env2, ∃ (q : Option Addr) (l c : Nat), xv.den ρ' = .slice q l c ∧ q.isNone = r' := by
          intro ρ'
          cases xv <;> simp at hr'
          · exact ⟨_, _, _, rfl, by simp [← hr']⟩
          · exact ⟨_, _, _, rfl, by simp [← hr']⟩
          · exact ⟨none, 0, 0, rfl, by simp [hr']⟩
        split at hr
        · cases hr
          refine ⟨_, List.mem_singleton.2 rfl, step_calm hw fun ρ' hle => ?_⟩
          obtain ⟨q, l, c, hq, hn⟩ := hd ρ'
          simp only [execOp, ho, den_evO (ha ρ' hle) hx, den_evO (ha ρ' hle) hy, hq, V.den, Sem.run_bind, eqGuard, binOp, E.den, b2i_bne]
          simp [equal_nils w hu, hn]
        · cases hr
          refine ⟨_, List.mem_singleton.2 rfl, step_calm hw fun ρ' hle => ?_⟩
          obtain ⟨q, l, c, hq, hn⟩ := hd ρ'
          simp only [execOp, ho, den_evO (ha ρ' hle) hx, den_evO (ha ρ' hle) hy, hq, V.den, Sem.run_bind, eqGuard, binOp, E.den, b2i_bne]
          simp [equal_nils w hu, hn]
        · cases hr
      · cases hr
    · cases hr
  · cases hr
/-! ### a slice of nothing -/
def build0 (P : Program) (s : St) (t : TypeId) (len : Nat) (ps : Array (Nat × Operand)) : Option (List (V × St)) := match Nat.beq len 0 && Nat.beq ps.size 0 with
  | true => match P.underlying t with
    | some (.slice e) => match P.info? e with
      | some _ => some [(.slice s.nb 0 0 0, s.alloc [] e)]
      | none => none
    | _ => none
  | false => none
theorem step_build0 (hw : RelW w0 ρ s w) {o : Oper} {t : TypeId} {len : Nat} {ps : Array (Nat × Operand)} (ho : o.op = .buildSlice t len ps) {r : List (V × St)} (hr : build0 P s t len ps = some r) :
    ∃ p ∈ r, Step P w0 ρ s a w o p.1 p.2 := by
  unfold build0 at hr
  split at hr
  · rename_i hc
    simp only [Bool.and_eq_true] at hc
    have e1 := Nat.eq_of_beq_eq_true hc.1
    have e2 := Nat.eq_of_beq_eq_true hc.2
    subst e1
    have e3 : ps = #[] := Array.eq_empty_of_size_eq_zero e2
    subst e3
    split at hr
    · rename_i e hu
      split at hr
      · rename_i ie hie
        cases hr
        have cell : (execOp a.eval o).run P w = .ok (.value (.slice (some ⟨w.heap.size, 0, none⟩) 0 0)) (w.alloc (.cells #[] e)) := by
          simp [execOp, ho, Instr.buildSlice, run_underlying hu, sizeOf, typeInfo, hie, Instr.fill, newRow]
          have e0 : (Array.range 0) = #[] := by simp [Array.range]
          rw [e0]
          simp
        have hset : ∀ ρ', Le (s.alloc [] e) (ρ.setBlk s.nb w.heap.size) ρ' → ρ'.blk s.nb = w.heap.size := fun ρ' hle => (hle.1 s.nb (by simp [St.alloc, St.allocO])).trans (by simp [Env2.setBlk])
        refine ⟨_, List.mem_singleton.2 rfl, _, _, ρ.setBlk s.nb w.heap.size, _, cell, .inl rfl, fun ρ' hle => ?_, le_setBlk _ _ _, relW_alloc hw _ _ #[] fun ρ' hle => ?_, rfl, rfl, Nat.le_succ _, Nat.le_refl _⟩
        · simp only [V.den, hset ρ' hle]
        · simp [V.denL]
      · cases hr
    · cases hr
  · cases hr
/-! ### append of numbers to a row: one way for both: the row gets a new name, the elder one is no more -/
def zeroD : D → Bool
  | .con (.lit n) => decide (n = 0)
  | _ => false
theorem zeroD_eq : ∀ {d : D}, zeroD d = true → d = .con (.lit 0)
  | .con (.lit n), h => by rw [of_decide_eq_true h]
def rowM (s : St) (k : IntKind) (len sl cap : E) (A : Arr) : Bool := decide (A.kind = k) && zeroD A.dflt && A.size.beq cap && insideWs s.bd s.pc len A.ws && len.low s.nv && cap.low s.nv && sl.low s.nv &&
  nonneg (itv s.bd len) && uptoE s.bd s.pc len cap && within (itv s.bd sl) (some 1, some 512) && within (itv s.bd len) (some 0, some 17592186043904) && within (itv s.bd cap) (some 0, some 9223372036854775807)
def moreM (s : St) (b : Nat) (e : TypeId) (k : IntKind) (len sl : E) (ps ws : List (E × E × D)) : St :=
  { (s.fresh (capBd s)).assume (mkBin .le (mkAdd len sl) (.var s.nv)) with hp := (s.hp.put s.nb ⟨[], e, some ⟨.var s.nv, k, .con (.lit 0), normS s (ps ++ ws)⟩⟩).del b, nb := s.nb + 1 }
def appendM (P : Program) (s : St) (bi : Builtin) (ts : Array TypeId) (vs : List V) : Option (List (V × St)) := match bi with
  | .append => match vs with
    | [.sl b off len cap, src] => match ts[0]?, ts[1]? with
      | some t, some tx => match P.underlying t, P.underlying tx with
        | some (.slice e), some (.slice _) => match P.info? e with
          | some ie => match ie.zero with
            | some (.int k 0) => match lenV s src with
              | some sl => match s.hp.get b with
                | some ⟨_, el, some A⟩ => match off.beq (.lit 0) && Nat.beq ie.size 1 && Nat.ble ie.bytes 8 && Nat.beq el e && rowM s k len sl cap A with
                  | true => match srcP s k sl len src with
                    | some ps => some [(.sl s.nb (.lit 0) (mkAdd len sl) (.var s.nv), moreM s b e k len sl ps A.ws)]
                    | none => none
                  | false => none
                | _ => none
              | none => none
            | _ => none
          | none => none
        | _, _ => none
      | _, _ => none
    | _ => none
  | _ => none
theorem run_appendI (w w' : World) {ts : Array TypeId} {t tx ty e ex : TypeId} {ie : TypeInfo} (t0 : ts[0]? = some t) (t1 : ts[1]? = some tx) (ht : P.underlying t = some (.slice e)) (hx : P.underlying tx = some (.slice ex))
    (hi : P.info? e = some ie) (hs : ie.size = 1) (ad : Addr) (sLen sCap n : Nat) (x : Value) (news : Array Value)
    (hlen : (Builtin.lenOf x).run P w = .ok n w) (hnew : (Builtin.firstCells 1 n x).run P w = .ok news w) (hg : sLen + n ≤ sCap) (hst : (storeCells (ad.add sLen) news.toList).run P w = .ok () w') :
    (Builtin.append_ ts ty #[.slice (some ad) sLen sCap, x]).run P w = .ok (.slice (some ad) (sLen + n) sCap) w' := by
  simp [Builtin.append_, t0, t1, run_underlying ht, run_underlying hx, sizeOf, typeInfo, hi, hs, hlen, hg]
  rw [hnew]
  simp only [Result.andThen_ok, hst]
theorem relW_hp (h : RelW w0 ρ s w) (t : T O) (ht : ∀ i o, t.get i = some o → s.hp.get i = some o) : RelW w0 ρ { s with hp := t } w := fun ρ' hle =>
  let h0 := h ρ' hle
  ⟨h0.ext, h0.fn, fun i o ho => h0.hp i o (ht i o ho), fun i j o o' hi hj hij => h0.inj i j o o' (ht i o hi) (ht j o' hj) hij, h0.gl, h0.bd, h0.pc⟩
theorem relW_moved (h : RelW w0 ρ s w) {b : Nat} {o : O} (hb : s.hp.get b = some o) (o1 : O) (ho : ∀ ρ', Le s ρ ρ' → o1.den ρ' = o.den ρ') :
    RelW w0 (ρ.setBlk s.nb (ρ.blk b)) { s with hp := (s.hp.put s.nb o1).del b, nb := s.nb + 1 } w := by
  intro ρ' hle
  have hle0 : Le s ρ ρ' := (le_setBlk s ρ _).trans (s' := { s with hp := (s.hp.put s.nb o1).del b, nb := s.nb + 1 }) (Nat.le_succ _) (Nat.le_refl _) hle
  have h0 := h ρ' hle0
  obtain ⟨b1, b2, b3, b4⟩ := h0.hp b o hb
  have hnb : ρ'.blk s.nb = ρ'.blk b := by
    rw [hle.1 s.nb (Nat.lt_succ_self _), hle0.1 b b1]
    simp [Env2.setBlk]
  have get : ∀ i o', ((s.hp.put s.nb o1).del b).get i = some o' → i ≠ b ∧ ((i = s.nb ∧ o' = o1) ∨ s.hp.get i = some o') := fun i o' hg => by
    rw [T.get_del] at hg
    split at hg
    · cases hg
    · rename_i hib
      rw [T.get_put] at hg
      split at hg
      · rename_i hi; cases hg; exact ⟨hib, .inl ⟨hi, rfl⟩⟩
      · exact ⟨hib, .inr hg⟩
  refine ⟨h0.ext, h0.fn, fun i o' hg => ?_, fun i j o' o2 hi hj hij => ?_, h0.gl, h0.bd, h0.pc⟩
  · rcases (get i o' hg).2 with ⟨rfl, rfl⟩ | hg
    · rw [hnb, ho ρ' hle0]; exact ⟨Nat.lt_succ_self _, b2, b3, b4⟩
    · obtain ⟨c1, c2⟩ := h0.hp i o' hg; exact ⟨Nat.lt_succ_of_lt c1, c2⟩
  · obtain ⟨n1, g1⟩ := get i o' hi
    obtain ⟨n2, g2⟩ := get j o2 hj
    rcases g1 with ⟨rfl, rfl⟩ | g1 <;> rcases g2 with ⟨rfl, rfl⟩ | g2
    · rfl
    · exact absurd (h0.inj b j o o2 hb g2 (hnb.symm.trans hij)).symm n2
    · exact absurd (h0.inj i b o' o g1 hb (hij.trans hnb)) n1
    · exact h0.inj i j o' o2 g1 g2 hij
theorem step_appendM (hw : RelW w0 ρ s w) (ha : RelA ρ s a) {o : Oper} {c : Call} {bi : Builtin} {vs : List V} (ho : o.op = .call c) (hc : c.callee = .builtin bi) (hvs : evs s c.args = some vs) {r : List (V × St)} (hr : appendM P s bi c.argTypes vs = some r) :
    ∃ p ∈ r, Step P w0 ρ s a w o p.1 p.2 := by
  unfold appendM at hr
  split at hr
  · split at hr
    · rename_i b off len cap src
      split at hr
      · rename_i t tx t0 t1
        split at hr
        · rename_i e ex ht hx
          split at hr
          · rename_i ie hi
            split at hr
            · rename_i k hz
              split at hr
              · rename_i sl hsl
                split at hr
                · rename_i vs' el A hg
                  split at hr
                  · rename_i hcond
                    simp only [rowM, Bool.and_eq_true] at hcond
                    obtain ⟨⟨⟨⟨e1, c2⟩, c3⟩, e2⟩, ⟨⟨⟨⟨⟨⟨⟨⟨⟨⟨⟨r1, r2⟩, r3⟩, r4⟩, r5⟩, r6⟩, r7⟩, r8⟩, r9⟩, r10⟩, r11⟩, r12⟩⟩ := hcond
                    have e1 := E.eq_of_beq e1
                    have c2 := Nat.eq_of_beq_eq_true c2
                    have c3 := Nat.le_of_ble_eq_true c3
                    have e2 := Nat.eq_of_beq_eq_true e2
                    have r1 := of_decide_eq_true r1
                    have r2 := zeroD_eq r2
                    have r3 := E.eq_of_beq r3
                    subst e1 e2
                    split at hr
                    · rename_i ps hps
                      cases hr
                      refine ⟨_, List.mem_singleton.2 rfl, ?_⟩
                      have nums : ∀ ρ', Le s ρ ρ' → (1 ≤ sl.den ρ'.toEnv ∧ sl.den ρ'.toEnv ≤ 512) ∧ (0 ≤ len.den ρ'.toEnv ∧ len.den ρ'.toEnv ≤ 17592186043904) ∧ (0 ≤ cap.den ρ'.toEnv ∧ cap.den ρ'.toEnv ≤ 9223372036854775807) ∧ len.den ρ'.toEnv ≤ cap.den ρ'.toEnv := fun ρ' hle =>
                        ⟨within_of r10 (has_itv (hw ρ' hle).bd sl), within_of r11 (has_itv (hw ρ' hle).bd len), within_of r12 (has_itv (hw ρ' hle).bd cap), uptoE_of (hw ρ' hle).bd (hw ρ' hle).pc r9⟩
                      have ssl : ∀ ρ', Le s ρ ρ' → sl.den ρ'.toEnv = sl.den ρ.toEnv := fun ρ' hle => low_le hle r7
                      have sln : ∀ ρ', Le s ρ ρ' → len.den ρ'.toEnv = len.den ρ.toEnv := fun ρ' hle => low_le hle r5
                      have scp : ∀ ρ', Le s ρ ρ' → cap.den ρ'.toEnv = cap.den ρ.toEnv := fun ρ' hle => low_le hle r6
                      have N0 := nums ρ (Le.refl _ _)
                      by_cases hfit : len.den ρ.toEnv + sl.den ρ.toEnv ≤ cap.den ρ.toEnv
                      · -- in its place
                        have cell : ∀ ρ', Le s ρ ρ' → (execOp a.eval o).run P w = .ok (.value (.slice (some ⟨ρ.blk b, 0, none⟩) (len.den ρ.toEnv + sl.den ρ.toEnv).toNat (cap.den ρ.toEnv).toNat)) (w.setRow (ρ.blk b) (Arr.den ρ'.toEnv ⟨A.size, A.kind, A.dflt, normS s (ps ++ A.ws)⟩)) := by
                          intro ρ' hle
                          have h0 := hw ρ' hle
                          obtain ⟨hb, _, _, hcell⟩ := h0.hp b _ hg
                          have n1 := nums ρ' hle
                          have q1 := ssl ρ' hle
                          have q2 := sln ρ' hle
                          have q3 := scp ρ' hle
                          have hblk : ρ'.blk b = ρ.blk b := hle.1 b hb
                          obtain ⟨cs, k1, k2, k3, k4⟩ := srcP_ok (P := P) h0 hps A.dflt A.ws
                          rw [← r1] at k3
                          have hset := set_any ρ'.toEnv A ⟨A.size, A.kind, A.dflt, normS s (ps ++ A.ws)⟩ (len.den ρ'.toEnv).toNat cs rfl rfl (by rw [r3]; omega)
                            (fun j hj => by
                              rw [k3 j hj]
                              simp only
                              rw [normS_read h0.bd h0.pc]
                              congr 3
                              omega)
                            (fun j hj => by
                              simp only
                              rw [normS_read h0.bd h0.pc]
                              exact k4 j (by omega))
                          have hrun := run_storeCells_at (P := P) (ρ'.blk b) (len.den ρ'.toEnv).toNat el cs 0 (A.den ρ'.toEnv) w hcell (by rw [den_size, r3]; omega) (denL_one k3)
                          simp only [Nat.add_zero] at hrun
                          rw [hset, hblk] at hrun
                          have happ := run_appendI (P := P) (ty := o.type) w _ t0 t1 ht hx hi c2 ⟨ρ.blk b, 0, none⟩ (len.den ρ'.toEnv).toNat (cap.den ρ'.toEnv).toNat cs.length (src.den ρ') cs.toArray (by rw [lenV_run h0 hsl]; congr 1; omega) k2 (by omega) (by
                            have : (⟨ρ.blk b, 0, none⟩ : Addr).add (len.den ρ'.toEnv).toNat = ⟨ρ.blk b, (len.den ρ'.toEnv).toNat, none⟩ := by rw [add_addr, Nat.zero_add]
                            rw [this]
                            exact hrun)
                          have hargs := den_evs (ha ρ' hle) hvs
                          have hl1 : (len.den ρ'.toEnv).toNat + cs.length = (len.den ρ.toEnv + sl.den ρ.toEnv).toNat := by omega
                          rw [hl1, q3] at happ
                          simp only [execOp, ho, resolve, hc, hargs, Sem.run_bind, Sem.run_pure, Result.andThen_ok, invoke, builtin, V.denL, V.den, E.den, Int.toNat_zero, hblk, q3]
                          simp only [happ, Result.andThen_ok]
                        have c0 := cell ρ (Le.refl _ _)
                        have h1 := relW_setRow hw hg ⟨vs', el, some ⟨A.size, A.kind, A.dflt, normS s (ps ++ A.ws)⟩⟩ rfl (Arr.den ρ.toEnv ⟨A.size, A.kind, A.dflt, normS s (ps ++ A.ws)⟩) fun ρ' hle => by
                          have h1 := cell ρ' hle
                          rw [c0] at h1
                          injection h1 with _ h1
                          have hcell := (hw.to.hp b _ hg).2.2.2
                          have := congrArg (fun w : World => w.heap[ρ.blk b]?) h1
                          simp only [O.den] at hcell
                          rw [setRow_heap w _ _ _ el (0, 0) hcell, setRow_heap w _ _ _ el (0, 0) hcell] at this
                          simp at this
                          exact this.symm
                        let o1 : O := ⟨[], el, some ⟨.var s.nv, k, .con (.lit 0), normS s (ps ++ A.ws)⟩⟩
                        have hcb : ∀ n : Int, 0 ≤ n → n ≤ 9223372036854775807 → ∀ ρ' : Env2, ρ'.v s.nv = n → Bd.ok ρ'.toEnv (capBd s) := fun n g1 g2 ρ' hv p hp => by
                          simp only [capBd, List.mem_singleton] at hp
                          subst hp
                          show Iv.has _ (ρ'.v s.nv)
                          rw [hv]
                          exact ⟨fun l hl => by cases hl; omega, fun l hl => by cases hl; omega⟩
                        have h2 := relW_fresh h1 (n := cap.den ρ.toEnv) (b := capBd s) (hcb _ (by omega) (by omega))
                        have h3 := relW_assume h2 (e := mkBin .le (mkAdd len sl) (.var s.nv)) fun ρ' hle => by
                          obtain ⟨hle0, hv⟩ := le_fresh (s := s.setRow b ⟨vs', el, some ⟨A.size, A.kind, A.dflt, normS s (ps ++ A.ws)⟩⟩) (ρ := ρ) (n := cap.den ρ.toEnv) (b := capBd s) hle
                          rw [den_mkBin]
                          show b2i (decide (_ ≤ ρ'.v s.nv)) ≠ 0
                          have g1 := ssl ρ' hle0
                          have g2 := sln ρ' hle0
                          have hv : ρ'.v s.nv = cap.den ρ.toEnv := hv
                          rw [den_mkAdd, hv, g1, g2, b2i_ne, decide_eq_true_eq]
                          exact hfit
                        have h4 := relW_moved h3 (b := b) (o := ⟨vs', el, some ⟨A.size, A.kind, A.dflt, normS s (ps ++ A.ws)⟩⟩) (by show (s.hp.put b _).get b = _; rw [T.get_put, if_pos rfl]) o1 fun ρ' hle => by
                          obtain ⟨hle0, hv⟩ := le_fresh (s := s.setRow b ⟨vs', el, some ⟨A.size, A.kind, A.dflt, normS s (ps ++ A.ws)⟩⟩) (ρ := ρ) (n := cap.den ρ.toEnv) (b := capBd s) hle
                          have hv : ρ'.v s.nv = cap.den ρ.toEnv := hv
                          have g3 := scp ρ' hle0
                          simp only [O.den, O.cells, o1, Arr.den, Arr.row, E.den, hv, r1, r2, r3, g3]
                        have h5 := relW_hp h4 ((s.hp.put s.nb o1).del b) fun i o' hg' => by
                          rw [T.get_del] at hg'
                          show (((s.hp.put b _).put s.nb o1).del b).get i = _
                          rw [T.get_del, T.get_put, T.get_put]
                          split at hg'
                          · cases hg'
                          · rename_i hib
                            rw [if_neg hib]
                            rw [T.get_put] at hg'
                            rw [if_neg hib]
                            exact hg'
                        have hle1 : Le s ρ ((ρ.setV s.nv (cap.den ρ.toEnv)).setBlk s.nb (ρ.blk b)) := (le_setV s ρ _).trans (s' := s.fresh (capBd s)) (Nat.le_refl _) (Nat.le_succ _) (le_setBlk (s.fresh (capBd s)) _ _)
                        refine ⟨_, _, (ρ.setV s.nv (cap.den ρ.toEnv)).setBlk s.nb (ρ.blk b), _, c0, .inl rfl, fun ρ' hle => ?_, hle1, h5, rfl, rfl, Nat.le_succ _, Nat.le_succ _⟩
                        have hblk : ρ'.blk s.nb = ρ.blk b := (hle.1 s.nb (Nat.lt_succ_self _)).trans (by simp [Env2.setBlk])
                        have hvar : ρ'.v s.nv = cap.den ρ.toEnv := (hle.2.1 s.nv (Nat.lt_succ_self _)).trans (by simp [Env2.setBlk, Env2.setV])
                        have hle2 : Le s ρ ρ' := hle1.trans (s' := moreM s b el k len sl ps A.ws) (Nat.le_succ _) (Nat.le_succ _) hle
                        simp only [V.den, E.den, den_mkAdd, hblk, hvar, ssl ρ' hle2, sln ρ' hle2, Int.toNat_zero]
                      · -- elsewhere
                        let o1 : O := ⟨[], el, some ⟨.var s.nv, k, .con (.lit 0), normS s (ps ++ A.ws)⟩⟩
                        have hcb : ∀ n : Int, 0 ≤ n → n ≤ 9223372036854775807 → ∀ ρ' : Env2, ρ'.v s.nv = n → Bd.ok ρ'.toEnv (capBd s) := fun n g1 g2 ρ' hv p hp => by
                          simp only [capBd, List.mem_singleton] at hp
                          subst hp
                          show Iv.has _ (ρ'.v s.nv)
                          rw [hv]
                          exact ⟨fun l hl => by cases hl; omega, fun l hl => by cases hl; omega⟩
                        obtain ⟨m, hm⟩ : ∃ m, (Question.appendCap (len.den ρ.toEnv + sl.den ρ.toEnv).toNat (cap.den ρ.toEnv).toNat el).cut (w.tape w.drawn (.appendCap (len.den ρ.toEnv + sl.den ρ.toEnv).toNat (cap.den ρ.toEnv).toNat el)) = m := ⟨_, rfl⟩
                        have hm2 : (len.den ρ.toEnv + sl.den ρ.toEnv).toNat ≤ m ∧ m ≤ 9223372036854775807 := by
                          rw [← hm]
                          simp only [Question.cut]
                          have := Nat.mod_lt (w.tape w.drawn (.appendCap (len.den ρ.toEnv + sl.den ρ.toEnv).toNat (cap.den ρ.toEnv).toNat el)) (show 0 < 2 ^ 63 - (len.den ρ.toEnv + sl.den ρ.toEnv).toNat by omega)
                          omega
                        have hA : arrAt s b = some (A, el) := by unfold arrAt; rw [hg]
                        have cell : ∀ ρ', Le s ρ ρ' → (execOp a.eval o).run P w = .ok (.value (.slice (some ⟨w.heap.size, 0, none⟩) (len.den ρ.toEnv + sl.den ρ.toEnv).toNat m)) (({ w with drawn := w.drawn + 1 } : World).alloc (.cells (Arr.den ρ'.toEnv ⟨.lit (m : Int), k, .con (.lit 0), normS s (ps ++ A.ws)⟩) el)) := by
                          intro ρ' hle
                          have h0 := hw ρ' hle
                          have hd0 : RelW0 w0 ρ' s w.drew := relW_drawn hw ρ' hle
                          have n1 := nums ρ' hle
                          have q1 := ssl ρ' hle
                          have q2 := sln ρ' hle
                          have q3 := scp ρ' hle
                          obtain ⟨cs, k1, k2, k3, k4⟩ := srcP_ok (P := P) h0 hps A.dflt A.ws
                          obtain ⟨cs', k1', k2', k3', k4'⟩ := srcP_ok (P := P) (w := w.drew) hd0 hps A.dflt A.ws
                          have hcc : cs' = cs := by
                            apply List.ext_getElem?
                            intro j
                            by_cases hj : j < cs.length
                            · rw [k3 j hj, k3' j (by omega)]
                            · rw [List.getElem?_eq_none (by omega), List.getElem?_eq_none (by omega)]
                          rw [hcc] at k2'
                          obtain ⟨ds, hds⟩ : ∃ ds, ((List.range (len.den ρ'.toEnv).toNat).map fun (j : Nat) => Value.int A.kind (readW ρ'.toEnv A.dflt A.ws (j : Int))) = ds := ⟨_, rfl⟩
                          have hdl : ds.length = (len.den ρ'.toEnv).toNat := by rw [← hds]; simp
                          have hdg : ∀ j : Nat, j < ds.length → ds[j]? = some (.int A.kind (readW ρ'.toEnv A.dflt A.ws (j : Int))) := fun j hj => by
                            rw [← hds, List.getElem?_map, List.getElem?_range (by omega)]; rfl
                          have hold : (Builtin.firstCells 1 (len.den ρ'.toEnv).toNat (.slice (some ⟨ρ'.blk b, 0, none⟩) (len.den ρ'.toEnv).toNat (cap.den ρ'.toEnv).toNat)).run P w.drew = .ok ds.toArray w.drew := by
                            have := firstCells_list (P := P) w.drew ⟨ρ'.blk b, 0, none⟩ (len.den ρ'.toEnv).toNat (cap.den ρ'.toEnv).toNat ds fun j u hu => by
                              have hj : j < ds.length := by
                                rcases Nat.lt_or_ge j ds.length with h' | h'
                                · exact h'
                                · rw [List.getElem?_eq_none h'] at hu; cases hu
                              rw [hdg j hj] at hu
                              have := cell_arr hd0 hA (j := (j : Int)) (by omega) (by rw [r3]; omega)
                              rw [add_addr, show 0 + j = ((j : Int)).toNat by omega, this]
                              exact hu
                            rwa [hdl] at this
                          have hrun := run_appendV (P := P) (ty := o.type) w t0 t1 ht hx hi hz c2 c3 (some ⟨ρ'.blk b, 0, none⟩) (len.den ρ'.toEnv).toNat (cap.den ρ'.toEnv).toNat cs.length (src.den ρ') ds.toArray cs.toArray (by rw [lenV_run h0 hsl]; congr 1; omega) hold k2' (by omega) (by omega) m (by
                            rw [← hm, show (len.den ρ'.toEnv).toNat + cs.length = (len.den ρ.toEnv + sl.den ρ.toEnv).toNat by omega, q3])
                          have hrow := new_row ρ'.toEnv k (normS s (ps ++ A.ws)) (ds ++ cs) m (by rw [List.length_append]; omega) (fun j hj => by
                            rw [List.length_append] at hj
                            rw [normS_read h0.bd h0.pc, ← r2]
                            by_cases hjl : j < ds.length
                            · rw [List.getElem?_append_left hjl, hdg j hjl, k4 (j : Int) (by omega), r1]
                            · rw [List.getElem?_append_right (by omega), k3 _ (by omega)]
                              congr 3
                              omega) (fun j hj => by
                            rw [List.length_append] at hj
                            rw [normS_read h0.bd h0.pc, ← r2, k4 j (by omega), insideWs_of h0.bd h0.pc r4 A.dflt j (by omega), r2]
                            rfl)
                          have hargs := den_evs (ha ρ' hle) hvs
                          have happ : ds.toArray ++ cs.toArray = (ds ++ cs).toArray := by simp
                          rw [happ, show (len.den ρ'.toEnv).toNat + cs.length = (ds ++ cs).length by rw [List.length_append, hdl], hrow, show (ds ++ cs).length = (len.den ρ.toEnv + sl.den ρ.toEnv).toNat by rw [List.length_append]; omega] at hrun
                          simp only [execOp, ho, resolve, hc, hargs, Sem.run_bind, Sem.run_pure, Result.andThen_ok, invoke, builtin, V.denL, V.den, E.den, Int.toNat_zero]
                          simp only [hrun, Result.andThen_ok]
                        have h2 := relW_fresh (relW_drawn hw) (n := (m : Int)) (b := capBd s) (hcb _ (by omega) (by omega))
                        have h3 := relW_assume h2 (e := mkBin .le (mkAdd len sl) (.var s.nv)) fun ρ' hle => by
                          obtain ⟨hle0, hv⟩ := le_fresh (s := s) (ρ := ρ) (n := (m : Int)) (b := capBd s) hle
                          rw [den_mkBin]
                          show b2i (decide (_ ≤ ρ'.v s.nv)) ≠ 0
                          have g1 := ssl ρ' hle0
                          have g2 := sln ρ' hle0
                          rw [den_mkAdd, hv, g1, g2, b2i_ne, decide_eq_true_eq]
                          omega
                        have c0 := cell ρ (Le.refl _ _)
                        have h4 := relW_allocO h3 o1 (Arr.den ρ.toEnv ⟨.lit (m : Int), k, .con (.lit 0), normS s (ps ++ A.ws)⟩) fun ρ' hle => by
                          obtain ⟨hle0, hv⟩ := le_fresh (s := s) (ρ := ρ) (n := (m : Int)) (b := capBd s) hle
                          have hd : O.cells ρ' o1 = Arr.den ρ'.toEnv ⟨.lit (m : Int), k, .con (.lit 0), normS s (ps ++ A.ws)⟩ := by
                            show Arr.den ρ'.toEnv _ = _
                            simp only [Arr.den, Arr.row, E.den, hv]
                          rw [hd]
                          have h1 := cell ρ' hle0
                          rw [c0] at h1
                          injection h1 with _ h1
                          have := congrArg (fun w : World => w.heap[w.heap.size - 1]?) h1
                          simp only [World.alloc, Array.size_push, Nat.add_sub_cancel] at this
                          simp at this
                          exact this.symm
                        have h5 := relW_hp h4 ((s.hp.put s.nb o1).del b) fun i o' hg' => by
                          rw [T.get_del] at hg'
                          split at hg'
                          · cases hg'
                          · exact hg'
                        have hle1 : Le s ρ ((ρ.setV s.nv (m : Int)).setBlk s.nb w.heap.size) := (le_setV s ρ _).trans (s' := s.fresh (capBd s)) (Nat.le_refl _) (Nat.le_succ _) (le_setBlk (s.fresh (capBd s)) _ _)
                        refine ⟨_, _, (ρ.setV s.nv (m : Int)).setBlk s.nb w.heap.size, _, c0, .inl rfl, fun ρ' hle => ?_, hle1, h5, rfl, rfl, Nat.le_succ _, Nat.le_succ _⟩
                        have hblk : ρ'.blk s.nb = w.heap.size := (hle.1 s.nb (Nat.lt_succ_self _)).trans (by simp [Env2.setBlk])
                        have hvar : ρ'.v s.nv = (m : Int) := (hle.2.1 s.nv (Nat.lt_succ_self _)).trans (by simp [Env2.setBlk, Env2.setV])
                        have hle2 : Le s ρ ρ' := hle1.trans (s' := moreM s b el k len sl ps A.ws) (Nat.le_succ _) (Nat.le_succ _) hle
                        simp only [V.den, E.den, den_mkAdd, hblk, hvar, ssl ρ' hle2, sln ρ' hle2, Int.toNat_zero, Int.toNat_natCast]
                    · cases hr
                  · cases hr
                · cases hr
              · cases hr
            · cases hr
          · cases hr
        · cases hr
      · cases hr
    · cases hr
  · cases hr
/-! ### all of them -/
def opC (P : Program) (s : St) (o : Oper) : Option (List (V × St)) := match o.op with
  | .call c => match c.callee with
    | .builtin bi => match evs s c.args with
      | some vs => orA (copyR P s bi c.argTypes vs) (orA (appendN P s bi c.argTypes vs) (appendM P s bi c.argTypes vs))
      | none => none
    | _ => none
  | .slice t x none (some hi) none => match evO s x, evO s hi with
    | some v, some h => sliceH P s t v h
    | _, _ => none
  | .binOp op t x y _ => match evO s x, evO s y with
    | some v, some u => nilS P s op t v u
    | _, _ => none
  | .buildSlice t len ps => build0 P s t len ps
  | _ => none
theorem step_opC (hw : RelW w0 ρ s w) (ha : RelA ρ s a) {o : Oper} {l : List (V × St)} (h : opC P s o = some l) : ∃ p ∈ l, Step P w0 ρ s a w o p.1 p.2 := by
  unfold opC at h
  split at h <;> rename_i ho
  · split at h
    · rename_i hc
      split at h
      · rename_i hvs
        rcases orA_some h with h | h
        · exact step_copyR hw ha ho hc hvs h
        · rcases orA_some h with h | h
          · exact step_appendN hw ha ho hc hvs h
          · exact step_appendM hw ha ho hc hvs h
      · cases h
    · cases h
  · split at h
    · rename_i hx hh; exact step_sliceH hw ha ho hx hh h
    · cases h
  · split at h
    · rename_i hx hy; exact step_nilS hw ha ho hx hy h
    · cases h
  · exact step_build0 hw ho h
  · cases h
def opW (P : Program) (s : St) (o : Oper) : Option (List (V × St)) := orA (opX P s o) (opC P s o)
theorem step_opW (hw : RelW w0 ρ s w) (ha : RelA ρ s a) {o : Oper} {l : List (V × St)} (h : opW P s o = some l) : ∃ p ∈ l, Step P w0 ρ s a w o p.1 p.2 := by
  rcases orA_some h with h | h
  · exact step_opX hw ha h
  · exact step_opC hw ha h
end Go.Sx
