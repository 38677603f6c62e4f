/- Input rows; noughts are put behind a row, one way for both. -/
import Derived.Test.YtjgobpmhdeancaaSxW
namespace Go.Sx
open Go
set_option linter.unusedSimpArgs false
variable {P : Program} {w0 : Base} {w : World} {ρ : Env2} {s : St} {a : Act}
def inLen (s : St) (bi : Builtin) (ts : Array TypeId) (P : Program) (vs : List V) : Option (List (V × St)) := match bi with
  | .len => match vs with
    | [.vf f c] => match inpOf s.inp f with
      | some sp => match ts[0]? with
        | some t => match P.underlying t with
          | some (.slice _) => match nonneg (itv s.bd c) && sp.len.low 1 with
            | true => some [(.int .i64 (sp.lenAt c), s)]
            | false => none
          | _ => none
        | none => none
      | none => none
    | _ => none
  | _ => none
theorem step_inLen (hw : RelW w0 ρ s w) (ha : RelA ρ s a) {o : Oper} {c : Call} {bi : Builtin} {vs : List V} (ho : o.op = .call c) (hc : c.callee = .builtin bi) (hvs : evs s c.args = some vs) {r : List (V × St)} (hr : inLen s bi c.argTypes P vs = some r) :
    ∃ p ∈ r, Step P w0 ρ s a w o p.1 p.2 := by
  unfold inLen at hr
  split at hr
  · split at hr
    · rename_i f cd
      split at hr
      · rename_i sp hsp
        split at hr
        · rename_i t ht
          split at hr
          · rename_i el hu
            split at hr
            · rename_i hn
              cases hr
              simp only [Bool.and_eq_true] at hn
              refine ⟨_, List.mem_singleton.2 rfl, step_calm hw fun ρ' hle => ?_⟩
              have h0 := hw ρ' hle
              obtain ⟨a', n, cap, h1, h2, _⟩ := in_len h0 hsp (nonneg_of hn.1 (has_itv h0.bd cd)) hn.2
              have := den_evs (ha ρ' hle) hvs
              simp only [execOp, ho, resolve, hc, this, Sem.run_bind, Sem.run_pure, Result.andThen_ok, invoke]
              simp [builtin, Builtin.len_, ht, V.denL, run_underlying hu, V.den, goInt, h1, h2, sliceIn]
            · cases hr
          · cases hr
        · cases hr
      · cases hr
    · cases hr
  · cases hr
def inPlace (P : Program) (s : St) (t : TypeId) (x i : V) : Option (List (V × St)) := match x with
  | .vf f c => match i with
    | .int _ e => match inpOf s.inp f with
      | some sp => match P.underlying t with
        | some (.slice el) => match sizeT P el with
          | some z => match Nat.beq z sp.size && sp.len.low 1 && nonneg (itv s.bd c) && nonneg (itv s.bd e) && belowE s.bd s.pc e (sp.lenAt c) with
            | true => some [(.ia f c e sp.size 0, s)]
            | false => none
          | none => none
        | _ => none
      | none => none
    | _ => none
  | _ => none
theorem step_inPlace (hw : RelW w0 ρ s w) (ha : RelA ρ s a) {o : Oper} {t : TypeId} {x i : Operand} {xv iv : V} (ho : o.op = .indexAddr t x i) (hx : evO s x = some xv) (hi : evO s i = some iv) {r : List (V × St)} (hr : inPlace P s t xv iv = some r) :
    ∃ p ∈ r, Step P w0 ρ s a w o p.1 p.2 := by
  unfold inPlace at hr
  split at hr
  · rename_i f c
    split at hr
    · rename_i k e
      split at hr
      · rename_i sp hsp
        split at hr
        · rename_i el hu
          split at hr
          · rename_i z hz
            split at hr
            · rename_i hc
              cases hr
              simp only [Bool.and_eq_true] at hc
              obtain ⟨⟨⟨⟨c1, c2⟩, c3⟩, c4⟩, c5⟩ := hc
              have c1 := Nat.eq_of_beq_eq_true c1
              subst c1
              refine ⟨_, List.mem_singleton.2 rfl, step_calm hw fun ρ' hle => ?_⟩
              have h0 := hw ρ' hle
              have d3 := nonneg_of c3 (has_itv h0.bd c)
              have d4 := nonneg_of c4 (has_itv h0.bd e)
              have d5 := belowE_of h0.bd h0.pc c5
              obtain ⟨a', n, cap, h1, h2, h3⟩ := in_len h0 hsp d3 c2
              rw [h2] at d5
              obtain ⟨b, rfl, _, _⟩ := h3 (e.den ρ'.toEnv).toNat (by omega)
              simp [execOp, ho, den_evO (ha ρ' hle) hx, den_evO (ha ρ' hle) hi, V.den, Instr.indexAt, asIntOf, run_underlying hu, d4, d5, run_sizeT w hz, h1, addrIn, sliceIn]
            · cases hr
          · cases hr
        · cases hr
      · cases hr
    · cases hr
  · cases hr
def inField (P : Program) (s : St) (t : TypeId) (x : V) (f : Nat) : Option (List (V × St)) := match P.underlying t with
  | some (.struct fs) => match fs[f]? with
    | some fd => match sizeT P fd.type with
      | some (_ + 1) => match x with
        | .ia g c j size off => match inpOf s.inp g with
          | some sp => match sp.len.low 1 && nonneg (itv s.bd c) && nonneg (itv s.bd j) && belowE s.bd s.pc j (sp.lenAt c) with
            | true => some [(.ia g c j size (off + fd.offset), s)]
            | false => none
          | none => none
        | _ => none
      | _ => none
    | none => none
  | _ => none
theorem step_inField (hw : RelW w0 ρ s w) (ha : RelA ρ s a) {o : Oper} {t : TypeId} {x : Operand} {f : Nat} {xv : V} (ho : o.op = .fieldAddr t x f) (hx : evO s x = some xv) {r : List (V × St)} (hr : inField P s t xv f = some r) :
    ∃ p ∈ r, Step P w0 ρ s a w o p.1 p.2 := by
  unfold inField at hr
  split at hr
  · rename_i fs hu
    split at hr
    · rename_i fd hf
      split at hr
      · rename_i m hz
        split at hr
        · rename_i g c j size off
          split at hr
          · rename_i sp hsp
            split at hr
            · rename_i hc
              cases hr
              simp only [Bool.and_eq_true] at hc
              obtain ⟨⟨⟨c2, c3⟩, c4⟩, c5⟩ := hc
              refine ⟨_, List.mem_singleton.2 rfl, step_calm hw fun ρ' hle => ?_⟩
              have h0 := hw ρ' hle
              have d3 := nonneg_of c3 (has_itv h0.bd c)
              have d4 := nonneg_of c4 (has_itv h0.bd j)
              have d5 := belowE_of h0.bd h0.pc c5
              obtain ⟨a', n, cap, h1, h2, h3⟩ := in_len h0 hsp d3 c2
              rw [h2] at d5
              obtain ⟨b, rfl, _, _⟩ := h3 (j.den ρ'.toEnv).toNat (by omega)
              simp [execOp, ho, den_evO (ha ρ' hle) hx, V.den, Instr.fieldAt, run_underlying hu, hf, Instr.sureAddr, fieldPlace, run_sizeT w hz, h1, addrIn, add_add, Nat.add_assoc]
            · cases hr
          · cases hr
        · cases hr
      · cases hr
    · cases hr
  · cases hr
def inLoad (P : Program) (s : St) (t : TypeId) (x : V) : Option (List (V × St)) := match x with
  | .ia f c j size off => match inpOf s.inp f with
    | some sp => match Nat.beq size sp.size && sp.len.low 1 && nonneg (itv s.bd c) && nonneg (itv s.bd j) && belowE s.bd s.pc j (sp.lenAt c) && allLow2 sp.parts with
      | true => match aggT P t with
        | some true => match sizeT P t with
          | some n => match Nat.ble (off + n) sp.parts.length with
            | true => some [(.agg (((sp.parts.drop off).take n).map (V.sub [j, c] [])), s)]
            | false => none
          | none => none
        | some false => match sp.parts[off]? with
          | some v => some [(v.sub [j, c] [], s)]
          | none => none
        | none => none
      | false => none
    | none => none
  | _ => none
theorem step_inLoad (hw : RelW w0 ρ s w) (ha : RelA ρ s a) {o : Oper} {t : TypeId} {x : Operand} {xv : V} (ho : o.op = .load t x) (hx : evO s x = some xv) {r : List (V × St)} (hr : inLoad P s t xv = some r) :
    ∃ p ∈ r, Step P w0 ρ s a w o p.1 p.2 := by
  unfold inLoad at hr
  split at hr
  · rename_i f c j size off
    split at hr
    · rename_i sp hsp
      split at hr
      · rename_i hc
        simp only [Bool.and_eq_true] at hc
        obtain ⟨⟨⟨⟨⟨c1, c2⟩, c3⟩, c4⟩, c5⟩, c6⟩ := hc
        have c1 := Nat.eq_of_beq_eq_true c1
        subst c1
        have key : ∀ ρ', Le s ρ ρ' → ∃ b, V.den ρ' (.ia f c j sp.size off) = .pointer (some b) ∧ ∀ (k : Nat) (v : V), sp.parts[off + k]? = some v → w.cell? (b.add k) = some ((v.sub [j, c] []).den ρ') := fun ρ' hle => by
          have h0 := hw ρ' hle
          have d3 := nonneg_of c3 (has_itv h0.bd c)
          have d4 := nonneg_of c4 (has_itv h0.bd j)
          have d5 := belowE_of h0.bd h0.pc c5
          obtain ⟨a', n, cap, h1, h2, h3⟩ := in_len h0 hsp d3 c2
          rw [h2] at d5
          obtain ⟨b, rfl, _, h4⟩ := h3 (j.den ρ'.toEnv).toNat (by omega)
          refine ⟨b.add ((j.den ρ'.toEnv).toNat * sp.size + off), by simp [V.den, h1, addrIn], fun k v hv => ?_⟩
          rw [add_add, Nat.add_assoc, h4 _ v hv, V.den_sub, lowV2_den d3 d4 (allLow2_get c6 hv)]
        split at hr
        · rename_i hag
          split at hr
          · rename_i n hz
            split at hr
            · rename_i hle1
              cases hr
              have hle1 := Nat.le_of_ble_eq_true hle1
              refine ⟨_, List.mem_singleton.2 rfl, step_calm hw fun ρ' hle => ?_⟩
              obtain ⟨b, h1, h2⟩ := key ρ' hle
              have hl : (((sp.parts.drop off).take n).map (V.sub [j, c] [])).length = n := by simp; omega
              have := run_loadCells_list (P := P) w b (V.denL ρ' (((sp.parts.drop off).take n).map (V.sub [j, c] []))) (fun k u hu => by
                rw [denL_get, List.getElem?_map] at hu
                have hk : k < n := by
                  rcases Nat.lt_or_ge k n with h' | h'
                  · exact h'
                  · rw [List.getElem?_eq_none (by simp; omega)] at hu; cases hu
                rw [List.getElem?_take_of_lt hk, List.getElem?_drop] at hu
                have hlt : off + k < sp.parts.length := by omega
                rw [List.getElem?_eq_getElem hlt] at hu
                simp only [Option.map_some, Option.some.injEq] at hu
                rw [← hu]
                exact h2 k _ (List.getElem?_eq_getElem hlt))
              rw [denL_len, hl] at this
              simp only [execOp, ho, den_evO (ha ρ' hle) hx, h1]
              simp only [Instr.loadAt, Instr.sureAddr, V.den, Sem.run_bind]
              simp only [loadVar, Sem.run_bind, Sem.run_pure, Result.andThen_ok, run_aggT w hag]
              simp only [if_true, Sem.run_bind, run_sizeT w hz, Result.andThen_ok, this, Sem.run_pure]
            · cases hr
          · cases hr
        · rename_i hag
          split at hr
          · rename_i v hv
            cases hr
            refine ⟨_, List.mem_singleton.2 rfl, step_calm hw fun ρ' hle => ?_⟩
            obtain ⟨b, h1, h2⟩ := key ρ' hle
            have h3 := h2 0 v (by simpa using hv)
            have h4 : b.add 0 = b := by simp [Addr.add]
            rw [h4] at h3
            simp only [execOp, ho, den_evO (ha ρ' hle) hx, h1]
            simp only [Instr.loadAt, Instr.sureAddr, V.den, Sem.run_bind]
            simp only [loadVar, Sem.run_bind, Sem.run_pure, Result.andThen_ok, run_aggT w hag]
            simp [run_load, h3]
          · cases hr
        · cases hr
      · cases hr
    · cases hr
  · cases hr

/-! ### noughts are put behind a row: one way for both: the row gets a new name -/
theorem run_appendZI (w w' : World) {ts : Array TypeId} {t tx ty e : TypeId} {ie : TypeInfo} {k kx kn : IntKind} (t0 : ts[0]? = some t) (t1 : ts[1]? = some tx) (ht : P.underlying t = some (.slice e)) (hx : P.underlying tx = some (.int kx))
    (hi : P.info? e = some ie) (hz : ie.zero = some (.int k 0)) (hs : ie.size = 1) (hb : ie.bytes ≤ 8) (ad : Addr) (sLen sCap n : Nat) (m : Int) (hm0 : 0 ≤ m) (hmn : m.toNat = n) (hl : n ≤ 2199023255552)
    (hg : sLen + n ≤ sCap) (hst : (storeCells (ad.add sLen) (Array.replicate n (Value.int k 0)).toList).run P w = .ok () w') :
    (Builtin.append_ ts ty #[.slice (some ad) sLen sCap, .int kn m]).run P w = .ok (.slice (some ad) (sLen + n) sCap) w' := by
  have hw : IntKind.i64.wrap m = m := by rw [IntKind.wrap_i64]; omega
  have h1 : ¬ (m < 0) := by omega
  have h2 : ¬ (281474976710656 < m * (ie.bytes : Int)) := by
    have hb' : (ie.bytes : Int) ≤ 8 := by omega
    have : m * (ie.bytes : Int) ≤ m * 8 := Int.mul_le_mul_of_nonneg_left hb' (by omega)
    omega
  by_cases hn : n = 0
  · subst hn
    simp only [Array.replicate_zero] at hst
    simp [Builtin.append_, t0, t1, run_underlying ht, run_underlying hx, sizeOf, typeInfo, hi, hs, asInt, asIntOf, hw, hmn, h1, h2]
    have hg' : sLen ≤ sCap := by omega
    rw [if_pos hg']
    simp [hst]
  · simp [Builtin.append_, t0, t1, run_underlying ht, run_underlying hx, sizeOf, typeInfo, hi, hs, asInt, asIntOf, hw, hmn, h1, h2, hg, hn, zeroValue, hz, zero_cells]
    simp only [Array.toList_replicate] at hst
    rw [hst]
    rfl
/-- up to a number, a multiple by its part -/
def uptoM (s : St) (n : E) : Bool := uptoE s.bd s.pc n (.lit 1099511627776) || (match quotE 65536 n with
  | some q => uptoE s.bd s.pc q (.lit 16777216)
  | none => false)
theorem uptoM_of {ρ' : Env} {s : St} (hb : s.bd.ok ρ') (hp : pcOk ρ' s.pc) {n : E} (h : uptoM s n = true) : n.den ρ' ≤ 1099511627776 := by
  unfold uptoM at h
  rcases Bool.or_eq_true _ _ ▸ h with h | h
  · exact uptoE_of hb hp h
  · split at h
    · rename_i q hq
      have h1 := uptoE_of hb hp h
      have h2 := quotE_some (show (65536 : Int) ≠ 0 by decide) ρ' hq
      simp only [E.den] at h1
      omega
    · cases h
def rowG (s : St) (k : IntKind) (len n cap : E) (A : Arr) : Bool := decide (A.kind = k) && zeroD A.dflt && A.size.beq cap && insideWs s.bd s.pc len A.ws && len.low s.nv && cap.low s.nv && n.low s.nv &&
  nonneg (itv s.bd len) && uptoE s.bd s.pc len cap && nonneg (itv s.bd n) && uptoM s n && within (itv s.bd len) (some 0, some 1099511627776) && nonneg (itv s.bd cap) && uptoE s.bd s.pc cap (.lit 9223372036854775807)
def moreG (s : St) (b : Nat) (e : TypeId) (k : IntKind) (len n : E) (ws : List (E × E × D)) : St :=
  { (s.fresh (capBd s)).assume (mkBin .le (mkAdd len n) (.var s.nv)) with hp := (s.hp.put s.nb ⟨[], e, some ⟨.var s.nv, k, .con (.lit 0), ws⟩⟩).del b, nb := s.nb + 1 }
def appendG (P : Program) (s : St) (bi : Builtin) (ts : Array TypeId) (vs : List V) : Option (List (V × St)) := match bi with
  | .append => match vs with
    | [.sl b off len cap, .int _ n] => match ts[0]?, ts[1]? with
      | some t, some tx => match P.underlying t, P.underlying tx with
        | some (.slice e), some (.int _) => match P.info? e with
          | some ie => match ie.zero with
            | some (.int k 0) => match s.hp.get b with
              | some ⟨_, el, some A⟩ => match off.beq (.lit 0) && Nat.beq ie.size 1 && Nat.ble ie.bytes 8 && Nat.beq el e && rowG s k len n cap A with
                | true => some [(.sl s.nb (.lit 0) (mkAdd len n) (.var s.nv), moreG s b e k len n A.ws)]
                | false => none
              | _ => none
            | _ => none
          | none => none
        | _, _ => none
      | _, _ => none
    | _ => none
  | _ => none
theorem step_appendG (hw : RelW w0 ρ s w) (ha : RelA ρ s a) {o : Oper} {c : Call} {bi : Builtin} {vs : List V} (ho : o.op = .call c) (hc : c.callee = .builtin bi) (hvs : evs s c.args = some vs) {r : List (V × St)} (hr : appendG P s bi c.argTypes vs = some r) :
    ∃ p ∈ r, Step P w0 ρ s a w o p.1 p.2 := by
  unfold appendG at hr
  split at hr
  · split at hr
    · rename_i b off len cap kn sl
      split at hr
      · rename_i t tx t0 t1
        split at hr
        · rename_i e kx ht hx
          split at hr
          · rename_i ie hi
            split at hr
            · rename_i k hz
              split at hr
              · rename_i vs' el A hg
                split at hr
                · rename_i hcond
                  simp only [rowG, Bool.and_eq_true] at hcond
                  obtain ⟨⟨⟨⟨e1, c2⟩, c3⟩, e2⟩, ⟨⟨⟨⟨⟨⟨⟨⟨⟨⟨⟨⟨⟨r1, r2⟩, r3⟩, r4⟩, r5⟩, r6⟩, r7⟩, r8⟩, r9⟩, r10⟩, r13⟩, r11⟩, r12⟩, r14⟩⟩ := hcond
                  have e1 := E.eq_of_beq e1
                  have c2 := Nat.eq_of_beq_eq_true c2
                  have c3 := Nat.le_of_ble_eq_true c3
                  have e2 := Nat.eq_of_beq_eq_true e2
                  have r1 := of_decide_eq_true r1
                  have r2 := zeroD_eq r2
                  have r3 := E.eq_of_beq r3
                  subst e1 e2
                  cases hr
                  refine ⟨_, List.mem_singleton.2 rfl, ?_⟩
                  have nums : ∀ ρ', Le s ρ ρ' → (0 ≤ sl.den ρ'.toEnv ∧ sl.den ρ'.toEnv ≤ 1099511627776) ∧ (0 ≤ len.den ρ'.toEnv ∧ len.den ρ'.toEnv ≤ 1099511627776) ∧ (0 ≤ cap.den ρ'.toEnv ∧ cap.den ρ'.toEnv ≤ 9223372036854775807) ∧ len.den ρ'.toEnv ≤ cap.den ρ'.toEnv := fun ρ' hle =>
                    ⟨⟨nonneg_of r10 (has_itv (hw ρ' hle).bd sl), uptoM_of (hw ρ' hle).bd (hw ρ' hle).pc r13⟩, within_of r11 (has_itv (hw ρ' hle).bd len), ⟨nonneg_of r12 (has_itv (hw ρ' hle).bd cap), uptoE_of (hw ρ' hle).bd (hw ρ' hle).pc r14⟩, uptoE_of (hw ρ' hle).bd (hw ρ' hle).pc r9⟩
                  have ssl : ∀ ρ', Le s ρ ρ' → sl.den ρ'.toEnv = sl.den ρ.toEnv := fun ρ' hle => low_le hle r7
                  have sln : ∀ ρ', Le s ρ ρ' → len.den ρ'.toEnv = len.den ρ.toEnv := fun ρ' hle => low_le hle r5
                  have scp : ∀ ρ', Le s ρ ρ' → cap.den ρ'.toEnv = cap.den ρ.toEnv := fun ρ' hle => low_le hle r6
                  have N0 := nums ρ (Le.refl _ _)
                  have hcb : ∀ n : Int, 0 ≤ n → n ≤ 9223372036854775807 → ∀ ρ' : Env2, ρ'.v s.nv = n → Bd.ok ρ'.toEnv (capBd s) := fun n g1 g2 ρ' hv p hp => by
                    simp only [capBd, List.mem_singleton] at hp
                    subst hp
                    show Iv.has _ (ρ'.v s.nv)
                    rw [hv]
                    exact ⟨fun l hl => by cases hl; omega, fun l hl => by cases hl; omega⟩
                  let o1 : O := ⟨[], el, some ⟨.var s.nv, k, .con (.lit 0), A.ws⟩⟩
                  by_cases hfit : len.den ρ.toEnv + sl.den ρ.toEnv ≤ cap.den ρ.toEnv
                  · -- in its place
                    have cell : ∀ ρ', Le s ρ ρ' → (execOp a.eval o).run P w = .ok (.value (.slice (some ⟨ρ.blk b, 0, none⟩) (len.den ρ.toEnv + sl.den ρ.toEnv).toNat (cap.den ρ.toEnv).toNat)) (w.setRow (ρ.blk b) (Arr.den ρ'.toEnv A)) := by
                      intro ρ' hle
                      have h0 := hw ρ' hle
                      obtain ⟨hb, _, _, hcell⟩ := h0.hp b _ hg
                      have n1 := nums ρ' hle
                      have q1 := ssl ρ' hle
                      have q2 := sln ρ' hle
                      have q3 := scp ρ' hle
                      have hblk : ρ'.blk b = ρ.blk b := hle.1 b hb
                      obtain ⟨cs, hcs⟩ : ∃ cs, (Array.replicate (sl.den ρ'.toEnv).toNat (Value.int k 0)).toList = cs := ⟨_, rfl⟩
                      have k1 : (cs.length : Int) = sl.den ρ'.toEnv := by rw [← hcs]; simp; omega
                      have k3 : ∀ m : Nat, m < cs.length → cs[m]? = some (.int A.kind (readW ρ'.toEnv A.dflt A.ws (len.den ρ'.toEnv + m))) := fun m hm => by
                        rw [insideWs_of h0.bd h0.pc r4 A.dflt _ (by omega), r2, r1]
                        have hlt : m < (sl.den ρ'.toEnv).toNat := by omega
                        have : cs[m]? = some (Value.int k 0) := by
                          rw [← hcs, Array.toList_replicate, List.getElem?_replicate, if_pos hlt]
                        exact this
                      have hset := set_any ρ'.toEnv A A (len.den ρ'.toEnv).toNat cs rfl rfl (by rw [r3]; omega)
                        (fun j hj => by
                          rw [k3 j hj]
                          congr 3
                          omega)
                        (fun j hj => rfl)
                      have hrun := run_storeCells_at (P := P) (ρ'.blk b) (len.den ρ'.toEnv).toNat el cs 0 (A.den ρ'.toEnv) w hcell (by rw [den_size, r3]; omega) (denL_one k3)
                      simp only [Nat.add_zero] at hrun
                      rw [hset, hblk] at hrun
                      have happ := run_appendZI (P := P) (ty := o.type) (kn := kn) w _ t0 t1 ht hx hi hz c2 c3 ⟨ρ.blk b, 0, none⟩ (len.den ρ'.toEnv).toNat (cap.den ρ'.toEnv).toNat (sl.den ρ'.toEnv).toNat (sl.den ρ'.toEnv) (by omega) rfl (by omega) (by omega) (by
                        have : (⟨ρ.blk b, 0, none⟩ : Addr).add (len.den ρ'.toEnv).toNat = ⟨ρ.blk b, (len.den ρ'.toEnv).toNat, none⟩ := by rw [add_addr, Nat.zero_add]
                        rw [this, hcs]
                        exact hrun)
                      have hargs := den_evs (ha ρ' hle) hvs
                      have hl1 : (len.den ρ'.toEnv).toNat + (sl.den ρ'.toEnv).toNat = (len.den ρ.toEnv + sl.den ρ.toEnv).toNat := by omega
                      rw [hl1, q3] at happ
                      simp only [execOp, ho, resolve, hc, hargs, Sem.run_bind, Sem.run_pure, Result.andThen_ok, invoke, builtin, V.denL, V.den, E.den, Int.toNat_zero, hblk, q3]
                      simp only [happ, Result.andThen_ok]
                    have c0 := cell ρ (Le.refl _ _)
                    have h1 := relW_setRow hw hg ⟨vs', el, some A⟩ rfl (Arr.den ρ.toEnv A) fun ρ' hle => by
                      have h1 := cell ρ' hle
                      rw [c0] at h1
                      injection h1 with _ h1
                      have hcell := (hw.to.hp b _ hg).2.2.2
                      have := congrArg (fun w : World => w.heap[ρ.blk b]?) h1
                      simp only [O.den] at hcell
                      rw [setRow_heap w _ _ _ el (0, 0) hcell, setRow_heap w _ _ _ el (0, 0) hcell] at this
                      simp at this
                      exact this.symm
                    have h2 := relW_fresh h1 (n := cap.den ρ.toEnv) (b := capBd s) (hcb _ (by omega) (by omega))
                    have h3 := relW_assume h2 (e := mkBin .le (mkAdd len sl) (.var s.nv)) fun ρ' hle => by
                      obtain ⟨hle0, hv⟩ := le_fresh (s := s.setRow b ⟨vs', el, some A⟩) (ρ := ρ) (n := cap.den ρ.toEnv) (b := capBd s) hle
                      rw [den_mkBin]
                      show b2i (decide (_ ≤ ρ'.v s.nv)) ≠ 0
                      have g1 := ssl ρ' hle0
                      have g2 := sln ρ' hle0
                      have hv : ρ'.v s.nv = cap.den ρ.toEnv := hv
                      rw [den_mkAdd, hv, g1, g2, b2i_ne, decide_eq_true_eq]
                      exact hfit
                    have h4 := relW_moved h3 (b := b) (o := ⟨vs', el, some A⟩) (by show (s.hp.put b _).get b = _; rw [T.get_put, if_pos rfl]) o1 fun ρ' hle => by
                      obtain ⟨hle0, hv⟩ := le_fresh (s := s.setRow b ⟨vs', el, some A⟩) (ρ := ρ) (n := cap.den ρ.toEnv) (b := capBd s) hle
                      have hv : ρ'.v s.nv = cap.den ρ.toEnv := hv
                      have g3 := scp ρ' hle0
                      simp only [O.den, O.cells, o1, Arr.den, Arr.row, E.den, hv, r1, r2, r3, g3]
                    have h5 := relW_hp h4 ((s.hp.put s.nb o1).del b) fun i o' hg' => by
                      rw [T.get_del] at hg'
                      show (((s.hp.put b _).put s.nb o1).del b).get i = _
                      rw [T.get_del, T.get_put, T.get_put]
                      split at hg'
                      · cases hg'
                      · rename_i hib
                        rw [if_neg hib]
                        rw [T.get_put] at hg'
                        rw [if_neg hib]
                        exact hg'
                    have hle1 : Le s ρ ((ρ.setV s.nv (cap.den ρ.toEnv)).setBlk s.nb (ρ.blk b)) := (le_setV s ρ _).trans (s' := s.fresh (capBd s)) (Nat.le_refl _) (Nat.le_succ _) (le_setBlk (s.fresh (capBd s)) _ _)
                    refine ⟨_, _, (ρ.setV s.nv (cap.den ρ.toEnv)).setBlk s.nb (ρ.blk b), _, c0, .inl rfl, fun ρ' hle => ?_, hle1, h5, rfl, rfl, Nat.le_succ _, Nat.le_succ _⟩
                    have hblk : ρ'.blk s.nb = ρ.blk b := (hle.1 s.nb (Nat.lt_succ_self _)).trans (by simp [Env2.setBlk])
                    have hvar : ρ'.v s.nv = cap.den ρ.toEnv := (hle.2.1 s.nv (Nat.lt_succ_self _)).trans (by simp [Env2.setBlk, Env2.setV])
                    have hle2 : Le s ρ ρ' := hle1.trans (s' := moreG s b el k len sl A.ws) (Nat.le_succ _) (Nat.le_succ _) hle
                    simp only [V.den, E.den, den_mkAdd, hblk, hvar, ssl ρ' hle2, sln ρ' hle2, Int.toNat_zero]
                  · -- elsewhere
                    obtain ⟨m, hm⟩ : ∃ m, (Question.appendCap (len.den ρ.toEnv + sl.den ρ.toEnv).toNat (cap.den ρ.toEnv).toNat el).cut (w.tape w.drawn (.appendCap (len.den ρ.toEnv + sl.den ρ.toEnv).toNat (cap.den ρ.toEnv).toNat el)) = m := ⟨_, rfl⟩
                    have hm2 : (len.den ρ.toEnv + sl.den ρ.toEnv).toNat ≤ m ∧ m ≤ 9223372036854775807 := by
                      rw [← hm]
                      simp only [Question.cut]
                      have := Nat.mod_lt (w.tape w.drawn (.appendCap (len.den ρ.toEnv + sl.den ρ.toEnv).toNat (cap.den ρ.toEnv).toNat el)) (show 0 < 2 ^ 63 - (len.den ρ.toEnv + sl.den ρ.toEnv).toNat by omega)
                      omega
                    have hA : arrAt s b = some (A, el) := by unfold arrAt; rw [hg]
                    have cell : ∀ ρ', Le s ρ ρ' → (execOp a.eval o).run P w = .ok (.value (.slice (some ⟨w.heap.size, 0, none⟩) (len.den ρ.toEnv + sl.den ρ.toEnv).toNat m)) (({ w with drawn := w.drawn + 1 } : World).alloc (.cells (Arr.den ρ'.toEnv ⟨.lit (m : Int), k, .con (.lit 0), A.ws⟩) el)) := by
                      intro ρ' hle
                      have h0 := hw ρ' hle
                      have n1 := nums ρ' hle
                      have q1 := ssl ρ' hle
                      have q2 := sln ρ' hle
                      have q3 := scp ρ' hle
                      have hsum : (len.den ρ'.toEnv).toNat + (sl.den ρ'.toEnv).toNat = (len.den ρ.toEnv + sl.den ρ.toEnv).toNat := by omega
                      have hrun := run_appendZ (P := P) (ty := o.type) w t0 t1 ht hx hi hz c2 c3 ⟨ρ'.blk b, 0, none⟩ (len.den ρ'.toEnv).toNat (cap.den ρ'.toEnv).toNat (sl.den ρ'.toEnv).toNat (kn := kn) (sl.den ρ'.toEnv) (by omega) rfl
                        ((Arr.den ρ'.toEnv A).toList.take (len.den ρ'.toEnv).toNat) (by rw [List.length_take, Array.length_toList, den_size, r3]; omega) (fun j v hv => by
                          have hj : j < (len.den ρ'.toEnv).toNat := by
                            rcases Nat.lt_or_ge j (len.den ρ'.toEnv).toNat with h' | h'
                            · exact h'
                            · rw [List.getElem?_eq_none (by rw [List.length_take]; omega)] at hv; cases hv
                          rw [List.getElem?_take_of_lt hj, Array.getElem?_toList, den_get ρ'.toEnv A (by rw [r3]; omega)] at hv
                          have := cell_arr h0 hA (j := (j : Int)) (by omega) (by rw [r3]; omega)
                          rw [add_addr, Nat.zero_add]
                          rw [Int.toNat_natCast] at this
                          rw [this]
                          exact hv) (by omega) (by omega) m (by rw [hsum, q3, hm])
                      have hargs := den_evs (ha ρ' hle) hvs
                      have hrow := append_row ρ'.toEnv A (L := (len.den ρ'.toEnv).toNat) (R := (sl.den ρ'.toEnv).toNat + (m - ((len.den ρ'.toEnv).toNat + (sl.den ρ'.toEnv).toNat))) (N := m) (by rw [r3]; omega) r2 (by omega) fun j hj => insideWs_of h0.bd h0.pc r4 _ _ (by omega)
                      rw [r1] at hrow
                      rw [hrow, hsum] at hrun
                      simp only [execOp, ho, resolve, hc, hargs, Sem.run_bind, Sem.run_pure, Result.andThen_ok, invoke, builtin, V.denL, V.den, E.den, Int.toNat_zero]
                      simp only [hrun, Result.andThen_ok]
                    have h2 := relW_fresh (relW_drawn hw) (n := (m : Int)) (b := capBd s) (hcb _ (by omega) (by omega))
                    have h3 := relW_assume h2 (e := mkBin .le (mkAdd len sl) (.var s.nv)) fun ρ' hle => by
                      obtain ⟨hle0, hv⟩ := le_fresh (s := s) (ρ := ρ) (n := (m : Int)) (b := capBd s) hle
                      rw [den_mkBin]
                      show b2i (decide (_ ≤ ρ'.v s.nv)) ≠ 0
                      have g1 := ssl ρ' hle0
                      have g2 := sln ρ' hle0
                      rw [den_mkAdd, hv, g1, g2, b2i_ne, decide_eq_true_eq]
                      omega
                    have c0 := cell ρ (Le.refl _ _)
                    have h4 := relW_allocO h3 o1 (Arr.den ρ.toEnv ⟨.lit (m : Int), k, .con (.lit 0), A.ws⟩) fun ρ' hle => by
                      obtain ⟨hle0, hv⟩ := le_fresh (s := s) (ρ := ρ) (n := (m : Int)) (b := capBd s) hle
                      have hd : O.cells ρ' o1 = Arr.den ρ'.toEnv ⟨.lit (m : Int), k, .con (.lit 0), A.ws⟩ := by
                        show Arr.den ρ'.toEnv _ = _
                        simp only [Arr.den, Arr.row, E.den, hv]
                      rw [hd]
                      have h1 := cell ρ' hle0
                      rw [c0] at h1
                      injection h1 with _ h1
                      have := congrArg (fun w : World => w.heap[w.heap.size - 1]?) h1
                      simp only [World.alloc, Array.size_push, Nat.add_sub_cancel] at this
                      simp at this
                      exact this.symm
                    have h5 := relW_hp h4 ((s.hp.put s.nb o1).del b) fun i o' hg' => by
                      rw [T.get_del] at hg'
                      split at hg'
                      · cases hg'
                      · exact hg'
                    have hle1 : Le s ρ ((ρ.setV s.nv (m : Int)).setBlk s.nb w.heap.size) := (le_setV s ρ _).trans (s' := s.fresh (capBd s)) (Nat.le_refl _) (Nat.le_succ _) (le_setBlk (s.fresh (capBd s)) _ _)
                    refine ⟨_, _, (ρ.setV s.nv (m : Int)).setBlk s.nb w.heap.size, _, c0, .inl rfl, fun ρ' hle => ?_, hle1, h5, rfl, rfl, Nat.le_succ _, Nat.le_succ _⟩
                    have hblk : ρ'.blk s.nb = w.heap.size := (hle.1 s.nb (Nat.lt_succ_self _)).trans (by simp [Env2.setBlk])
                    have hvar : ρ'.v s.nv = (m : Int) := (hle.2.1 s.nv (Nat.lt_succ_self _)).trans (by simp [Env2.setBlk, Env2.setV])
                    have hle2 : Le s ρ ρ' := hle1.trans (s' := moreG s b el k len sl A.ws) (Nat.le_succ _) (Nat.le_succ _) hle
                    simp only [V.den, E.den, den_mkAdd, hblk, hvar, ssl ρ' hle2, sln ρ' hle2, Int.toNat_zero, Int.toNat_natCast]
                · cases hr
              · cases hr
            · cases hr
          · cases hr
        · cases hr
      · cases hr
    · cases hr
  · cases hr

/-! ### nothing is copied -/
def copyZ (P : Program) (s : St) (bi : Builtin) (ts : Array TypeId) (vs : List V) : Option (List (V × St)) := match bi with
  | .copy => match vs with
    | [.sl _ _ (.lit 0) _, .astr _] => match ts[0]?, ts[1]? with
      | some t, some _ => match P.underlying t with
        | some (.slice e) => match sizeT P e with
          | some 1 => some [(.int .i64 (.lit 0), s)]
          | _ => none
        | _ => none
      | _, _ => none
    | _ => none
  | _ => none
theorem step_copyZ (hw : RelW w0 ρ s w) (ha : RelA ρ s a) {o : Oper} {c : Call} {bi : Builtin} {vs : List V} (ho : o.op = .call c) (hc : c.callee = .builtin bi) (hvs : evs s c.args = some vs) {r : List (V × St)} (hr : copyZ P s bi c.argTypes vs = some r) :
    ∃ p ∈ r, Step P w0 ρ s a w o p.1 p.2 := by
  unfold copyZ at hr
  split at hr
  · split at hr
    · rename_i b off cap A
      split at hr
      · rename_i t tx t0 t1
        split at hr
        · rename_i e ht
          split at hr
          · rename_i hz
            cases hr
            refine ⟨_, List.mem_singleton.2 rfl, step_calm hw fun ρ' hle => ?_⟩
            have hargs := den_evs (ha ρ' hle) hvs
            have hmin : ∀ n : Nat, Nat.min n 0 = 0 := fun n => Nat.min_eq_right (Nat.zero_le _)
            have hex : ((A.bytes ρ'.toEnv).extract 0 0).data.map (fun b => Value.int .u8 b.toNat) = #[] := by
              rw [ByteArray.data_extract]; simp
            simp only [execOp, ho, resolve, hc, hargs, Sem.run_bind, Sem.run_pure, Result.andThen_ok, invoke, builtin, V.denL, V.den, Builtin.copy_, t0, t1, List.getElem?_toArray, List.getElem?_cons_zero, List.getElem?_cons_succ, run_underlying ht, Builtin.lenOf, E.den, Int.toNat_zero, hmin, run_sizeT w hz, Builtin.firstCells, hex]
            have hst : ∀ ad : Addr, (storeCells ad []).run P w = .ok () w := fun ad => by simp [storeCells]
            simp [goInt, hst]
          · cases hr
        · cases hr
      · cases hr
    · cases hr
  · cases hr
/-! ### numbers are put behind nothing, perhaps none: two ways -/
def appendE (P : Program) (s : St) (bi : Builtin) (ts : Array TypeId) (vs : List V) : Option (List (V × St)) := match bi with
  | .append => match vs with
    | [.slice b off 0 0, src] => match ts[0]?, ts[1]? with
      | some t, some tx => match P.underlying t, P.underlying tx with
        | some (.slice e), some (.slice _) => match P.info? e with
          | some ie => match ie.zero with
            | some (.int k 0) => match lenV s src with
              | some sl => match Nat.beq ie.size 1 && (mkBin .lt (.lit 0) sl).low s.nv with
                | true => mapO (fun p => match p.1 with
                  | true => match appendN P p.2 .append ts [.slice b off 0 0, src] with
                    | some [r] => some r
                    | _ => none
                  | false => match srcP p.2 k sl (.lit 0) src with
                    | some _ => some (.slice b off 0 0, p.2)
                    | none => none) (branch s (mkBin .lt (.lit 0) sl))
                | false => none
              | none => none
            | _ => none
          | none => none
        | _, _ => none
      | _, _ => none
    | _ => none
  | _ => none
theorem step_from {s1 : St} (hb : s1.nb = s.nb) (hv : s1.nv = s.nv) (hn : s1.n = s.n) (ht : s1.tm = s.tm) {o : Oper} {v : V} {s2 : St} (h : Step P w0 ρ s1 a w o v s2) : Step P w0 ρ s a w o v s2 := by
  have hle : ∀ {ρ'}, Le s1 ρ ρ' ↔ Le s ρ ρ' := by simp [Le, hb, hv]
  obtain ⟨r, x, ρ1, w1, h1, h2, h3, h4, h5, h6, h7, h8, h9⟩ := h
  exact ⟨r, x, ρ1, w1, h1, h2, h3, hle.1 h4, h5, h6.trans hn, h7.trans ht, by omega, by omega⟩
theorem step_appendE (hw : RelW w0 ρ s w) (ha : RelA ρ s a) {o : Oper} {c : Call} {bi : Builtin} {vs : List V} (ho : o.op = .call c) (hc : c.callee = .builtin bi) (hvs : evs s c.args = some vs) {r : List (V × St)} (hr : appendE P s bi c.argTypes vs = some r) :
    ∃ p ∈ r, Step P w0 ρ s a w o p.1 p.2 := by
  unfold appendE at hr
  split at hr
  · split at hr
    · rename_i b off src
      split at hr
      · rename_i t tx t0 t1
        split at hr
        · rename_i e ex ht hx
          split at hr
          · rename_i ie hi
            split at hr
            · rename_i k hz
              split at hr
              · rename_i sl hsl
                split at hr
                · rename_i hcond
                  simp only [Bool.and_eq_true] at hcond
                  obtain ⟨c2, c5⟩ := hcond
                  have c2 := Nat.eq_of_beq_eq_true c2
                  have hst : ∀ ρ', Le s ρ ρ' → ((mkBin .lt (.lit 0) sl).den ρ'.toEnv != 0) = ((mkBin .lt (.lit 0) sl).den ρ.toEnv != 0) := fun ρ' hle => by rw [low_le hle c5]
                  obtain ⟨s1, hm, hw1, ha1, h3, h4, h5, h6⟩ := branch_ok hw ha (mkBin .lt (.lit 0) sl) _ hst
                  obtain ⟨_, hg⟩ := mapO_some hr
                  obtain ⟨i, hi1, hi2⟩ := List.getElem_of_mem hm
                  obtain ⟨q, hq1, hq2⟩ := hg i _ (by rw [List.getElem?_eq_getElem hi1, hi2])
                  have hmem := List.mem_of_getElem? hq1
                  have hev : evs s1 c.args = some [.slice b off 0 0, src] := by
                    rw [← hvs]
                    unfold evs
                    congr 1
                    funext x
                    cases x <;> simp [evO, h5, h6]
                  cases hb : ((mkBin .lt (.lit 0) sl).den ρ.toEnv != 0) with
                  | true =>
                    rw [hb] at hq2
                    simp only at hq2
                    split at hq2
                    · rename_i q' hq'
                      cases hq2
                      obtain ⟨p, hp, hstep⟩ := step_appendN hw1 ha1 ho hc hev hq'
                      simp only [List.mem_singleton] at hp
                      subst hp
                      exact ⟨_, hmem, step_from h3 h4 h5 h6 hstep⟩
                    · cases hq2
                  | false =>
                    rw [hb] at hq2
                    simp only at hq2
                    split at hq2
                    · rename_i ps hps
                      cases hq2
                      refine ⟨_, hmem, step_at hw1 h3 h4 h5 h6 fun ρ' hle => ?_⟩
                      have hle1 : Le s1 ρ ρ' := by simpa [Le, h3, h4] using hle
                      have h0 := hw ρ' hle
                      have h00 := hw1 ρ' hle1
                      obtain ⟨cs, k1, k2, _, _⟩ := srcP_ok (P := P) h00 hps (.con (.lit 0)) []
                      have h7 := hst ρ' hle
                      rw [hb, den_mkBin] at h7
                      simp only [Bi.den, b2i_bne, E.den] at h7
                      have h7 := of_decide_eq_false h7
                      have hcs : cs = [] := List.eq_nil_of_length_eq_zero (by omega)
                      subst hcs
                      have hz0 : sl.den ρ'.toEnv = 0 := by simpa using k1.symm
                      have happ := run_appendI (P := P) (ty := o.type) w w t0 t1 ht hx hi c2 ⟨ρ'.blk b, off, none⟩ 0 0 0 (src.den ρ') #[] (by rw [lenV_run h0 hsl, hz0]; rfl) k2 (by omega) (by simp [storeCells])
                      have hargs := den_evs (ha ρ' hle) hvs
                      simp only [execOp, ho, resolve, hc, hargs, Sem.run_bind, Sem.run_pure, Result.andThen_ok, invoke, builtin, V.denL, V.den]
                      simp only [happ, Result.andThen_ok]
                    · cases hq2
                · cases hr
              · cases hr
            · cases hr
          · cases hr
        · cases hr
      · cases hr
    · cases hr
  · cases hr
/-! ### a slice that is none -/
def sliceZ (P : Program) (s : St) (t : TypeId) (x l : V) : Option (List (V × St)) := match x with
  | .nils => match P.underlying t with
    | some (.slice e) => match sizeT P e with
      | some 1 => match l with
        | .int _ lo => match nonneg (itv s.bd lo) && uptoE s.bd s.pc lo (.lit 0) with
          | true => some [(.nils, s)]
          | false => none
        | _ => none
      | _ => none
    | _ => none
  | _ => none
theorem step_sliceZ (hw : RelW w0 ρ s w) (ha : RelA ρ s a) {o : Oper} {t : TypeId} {x l : Operand} {xv lv : V} (ho : o.op = .slice t x (some l) none none) (hx : evO s x = some xv) (hl : evO s l = some lv)
    {r : List (V × St)} (hr : sliceZ P s t xv lv = some r) : ∃ p ∈ r, Step P w0 ρ s a w o p.1 p.2 := by
  unfold sliceZ at hr
  split at hr
  · split at hr
    · rename_i e hu
      split at hr
      · rename_i hz
        split at hr
        · rename_i kl lo
          split at hr
          · rename_i hc
            cases hr
            simp only [Bool.and_eq_true] at hc
            refine ⟨_, List.mem_singleton.2 rfl, step_calm hw fun ρ' hle => ?_⟩
            have h0 := hw ρ' hle
            have d1 := nonneg_of hc.1 (has_itv h0.bd lo)
            have d2 := uptoE_of h0.bd h0.pc hc.2
            simp only [E.den] at d2
            have hlo : lo.den ρ'.toEnv = 0 := by omega
            simp only [execOp, ho, den_evO (ha ρ' hle) hx, evO_opt (ha ρ' hle) hl, Option.map_none, V.den, Instr.sliceAt, Sem.run_bind, run_underlying hu, Result.andThen_ok, Instr.slice, Instr.sliceBounds, Sem.run_pure,
              Option.isSome_none, Bool.false_eq_true, if_false, hlo]
            have hsb := run_sliceBound (P := P) w kl 0 0 BoundsCode.sliceB (by omega) (by omega)
            simp [hsb, run_sizeT w hz]
          · cases hr
        · cases hr
      · cases hr
    · cases hr
  · cases hr
def copyN (P : Program) (s : St) (bi : Builtin) (ts : Array TypeId) (vs : List V) : Option (List (V × St)) := match bi with
  | .copy => match vs with
    | [.nils, src] => match ts[0]?, ts[1]? with
      | some t, some _ => match P.underlying t with
        | some (.slice e) => match sizeT P e with
          | some 1 => match lenV s src, srcP s .i64 (.lit 0) (.lit 0) src with
            | some _, some _ => some [(.int .i64 (.lit 0), s)]
            | _, _ => none
          | _ => none
        | _ => none
      | _, _ => none
    | _ => none
  | _ => none
theorem step_copyN (hw : RelW w0 ρ s w) (ha : RelA ρ s a) {o : Oper} {c : Call} {bi : Builtin} {vs : List V} (ho : o.op = .call c) (hc : c.callee = .builtin bi) (hvs : evs s c.args = some vs) {r : List (V × St)} (hr : copyN P s bi c.argTypes vs = some r) :
    ∃ p ∈ r, Step P w0 ρ s a w o p.1 p.2 := by
  unfold copyN at hr
  split at hr
  · split at hr
    · rename_i src
      split at hr
      · rename_i t tx t0 t1
        split at hr
        · rename_i e ht
          split at hr
          · rename_i hz
            split at hr
            · rename_i sl ps hsl hps
              cases hr
              refine ⟨_, List.mem_singleton.2 rfl, step_calm hw fun ρ' hle => ?_⟩
              have h0 := hw ρ' hle
              obtain ⟨cs, k1, k2, _, _⟩ := srcP_ok (P := P) h0 hps (.con (.lit 0)) []
              have hcs : cs = [] := List.eq_nil_of_length_eq_zero (by simp only [E.den] at k1; omega)
              subst hcs
              have hargs := den_evs (ha ρ' hle) hvs
              have hmin : ∀ n : Nat, Nat.min n 0 = 0 := fun n => Nat.min_eq_right (Nat.zero_le _)
              simp only [List.length_nil] at k2
              simp only [execOp, ho, resolve, hc, hargs, Sem.run_bind, Sem.run_pure, Result.andThen_ok, invoke, builtin, V.denL, V.den, Builtin.copy_, t0, t1, List.getElem?_toArray, List.getElem?_cons_zero, List.getElem?_cons_succ, run_underlying ht, lenV_run h0 hsl, hmin, run_sizeT w hz, k2]
              simp [goInt, E.den]
            · cases hr
          · cases hr
        · cases hr
      · cases hr
    · cases hr
  · cases hr
def opI (P : Program) (s : St) (o : Oper) : Option (List (V × St)) := match o.op with
  | .call c => match c.callee with
    | .builtin bi => match evs s c.args with
      | some vs => orA (inLen s bi c.argTypes P vs) (orA (copyZ P s bi c.argTypes vs) (orA (appendG P s bi c.argTypes vs) (orA (appendE P s bi c.argTypes vs) (copyN P s bi c.argTypes vs))))
      | none => none
    | _ => none
  | .indexAddr t x i => match evO s x, evO s i with
    | some v, some j => inPlace P s t v j
    | _, _ => none
  | .fieldAddr t x f => match evO s x with
    | some v => inField P s t v f
    | none => none
  | .slice t x (some lo) none none => match evO s x, evO s lo with
    | some v, some l => sliceZ P s t v l
    | _, _ => none
  | .load t x => match evO s x with
    | some v => inLoad P s t v
    | none => none
  | _ => none
theorem step_opI (hw : RelW w0 ρ s w) (ha : RelA ρ s a) {o : Oper} {l : List (V × St)} (h : opI P s o = some l) : ∃ p ∈ l, Step P w0 ρ s a w o p.1 p.2 := by
  unfold opI at h
  split at h <;> rename_i ho
  · split at h
    · rename_i hc
      split at h
      · rename_i hvs
        rcases orA_some h with h | h
        · exact step_inLen hw ha ho hc hvs h
        · rcases orA_some h with h | h
          · exact step_copyZ hw ha ho hc hvs h
          · rcases orA_some h with h | h
            · exact step_appendG hw ha ho hc hvs h
            · rcases orA_some h with h | h
              · exact step_appendE hw ha ho hc hvs h
              · exact step_copyN hw ha ho hc hvs h
      · cases h
    · cases h
  · split at h
    · rename_i hx hi; exact step_inPlace hw ha ho hx hi h
    · cases h
  · split at h
    · rename_i hx; exact step_inField hw ha ho hx h
    · cases h
  · split at h
    · rename_i hx hl; exact step_sliceZ hw ha ho hx hl h
    · cases h
  · split at h
    · rename_i hx; exact step_inLoad hw ha ho hx h
    · cases h
  · cases h
def opU (P : Program) (s : St) (o : Oper) : Option (List (V × St)) := orA (opW P s o) (opI P s o)
theorem step_opU (hw : RelW w0 ρ s w) (ha : RelA ρ s a) {o : Oper} {l : List (V × St)} (h : opU P s o = some l) : ∃ p ∈ l, Step P w0 ρ s a w o p.1 p.2 := by
  rcases orA_some h with h | h
  · exact step_opW hw ha h
  · exact step_opI hw ha h
end Go.Sx
