/- Strings that came in, and rows into which they are copied. -/
import Derived.Test.YtjgobpmhdeancaaSxY
namespace Go.Sx
open Go
set_option linter.unusedSimpArgs false
variable {P : Program} {w0 : Base} {w : World} {ρ : Env2} {s : St} {a : Act}

/-! ### a part of a row, from a place that may be its end -/
def sliceB (P : Program) (s : St) (t : TypeId) (x lo : V) : Option (List (V × St)) := match x with
  | .sl b off len cap => match P.underlying t with
    | some (.slice e) => match sizeT P e with
      | some 1 => match lo with
        | .int _ l => match nonneg (itv s.bd off) && nonneg (itv s.bd l) && uptoE s.bd s.pc l len && uptoE s.bd s.pc len cap && (mkBin .lt l cap).low s.nv with
          | true => some ((branch s (mkBin .lt l cap)).map fun p => match p.1 with
            | true => (.sl b (mkAdd off l) (gapE len l) (gapE cap l), p.2)
            | false => (.sl b off (.lit 0) (.lit 0), p.2))
          | false => none
        | _ => none
      | _ => none
    | _ => none
  | _ => none
theorem step_at {s1 : St} (hw : RelW w0 ρ s1 w) (hb : s1.nb = s.nb) (hv : s1.nv = s.nv) (hn : s1.n = s.n) (ht : s1.tm = s.tm) {o : Oper} {v : V} (h : ∀ ρ', Le s ρ ρ' → (execOp a.eval o).run P w = .ok (.value (v.den ρ')) w) : Step P w0 ρ s a w o v s1 := by
  have hle : ∀ {ρ'}, Le s1 ρ ρ' ↔ Le s ρ ρ' := by simp [Le, hb, hv]
  have h0 := h ρ (Le.refl _ _)
  refine ⟨_, _, ρ, w, h0, .inl rfl, fun ρ' hl => ?_, Le.refl _ _, hw, hn, ht, by omega, by omega⟩
  have h1 := h ρ' (hle.1 hl)
  rw [h0] at h1
  injection h1 with h1
  injection h1 with h1
  exact h1.symm
theorem step_sliceB (hw : RelW w0 ρ s w) (ha : RelA ρ s a) {o : Oper} {t : TypeId} {x l : Operand} {xv lv : V} (ho : o.op = .slice t x (some l) none none) (hx : evO s x = some xv) (hl : evO s l = some lv)
    {r : List (V × St)} (hr : sliceB P s t xv lv = some r) : ∃ p ∈ r, Step P w0 ρ s a w o p.1 p.2 := by
  unfold sliceB at hr
  split at hr
  · rename_i b off len cap
    split at hr
    · rename_i e hu
      split at hr
      · rename_i hz
        split at hr
        · rename_i kl le
          split at hr
          · rename_i hc
            cases hr
            simp only [Bool.and_eq_true] at hc
            obtain ⟨⟨⟨⟨c1, c2⟩, c3⟩, c4⟩, c5⟩ := hc
            have hst : ∀ ρ', Le s ρ ρ' → ((mkBin .lt le cap).den ρ'.toEnv != 0) = ((mkBin .lt le cap).den ρ.toEnv != 0) := fun ρ' hle => by rw [low_le hle c5]
            obtain ⟨s1, hm, h1, _, h3, h4, h5, h6⟩ := branch_ok hw ha (mkBin .lt le cap) _ hst
            have nums : ∀ ρ', Le s ρ ρ' → 0 ≤ off.den ρ'.toEnv ∧ 0 ≤ le.den ρ'.toEnv ∧ le.den ρ'.toEnv ≤ len.den ρ'.toEnv ∧ len.den ρ'.toEnv ≤ cap.den ρ'.toEnv := fun ρ' hle => by
              have h0 := hw ρ' hle
              exact ⟨nonneg_of c1 (has_itv h0.bd off), nonneg_of c2 (has_itv h0.bd le), uptoE_of h0.bd h0.pc c3, uptoE_of h0.bd h0.pc c4⟩
            have hrun : ∀ ρ', Le s ρ ρ' → (execOp a.eval o).run P w = .ok (.value (.slice (if (cap.den ρ'.toEnv).toNat = (le.den ρ'.toEnv).toNat then some ⟨ρ'.blk b, (off.den ρ'.toEnv).toNat, none⟩ else some ⟨ρ'.blk b, (off.den ρ'.toEnv).toNat + (le.den ρ'.toEnv).toNat, none⟩)
                ((len.den ρ'.toEnv).toNat - (le.den ρ'.toEnv).toNat) ((cap.den ρ'.toEnv).toNat - (le.den ρ'.toEnv).toNat))) w := fun ρ' hle => by
              obtain ⟨d1, d2, d3, d4⟩ := nums ρ' hle
              simp only [execOp, ho, den_evO (ha ρ' hle) hx, evO_opt (ha ρ' hle) hl, Option.map_none, V.den, Instr.sliceAt, Sem.run_bind, run_underlying hu, Result.andThen_ok, Instr.slice, Instr.sliceBounds, Sem.run_pure,
                run_sliceBound (P := P) w kl (le.den ρ'.toEnv) (len.den ρ'.toEnv).toNat BoundsCode.sliceB (by omega) (by omega), run_sizeT w hz, Option.isSome_none, Bool.false_eq_true, if_false, Option.map_some, Nat.mul_one, add_addr]
            refine ⟨_, List.mem_map.2 ⟨_, hm, rfl⟩, ?_⟩
            cases hb : ((mkBin .lt le cap).den ρ.toEnv != 0) with
            | true =>
              refine step_at h1 h3 h4 h5 h6 fun ρ' hle => ?_
              obtain ⟨d1, d2, d3, d4⟩ := nums ρ' hle
              have h7 := hst ρ' hle
              rw [hb, den_mkBin] at h7
              simp only [Bi.den, b2i_bne, decide_eq_true_eq] at h7
              rw [hrun ρ' hle, if_neg (by omega)]
              simp only [V.den, den_mkAdd, den_gapE]
              rw [nat_add d1 d2, nat_sub d2 (by omega), nat_sub d2 (by omega)]
            | false =>
              refine step_at h1 h3 h4 h5 h6 fun ρ' hle => ?_
              obtain ⟨d1, d2, d3, d4⟩ := nums ρ' hle
              have h7 := hst ρ' hle
              rw [hb, den_mkBin] at h7
              simp only [Bi.den, b2i_bne, decide_eq_false_iff_not] at h7
              rw [hrun ρ' hle, if_pos (by omega)]
              simp only [V.den, E.den]
              rw [show (len.den ρ'.toEnv).toNat - (le.den ρ'.toEnv).toNat = 0 by omega, show (cap.den ρ'.toEnv).toNat - (le.den ρ'.toEnv).toNat = 0 by omega]
              rfl
          · cases hr
        · cases hr
      · cases hr
    · cases hr
  · cases hr

/-! ### strings -/
def D.moved (by_ : E) : D → D
  | .con e => .con e
  | .fn k f sh cd => .fn k f (flatE (mkAdd sh by_)) cd
theorem moved_at (ρ : Env) (m : E) : ∀ (d : D) (j : Int), (D.moved m d).at ρ j = d.at ρ (j + m.den ρ)
  | .con _, _ => rfl
  | .fn k f sh cd, j => by simp only [D.moved, D.at, den_flatE, den_mkAdd]; congr 2; omega
def movedWs (m : E) : List (E × E × D) → List (E × E × D)
  | [] => []
  | (lo, hi, d) :: r => (flatE (mkSub lo m), flatE (mkSub hi m), D.moved m d) :: movedWs m r
theorem moved_read (ρ : Env) (m : E) (d : D) : ∀ (ws : List (E × E × D)) (j : Int), readW ρ (D.moved m d) (movedWs m ws) j = readW ρ d ws (j + m.den ρ)
  | [], j => moved_at ρ m d j
  | (lo, hi, v) :: r, j => by
    simp only [movedWs, readW, den_flatE, den_mkSub, moved_at, moved_read ρ m d r j]
    by_cases h : lo.den ρ ≤ j + m.den ρ ∧ j + m.den ρ < hi.den ρ
    · rw [if_pos (by omega), if_pos h]
    · rw [if_neg (by omega), if_neg h]
def Arr.part (A : Arr) (lo size : E) : Arr := ⟨size, A.kind, D.moved lo A.dflt, movedWs lo A.ws⟩
theorem foldl_push (l : List Int) : ∀ r : ByteArray, (l.foldl (fun (r : ByteArray) n => r.push (UInt8.ofNat n.toNat)) r).data = r.data ++ (l.map fun n => UInt8.ofNat n.toNat).toArray := by
  induction l with
  | nil => intro r; simp
  | cons n l ih => intro r; rw [List.foldl_cons, ih]; simp
theorem bytes_data (ρ : Env) (A : Arr) : (A.bytes ρ).data = ((A.row ρ).map fun n => UInt8.ofNat n.toNat).toArray := by
  unfold Arr.bytes
  rw [foldl_push]
  show #[] ++ _ = _
  simp
theorem bytes_get (ρ : Env) (A : Arr) {j : Nat} (h : j < (A.size.den ρ).toNat) : (A.bytes ρ).data[j]? = some (UInt8.ofNat (readW ρ A.dflt A.ws (j : Int)).toNat) := by
  rw [bytes_data]; simp [row_get ρ A h]
theorem bytes_len (ρ : Env) (A : Arr) : (A.bytes ρ).data.size = (A.size.den ρ).toNat := by
  rw [bytes_data]; simp [row_len]
theorem bytes_part (ρ : Env) (A : Arr) {lo size : E} (h0 : 0 ≤ lo.den ρ) (_h1 : 0 ≤ size.den ρ) (h2 : lo.den ρ + size.den ρ ≤ A.size.den ρ) :
    (A.bytes ρ).extract (lo.den ρ).toNat ((lo.den ρ).toNat + (size.den ρ).toNat) = (A.part lo size).bytes ρ := by
  apply ByteArray.ext
  rw [ByteArray.data_extract]
  apply Array.ext_getElem?
  intro j
  have hs : (A.bytes ρ).data.size = (A.size.den ρ).toNat := bytes_len ρ A
  have hp : ((A.part lo size).bytes ρ).data.size = (size.den ρ).toNat := bytes_len ρ _
  by_cases hj : j < (size.den ρ).toNat
  · rw [bytes_get ρ (A.part lo size) hj, Array.getElem?_extract, if_pos (by omega), bytes_get ρ A (by omega)]
    show _ = some (UInt8.ofNat (readW ρ (D.moved lo A.dflt) (movedWs lo A.ws) (j : Int)).toNat)
    rw [moved_read, show ((((lo.den ρ).toNat + j : Nat) : Int)) = (j : Int) + lo.den ρ by omega]
  · rw [Array.getElem?_eq_none (by rw [Array.size_extract, hs]; omega), Array.getElem?_eq_none (by rw [hp]; omega)]
def strSlice (P : Program) (s : St) (t : TypeId) (x : V) (lo hi : Option V) : Option (List (V × St)) := match P.underlying t with
  | some .string => match x with
    | .astr A => match lo, hi with
      | none, some (.int _ h) => match nonneg (itv s.bd A.size) && nonneg (itv s.bd h) && uptoE s.bd s.pc h A.size with
        | true => some [(.astr (A.part (.lit 0) h), s)]
        | false => none
      | some (.int _ l), some (.int _ h) => match nonneg (itv s.bd A.size) && nonneg (itv s.bd l) && uptoE s.bd s.pc l h && uptoE s.bd s.pc h A.size with
        | true => some [(.astr (A.part l (gapE h l)), s)]
        | false => none
      | _, _ => none
    | _ => none
  | _ => none
theorem step_strSlice (hw : RelW w0 ρ s w) (ha : RelA ρ s a) {o : Oper} {t : TypeId} {x : Operand} {l h : Option Operand} {xv : V} {lv hv : Option V} (ho : o.op = .slice t x l h none) (hx : evO s x = some xv)
    (hl : (l = none ∧ lv = none) ∨ ∃ y v, l = some y ∧ lv = some v ∧ evO s y = some v) (hh : ∃ y v, h = some y ∧ hv = some v ∧ evO s y = some v) {r : List (V × St)} (hr : strSlice P s t xv lv hv = some r) : ∃ p ∈ r, Step P w0 ρ s a w o p.1 p.2 := by
  obtain ⟨y, v, rfl, rfl, hy⟩ := hh
  unfold strSlice at hr
  split at hr
  · rename_i hu
    split at hr
    · rename_i A
      split at hr
      · rename_i kh he he2
        cases he2
        split at hr
        · rename_i hc
          cases hr
          simp only [Bool.and_eq_true] at hc
          obtain ⟨⟨c1, c2⟩, c3⟩ := hc
          have hln : l = none := by
            rcases hl with ⟨h1, _⟩ | ⟨y, v, _, h2, _⟩
            · exact h1
            · cases h2
          subst hln
          refine ⟨_, List.mem_singleton.2 rfl, step_calm hw fun ρ' hle => ?_⟩
          have h0 := hw ρ' hle
          have d1 := nonneg_of c1 (has_itv h0.bd A.size)
          have d2 := nonneg_of c2 (has_itv h0.bd he)
          have d3 := uptoE_of h0.bd h0.pc c3
          have hb := bytes_part ρ'.toEnv A (lo := .lit 0) (size := he) (by simp [E.den]) d2 (by simp only [E.den]; omega)
          simp only [E.den, Int.toNat_zero, Nat.zero_add] at hb
          simp only [execOp, ho, den_evO (ha ρ' hle) hx, evO_opt (ha ρ' hle) hy, Option.map_none, V.den, Instr.sliceAt, Sem.run_bind, run_underlying hu, Result.andThen_ok, Instr.slice, Instr.sliceBounds, Sem.run_pure, bytes_size,
            run_sliceBound (P := P) w kh (he.den ρ'.toEnv) (A.size.den ρ'.toEnv).toNat BoundsCode.sliceAlen (by omega) (by omega), Option.isSome_none, Bool.false_eq_true, if_false, hb]
        · cases hr
      · rename_i kl le kh he he2
        cases he2
        split at hr
        · rename_i hc
          cases hr
          simp only [Bool.and_eq_true] at hc
          obtain ⟨⟨⟨c1, c2⟩, c3⟩, c4⟩ := hc
          rcases hl with ⟨_, h2⟩ | ⟨z, v, rfl, h2, h3⟩
          · cases h2
          cases h2
          refine ⟨_, List.mem_singleton.2 rfl, step_calm hw fun ρ' hle => ?_⟩
          have h0 := hw ρ' hle
          have d1 := nonneg_of c1 (has_itv h0.bd A.size)
          have d2 := nonneg_of c2 (has_itv h0.bd le)
          have d3 := uptoE_of h0.bd h0.pc c3
          have d4 := uptoE_of h0.bd h0.pc c4
          have hb := bytes_part ρ'.toEnv A (lo := le) (size := gapE he le) d2 (by rw [den_gapE]; omega) (by rw [den_gapE]; omega)
          rw [show (le.den ρ'.toEnv).toNat + ((gapE he le).den ρ'.toEnv).toNat = (he.den ρ'.toEnv).toNat by rw [den_gapE]; omega] at hb
          simp only [execOp, ho, den_evO (ha ρ' hle) hx, evO_opt (ha ρ' hle) hy, evO_opt (ha ρ' hle) h3, Option.map_none, V.den, Instr.sliceAt, Sem.run_bind, run_underlying hu, Result.andThen_ok, Instr.slice, Instr.sliceBounds, Sem.run_pure, bytes_size,
            run_sliceBound (P := P) w kh (he.den ρ'.toEnv) (A.size.den ρ'.toEnv).toNat BoundsCode.sliceAlen (by omega) (by omega),
            run_sliceBound (P := P) w kl (le.den ρ'.toEnv) (he.den ρ'.toEnv).toNat BoundsCode.sliceB (by omega) (by omega), Option.isSome_none, Bool.false_eq_true, if_false, hb]
        · cases hr
      · cases hr
    · cases hr
  · cases hr
def strAt (P : Program) (s : St) (t : TypeId) (x i : V) : Option (List (V × St)) := match P.underlying t with
  | some .string => match x with
    | .astr A => match i with
      | .int _ e => match nonneg (itv s.bd e) && belowE s.bd s.pc e A.size && within (itv s.bd (readE s.bd s.pc A.dflt A.ws e)) (some 0, some 255) with
        | true => some [(.int .u8 (readE s.bd s.pc A.dflt A.ws e), s)]
        | false => none
      | _ => none
    | _ => none
  | _ => none
theorem step_strAt (hw : RelW w0 ρ s w) (ha : RelA ρ s a) {o : Oper} {t : TypeId} {x i : Operand} {xv iv : V} (ho : o.op = .index t x i) (hx : evO s x = some xv) (hi : evO s i = some iv) {r : List (V × St)} (hr : strAt P s t xv iv = some r) :
    ∃ p ∈ r, Step P w0 ρ s a w o p.1 p.2 := by
  unfold strAt at hr
  split at hr
  · rename_i hu
    split at hr
    · rename_i A
      split at hr
      · rename_i k e
        split at hr
        · rename_i hc
          cases hr
          simp only [Bool.and_eq_true] at hc
          obtain ⟨⟨c1, c2⟩, c3⟩ := hc
          refine ⟨_, List.mem_singleton.2 rfl, step_calm hw fun ρ' hle => ?_⟩
          have h0 := hw ρ' hle
          have d1 := nonneg_of c1 (has_itv h0.bd e)
          have d2 := belowE_of h0.bd h0.pc c2
          have d3 := within_of c3 (has_itv h0.bd _)
          rw [den_readE h0.bd h0.pc] at d3
          have hg := bytes_get ρ'.toEnv A (j := (e.den ρ'.toEnv).toNat) (by omega)
          rw [show (((e.den ρ'.toEnv).toNat : Nat) : Int) = e.den ρ'.toEnv by omega] at hg
          have hg2 : (A.bytes ρ'.toEnv)[(e.den ρ'.toEnv).toNat]? = some (UInt8.ofNat (readW ρ'.toEnv A.dflt A.ws (e.den ρ'.toEnv)).toNat) := by
            have hsz : (e.den ρ'.toEnv).toNat < (A.bytes ρ'.toEnv).size := by rw [bytes_size]; omega
            generalize A.bytes ρ'.toEnv = B at hg hsz ⊢
            rw [getElem?_pos B (e.den ρ'.toEnv).toNat hsz]
            rw [Array.getElem?_eq_getElem (show (e.den ρ'.toEnv).toNat < B.data.size from hsz)] at hg
            exact hg
          have hv : (((UInt8.ofNat (readW ρ'.toEnv A.dflt A.ws (e.den ρ'.toEnv)).toNat).toNat : Nat) : Int) = readW ρ'.toEnv A.dflt A.ws (e.den ρ'.toEnv) := by
            rw [UInt8.toNat_ofNat']; omega
          simp only [execOp, ho, den_evO (ha ρ' hle) hx, den_evO (ha ρ' hle) hi, V.den, Instr.index, asIntOf, Sem.run_bind, Sem.run_pure, Result.andThen_ok, run_underlying hu, if_pos d1, hg2, hv, den_readE h0.bd h0.pc]
        · cases hr
      · cases hr
    · cases hr
  · cases hr

/-! ### what alone stands in a row -/
def coverA (s : St) (A : Arr) : Option D := match A.ws with
  | [] => some A.dflt
  | (lo, hi, d) :: _ => match uptoE s.bd s.pc lo (.lit 0) && uptoE s.bd s.pc A.size hi with
    | true => some d
    | false => none
theorem coverA_of {ρ : Env} {s : St} (hb : s.bd.ok ρ) (hp : pcOk ρ s.pc) {A : Arr} {d : D} (h : coverA s A = some d) {j : Int} (h0 : 0 ≤ j) (h1 : j < A.size.den ρ) : readW ρ A.dflt A.ws j = d.at ρ j := by
  unfold coverA at h
  split at h
  · rename_i he; cases h; rw [he]; rfl
  · rename_i lo hi d' r he
    split at h
    · rename_i hc
      cases h
      simp only [Bool.and_eq_true] at hc
      have e1 := uptoE_of hb hp hc.1
      have e2 := uptoE_of hb hp hc.2
      simp only [E.den] at e1
      rw [he]
      simp only [readW]
      rw [if_pos (by omega)]
    · cases h
def D.same : D → D → Bool
  | .con a, .con b => a.beq b
  | .fn k f a c, .fn l g b d => decide (k = l) && c.beq d && Nat.beq f g && (match apart a b with
    | some 0 => true
    | _ => false)
  | _, _ => false
theorem D.at_same (ρ : Env) : ∀ {d d' : D}, D.same d d' = true → ∀ j, d.at ρ j = d'.at ρ j
  | .con a, .con b, h, j => by rw [E.eq_of_beq h]
  | .fn k f a c, .fn l g b d, h, j => by
    simp only [D.same, Bool.and_eq_true] at h
    have h3 := of_decide_eq_true h.1.1.1
    have h4 := E.eq_of_beq h.1.1.2
    subst h3 h4
    have h1 := Nat.eq_of_beq_eq_true h.1.2
    have h2 := h.2
    split at h2
    · rename_i ha
      have := apart_some ρ ha
      simp only [D.at, h1]
      rw [show a.den ρ = b.den ρ by omega]
    · cases h2
  | .con _, .fn _ _ _ _, h, _ => by cases h
  | .fn _ _ _ _, .con _, h, _ => by cases h
/-- two strings without a byte -/
def emptyEq (s : St) (A : Arr) : Option (List (V × St)) := match uptoE s.bd s.pc A.size (.lit 0) with
  | true => some [(.bool (.lit 1), s)]
  | false => none
def strEq (s : St) (op : BinOp) (x y : V) : Option (List (V × St)) := match op with
  | .eql => match x, y with
    | .astr A, .astr B => match apart A.size B.size with
      | some 0 => match coverA s A, coverA s B with
        | some d, some d' => match D.same d d' with
          | true => some [(.bool (.lit 1), s)]
          | false => emptyEq s A
        | _, _ => emptyEq s A
      | _ => none
    | _, _ => none
  | _ => none
theorem step_strEq (hw : RelW w0 ρ s w) (ha : RelA ρ s a) {o : Oper} {op : BinOp} {t t2 : TypeId} {x y : Operand} {xv yv : V} (ho : o.op = .binOp op t x y t2) (hx : evO s x = some xv) (hy : evO s y = some yv) {r : List (V × St)} (hr : strEq s op xv yv = some r) :
    ∃ p ∈ r, Step P w0 ρ s a w o p.1 p.2 := by
  unfold strEq at hr
  split at hr
  · split at hr
    · rename_i A B
      split at hr
      · rename_i hap
        have fin : ∀ r', r' = [(V.bool (.lit 1), s)] → (∀ ρ', Le s ρ ρ' → ∀ j : Nat, (j : Int) < A.size.den ρ'.toEnv → readW ρ'.toEnv A.dflt A.ws j = readW ρ'.toEnv B.dflt B.ws j) → ∃ p ∈ r', Step P w0 ρ s a w o p.1 p.2 := by
          rintro r' rfl hj
          refine ⟨_, List.mem_singleton.2 rfl, step_calm hw fun ρ' hle => ?_⟩
          have hsz := apart_some ρ'.toEnv hap
          have heq : A.bytes ρ'.toEnv = B.bytes ρ'.toEnv := by
            unfold Arr.bytes
            congr 1
            unfold Arr.row
            rw [← show A.size.den ρ'.toEnv = B.size.den ρ'.toEnv by omega]
            apply List.map_congr_left
            intro j hm
            have hm := List.mem_range.1 hm
            exact hj ρ' hle j (by omega)
          simp only [execOp, ho, den_evO (ha ρ' hle) hx, den_evO (ha ρ' hle) hy, V.den, heq, Sem.run_bind, eqGuard, binOp, E.den]
          simp [Op.stringOp]
        have emp : ∀ r', emptyEq s A = some r' → ∃ p ∈ r', Step P w0 ρ s a w o p.1 p.2 := by
          intro r' h
          unfold emptyEq at h
          split at h
          · rename_i hc
            cases h
            refine fin _ rfl fun ρ' hle j hj => ?_
            have := uptoE_of (hw ρ' hle).bd (hw ρ' hle).pc hc
            simp only [E.den] at this
            omega
          · cases h
        split at hr
        · rename_i d d' hd hd'
          split at hr
          · rename_i hs
            cases hr
            refine fin _ rfl fun ρ' hle j hj => ?_
            have h0 := hw ρ' hle
            have hsz := apart_some ρ'.toEnv hap
            rw [coverA_of h0.bd h0.pc hd (by omega) hj, coverA_of h0.bd h0.pc hd' (by omega) (by omega)]
            exact D.at_same _ hs _
          · exact emp _ hr
        · exact emp _ hr
      · cases hr
    · cases hr
  · cases hr

/-! ### a string is copied into a row -/
def byteD (b : Bd) : D → Bool
  | .con e => within (itv b e) (some 0, some 255)
  | .fn k _ _ _ => decide (k = .u8)
theorem byteD_of {ρ : Env} {b : Bd} (hb : b.ok ρ) : ∀ {d : D}, byteD b d = true → ∀ j, 0 ≤ d.at ρ j ∧ d.at ρ j ≤ 255
  | .con e, h, _ => within_of h (has_itv hb e)
  | .fn k f sh cd, hk, j => by
    have hk := of_decide_eq_true hk
    subst hk
    have h := has_kind .u8 (ρ.fn f (j + sh.den ρ) (cd.den ρ) 0)
    have h1 := h.1 _ rfl
    have h2 := h.2 _ rfl
    exact ⟨h1, h2⟩
def copyA (P : Program) (s : St) (bi : Builtin) (ts : Array TypeId) (vs : List V) : Option (List (V × St)) := match bi with
  | .copy => match vs with
    | [.sl b off dl _, .astr A] => match ts[0]?, ts[1]? with
      | some t, some _ => match P.underlying t with
        | some (.slice e) => match sizeT P e with
          | some 1 => match s.hp.get b with
            | some ⟨vs', el, some B⟩ => match coverA s A with
              | some d => match decide (B.kind = .u8) && nonneg (itv s.bd A.size) && nonneg (itv s.bd off) && uptoE s.bd s.pc A.size dl && uptoE s.bd s.pc (mkAdd off dl) B.size && byteD s.bd d with
                | true => some [(.int .i64 A.size, s.setRow b ⟨vs', el, some ⟨B.size, B.kind, B.dflt, (off, mkAdd off A.size, D.moved (mkSub (.lit 0) off) d) :: B.ws⟩⟩)]
                | false => none
              | none => none
            | _ => none
          | _ => none
        | _ => none
      | _, _ => none
    | _ => none
  | _ => none
theorem set_part (ρ' : Env) (B : Arr) (lo hi : E) (d : D) (cs : List Value) (h0 : 0 ≤ lo.den ρ') (hh : hi.den ρ' = lo.den ρ' + cs.length) (h1 : hi.den ρ' ≤ B.size.den ρ')
    (hcs : ∀ j : Nat, j < cs.length → cs[j]? = some (Value.int B.kind (d.at ρ' (lo.den ρ' + j)))) :
    (((B.den ρ').toList.take (lo.den ρ').toNat) ++ cs ++ ((B.den ρ').toList.drop ((lo.den ρ').toNat + cs.length))).toArray = Arr.den ρ' ⟨B.size, B.kind, B.dflt, (lo, hi, d) :: B.ws⟩ := by
  apply Array.ext'
  apply List.ext_getElem?
  intro j
  have hs : (B.den ρ').toList.length = (B.size.den ρ').toNat := by rw [Array.length_toList, den_size]
  have hlt : (lo.den ρ').toNat + cs.length ≤ (B.size.den ρ').toNat := by omega
  rw [List.append_assoc]
  by_cases hj : j < (B.size.den ρ').toNat
  · rw [Array.getElem?_toList (xs := Arr.den ρ' ⟨B.size, B.kind, B.dflt, (lo, hi, d) :: B.ws⟩), den_get ρ' ⟨B.size, B.kind, B.dflt, (lo, hi, d) :: B.ws⟩ hj]
    have hold := den_get ρ' B hj
    rw [← Array.getElem?_toList] at hold
    simp only [readW]
    by_cases c1 : j < (lo.den ρ').toNat
    · rw [List.getElem?_append_left (by rw [List.length_take]; omega), List.getElem?_take_of_lt c1, hold, if_neg (by omega)]
    · rw [List.getElem?_append_right (by rw [List.length_take]; omega), List.length_take, show min (lo.den ρ').toNat (B.den ρ').toList.length = (lo.den ρ').toNat by omega]
      by_cases c2 : j < (lo.den ρ').toNat + cs.length
      · rw [List.getElem?_append_left (by omega), hcs _ (by omega), if_pos (by omega), show lo.den ρ' + ((j - (lo.den ρ').toNat : Nat) : Int) = (j : Int) by omega]
      · rw [List.getElem?_append_right (by omega), if_neg (by omega), List.getElem?_drop, ← hold]
        congr 1
        omega
  · rw [List.getElem?_eq_none (by simp only [List.length_append, List.length_take, List.length_drop]; omega), List.getElem?_eq_none (by rw [Array.length_toList, den_size]; exact Nat.le_of_not_lt hj)]
theorem step_copyA (hw : RelW w0 ρ s w) (ha : RelA ρ s a) {o : Oper} {c : Call} {bi : Builtin} {vs : List V} (ho : o.op = .call c) (hc : c.callee = .builtin bi) (hvs : evs s c.args = some vs) {r : List (V × St)} (hr : copyA P s bi c.argTypes vs = some r) :
    ∃ p ∈ r, Step P w0 ρ s a w o p.1 p.2 := by
  unfold copyA at hr
  split at hr
  · split at hr
    · rename_i b off dl _ A
      split at hr
      · rename_i t tx t0 t1
        split at hr
        · rename_i e ht
          split at hr
          · rename_i hz
            split at hr
            · rename_i vs' el B hg
              split at hr
              · rename_i d hd
                split at hr
                · rename_i hcond
                  cases hr
                  simp only [Bool.and_eq_true] at hcond
                  obtain ⟨⟨⟨⟨⟨c1, c2⟩, c3⟩, c4⟩, c5⟩, c6⟩ := hcond
                  have c1 := of_decide_eq_true c1
                  have cell : ∀ ρ', Le s ρ ρ' → (execOp a.eval o).run P w = .ok (.value (.int .i64 (A.size.den ρ'.toEnv))) (w.setRow (ρ.blk b) (Arr.den ρ'.toEnv ⟨B.size, B.kind, B.dflt, (off, mkAdd off A.size, D.moved (mkSub (.lit 0) off) d) :: B.ws⟩)) := by
                    intro ρ' hle
                    have h0 := hw ρ' hle
                    obtain ⟨hb, hlo, hhi, hcell⟩ := h0.hp b _ hg
                    have d2 := nonneg_of c2 (has_itv h0.bd A.size)
                    have d3 := nonneg_of c3 (has_itv h0.bd off)
                    have d4 := uptoE_of h0.bd h0.pc c4
                    have d5 := uptoE_of h0.bd h0.pc c5
                    rw [den_mkAdd] at d5
                    obtain ⟨cs, hcs⟩ : ∃ cs, ((A.bytes ρ'.toEnv).data.map fun b => Value.int .u8 b.toNat).toList = cs := ⟨_, rfl⟩
                    have hlen : cs.length = (A.size.den ρ'.toEnv).toNat := by rw [← hcs, Array.length_toList, Array.size_map, bytes_len]
                    have hget : ∀ j : Nat, j < cs.length → cs[j]? = some (Value.int B.kind ((D.moved (mkSub (.lit 0) off) d).at ρ'.toEnv (off.den ρ'.toEnv + j))) := by
                      intro j hj
                      rw [← hcs, Array.getElem?_toList, Array.getElem?_map, bytes_get ρ'.toEnv A (by omega), moved_at, den_mkSub, c1, coverA_of h0.bd h0.pc hd (by omega) (by omega)]
                      have h2 := byteD_of h0.bd c6 (j : Int)
                      simp only [Option.map_some, E.den]
                      rw [UInt8.toNat_ofNat', show off.den ρ'.toEnv + (j : Int) + (0 - off.den ρ'.toEnv) = (j : Int) by omega]
                      congr 2
                      omega
                    have hset := set_part ρ'.toEnv B off (mkAdd off A.size) (D.moved (mkSub (.lit 0) off) d) cs d3 (by rw [den_mkAdd, hlen]; omega) (by rw [den_mkAdd]; omega) hget
                    have := run_storeCells_at (P := P) (ρ'.blk b) (off.den ρ'.toEnv).toNat el cs 0 (B.den ρ'.toEnv) w hcell (by rw [den_size]; omega) (by
                      intro u hu
                      rw [← hcs] at hu
                      simp at hu
                      obtain ⟨x, _, rfl⟩ := hu
                      rfl)
                    simp only [Nat.add_zero] at this
                    rw [hset, hle.1 b hb] at this
                    have hmin : Nat.min (A.size.den ρ'.toEnv).toNat (dl.den ρ'.toEnv).toNat = (A.size.den ρ'.toEnv).toNat := Nat.min_eq_left (by omega)
                    have hex : ((A.bytes ρ'.toEnv).extract 0 (A.size.den ρ'.toEnv).toNat).data.map (fun b => Value.int .u8 b.toNat) = cs.toArray := by
                      rw [ByteArray.data_extract, ← hcs]
                      have : (A.bytes ρ'.toEnv).data.extract 0 (A.size.den ρ'.toEnv).toNat = (A.bytes ρ'.toEnv).data := by
                        rw [← bytes_len ρ'.toEnv A]; exact Array.extract_size
                      rw [this]
                    have hargs := den_evs (ha ρ' hle) hvs
                    simp only [execOp, ho, resolve, hc, hargs, Sem.run_bind, Sem.run_pure, Result.andThen_ok, invoke, builtin, V.denL, V.den, Builtin.copy_, t0, t1, List.getElem?_toArray, List.getElem?_cons_zero, List.getElem?_cons_succ, run_underlying ht, Builtin.lenOf, bytes_size, hmin, run_sizeT w hz, Builtin.firstCells, hex, List.toList_toArray, hle.1 b hb, this]
                    simp only [goInt]
                    congr 3
                    omega
                  have c0 := cell ρ (Le.refl _ _)
                  refine ⟨_, List.mem_singleton.2 rfl, .value _, _, ρ, _, c0, .inl rfl, fun ρ' hle => ?_, Le.refl _ _, relW_setRow hw hg ⟨vs', el, some ⟨B.size, B.kind, B.dflt, (off, mkAdd off A.size, D.moved (mkSub (.lit 0) off) d) :: B.ws⟩⟩ rfl _ fun ρ' hle => ?_, rfl, rfl, Nat.le_refl _, Nat.le_refl _⟩
                  · have h1 := cell ρ' hle
                    rw [c0] at h1
                    injection h1 with h1
                    injection h1 with h1
                    exact h1.symm
                  · have h1 := cell ρ' hle
                    rw [c0] at h1
                    injection h1 with _ h1
                    have hcell := (hw.to.hp b _ hg).2.2.2
                    have := congrArg (fun w : World => w.heap[ρ.blk b]?) h1
                    simp only [O.den] at hcell
                    rw [setRow_heap w _ _ _ el (0, 0) hcell, setRow_heap w _ _ _ el (0, 0) hcell] at this
                    simp at this
                    exact this.symm
                · cases hr
              · cases hr
            · cases hr
          · cases hr
        · cases hr
      · cases hr
    · cases hr
  · cases hr

/-! ### all of them -/
def opB (P : Program) (s : St) (o : Oper) : Option (List (V × St)) := match o.op with
  | .slice t x (some lo) none none => match evO s x, evO s lo with
    | some v, some l => sliceB P s t v l
    | _, _ => none
  | .slice t x none (some hi) none => match evO s x, evO s hi with
    | some v, some h => strSlice P s t v none (some h)
    | _, _ => none
  | .slice t x (some lo) (some hi) none => match evO s x, evO s lo, evO s hi with
    | some v, some l, some h => strSlice P s t v (some l) (some h)
    | _, _, _ => none
  | .index t x i => match evO s x, evO s i with
    | some v, some j => strAt P s t v j
    | _, _ => none
  | .binOp op _ x y _ => match evO s x, evO s y with
    | some v, some u => strEq s op v u
    | _, _ => none
  | .call c => match c.callee with
    | .builtin bi => match evs s c.args with
      | some vs => copyA P s bi c.argTypes vs
      | none => none
    | _ => none
  | _ => none
theorem step_opB (hw : RelW w0 ρ s w) (ha : RelA ρ s a) {o : Oper} {l : List (V × St)} (h : opB P s o = some l) : ∃ p ∈ l, Step P w0 ρ s a w o p.1 p.2 := by
  unfold opB at h
  split at h <;> rename_i ho
  · split at h
    · rename_i hx hl; exact step_sliceB hw ha ho hx hl h
    · cases h
  · split at h
    · rename_i hx hh; exact step_strSlice hw ha ho hx (.inl ⟨rfl, rfl⟩) ⟨_, _, rfl, rfl, hh⟩ h
    · cases h
  · split at h
    · rename_i hx hl hh; exact step_strSlice hw ha ho hx (.inr ⟨_, _, rfl, rfl, hl⟩) ⟨_, _, rfl, rfl, hh⟩ h
    · cases h
  · split at h
    · rename_i hx hi; exact step_strAt hw ha ho hx hi h
    · cases h
  · split at h
    · rename_i hx hy; exact step_strEq hw ha ho hx hy h
    · cases h
  · split at h
    · rename_i hc
      split at h
      · rename_i hvs; exact step_copyA hw ha ho hc hvs h
      · cases h
    · cases h
  · cases h
def opX (P : Program) (s : St) (o : Oper) : Option (List (V × St)) := orA (opF P s o) (orA (opA P s o) (opB P s o))
theorem step_opX (hw : RelW w0 ρ s w) (ha : RelA ρ s a) {o : Oper} {l : List (V × St)} (h : opX P s o = some l) : ∃ p ∈ l, Step P w0 ρ s a w o p.1 p.2 := by
  rcases orA_some h with h | h
  · exact step_opF hw ha h
  · rcases orA_some h with h | h
    · exact step_opA hw ha h
    · exact step_opB hw ha h
end Go.Sx
