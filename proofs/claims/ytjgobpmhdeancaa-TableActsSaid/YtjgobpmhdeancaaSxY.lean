/- Rows of numbers of which places were written that need not be known: what is done with them. -/
import Derived.Test.YtjgobpmhdeancaaSxP
import Derived.Laws.MakeOwn
import Derived.Laws.Slices
import Derived.Laws.BytesString
namespace Go.Sx
open Go
set_option linter.unusedSimpArgs false

/-! ### how far apart two expressions are -/
def plusE (a b : E) : E := match a with
  | .lit (.ofNat 0) => b
  | a => match b with
    | .lit (.ofNat 0) => a
    | b => .bin .add a b
theorem den_plusE (ρ : Env) (a b : E) : (plusE a b).den ρ = a.den ρ + b.den ρ := by
  unfold plusE
  split
  · simp [E.den]
  · split
    · simp [E.den]
    · simp [E.den, Bi.den]
def splitE : E → E × Int
  | .lit n => (.lit 0, n)
  | .bin .add x y => (plusE (splitE x).1 (splitE y).1, (splitE x).2 + (splitE y).2)
  | e => (e, 0)
theorem den_splitE (ρ : Env) : ∀ e : E, (splitE e).1.den ρ + (splitE e).2 = e.den ρ := by
  intro e
  induction e with
  | lit n => simp [splitE, E.den]
  | bin o x y hx hy =>
    cases o <;> first | (simp only [splitE, den_plusE, E.den, Bi.den]; omega) | simp [splitE]
  | _ => simp [splitE]
def apart (x y : E) : Option Int := match linT (-1) y (linT 1 x ([], 0)) with
  | ([], d) => some d
  | _ => none
theorem apart_some {x y : E} {d : Int} (ρ : Env) (h : apart x y = some d) : x.den ρ = y.den ρ + d := by
  unfold apart at h
  split at h
  · rename_i d' hd
    cases h
    have h1 := den_linT ρ y (-1) (linT 1 x ([], 0))
    have h2 := den_linT ρ x 1 ([], 0)
    rw [hd, h2] at h1
    simp only [sumT] at h1
    omega
  · cases h
def gapE (x y : E) : E := match apart x y with
  | some d => litE d
  | none => mkSub x y
theorem den_gapE (ρ : Env) (x y : E) : (gapE x y).den ρ = x.den ρ - y.den ρ := by
  unfold gapE
  split
  · rename_i d hd; rw [den_litE, apart_some ρ hd]; omega
  · exact den_mkSub ρ x y
def D.toE : D → E → E
  | .con v, _ => v
  | .fn k f sh cd, e => .un (.wrap k) (.fn f (canE (mkAdd e sh)) cd (.lit 0))
theorem den_toE (ρ : Env) : ∀ (d : D) (e : E), (D.toE d e).den ρ = d.at ρ (e.den ρ)
  | .con _, _ => rfl
  | .fn k f sh cd, e => by simp only [D.toE, D.at, E.den, Un.den, den_canE, den_mkAdd]
/-- no name from n on -/
def E.low (n : Nat) : E → Bool
  | .lit _ => true
  | .var i => Nat.ble (i + 1) n
  | .un _ a => E.low n a
  | .bin _ a b => E.low n a && E.low n b
  | .ite a b c => E.low n a && E.low n b && E.low n c
  | .fn _ a b c => E.low n a && E.low n b && E.low n c
theorem den_low {n : Nat} {ρ ρ' : Env} (hf : ρ'.fn = ρ.fn) (hv : ∀ j, j < n → ρ'.v j = ρ.v j) : ∀ {e : E}, e.low n = true → e.den ρ' = e.den ρ := by
  intro e
  induction e with
  | lit m => intro _; rfl
  | var i => intro h; exact hv i (Nat.le_of_ble_eq_true h)
  | un o a ih => intro h; simp only [E.den, ih h]
  | bin o a b iha ihb => intro h; simp only [E.low, Bool.and_eq_true] at h; simp only [E.den, iha h.1, ihb h.2]
  | ite a b c iha ihb ihc => intro h; simp only [E.low, Bool.and_eq_true] at h; simp only [E.den, iha h.1.1, ihb h.1.2, ihc h.2]
  | fn f a b c iha ihb ihc => intro h; simp only [E.low, Bool.and_eq_true] at h; simp only [E.den, iha h.1.1, ihb h.1.2, ihc h.2, hf]
theorem low_le {s : St} {ρ ρ' : Env2} (hle : Le s ρ ρ') {e : E} (h : e.low s.nv = true) : e.den ρ'.toEnv = e.den ρ.toEnv := den_low hle.2.2.1 (fun j hj => hle.2.1 j hj) h
section
variable (b : Bd) (pc : List E)
/-- how much greater x may be -/
def overE (x y : E) : Option Int := match topT b (linT (-1) y (linT 1 x ([], 0))).1 with
  | some t => some (t + (linT (-1) y (linT 1 x ([], 0))).2)
  | none => none
def upto1 (x y : E) : Bool := (match overE b x y with
  | some d => decide (d ≤ 0)
  | none => false) || (match decB b pc (mkBin .le x y) with
    | some true => true
    | _ => false)
def uptoE (x y : E) : Bool := upto1 b pc x y || pc.any fun p => match p with
  | .bin .le a m => a.beq x && upto1 b pc m y
  | _ => false
def belowE (x y : E) : Bool := (match overE b x y with
  | some d => decide (d < 0)
  | none => false) || (match decB b pc (mkBin .lt x y) with
    | some true => true
    | _ => false) || pc.any fun p => match p with
      | .bin .lt a m => a.beq x && uptoE b pc m y
      | _ => false
def inE (lo hi e : E) : Option Bool := match uptoE b pc lo e && belowE b pc e hi with
  | true => some true
  | false => match belowE b pc e lo || uptoE b pc hi e with
    | true => some false
    | false => none
def readE (d : D) : List (E × E × D) → E → E
  | [], e => D.toE d e
  | (lo, hi, v) :: r, e => match inE b pc lo hi e with
    | some true => D.toE v e
    | some false => readE d r e
    | none => .ite (.bin .and (mkBin .le lo e) (mkBin .lt e hi)) (D.toE v e) (readE d r e)
end
section
variable {ρ : Env} {b : Bd} {pc : List E} (hb : b.ok ρ) (hp : pcOk ρ pc)
include hb hp
omit hp in
theorem overE_of {x y : E} {d : Int} (h : overE b x y = some d) : x.den ρ - y.den ρ ≤ d := by
  unfold overE at h
  split at h
  · rename_i t ht
    cases h
    have h1 := topT_of hb ht
    have h2 := den_linT ρ y (-1) (linT 1 x ([], 0))
    rw [den_linT ρ x] at h2
    simp only [sumT] at h2
    omega
  · cases h
theorem upto1_of {x y : E} (h : upto1 b pc x y = true) : x.den ρ ≤ y.den ρ := by
  unfold upto1 at h
  rcases Bool.or_eq_true _ _ ▸ h with h | h
  · split at h
    · rename_i d hd
      have := overE_of hb hd
      have := of_decide_eq_true h
      omega
    · cases h
  · split at h
    · rename_i hd
      have := decB_some hb hp _ _ hd
      rw [den_mkBin] at this
      simpa [Bi.den, b2i_bne] using this
    · cases h
theorem uptoE_of {x y : E} (h : uptoE b pc x y = true) : x.den ρ ≤ y.den ρ := by
  unfold uptoE at h
  rcases Bool.or_eq_true _ _ ▸ h with h | h
  · exact upto1_of hb hp h
  · obtain ⟨p, hm, h⟩ := List.any_eq_true.1 h
    have hq := hp p hm
    split at h
    · rename_i a m
      simp only [Bool.and_eq_true] at h
      have h1 := E.eq_of_beq h.1
      have h2 := upto1_of hb hp h.2
      simp only [E.den, Bi.den, b2i_ne, decide_eq_true_eq] at hq
      rw [← h1]
      omega
    · cases h
theorem belowE_of {x y : E} (h : belowE b pc x y = true) : x.den ρ < y.den ρ := by
  unfold belowE at h
  rcases Bool.or_eq_true _ _ ▸ h with h | h
  rcases Bool.or_eq_true _ _ ▸ h with h | h
  · split at h
    · rename_i d hd
      have := overE_of hb hd
      have := of_decide_eq_true h
      omega
    · cases h
  · split at h
    · rename_i hd
      have := decB_some hb hp _ _ hd
      rw [den_mkBin] at this
      simpa [Bi.den, b2i_bne] using this
    · cases h
  · obtain ⟨p, hm, h⟩ := List.any_eq_true.1 h
    have hq := hp p hm
    split at h
    · rename_i a m
      simp only [Bool.and_eq_true] at h
      have h1 := E.eq_of_beq h.1
      have h2 := uptoE_of hb hp h.2
      simp only [E.den, Bi.den, b2i_ne, decide_eq_true_eq] at hq
      rw [← h1]
      omega
    · cases h
theorem inE_some {lo hi e : E} {t : Bool} (h : inE b pc lo hi e = some t) : (lo.den ρ ≤ e.den ρ ∧ e.den ρ < hi.den ρ) ↔ t = true := by
  unfold inE at h
  split at h
  · rename_i hc
    simp only [Bool.and_eq_true] at hc
    cases h
    exact ⟨fun _ => rfl, fun _ => ⟨uptoE_of hb hp hc.1, belowE_of hb hp hc.2⟩⟩
  · split at h
    · rename_i hc
      simp only [Bool.or_eq_true] at hc
      cases h
      refine ⟨fun ⟨h1, h2⟩ => ?_, fun h => by cases h⟩
      rcases hc with hc | hc
      · have := belowE_of hb hp hc; omega
      · have := uptoE_of hb hp hc; omega
    · cases h
theorem den_readE (d : D) : ∀ (ws : List (E × E × D)) (e : E), (readE b pc d ws e).den ρ = readW ρ d ws (e.den ρ)
  | [], e => den_toE ρ d e
  | (lo, hi, v) :: r, e => by
    have ih := den_readE d r e
    simp only [readE, readW]
    split
    · rename_i h; rw [if_pos ((inE_some hb hp h).2 rfl)]; exact den_toE ρ v e
    · rename_i h; rw [if_neg (fun h' => by simpa using (inE_some hb hp h).1 h')]; exact ih
    · simp only [E.den, Bi.den, den_mkBin, b2i_ne, bne_iff_ne, Bool.and_eq_true, decide_eq_true_eq, ih, den_toE]
end

/-! ### what a row holds -/
theorem row_get (ρ : Env) (A : Arr) {j : Nat} (h : j < (A.size.den ρ).toNat) : (A.row ρ)[j]? = some (readW ρ A.dflt A.ws (j : Int)) := by
  simp [Arr.row, h]
theorem row_len (ρ : Env) (A : Arr) : (A.row ρ).length = (A.size.den ρ).toNat := by simp [Arr.row]
theorem den_get (ρ : Env) (A : Arr) {j : Nat} (h : j < (A.size.den ρ).toNat) : (A.den ρ)[j]? = some (.int A.kind (readW ρ A.dflt A.ws (j : Int))) := by
  simp [Arr.den, row_get ρ A h]
theorem den_size (ρ : Env) (A : Arr) : (A.den ρ).size = (A.size.den ρ).toNat := by simp [Arr.den, row_len]
theorem den_one (ρ : Env) (A : Arr) : ∀ v ∈ (A.den ρ).toList, v.oneCell' = true := by
  intro v hv
  simp only [Arr.den, List.mem_map] at hv
  obtain ⟨n, _, rfl⟩ := hv
  rfl

variable {P : Program} {w0 : Base} {w : World} {ρ : Env2} {s : St} {a : Act}
/-- an operation that only reckons -/
theorem step_calm (hw : RelW w0 ρ s w) {o : Oper} {v : V} (h : ∀ ρ', Le s ρ ρ' → (execOp a.eval o).run P w = .ok (.value (v.den ρ')) w) : Step P w0 ρ s a w o v s := by
  have h0 := h ρ (Le.refl _ _)
  refine ⟨_, _, ρ, w, h0, .inl rfl, fun ρ' hle => ?_, Le.refl _ _, hw, rfl, rfl, Nat.le_refl _, Nat.le_refl _⟩
  have h1 := h ρ' hle
  rw [h0] at h1
  injection h1 with h1
  injection h1 with h1
  exact h1.symm
/-- a new row -/
theorem step_newO (hw : RelW w0 ρ s w) {o : Oper} {o1 : O} {le ce : E} (h : ∀ ρ', Le s ρ ρ' → (execOp a.eval o).run P w =
    .ok (.value (.slice (some ⟨w.heap.size, 0, none⟩) (le.den ρ'.toEnv).toNat (ce.den ρ'.toEnv).toNat)) (w.alloc (.cells (o1.cells ρ') o1.elem))) :
    Step P w0 ρ s a w o (.sl s.nb (.lit 0) le ce) (s.allocO o1) := by
  have h0 := h ρ (Le.refl _ _)
  have hset : ∀ ρ', Le (s.allocO o1) (ρ.setBlk s.nb w.heap.size) ρ' → ρ'.blk s.nb = w.heap.size := fun ρ' hle => (hle.1 s.nb (by simp [St.allocO])).trans (by simp [Env2.setBlk])
  refine ⟨_, _, ρ.setBlk s.nb w.heap.size, _, h0, .inl rfl, fun ρ' hle => ?_, le_setBlk _ _ _, relW_allocO hw o1 (o1.cells ρ) fun ρ' hle => ?_, rfl, rfl, Nat.le_succ _, Nat.le_refl _⟩
  · have hle0 : Le s ρ ρ' := (le_setBlk s ρ _).trans (s' := s.allocO o1) (by simp [St.allocO]) (by simp [St.allocO]) hle
    have h1 := h ρ' hle0
    rw [h0] at h1
    injection h1 with h1
    injection h1 with h1
    injection h1 with _ h1 h2
    simp only [V.den, hset ρ' hle, E.den, h1, h2]
    rfl
  · have h1 := h ρ' hle
    rw [h0] at h1
    injection h1 with _ h1
    have := congrArg (fun w : World => w.heap[w.heap.size - 1]?) h1
    simp only [World.alloc, Array.size_push, Nat.add_sub_cancel] at this
    simp at this
    exact this.symm

/-! ### a row is made -/
def makeA (P : Program) (s : St) (t : TypeId) (l c : V) : Option (List (V × St)) := match l, c with
  | .int _ le, .int _ ce => match P.underlying t with
    | some (.slice e) => match P.info? e with
      | some ie => match ie.zero with
        | some (.int k 0) => match Nat.beq ie.size 1 && le.beq ce && nonneg (itv s.bd le) && within (itv s.bd le) (some 0, some 17592186044416) && Nat.ble ie.bytes 8 with
          | true => some [(.sl s.nb (.lit 0) le le, s.allocO ⟨[], e, some ⟨le, k, .con (.lit 0), []⟩⟩)]
          | false => none
        | _ => none
      | none => none
    | _ => none
  | _, _ => none
theorem made_row (k : IntKind) (n : Nat) (ρ' : Env) (le : E) (h : (le.den ρ').toNat = n) : madeCells (Value.int k 0).cells n = Arr.den ρ' ⟨le, k, .con (.lit 0), []⟩ := by
  apply Array.ext
  · rw [size_madeCells, den_size]; exact h.symm
  · intro i h1 h2
    rw [size_madeCells] at h1
    have := den_get ρ' ⟨le, k, .con (.lit 0), []⟩ (j := i) (by rw [h]; exact h1)
    rw [Array.getElem?_eq_getElem h2] at this
    injection this with this
    rw [this]
    simp [madeCells, Value.cells, readW, D.at, E.den, Nat.mod_one]
theorem within_of {i : Iv} {l h n : Int} (hw : within i (some l, some h) = true) (hn : i.has n) : l ≤ n ∧ n ≤ h := by
  obtain ⟨x, y⟩ := i
  cases x <;> cases y <;> simp [within] at hw
  have h1 := hn.1 _ rfl
  have h2 := hn.2 _ rfl
  omega
theorem step_makeA (hw : RelW w0 ρ s w) (ha : RelA ρ s a) {o : Oper} {t : TypeId} {x y : Operand} {l c : V} (ho : o.op = .makeSlice t x y) (hx : evO s x = some l) (hy : evO s y = some c) {r : List (V × St)} (h : makeA P s t l c = some r) :
    ∃ p ∈ r, Step P w0 ρ s a w o p.1 p.2 := by
  unfold makeA at h
  split at h
  · rename_i kl le kc ce
    split at h
    · rename_i e hu
      split at h
      · rename_i ie hie
        split at h
        · rename_i k hz
          split at h
          · rename_i hc
            simp only [Bool.and_eq_true] at hc
            obtain ⟨⟨⟨⟨c1, c2⟩, c3⟩, c4⟩, c5⟩ := hc
            have c1 := Nat.eq_of_beq_eq_true c1
            have c2 := E.eq_of_beq c2
            have c5 := Nat.le_of_ble_eq_true c5
            subst c2
            cases h
            refine ⟨_, List.mem_singleton.2 rfl, step_newO hw fun ρ' hle => ?_⟩
            have hb := (hw ρ' hle).bd
            obtain ⟨h1, h2⟩ := within_of c4 (has_itv hb le)
            have hm := run_make (P := P) w t e ie _ hu hie hz kl kc (le.den ρ'.toEnv) (le.den ρ'.toEnv) h1 (Int.le_refl _) (by
              have : (ie.bytes : Int) * le.den ρ'.toEnv ≤ 8 * le.den ρ'.toEnv := Int.mul_le_mul_of_nonneg_right (by omega) h1
              omega) (by omega)
            simp only [execOp, ho, den_evO (ha ρ' hle) hx, den_evO (ha ρ' hle) hy, V.den, Sem.run_bind, hm, Result.andThen_ok, Sem.run_pure, c1, Nat.mul_one]
            rw [made_row k _ ρ'.toEnv le rfl]
            rfl
          · cases h
        · cases h
      · cases h
    · cases h
  · cases h

/-! ### a part of a row -/
def sliceA (P : Program) (s : St) (t : TypeId) (x : V) (lo hi : Option V) : Option (List (V × St)) := match x with
  | .sl b off len cap => match P.underlying t with
    | some (.slice e) => match sizeT P e with
      | some 1 => match lo with
        | some (.int _ l) => match hi with
          | some (.int _ h) => match nonneg (itv s.bd off) && nonneg (itv s.bd l) && uptoE s.bd s.pc l h && uptoE s.bd s.pc h cap && belowE s.bd s.pc l cap with
            | true => some [(.sl b (mkAdd off l) (gapE h l) (gapE cap l), s)]
            | false => none
          | none => match nonneg (itv s.bd off) && nonneg (itv s.bd l) && uptoE s.bd s.pc l len && belowE s.bd s.pc l cap with
            | true => some [(.sl b (mkAdd off l) (gapE len l) (gapE cap l), s)]
            | false => none
          | _ => none
        | _ => none
      | _ => none
    | _ => none
  | _ => none
theorem evO_opt {ρ : Env2} {s : St} {a : Act} (h : RelA0 ρ s a) {x : Operand} {v : V} (hv : evO s x = some v) : (some x : Option Operand).map a.eval = some (v.den ρ) := by simp [den_evO h hv]
theorem nat_add {x y : Int} (hx : 0 ≤ x) (hy : 0 ≤ y) : x.toNat + y.toNat = (x + y).toNat := by omega
theorem nat_sub {x y : Int} (hx : 0 ≤ x) (hy : 0 ≤ y) : y.toNat - x.toNat = (y - x).toNat := by omega
theorem step_sliceA (hw : RelW w0 ρ s w) (ha : RelA ρ s a) {o : Oper} {t : TypeId} {x l : Operand} {h : Option Operand} {xv lv : V} {hv : Option V} (ho : o.op = .slice t x (some l) h none) (hx : evO s x = some xv) (hl : evO s l = some lv)
    (hh : (h = none ∧ hv = none) ∨ ∃ y v, h = some y ∧ hv = some v ∧ evO s y = some v) {r : List (V × St)} (hr : sliceA P s t xv (some lv) hv = some r) : ∃ p ∈ r, Step P w0 ρ s a w o p.1 p.2 := by
  unfold sliceA at hr
  split at hr
  · rename_i b off len cap
    split at hr
    · rename_i e hu
      split at hr
      · rename_i hz
        split at hr
        · rename_i kl le hle1
          cases hle1
          split at hr
          · rename_i kh he
            split at hr
            · rename_i hc
              cases hr
              simp only [Bool.and_eq_true] at hc
              obtain ⟨⟨⟨⟨c1, c2⟩, c3⟩, c4⟩, c5⟩ := hc
              rcases hh with ⟨_, h2⟩ | ⟨y, v, h1, h2, h3⟩
              · cases h2
              cases h2
              refine ⟨_, List.mem_singleton.2 rfl, step_calm hw fun ρ' hle => ?_⟩
              have hb := (hw ρ' hle).bd
              have hp := (hw ρ' hle).pc
              have d1 := nonneg_of c1 (has_itv hb off)
              have d2 := nonneg_of c2 (has_itv hb le)
              have d3 := uptoE_of hb hp c3
              have d4 := uptoE_of hb hp c4
              have d5 := belowE_of hb hp c5
              simp only [execOp, ho, h1, den_evO (ha ρ' hle) hx, evO_opt (ha ρ' hle) hl, evO_opt (ha ρ' hle) h3, Option.map_none, V.den, Instr.sliceAt, Sem.run_bind, run_underlying hu, Result.andThen_ok, Instr.slice, Instr.sliceBounds, Sem.run_pure,
                run_sliceBound (P := P) w kh (he.den ρ'.toEnv) (cap.den ρ'.toEnv).toNat BoundsCode.sliceAcap (by omega) (by omega),
                run_sliceBound (P := P) w kl (le.den ρ'.toEnv) (he.den ρ'.toEnv).toNat BoundsCode.sliceB (by omega) (by omega), run_sizeT w hz, if_true, Option.isSome_none, Bool.false_eq_true, if_false]
              rw [if_neg (by omega), Option.map_some, Nat.mul_one, add_addr, den_mkAdd, den_gapE, den_gapE, nat_add d1 d2, nat_sub d2 (by omega), nat_sub d2 (by omega)]
            · cases hr
          · split at hr
            · rename_i hc
              cases hr
              simp only [Bool.and_eq_true] at hc
              obtain ⟨⟨⟨c1, c2⟩, c3⟩, c5⟩ := hc
              have h1 : h = none := by
                rcases hh with ⟨h1, _⟩ | ⟨y, v, h1, h2, h3⟩
                · exact h1
                · cases h2
              refine ⟨_, List.mem_singleton.2 rfl, step_calm hw fun ρ' hle => ?_⟩
              have hb := (hw ρ' hle).bd
              have hp := (hw ρ' hle).pc
              have d1 := nonneg_of c1 (has_itv hb off)
              have d2 := nonneg_of c2 (has_itv hb le)
              have d3 := uptoE_of hb hp c3
              have d5 := belowE_of hb hp c5
              simp only [execOp, ho, h1, den_evO (ha ρ' hle) hx, evO_opt (ha ρ' hle) hl, Option.map_none, V.den, Instr.sliceAt, Sem.run_bind, run_underlying hu, Result.andThen_ok, Instr.slice, Instr.sliceBounds, Sem.run_pure,
                run_sliceBound (P := P) w kl (le.den ρ'.toEnv) (len.den ρ'.toEnv).toNat BoundsCode.sliceB (by omega) (by omega), run_sizeT w hz, if_true, Option.isSome_none, Bool.false_eq_true, if_false]
              rw [if_neg (by omega), Option.map_some, Nat.mul_one, add_addr, den_mkAdd, den_gapE, den_gapE, nat_add d1 d2, nat_sub d2 (by omega), nat_sub d2 (by omega)]
            · cases hr
          · cases hr
        · cases hr
      · cases hr
    · cases hr
  · cases hr

/-! ### a place in a row -/
def placeA (P : Program) (s : St) (t : TypeId) (x i : V) : Option (List (V × St)) := match x with
  | .sl b off len _ => match i with
    | .int _ e => match P.underlying t with
      | some (.slice el) => match sizeT P el with
        | some 1 => match nonneg (itv s.bd off) && nonneg (itv s.bd e) && belowE s.bd s.pc e len with
          | true => some [(.cel b (mkAdd off e), s)]
          | false => none
        | _ => none
      | _ => none
    | _ => none
  | _ => none
theorem step_placeA (hw : RelW w0 ρ s w) (ha : RelA ρ s a) {o : Oper} {t : TypeId} {x i : Operand} {xv iv : V} (ho : o.op = .indexAddr t x i) (hx : evO s x = some xv) (hi : evO s i = some iv) {r : List (V × St)} (hr : placeA P s t xv iv = some r) :
    ∃ p ∈ r, Step P w0 ρ s a w o p.1 p.2 := by
  unfold placeA at hr
  split at hr
  · rename_i b off len cap
    split at hr
    · rename_i k e
      split at hr
      · rename_i el hu
        split at hr
        · rename_i hz
          split at hr
          · rename_i hc
            cases hr
            simp only [Bool.and_eq_true] at hc
            obtain ⟨⟨c1, c2⟩, c3⟩ := hc
            refine ⟨_, List.mem_singleton.2 rfl, step_calm hw fun ρ' hle => ?_⟩
            have hb := (hw ρ' hle).bd
            have hp := (hw ρ' hle).pc
            have d1 := nonneg_of c1 (has_itv hb off)
            have d2 := nonneg_of c2 (has_itv hb e)
            have d3 := belowE_of hb hp c3
            have d4 : (0 ≤ e.den ρ'.toEnv ∧ e.den ρ'.toEnv < ((len.den ρ'.toEnv).toNat : Int)) := ⟨d2, by omega⟩
            simp [execOp, ho, den_evO (ha ρ' hle) hx, den_evO (ha ρ' hle) hi, V.den, Instr.indexAt, asIntOf, run_underlying hu, d4, run_sizeT w hz, add_addr, den_mkAdd, nat_add d1 d2]
            intro hh
            exact absurd hh (by omega)
          · cases hr
        · cases hr
      · cases hr
    · cases hr
  · cases hr

/-! ### a place is read -/
def arrAt (s : St) (b : Nat) : Option (Arr × TypeId) := match s.hp.get b with
  | some ⟨_, el, some A⟩ => some (A, el)
  | _ => none
theorem arrAt_some {b : Nat} {A : Arr} {el : TypeId} (h : arrAt s b = some (A, el)) : ∃ vs, s.hp.get b = some ⟨vs, el, some A⟩ := by
  unfold arrAt at h
  split at h
  · rename_i vs el' A' hg; cases h; exact ⟨vs, hg⟩
  · cases h
theorem cell_arr {ρ' : Env2} (h : RelW0 w0 ρ' s w) {b : Nat} {A : Arr} {el : TypeId} (hg : arrAt s b = some (A, el)) {j : Int} (h0 : 0 ≤ j) (h1 : j < A.size.den ρ'.toEnv) :
    w.cell? ⟨ρ'.blk b, j.toNat, none⟩ = some (.int A.kind (readW ρ'.toEnv A.dflt A.ws j)) := by
  obtain ⟨vs, hg⟩ := arrAt_some hg
  have := (h.hp b _ hg).2.2.2
  have hj : ((j.toNat : Nat) : Int) = j := by omega
  simp [World.cell?, this, O.den, O.cells, den_get ρ'.toEnv A (j := j.toNat) (by omega), hj]
def loadA (P : Program) (s : St) (t : TypeId) (x : V) : Option (List (V × St)) := match x with
  | .cel b e => match arrAt s b with
    | some (A, _) => match aggT P t with
      | some false => match nonneg (itv s.bd e) && belowE s.bd s.pc e A.size with
        | true => some [(.int A.kind (readE s.bd s.pc A.dflt A.ws e), s)]
        | false => none
      | _ => none
    | none => none
  | _ => none
theorem step_loadA (hw : RelW w0 ρ s w) (ha : RelA ρ s a) {o : Oper} {t : TypeId} {x : Operand} {xv : V} (ho : o.op = .load t x) (hx : evO s x = some xv) {r : List (V × St)} (hr : loadA P s t xv = some r) :
    ∃ p ∈ r, Step P w0 ρ s a w o p.1 p.2 := by
  unfold loadA at hr
  split at hr
  · rename_i b e
    split at hr
    · rename_i A el hA
      split at hr
      · rename_i hag
        split at hr
        · rename_i hc
          cases hr
          simp only [Bool.and_eq_true] at hc
          refine ⟨_, List.mem_singleton.2 rfl, step_calm hw fun ρ' hle => ?_⟩
          have h0 := hw ρ' hle
          have d1 := nonneg_of hc.1 (has_itv h0.bd e)
          have d2 := belowE_of h0.bd h0.pc hc.2
          have h4 := cell_arr h0 hA d1 d2
          simp only [execOp, ho, den_evO (ha ρ' hle) hx, Instr.loadAt, Instr.sureAddr, V.den, Sem.run_bind]
          simp only [loadVar, Sem.run_bind, Sem.run_pure, Result.andThen_ok, run_aggT w hag]
          simp [run_load, h4, den_readE h0.bd h0.pc]
        · cases hr
      · cases hr
    · cases hr
  · cases hr

/-! ### a place is written -/
def storeA (P : Program) (s : St) (t : TypeId) (x v : V) : Option (List (V × St)) := match x with
  | .cel b e => match s.hp.get b with
    | some ⟨vs, el, some A⟩ => match v with
      | .int k n => match sizeT P t with
        | some 1 => match decide (k = A.kind) && nonneg (itv s.bd e) && belowE s.bd s.pc e A.size with
          | true => some [(undefV, s.setRow b ⟨vs, el, some ⟨A.size, A.kind, A.dflt, (e, mkAdd e (.lit 1), .con n) :: A.ws⟩⟩)]
          | false => none
        | _ => none
      | _ => none
    | _ => none
  | _ => none
theorem set_row (ρ' : Env) (A : Arr) (e n : E) (h0 : 0 ≤ e.den ρ') (h1 : e.den ρ' < A.size.den ρ') :
    (((A.den ρ').toList.take (e.den ρ').toNat) ++ [Value.int A.kind (n.den ρ')] ++ ((A.den ρ').toList.drop ((e.den ρ').toNat + 1))).toArray = Arr.den ρ' ⟨A.size, A.kind, A.dflt, (e, mkAdd e (.lit 1), .con n) :: A.ws⟩ := by
  apply Array.ext'
  apply List.ext_getElem?
  intro j
  have hs : (A.den ρ').toList.length = (A.size.den ρ').toNat := by rw [Array.length_toList, den_size]
  have hlt : (e.den ρ').toNat < (A.size.den ρ').toNat := by omega
  rw [List.append_assoc]
  by_cases hj : j < (A.size.den ρ').toNat
  · rw [Array.getElem?_toList (xs := Arr.den ρ' ⟨A.size, A.kind, A.dflt, (e, mkAdd e (.lit 1), .con n) :: A.ws⟩), den_get ρ' ⟨A.size, A.kind, A.dflt, (e, mkAdd e (.lit 1), .con n) :: A.ws⟩ hj]
    have hold := den_get ρ' A hj
    rw [← Array.getElem?_toList] at hold
    simp only [readW, den_mkAdd, E.den, D.at]
    rcases Nat.lt_trichotomy j (e.den ρ').toNat with h | h | h
    · rw [List.getElem?_append_left (by rw [List.length_take]; omega), List.getElem?_take_of_lt h, hold, if_neg (by omega)]
    · rw [List.getElem?_append_right (by rw [List.length_take]; omega), List.length_take, show j - min (e.den ρ').toNat (A.den ρ').toList.length = 0 by omega, if_pos (by omega)]
      rfl
    · rw [List.getElem?_append_right (by rw [List.length_take]; omega), List.length_take, show j - min (e.den ρ').toNat (A.den ρ').toList.length = (j - (e.den ρ').toNat - 1) + 1 by omega, if_neg (by omega)]
      rw [List.singleton_append, List.getElem?_cons_succ, List.getElem?_drop, ← hold]
      congr 1
      omega
  · rw [List.getElem?_eq_none (by simp only [List.length_append, List.length_take, List.length_drop, List.length_cons, List.length_nil]; omega), List.getElem?_eq_none (by rw [Array.length_toList, den_size]; exact Nat.le_of_not_lt hj)]
theorem step_storeA (hw : RelW w0 ρ s w) (ha : RelA ρ s a) {o : Oper} {t : TypeId} {x y : Operand} {xv yv : V} (ho : o.op = .store t x y) (hx : evO s x = some xv) (hy : evO s y = some yv) {r : List (V × St)} (hr : storeA P s t xv yv = some r) :
    ∃ p ∈ r, Step P w0 ρ s a w o p.1 p.2 := by
  unfold storeA at hr
  split at hr
  · rename_i b e
    split at hr
    · rename_i vs el A hg
      split at hr
      · rename_i k n
        split at hr
        · rename_i hz
          split at hr
          · rename_i hc
            cases hr
            simp only [Bool.and_eq_true] at hc
            obtain ⟨⟨c1, c2⟩, c3⟩ := hc
            have c1 := of_decide_eq_true c1
            subst c1
            have cell : ∀ ρ', Le s ρ ρ' → (execOp a.eval o).run P w = .ok .skip (w.setRow (ρ.blk b) (Arr.den ρ'.toEnv ⟨A.size, A.kind, A.dflt, (e, mkAdd e (.lit 1), .con n) :: A.ws⟩)) := by
              intro ρ' hle
              have h0 := hw ρ' hle
              obtain ⟨hb, hlo, hhi, hcell⟩ := h0.hp b _ hg
              have d1 := nonneg_of c2 (has_itv h0.bd e)
              have d2 := belowE_of h0.bd h0.pc c3
              have := run_storeCells_at (P := P) (ρ'.blk b) (e.den ρ'.toEnv).toNat el [Value.int A.kind (n.den ρ'.toEnv)] 0 (A.den ρ'.toEnv) w hcell (by rw [den_size]; simp only [List.length_cons, List.length_nil]; omega) (by intro u hu; simp at hu; subst hu; rfl)
              simp only [Nat.add_zero, List.length_cons, List.length_nil, Nat.zero_add] at this
              rw [set_row ρ'.toEnv A e n d1 d2, hle.1 b hb] at this
              simp only [execOp, ho, den_evO (ha ρ' hle) hx, den_evO (ha ρ' hle) hy, Instr.storeAt, Instr.sureAddr, V.den, Sem.run_bind, Sem.run_pure, Result.andThen_ok, storeVar, run_sizeT w hz, Value.cells, List.size_toArray, List.length_cons, List.length_nil, Nat.zero_add, ne_eq, not_true_eq_false, if_false, hle.1 b hb]
              simp only [this, Result.andThen_ok]
            refine ⟨_, List.mem_singleton.2 rfl, .skip, undef, ρ, _, cell ρ (Le.refl _ _), .inr ⟨rfl, rfl⟩, fun _ _ => den_undef _, Le.refl _ _, relW_setRow hw hg ⟨vs, el, some ⟨A.size, A.kind, A.dflt, (e, mkAdd e (.lit 1), .con n) :: A.ws⟩⟩ rfl _ fun ρ' hle => ?_, rfl, rfl, Nat.le_refl _, Nat.le_refl _⟩
            have h1 := cell ρ' hle
            rw [cell ρ (Le.refl _ _)] at h1
            injection h1 with _ h1
            have hcell := (hw.to.hp b _ hg).2.2.2
            have := congrArg (fun w : World => w.heap[ρ.blk b]?) h1
            simp only [O.den] at hcell
            rw [setRow_heap w _ _ _ el (0, 0) hcell, setRow_heap w _ _ _ el (0, 0) hcell] at this
            simp at this
            exact this.symm
          · cases hr
        · cases hr
      · cases hr
    · cases hr
  · cases hr

/-! ### a row's bytes as a string -/
def textA (P : Program) (s : St) (src dst : TypeId) (x : V) : Option (List (V × St)) := match x with
  | .sl b off len _ => match P.underlying src with
    | some (.slice e) => match P.underlying e with
      | some (.int .u8) => match P.underlying dst with
        | some .string => match arrAt s b with
          | some (A, _) => match off with
            | .lit 0 => match decide (A.kind = .u8) && nonneg (itv s.bd len) && uptoE s.bd s.pc len A.size with
              | true => some [(.astr ⟨len, A.kind, A.dflt, A.ws⟩, s)]
              | false => none
            | _ => none
          | none => none
        | _ => none
      | _ => none
    | _ => none
  | _ => none
theorem step_textA (hw : RelW w0 ρ s w) (ha : RelA ρ s a) {o : Oper} {src dst : TypeId} {x : Operand} {xv : V} (ho : o.op = .convert src dst x) (hx : evO s x = some xv) {r : List (V × St)} (hr : textA P s src dst xv = some r) :
    ∃ p ∈ r, Step P w0 ρ s a w o p.1 p.2 := by
  unfold textA at hr
  split at hr
  · rename_i b off len cap
    split at hr
    · rename_i e hs
      split at hr
      · rename_i he
        split at hr
        · rename_i hd
          split at hr
          · rename_i A el hA
            split at hr
            · split at hr
              · rename_i hc
                cases hr
                simp only [Bool.and_eq_true] at hc
                obtain ⟨⟨c1, c2⟩, c3⟩ := hc
                have c1 := of_decide_eq_true c1
                refine ⟨_, List.mem_singleton.2 rfl, step_calm hw fun ρ' hle => ?_⟩
                have h0 := hw ρ' hle
                have d2 := nonneg_of c2 (has_itv h0.bd len)
                have d3 := uptoE_of h0.bd h0.pc c3
                have hl := run_loadCells_list (P := P) w ⟨ρ'.blk b, 0, none⟩ (((Arr.row ρ'.toEnv ⟨len, A.kind, A.dflt, A.ws⟩).map (Value.int .u8))) (fun j u hu => by
                  rw [List.getElem?_map] at hu
                  have hj : j < (len.den ρ'.toEnv).toNat := by
                    rcases Nat.lt_or_ge j (len.den ρ'.toEnv).toNat with h' | h'
                    · exact h'
                    · rw [List.getElem?_eq_none (by rw [row_len]; exact h')] at hu; cases hu
                  rw [row_get ρ'.toEnv ⟨len, A.kind, A.dflt, A.ws⟩ hj] at hu
                  have hcell := cell_arr h0 hA (j := (j : Int)) (by omega) (by omega)
                  rw [add_addr, Nat.zero_add]
                  rw [Int.toNat_natCast, c1] at hcell
                  rw [hcell]
                  exact hu)
                rw [List.length_map, row_len] at hl
                have hb := run_bytesToString (P := P) w ⟨ρ'.blk b, 0, none⟩ (len.den ρ'.toEnv).toNat (cap.den ρ'.toEnv).toNat (Arr.row ρ'.toEnv ⟨len, A.kind, A.dflt, A.ws⟩) hl
                simp only [execOp, ho, den_evO (ha ρ' hle) hx, V.den, E.den, Int.toNat_zero, Sem.run_bind, run_convert_bytes_string w src dst e _ _ _ hs he hd, hb, Result.andThen_ok, Sem.run_pure]
                rfl
              · cases hr
            · cases hr
          · cases hr
        · cases hr
      · cases hr
    · cases hr
  · cases hr

/-! ### how long -/
def lenA (P : Program) (s : St) (bi : Builtin) (ts : Array TypeId) (vs : List V) : Option (List (V × St)) := match bi with
  | .len => match vs with
    | [x] => match ts[0]? with
      | some t => match P.underlying t with
        | some .string => match x with
          | .astr A => match nonneg (itv s.bd A.size) with
            | true => some [(.int .i64 A.size, s)]
            | false => none
          | _ => none
        | some (.slice _) => match x with
          | .sl _ _ n _ => match nonneg (itv s.bd n) with
            | true => some [(.int .i64 n, s)]
            | false => none
          | _ => none
        | _ => none
      | none => none
    | _ => none
  | _ => none
theorem push_size (l : List Int) : ∀ r : ByteArray, (l.foldl (fun (r : ByteArray) n => r.push (UInt8.ofNat n.toNat)) r).size = r.size + l.length := by
  induction l with
  | nil => intro r; rfl
  | cons n l ih => intro r; rw [List.foldl_cons, ih, ByteArray.size_push, List.length_cons]; omega
theorem bytes_size (ρ : Env) (A : Arr) : (A.bytes ρ).size = (A.size.den ρ).toNat := by
  unfold Arr.bytes
  rw [push_size, row_len]
  show 0 + _ = _
  omega
theorem step_lenA (hw : RelW w0 ρ s w) (ha : RelA ρ s a) {o : Oper} {c : Call} {bi : Builtin} {vs : List V} (ho : o.op = .call c) (hc : c.callee = .builtin bi) (hvs : evs s c.args = some vs) {r : List (V × St)} (hr : lenA P s bi c.argTypes vs = some r) :
    ∃ p ∈ r, Step P w0 ρ s a w o p.1 p.2 := by
  have key : ∀ {v : V}, (∀ ρ', Le s ρ ρ' → ∀ ty cs, (builtin bi c.argTypes ty cs (V.denL ρ' vs).toArray).run P w = .ok (.value (v.den ρ')) w) → Step P w0 ρ s a w o v s := by
    intro v hb
    refine step_calm hw fun ρ' hle => ?_
    have := den_evs (ha ρ' hle) hvs
    simp only [execOp, ho, resolve, hc, this, Sem.run_bind, Sem.run_pure, Result.andThen_ok, invoke]
    exact hb ρ' hle _ _
  unfold lenA at hr
  split at hr
  · split at hr
    · rename_i x
      split at hr
      · rename_i t ht
        split at hr
        · rename_i hu
          split at hr
          · rename_i A
            split at hr
            · rename_i hn
              cases hr
              refine ⟨_, List.mem_singleton.2 rfl, key fun ρ' hle ty cs => ?_⟩
              have := nonneg_of hn (has_itv (hw ρ' hle).bd A.size)
              simp [builtin, Builtin.len_, ht, V.denL, run_underlying hu, V.den, goInt, bytes_size]
              omega
            · cases hr
          · cases hr
        · rename_i hu
          split at hr
          · rename_i n _
            split at hr
            · rename_i hn
              cases hr
              refine ⟨_, List.mem_singleton.2 rfl, key fun ρ' hle ty cs => ?_⟩
              have := nonneg_of hn (has_itv (hw ρ' hle).bd n)
              simp [builtin, Builtin.len_, ht, V.denL, run_underlying hu, V.den, goInt]
              omega
            · cases hr
          · cases hr
        · cases hr
      · cases hr
    · cases hr
  · cases hr

/-! ### a pointer against none -/
def nilA (P : Program) (s : St) (op : BinOp) (t : TypeId) (x y : V) : Option (List (V × St)) := match P.underlying t with
  | some (.pointer _) => match y with
    | .nilp => match (match x with
        | .ptr _ _ => some false
        | .nilp => some true
        | _ => none) with
      | some r => match op with
        | .eql => some [(.bool (.lit (b2i r)), s)]
        | .neq => some [(.bool (.lit (b2i (!r))), s)]
        | _ => none
      | none => none
    | _ => none
  | _ => none
theorem equal_nil (w : World) {t e : TypeId} (h : P.underlying t = some (.pointer e)) (a : Option Addr) : (Op.equal t (.pointer a) (.pointer none)).run P w = .ok a.isNone w := by
  have key : ∀ n, (Op.equalIn (n + 1) t (.pointer a) (.pointer none)).run P w = .ok a.isNone w := fun n => by
    cases a <;> simp [Op.equalIn, run_underlying h]
  exact key 9999
theorem step_nilA (hw : RelW w0 ρ s w) (ha : RelA ρ s a) {o : Oper} {op : BinOp} {t t2 : TypeId} {x y : Operand} {xv yv : V} (ho : o.op = .binOp op t x y t2) (hx : evO s x = some xv) (hy : evO s y = some yv) {r : List (V × St)} (hr : nilA P s op t xv yv = some r) :
    ∃ p ∈ r, Step P w0 ρ s a w o p.1 p.2 := by
  unfold nilA at hr
  split at hr
  · rename_i e hu
    split at hr
    · split at hr
      · rename_i r' hr'
        have hd : ∀ ρ' : Env2, ∃ q : Option Addr, xv.den ρ' = .pointer q ∧ q.isNone = r' := by
          intro ρ'
          cases xv <;> simp at hr'
          · exact ⟨_, rfl, by simp [← hr']⟩
          · exact ⟨none, rfl, by simp [hr']⟩
        split at hr
        · cases hr
          refine ⟨_, List.mem_singleton.2 rfl, step_calm hw fun ρ' hle => ?_⟩
          obtain ⟨q, hq, hn⟩ := hd ρ'
          simp only [execOp, ho, den_evO (ha ρ' hle) hx, den_evO (ha ρ' hle) hy, hq, V.den, Sem.run_bind, eqGuard, binOp, E.den, b2i_bne]
          simp [equal_nil w hu, hn]
        · cases hr
          refine ⟨_, List.mem_singleton.2 rfl, step_calm hw fun ρ' hle => ?_⟩
          obtain ⟨q, hq, hn⟩ := hd ρ'
          simp only [execOp, ho, den_evO (ha ρ' hle) hx, den_evO (ha ρ' hle) hy, hq, V.den, Sem.run_bind, eqGuard, binOp, E.den, b2i_bne]
          simp [equal_nil w hu, hn]
        · cases hr
      · cases hr
    · cases hr
  · cases hr

/-! ### noughts are put behind -/
theorem growBy_le (n : Nat) : ∀ (r c : Nat), c ≤ n + (n + 768) / 4 → Builtin.growBy n r c ≤ n + (n + 768) / 4
  | 0, c, h => h
  | r + 1, c, h => by
    simp only [Builtin.growBy]
    split
    · exact h
    · exact growBy_le n r _ (by omega)
theorem next_le {need cap : Nat} (h : cap < need) : Builtin.nextslicecap need cap ≤ 2 * need + 192 := by
  unfold Builtin.nextslicecap
  split
  · omega
  · split
    · omega
    · have := growBy_le need 4 cap (by omega)
      omega
theorem zero_cells (k : IntKind) (n : Nat) : Builtin.zeroCells (Value.int k 0).cells n = Array.replicate n (.int k 0) := by
  apply Array.ext
  · simp [Builtin.zeroCells, Value.cells]
  · intro i h1 h2
    simp [Builtin.zeroCells, Value.cells, Nat.mod_one]
theorem run_appendZ (w : World) {ts : Array TypeId} {t tx ty e : TypeId} {ie : TypeInfo} {k kx kn : IntKind} (t0 : ts[0]? = some t) (t1 : ts[1]? = some tx) (ht : P.underlying t = some (.slice e)) (hx : P.underlying tx = some (.int kx))
    (hi : P.info? e = some ie) (hz : ie.zero = some (.int k 0)) (hs : ie.size = 1) (hb : ie.bytes ≤ 8) (a : Addr) (sLen sCap n : Nat) (m : Int) (hm0 : 0 < m) (hmn : m.toNat = n) (olds : List Value) (hold : olds.length = sLen) (hc : ∀ j v, olds[j]? = some v → w.cell? (a.add j) = some v)
    (hg : sCap < sLen + n) (hl : sLen + n ≤ 2199023255552) (N : Nat) (hN : N = (Question.appendCap (sLen + n) sCap e).cut (w.tape w.drawn (.appendCap (sLen + n) sCap e))) :
    (Builtin.append_ ts ty #[.slice (some a) sLen sCap, .int kn m]).run P w =
      .ok (.slice (some ⟨w.heap.size, 0, none⟩) (sLen + n) N) (({ w with drawn := w.drawn + 1 } : World).alloc (.cells (olds.toArray ++ Array.replicate (n + (N - (sLen + n))) (.int k 0)) e)) := by
  have hw : IntKind.i64.wrap m = m := by rw [IntKind.wrap_i64]; omega
  have h1 : ¬ (m < 0) := by omega
  have hbn : (ie.bytes : Int) * 1 ≤ 8 := by omega
  have h2 : ¬ (281474976710656 < m * (ie.bytes : Int)) := by
    have : m * (ie.bytes : Int) ≤ m * 8 := Int.mul_le_mul_of_nonneg_left (by omega) (by omega)
    omega
  have h3 : ¬ (sLen + n ≤ sCap) := by omega
  have h4 : ¬ (9223372036854775807 < ((sLen : Int) + (n : Int))) := by omega
  have hnx := next_le hg
  have h5 : ¬ (281474976710656 < Builtin.nextslicecap (sLen + n) sCap * ie.bytes) := by
    have : Builtin.nextslicecap (sLen + n) sCap * ie.bytes ≤ Builtin.nextslicecap (sLen + n) sCap * 8 := Nat.mul_le_mul_left _ hb
    omega
  have hq : (Question.appendCap (sLen + n) sCap e).forced = false := rfl
  have hlc : ∀ w' : World, w'.heap = w.heap → (loadCells a (sLen * 1)).run P w' = .ok olds.toArray w' := fun w' hw' => by
    have := run_loadCells_list (P := P) w' a olds (fun j v hv => by rw [← hc j v hv]; simp [World.cell?, hw'])
    rw [hold] at this
    simpa using this
  have hlc1 := hlc { w with drawn := w.drawn + 1 } rfl
  rw [Nat.mul_one] at hlc1
  have hn : ¬ n = 0 := by omega
  have h4' : ¬ (9223372036854775807 < ((sLen : Int) + max m 0)) := by omega
  simp [Builtin.append_, t0, t1, run_underlying ht, run_underlying hx, sizeOf, typeInfo, hi, hs, asInt, asIntOf, hw, hmn, h1, h2, h3, h4', h5, hq, hn, Builtin.firstCells, hlc1, zeroValue, hz, newRow, newObj, Sem.run, zero_cells, ← hN]
  have hlc2 : (loadCells a sLen).run P w.drew = .ok olds.toArray w.drew := hlc1
  rw [hlc2]
  rfl

def insideWs (b : Bd) (pc : List E) (len : E) : List (E × E × D) → Bool
  | [] => true
  | (_, hi, _) :: r => uptoE b pc hi len && insideWs b pc len r
theorem insideWs_of {ρ : Env} {b : Bd} {pc : List E} (hb : b.ok ρ) (hp : pcOk ρ pc) {len : E} : ∀ {ws : List (E × E × D)}, insideWs b pc len ws = true → ∀ d j, len.den ρ ≤ j → readW ρ d ws j = d.at ρ j
  | [], _, d, j, _ => rfl
  | (lo, hi, v) :: r, h, d, j, hj => by
    simp only [insideWs, Bool.and_eq_true] at h
    have := uptoE_of hb hp h.1
    simp only [readW]
    rw [if_neg (by omega)]
    exact insideWs_of hb hp h.2 d j hj
theorem append_row (ρ : Env) (A : Arr) {L R N : Nat} (hs : (L : Int) ≤ A.size.den ρ) (hd : A.dflt = .con (.lit 0)) (hN : L + R = N) (hz : ∀ j : Int, (L : Int) ≤ j → readW ρ A.dflt A.ws j = A.dflt.at ρ j) :
    ((Arr.den ρ A).toList.take L).toArray ++ Array.replicate R (.int A.kind 0) = Arr.den ρ ⟨.lit (N : Int), A.kind, .con (.lit 0), A.ws⟩ := by
  have hl : ((Arr.den ρ A).toList.take L).length = L := by rw [List.length_take, Array.length_toList, den_size]; omega
  apply Array.ext
  · rw [Array.size_append, Array.size_replicate, den_size, List.size_toArray, hl]; show L + R = (N : Int).toNat; omega
  · intro i h1 h2
    have hi : i < N := by rw [den_size] at h2; exact h2
    have e := den_get ρ ⟨.lit (N : Int), A.kind, .con (.lit 0), A.ws⟩ (j := i) (by show i < (N : Int).toNat; omega)
    rw [Array.getElem?_eq_getElem h2] at e
    injection e with e
    rw [e]
    by_cases hlt : i < L
    · rw [Array.getElem_append_left (by rw [List.size_toArray, hl]; exact hlt)]
      have g := den_get ρ A (j := i) (by omega)
      rw [← Array.getElem?_toList] at g
      have g2 : ((Arr.den ρ A).toList.take L)[i]? = _ := (List.getElem?_take_of_lt hlt).trans g
      rw [List.getElem?_eq_getElem (by rw [hl]; exact hlt)] at g2
      injection g2 with g2
      simp only [List.getElem_toArray, g2, hd]
    · rw [Array.getElem_append_right (by rw [List.size_toArray, hl]; omega), Array.getElem_replicate]
      have := hz (i : Int) (by omega)
      rw [hd] at this
      rw [this]; rfl
def needE (len n : E) : E := mkAdd len n
def capBd (s : St) : Bd := [(.var s.nv, (some 0, some 9223372036854775807))]
def St.more1 (s : St) (len n : E) : St := (s.fresh (capBd s)).assume (mkBin .le (needE len n) (.var s.nv))
def appendA (P : Program) (s : St) (bi : Builtin) (ts : Array TypeId) (vs : List V) : Option (List (V × St)) := match bi with
  | .append => match vs with
    | [.sl b off len cap, .int _ n] => match ts[0]?, ts[1]? with
      | some t, some tx => match P.underlying t, P.underlying tx with
        | some (.slice e), some (.int _) => match P.info? e with
          | some ie => match ie.zero with
            | some (.int k 0) => match arrAt s b with
              | some (A, _) => match off with
                | .lit 0 => match A.dflt with
                  | .con (.lit 0) => match decide (A.kind = k) && Nat.beq ie.size 1 && Nat.ble ie.bytes 8 && within (itv s.bd len) (some 0, some 1099511627776) && within (itv s.bd n) (some 1, some 1099511627776) && nonneg (itv s.bd cap) && uptoE s.bd s.pc len A.size && belowE s.bd s.pc cap (needE len n) && insideWs s.bd s.pc len A.ws with
                    | true => some [(.sl s.nb (.lit 0) (needE len n) (.var s.nv), (s.more1 len n).allocO ⟨[], e, some ⟨.var s.nv, k, .con (.lit 0), A.ws⟩⟩)]
                    | false => none
                  | _ => none
                | _ => none
              | none => none
            | _ => none
          | none => none
        | _, _ => none
      | _, _ => none
    | _ => none
  | _ => none
theorem step_appendA (hw : RelW w0 ρ s w) (ha : RelA ρ s a) {o : Oper} {c : Call} {bi : Builtin} {vs : List V} (ho : o.op = .call c) (hc : c.callee = .builtin bi) (hvs : evs s c.args = some vs) {r : List (V × St)} (hr : appendA P s bi c.argTypes vs = some r) :
    ∃ p ∈ r, Step P w0 ρ s a w o p.1 p.2 := by
  unfold appendA at hr
  split at hr
  · split at hr
    · rename_i b off len cap kn n
      split at hr
      · rename_i t tx t0 t1
        split at hr
        · rename_i e kx ht hx
          split at hr
          · rename_i ie hi
            split at hr
            · rename_i k hz
              split at hr
              · rename_i A el hA
                split at hr
                · split at hr
                  · rename_i hdf
                    split at hr
                    · rename_i hcond
                      cases hr
                      simp only [Bool.and_eq_true] at hcond
                      obtain ⟨⟨⟨⟨⟨⟨⟨⟨c1, c2⟩, c3⟩, c4⟩, c5⟩, c6⟩, c7⟩, c8⟩, c9⟩ := hcond
                      have c1 := of_decide_eq_true c1
                      have c2 := Nat.eq_of_beq_eq_true c2
                      have c3 := Nat.le_of_ble_eq_true c3
                      have hneed : ∀ ρ' : Env2, (needE len n).den ρ'.toEnv = len.den ρ'.toEnv + n.den ρ'.toEnv := fun ρ' => den_mkAdd _ _ _
                      have nums : ∀ ρ', Le s ρ ρ' → (0 ≤ len.den ρ'.toEnv ∧ len.den ρ'.toEnv ≤ 1099511627776) ∧ (1 ≤ n.den ρ'.toEnv ∧ n.den ρ'.toEnv ≤ 1099511627776) ∧ 0 ≤ cap.den ρ'.toEnv ∧ len.den ρ'.toEnv ≤ A.size.den ρ'.toEnv ∧ cap.den ρ'.toEnv < len.den ρ'.toEnv + n.den ρ'.toEnv := fun ρ' hle => by
                        have h0 := hw ρ' hle
                        have := belowE_of h0.bd h0.pc c8
                        rw [hneed] at this
                        exact ⟨within_of c4 (has_itv h0.bd len), within_of c5 (has_itv h0.bd n), nonneg_of c6 (has_itv h0.bd cap), uptoE_of h0.bd h0.pc c7, this⟩
                      obtain ⟨m, hm⟩ : ∃ m, (Question.appendCap ((needE len n).den ρ.toEnv).toNat (cap.den ρ.toEnv).toNat e).cut (w.tape w.drawn (.appendCap ((needE len n).den ρ.toEnv).toNat (cap.den ρ.toEnv).toNat e)) = m := ⟨_, rfl⟩
                      have hm2 : ((needE len n).den ρ.toEnv).toNat ≤ m ∧ m ≤ 9223372036854775807 := by
                        have h1 := nums ρ (Le.refl _ _)
                        have h2 := hneed ρ
                        rw [← hm]
                        simp only [Question.cut]
                        have := Nat.mod_lt (w.tape w.drawn (.appendCap ((needE len n).den ρ.toEnv).toNat (cap.den ρ.toEnv).toNat e)) (show 0 < 2 ^ 63 - ((needE len n).den ρ.toEnv).toNat by omega)
                        omega
                      -- the run, told by every meaning
                      have stab : ∀ ρ', Le s ρ ρ' → len.den ρ'.toEnv = len.den ρ.toEnv ∧ n.den ρ'.toEnv = n.den ρ.toEnv ∧ cap.den ρ'.toEnv = cap.den ρ.toEnv := fun ρ' hle => by
                        have e1 := den_evs (ha ρ' hle) hvs
                        rw [den_evs ha.to hvs] at e1
                        have e2 := congrArg Array.toList e1
                        simp only [V.denL, V.den, List.cons.injEq, Value.slice.injEq, Value.int.injEq, true_and, and_true] at e2
                        have h1 := nums ρ (Le.refl _ _)
                        have h2 := nums ρ' hle
                        obtain ⟨⟨_, e3, e4⟩, e5⟩ := e2
                        omega
                      have cell : ∀ ρ', Le s ρ ρ' → (execOp a.eval o).run P w = .ok (.value (.slice (some ⟨w.heap.size, 0, none⟩) ((needE len n).den ρ.toEnv).toNat m)) (({ w with drawn := w.drawn + 1 } : World).alloc (.cells (Arr.den ρ'.toEnv ⟨.lit (m : Int), k, .con (.lit 0), A.ws⟩) e)) := by
                        intro ρ' hle
                        have h0 := hw ρ' hle
                        obtain ⟨n1, n2, n3, n4, n5⟩ := nums ρ' hle
                        obtain ⟨s1, s2, s3⟩ := stab ρ' hle
                        have hsum : (len.den ρ'.toEnv).toNat + (n.den ρ'.toEnv).toNat = ((needE len n).den ρ.toEnv).toNat := by rw [hneed ρ]; omega
                        have hrun := run_appendZ (P := P) (ty := o.type) w t0 t1 ht hx hi hz c2 c3 ⟨ρ'.blk b, 0, none⟩ (len.den ρ'.toEnv).toNat (cap.den ρ'.toEnv).toNat (n.den ρ'.toEnv).toNat (kn := kn) (n.den ρ'.toEnv) (by omega) rfl
                          ((Arr.den ρ'.toEnv A).toList.take (len.den ρ'.toEnv).toNat) (by rw [List.length_take, Array.length_toList, den_size]; omega) (fun j v hv => by
                            have hj : j < (len.den ρ'.toEnv).toNat := by
                              rcases Nat.lt_or_ge j (len.den ρ'.toEnv).toNat with h' | h'
                              · exact h'
                              · rw [List.getElem?_eq_none (by rw [List.length_take]; omega)] at hv; cases hv
                            rw [List.getElem?_take_of_lt hj, Array.getElem?_toList, den_get ρ'.toEnv A (by omega)] at hv
                            have := cell_arr h0 hA (j := (j : Int)) (by omega) (by omega)
                            rw [add_addr, Nat.zero_add]
                            rw [Int.toNat_natCast] at this
                            rw [this]
                            exact hv) (by omega) (by omega) m (by rw [hsum, s3, hm])
                        have hargs := den_evs (ha ρ' hle) hvs
                        have hrow := append_row ρ'.toEnv A (L := (len.den ρ'.toEnv).toNat) (R := (n.den ρ'.toEnv).toNat + (m - ((len.den ρ'.toEnv).toNat + (n.den ρ'.toEnv).toNat))) (N := m) (by omega) hdf (by rw [hneed ρ] at hm2; omega) fun j hj => insideWs_of h0.bd h0.pc c9 _ _ (by omega)
                        rw [c1] at hrow
                        rw [hrow, hsum] at hrun
                        simp only [execOp, ho, resolve, hc, hargs, Sem.run_bind, Sem.run_pure, Result.andThen_ok, invoke, builtin, V.denL, V.den, E.den, Int.toNat_zero]
                        simp only [hrun, Result.andThen_ok]
                      have h1 : RelW w0 (ρ.setV s.nv (m : Int)) (s.fresh (capBd s)) { w with drawn := w.drawn + 1 } := relW_fresh (relW_drawn hw) fun ρ' hv p hp => by
                        simp only [capBd, List.mem_singleton] at hp
                        subst hp
                        show Iv.has _ (ρ'.v s.nv)
                        rw [hv]
                        exact ⟨fun l hl => by cases hl; omega, fun l hl => by cases hl; omega⟩
                      have h2 : RelW w0 (ρ.setV s.nv (m : Int)) (s.more1 len n) { w with drawn := w.drawn + 1 } := relW_assume h1 fun ρ' hle => by
                        obtain ⟨hle0, hv⟩ := le_fresh hle
                        rw [den_mkBin, hneed]
                        show b2i (decide (_ ≤ ρ'.v s.nv)) ≠ 0
                        obtain ⟨s1, s2, _⟩ := stab ρ' hle0
                        rw [hv, s1, s2, b2i_ne, decide_eq_true_eq]
                        rw [hneed ρ] at hm2
                        omega
                      have c0 := cell ρ (Le.refl _ _)
                      have hdenm : ∀ ρ' : Env2, ρ'.v s.nv = (m : Int) → O.cells ρ' ⟨[], e, some ⟨.var s.nv, k, .con (.lit 0), A.ws⟩⟩ = Arr.den ρ'.toEnv ⟨.lit (m : Int), k, .con (.lit 0), A.ws⟩ := fun ρ' hv => by
                        show Arr.den ρ'.toEnv _ = _
                        simp only [Arr.den, Arr.row, E.den, hv]
                      have h3 := relW_allocO h2 ⟨[], e, some ⟨.var s.nv, k, .con (.lit 0), A.ws⟩⟩ (Arr.den ρ.toEnv ⟨.lit (m : Int), k, .con (.lit 0), A.ws⟩) fun ρ' hle => by
                        obtain ⟨hle0, hv⟩ := le_fresh (s := s) (ρ := ρ) (n := (m : Int)) (b := capBd s) hle
                        rw [hdenm ρ' hv]
                        have h1 := cell ρ' hle0
                        rw [c0] at h1
                        injection h1 with _ h1
                        have := congrArg (fun w : World => w.heap[w.heap.size - 1]?) h1
                        simp only [World.alloc, Array.size_push, Nat.add_sub_cancel] at this
                        simp at this
                        exact this.symm
                      have hle1 : Le s ρ ((ρ.setV s.nv (m : Int)).setBlk s.nb w.heap.size) := (le_setV s ρ m).trans (s' := s.more1 len n) (Nat.le_refl _) (Nat.le_succ _) (le_setBlk (s.more1 len n) _ _)
                      refine ⟨_, List.mem_singleton.2 rfl, _, _, (ρ.setV s.nv (m : Int)).setBlk s.nb w.heap.size, _, c0, .inl rfl, fun ρ' hle => ?_, hle1, h3, rfl, rfl, Nat.le_succ _, Nat.le_succ _⟩
                      have hblk : ρ'.blk s.nb = w.heap.size := (hle.1 s.nb (Nat.lt_succ_self _)).trans (by simp [Env2.setBlk])
                      have hvar : ρ'.v s.nv = (m : Int) := (hle.2.1 s.nv (Nat.lt_succ_self _)).trans (by simp [Env2.setBlk, Env2.setV])
                      have hle2 : Le s ρ ρ' := hle1.trans (s' := (s.more1 len n).allocO ⟨[], e, some ⟨.var s.nv, k, .con (.lit 0), A.ws⟩⟩) (Nat.le_succ _) (Nat.le_succ _) hle
                      obtain ⟨s1, s2, _⟩ := stab ρ' hle2
                      simp only [V.den, E.den, hblk, hvar, hneed, s1, s2, Int.toNat_natCast, Int.toNat_zero]
                    · cases hr
                  · cases hr
                · cases hr
              · cases hr
            · cases hr
          · cases hr
        · cases hr
      · cases hr
    · cases hr
  · cases hr

/-! ### one of few places: all ways -/
def fewI (i : Iv) : Option (Int × Nat) := match i with
  | (some l, some h) => match decide (l ≤ h) && decide (h ≤ l + 63) with
    | true => some (l, (h - l).toNat + 1)
    | false => none
  | _ => none
theorem fewI_some {i : Iv} {l n : Int} {c : Nat} (h : fewI i = some (l, c)) (hn : i.has n) : ∃ d : Nat, d < c ∧ n = l + (d : Int) := by
  unfold fewI at h
  split at h
  · rename_i x y
    split at h
    · rename_i hc
      simp only [Bool.and_eq_true, decide_eq_true_eq] at hc
      cases h
      have e1 := hn.1 _ rfl
      have e2 := hn.2 _ rfl
      exact ⟨(n - l).toNat, by omega, by omega⟩
    · cases h
  · cases h
/-- a way for each number that an expression may be -/
def waysE (s : St) (e : E) (f : Int → Option V) : Option (List (V × St)) := match fewI (itv s.bd (splitE e).1) with
  | none => none
  | some (l, c) => mapO (fun (d : Nat) => match f (l + (d : Int) + (splitE e).2) with
    | none => none
    | some v => match Nat.beq c 1 with
      | true => some (v, s)
      | false => some (v, s.assume (mkEq (splitE e).1 (litE (l + (d : Int)))))) (List.range c)
theorem waysE_ok (hw : RelW w0 ρ s w) {o : Oper} {e : E} {f : Int → Option V} {r : List (V × St)} (hr : waysE s e f = some r) (hst : ∀ ρ', Le s ρ ρ' → e.den ρ'.toEnv = e.den ρ.toEnv)
    (h : ∀ v, f (e.den ρ.toEnv) = some v → ∀ ρ', Le s ρ ρ' → (execOp a.eval o).run P w = .ok (.value (v.den ρ')) w) : ∃ p ∈ r, Step P w0 ρ s a w o p.1 p.2 := by
  unfold waysE at hr
  split at hr
  · cases hr
  · rename_i l c hf
    obtain ⟨d, hd, hn⟩ := fewI_some hf (has_itv hw.to.bd (splitE e).1)
    have hsp : ∀ ρ' : Env2, (splitE e).1.den ρ'.toEnv + (splitE e).2 = e.den ρ'.toEnv := fun ρ' => den_splitE _ e
    obtain ⟨_, hg⟩ := mapO_some hr
    obtain ⟨p, hp1, hp2⟩ := hg d d (by simp [hd])
    have hmem := List.mem_of_getElem? hp1
    have he : l + (d : Int) + (splitE e).2 = e.den ρ.toEnv := by rw [← hsp ρ, hn]
    rw [he] at hp2
    split at hp2
    · cases hp2
    · rename_i v hv
      have base := step_calm (P := P) hw (h v hv)
      split at hp2
      · cases hp2; exact ⟨_, hmem, base⟩
      · cases hp2
        refine ⟨_, hmem, ?_⟩
        have hw2 : RelW w0 ρ (s.assume (mkEq (splitE e).1 (litE (l + (d : Int))))) w := relW_assume hw fun ρ' hle => by
          rw [den_mkEq, den_litE, b2i_ne, beq_iff_eq]
          have h1 := hsp ρ'
          have h2 := hsp ρ
          rw [hst ρ' hle] at h1
          omega
        exact step_calm hw2 fun ρ' hle => h v hv ρ' hle
theorem den_stable (ha : RelA ρ s a) {x : Operand} {k : IntKind} {e : E} (h : evO s x = some (.int k e)) : ∀ ρ', Le s ρ ρ' → e.den ρ'.toEnv = e.den ρ.toEnv := fun ρ' hle => by
  have h1 := den_evO (ha ρ' hle) h
  rw [den_evO ha.to h] at h1
  simp only [V.den, Value.int.injEq, true_and] at h1
  exact h1.symm
def pickA (P : Program) (s : St) (t : TypeId) (x i : V) : Option (List (V × St)) := match i with
  | .int k e => match litNat e with
    | some _ => none
    | none => waysE s e fun d => indexV P s.bd t x (.int k (litE d))
  | _ => none
theorem step_pickA (hw : RelW w0 ρ s w) (ha : RelA ρ s a) {o : Oper} {t : TypeId} {x i : Operand} {xv iv : V} (ho : o.op = .index t x i) (hx : evO s x = some xv) (hi : evO s i = some iv) {r : List (V × St)} (hr : pickA P s t xv iv = some r) :
    ∃ p ∈ r, Step P w0 ρ s a w o p.1 p.2 := by
  unfold pickA at hr
  split at hr
  · rename_i k e
    split at hr
    · cases hr
    · refine waysE_ok hw hr (den_stable ha hi) fun v hv ρ' hle => ?_
      have := run_indexV (P := P) (w := w) (hw ρ' hle).bd hv
      simp only [V.den, den_litE] at this
      simp only [execOp, ho, Sem.run_bind, den_evO (ha ρ' hle) hx, den_evO (ha ρ' hle) hi, V.den, den_stable ha hi ρ' hle, this, Result.andThen_ok, Sem.run_pure]
  · cases hr
def pickP (P : Program) (s : St) (t : TypeId) (x i : V) : Option (List (V × St)) := match i with
  | .int k e => match litNat e with
    | some _ => none
    | none => match x with
      | .slice _ _ _ _ => waysE s e fun d => indexAtV P s.bd t x (.int k (litE d))
      | _ => none
  | _ => none
theorem step_pickP (hw : RelW w0 ρ s w) (ha : RelA ρ s a) {o : Oper} {t : TypeId} {x i : Operand} {xv iv : V} (ho : o.op = .indexAddr t x i) (hx : evO s x = some xv) (hi : evO s i = some iv) {r : List (V × St)} (hr : pickP P s t xv iv = some r) :
    ∃ p ∈ r, Step P w0 ρ s a w o p.1 p.2 := by
  unfold pickP at hr
  split at hr
  · rename_i k e
    split at hr
    · cases hr
    · split at hr
      · refine waysE_ok hw hr (den_stable ha hi) fun v hv ρ' hle => ?_
        have := run_indexAtV (P := P) (w := w) (hw ρ' hle).bd hv
        simp only [V.den, den_litE] at this
        simp only [execOp, ho, Sem.run_bind, den_evO (ha ρ' hle) hx, den_evO (ha ρ' hle) hi, V.den, den_stable ha hi ρ' hle, this, Result.andThen_ok, Sem.run_pure]
      · cases hr
  · cases hr

/-! ### all of them -/
def orA (x y : Option (List (V × St))) : Option (List (V × St)) := match x with
  | some l => some l
  | none => y
theorem orA_some {x y : Option (List (V × St))} {l : List (V × St)} (h : orA x y = some l) : x = some l ∨ y = some l := by
  unfold orA at h
  split at h
  · exact .inl h
  · exact .inr h
def opA (P : Program) (s : St) (o : Oper) : Option (List (V × St)) := match o.op with
  | .makeSlice t x y => match evO s x, evO s y with
    | some l, some c => makeA P s t l c
    | _, _ => none
  | .slice t x (some lo) none none => match evO s x, evO s lo with
    | some v, some l => sliceA P s t v (some l) none
    | _, _ => none
  | .slice t x (some lo) (some hi) none => match evO s x, evO s lo, evO s hi with
    | some v, some l, some h => sliceA P s t v (some l) (some h)
    | _, _, _ => none
  | .indexAddr t x i => match evO s x, evO s i with
    | some v, some j => orA (placeA P s t v j) (pickP P s t v j)
    | _, _ => none
  | .index t x i => match evO s x, evO s i with
    | some v, some j => pickA P s t v j
    | _, _ => none
  | .load t x => match evO s x with
    | some v => loadA P s t v
    | none => none
  | .store t x y => match evO s x, evO s y with
    | some v, some u => storeA P s t v u
    | _, _ => none
  | .convert src dst x => match evO s x with
    | some v => textA P s src dst v
    | none => none
  | .binOp op t x y _ => match evO s x, evO s y with
    | some v, some u => nilA P s op t v u
    | _, _ => none
  | .call c => match c.callee with
    | .builtin bi => match evs s c.args with
      | some vs => orA (lenA P s bi c.argTypes vs) (appendA P s bi c.argTypes vs)
      | none => none
    | _ => none
  | _ => none
theorem step_opA (hw : RelW w0 ρ s w) (ha : RelA ρ s a) {o : Oper} {l : List (V × St)} (h : opA P s o = some l) : ∃ p ∈ l, Step P w0 ρ s a w o p.1 p.2 := by
  unfold opA at h
  split at h <;> rename_i ho
  · split at h
    · rename_i hx hy; exact step_makeA hw ha ho hx hy h
    · cases h
  · split at h
    · rename_i hx hl; exact step_sliceA hw ha ho hx hl (.inl ⟨rfl, rfl⟩) h
    · cases h
  · split at h
    · rename_i hx hl hh; exact step_sliceA hw ha ho hx hl (.inr ⟨_, _, rfl, rfl, hh⟩) h
    · cases h
  · split at h
    · rename_i hx hi
      rcases orA_some h with h | h
      · exact step_placeA hw ha ho hx hi h
      · exact step_pickP hw ha ho hx hi h
    · cases h
  · split at h
    · rename_i hx hi; exact step_pickA hw ha ho hx hi h
    · cases h
  · split at h
    · rename_i hx; exact step_loadA hw ha ho hx h
    · cases h
  · split at h
    · rename_i hx hy; exact step_storeA hw ha ho hx hy h
    · cases h
  · split at h
    · rename_i hx; exact step_textA hw ha ho hx h
    · cases h
  · split at h
    · rename_i hx hy; exact step_nilA hw ha ho hx hy h
    · cases h
  · split at h
    · rename_i hc
      split at h
      · rename_i hvs
        rcases orA_some h with h | h
        · exact step_lenA hw ha ho hc hvs h
        · exact step_appendA hw ha ho hc hvs h
      · cases h
    · cases h
  · cases h
end Go.Sx
