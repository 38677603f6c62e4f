/- Operations on structs, rows and memory. -/
import Derived.Test.YtjgobpmhdeancaaSxE
namespace Go.Sx
open Go

def aggT (P : Program) (t : TypeId) : Option Bool := match P.underlying t with
  | some (.struct _) => some true
  | some (.array _ _) => some true
  | some _ => some false
  | none => none
theorem run_aggT {P : Program} (w : World) {t : TypeId} {b : Bool} (h : aggT P t = some b) : (isAgg t).run P w = .ok b w := by
  unfold aggT at h
  split at h
  · rename_i hu; cases h; simp [isAgg, run_underlying hu]
  · rename_i hu; cases h; simp [isAgg, run_underlying hu]
  · rename_i d h1 h2 hu
    cases h
    simp only [isAgg, Sem.run_bind, run_underlying hu, Result.andThen_ok]
    cases d <;> first | rfl | exact absurd hu (h1 _) | exact absurd hu (h2 _ _)
  · cases h
def sizeT (P : Program) (t : TypeId) : Option Nat := match P.info? t with
  | some i => some i.size
  | none => none
theorem run_sizeT {P : Program} (w : World) {t : TypeId} {n : Nat} (h : sizeT P t = some n) : (sizeOf t).run P w = .ok n w := by
  unfold sizeT at h
  split at h
  · rename_i i hi; cases h; simp [sizeOf, typeInfo, hi]
  · cases h
def zeroT (P : Program) (t : TypeId) : Option V := match P.info? t with
  | some i => match i.zero with
    | some z => ofVal 6 z
    | none => none
  | none => none
theorem run_zeroT {P : Program} (ρ : Env2) (w : World) {t : TypeId} {v : V} (h : zeroT P t = some v) : (zeroValue t).run P w = .ok (v.den ρ) w := by
  unfold zeroT at h
  split at h
  · rename_i i hi
    split at h
    · rename_i z hz; simp [zeroValue, typeInfo, hi, hz, den_ofVal ρ _ _ _ h]
    · cases h
  · cases h

theorem zeroT_raw {P : Program} {t : TypeId} {v : V} (h : zeroT P t = some v) : isRaw v = false := by
  unfold zeroT at h
  split at h
  · split at h
    · exact ofVal_raw h
    · cases h
  · cases h

theorem denL_take (ρ : Env2) (l : List V) (n : Nat) : (V.denL ρ l).take n = V.denL ρ (l.take n) := by simp [denL_eq, List.map_take]
theorem denL_drop (ρ : Env2) (l : List V) (n : Nat) : (V.denL ρ l).drop n = V.denL ρ (l.drop n) := by simp [denL_eq, List.map_drop]
theorem denL_get (ρ : Env2) (l : List V) (n : Nat) : (V.denL ρ l)[n]? = (l[n]?).map (V.den ρ) := by simp [denL_eq]
theorem denL_len (ρ : Env2) (l : List V) : (V.denL ρ l).length = l.length := by simp [denL_eq]
theorem denL_app (ρ : Env2) (l m : List V) : V.denL ρ (l ++ m) = V.denL ρ l ++ V.denL ρ m := by simp [denL_eq]

/-- a part of a row of cells, as a type has it -/
def partV (P : Program) (t : TypeId) (vs : List V) (off : Nat) : Option V := match aggT P t with
  | some true => match sizeT P t with
    | some n => some (.agg ((vs.drop off).take n))
    | none => none
  | some false => vs[off]?
  | none => none
theorem run_partV {P : Program} (ρ : Env2) (w : World) {t : TypeId} {vs : List V} {off : Nat} {v : V} (h : partV P t vs off = some v) :
    (part t (V.denL ρ vs).toArray off).run P w = .ok (v.den ρ) w := by
  unfold partV at h
  split at h
  · rename_i ha
    split at h
    · rename_i n hn
      cases h
      simp only [part, Sem.run_bind, run_aggT w ha, Result.andThen_ok, V.den]
      simp [← denL_take, ← denL_drop, List.take_drop, run_sizeT w hn]
    · cases h
  · rename_i ha
    simp only [part, Sem.run_bind, run_aggT w ha, Result.andThen_ok]
    have := denL_get ρ vs off
    rw [h] at this
    simp [this]
  · cases h

def fieldV (P : Program) (t : TypeId) (x : V) (f : Nat) : Option V := match P.underlying t with
  | some (.struct fs) => match fs[f]? with
    | some fd => match x with
      | .agg vs => partV P fd.type vs fd.offset
      | _ => none
    | none => none
  | _ => none
theorem run_fieldV {P : Program} (ρ : Env2) (w : World) {t : TypeId} {x v : V} {f : Nat} (h : fieldV P t x f = some v) :
    (Instr.field t (x.den ρ) f).run P w = .ok (v.den ρ) w := by
  unfold fieldV at h
  split at h
  · rename_i fs hu
    split at h
    · rename_i fd hf
      split at h
      · simp [Instr.field, run_underlying hu, hf, asAgg, V.den, run_partV ρ w h]
      · cases h
    · cases h
  · cases h

def litNat : E → Option Nat
  | .lit (.ofNat n) => some n
  | _ => none
theorem litNat_some {e : E} {n : Nat} (h : litNat e = some n) : e = .lit (n : Int) := by
  unfold litNat at h
  split at h
  · cases h; rfl
  · cases h

def inside (i : Iv) (n : Nat) : Bool := match i with
  | (some a, some b) => decide (0 ≤ a) && decide (b < n)
  | _ => false
theorem inside_of {i : Iv} {n : Nat} {x : Int} (h : inside i n = true) (hx : i.has x) : 0 ≤ x ∧ x < n := by
  obtain ⟨a, b⟩ := i
  cases a <;> cases b <;> simp [inside] at h
  have := hx.1 _ rfl; have := hx.2 _ rfl
  omega

def indexV (P : Program) (b : Bd) (t : TypeId) (x i : V) : Option V := match i with
  | .int _ e => match P.underlying t with
    | some .string => match x with
      | .str s => match inside (itv b e) s.length with
        | true => some (.int .u8 (mkUn (.tab (s.map UInt8.toNat)) e))
        | false => none
      | _ => none
    | some (.array len elem) => match x with
      | .agg vs => match litNat e with
        | some n => match Nat.ble (n + 1) len with
          | true => match sizeT P elem with
            | some z => partV P elem vs (n * z)
            | none => none
          | false => none
        | none => none
      | _ => none
    | _ => none
  | _ => none
theorem run_indexV {P : Program} {ρ : Env2} {b : Bd} (hb : b.ok ρ.toEnv) (w : World) {t : TypeId} {x i v : V} (h : indexV P b t x i = some v) :
    (Instr.index t (x.den ρ) (i.den ρ)).run P w = .ok (v.den ρ) w := by
  unfold indexV at h
  split at h
  · rename_i k e
    split at h
    · rename_i hu
      split at h
      · rename_i s
        split at h
        · rename_i hin
          cases h
          obtain ⟨h0, h1⟩ := inside_of hin (has_itv hb e)
          have hlt : (e.den ρ.toEnv).toNat < s.length := by omega
          have hget : (ByteArray.mk s.toArray)[(e.den ρ.toEnv).toNat]? = some (s[(e.den ρ.toEnv).toNat]'hlt) := by
            have hsz : (e.den ρ.toEnv).toNat < (ByteArray.mk s.toArray).size := by simpa [ByteArray.size] using hlt
            rw [getElem?_pos (ByteArray.mk s.toArray) (e.den ρ.toEnv).toNat hsz]
            rfl
          simp [Instr.index, asIntOf, V.den, run_underlying hu, h0, hget, den_mkUn, Un.den, List.getD, hlt]
        · cases h
      · cases h
    · rename_i len elem hu
      split at h
      · rename_i vs
        split at h
        · rename_i n hn
          split at h
          · rename_i hle
            split at h
            · rename_i z hz
              have hlt : n < len := Nat.le_of_ble_eq_true hle
              rw [litNat_some hn]
              have hlt' : (n : Int) < len := by omega
              simp [Instr.index, asIntOf, V.den, E.den, run_underlying hu, hlt, run_sizeT w hz, run_partV ρ w h]
            · cases h
          · cases h
        · cases h
      · cases h
    · cases h
  · cases h

def extractV (x : V) (i : Nat) : Option V := match x with
  | .tup vs => vs[i]?
  | _ => none
theorem run_extractV {P : Program} (ρ : Env2) (w : World) {x v : V} {i : Nat} (h : extractV x i = some v) :
    (Instr.extract (x.den ρ) i).run P w = .ok (v.den ρ) w := by
  unfold extractV at h
  split at h
  · rename_i vs
    have := denL_get ρ vs i
    rw [h] at this
    simp [Instr.extract, V.den, this]
  · cases h

theorem add_addr (b off n : Nat) : (⟨b, off, none⟩ : Addr).add n = ⟨b, off + n, none⟩ := by
  unfold Addr.add; split <;> simp_all

/-- an address into the call's own memory -/
def fieldAtV (P : Program) (t : TypeId) (x : V) (f : Nat) : Option V := match P.underlying t with
  | some (.struct fs) => match fs[f]? with
    | some fd => match sizeT P fd.type with
      | some (_ + 1) => match x with
        | .ptr b off => some (.ptr b (off + fd.offset))
        | _ => none
      | _ => none
    | none => none
  | _ => none
theorem run_fieldAtV {P : Program} (ρ : Env2) (w : World) {t : TypeId} {x v : V} {f : Nat} (h : fieldAtV P t x f = some v) :
    (Instr.fieldAt t (x.den ρ) f).run P w = .ok (v.den ρ) w := by
  unfold fieldAtV at h
  split at h
  · rename_i fs hu
    split at h
    · rename_i fd hf
      split at h
      · rename_i n hn
        split at h
        · cases h
          simp [Instr.fieldAt, run_underlying hu, hf, Instr.sureAddr, V.den, fieldPlace, run_sizeT w hn, add_addr]
        · cases h
      · cases h
    · cases h
  · cases h

def indexAtV (P : Program) (b : Bd) (t : TypeId) (x i : V) : Option V := match i with
  | .int _ e => match litNat e with
    | some n => match P.underlying t with
      | some (.array len elem) => match Nat.ble (n + 1) len with
        | true => match sizeT P elem with
          | some z => match x with
            | .ptr b off => some (.ptr b (off + n * z))
            | _ => none
          | none => none
        | false => none
      | some (.slice elem) => match x with
        | .slice b off len _ => match Nat.ble (n + 1) len with
          | true => match sizeT P elem with
            | some z => some (.ptr b (off + n * z))
            | none => none
          | false => none
        | _ => none
      | _ => none
    | none => match x with
      | .gptr g 0 => match P.underlying t with
        | some (.array len elem) => match inside (itv b e) len with
          | true => match sizeT P elem with
            | some 1 => some (.gat g e)
            | _ => none
          | false => none
        | _ => none
      | _ => none
  | _ => none
theorem run_indexAtV {P : Program} {ρ : Env2} {b : Bd} (hb : b.ok ρ.toEnv) (w : World) {t : TypeId} {x i v : V} (h : indexAtV P b t x i = some v) :
    (Instr.indexAt t (x.den ρ) (i.den ρ)).run P w = .ok (v.den ρ) w := by
  unfold indexAtV at h
  split at h
  · rename_i k e
    split at h
    · rename_i n hn
      rw [litNat_some hn]
      split at h
      · rename_i len elem hu
        split at h
        · rename_i hle
          split at h
          · rename_i z hz
            split at h
            · cases h
              have hlt : n < len := Nat.le_of_ble_eq_true hle
              simp [Instr.indexAt, asIntOf, V.den, E.den, run_underlying hu, Instr.sureAddr, hlt, run_sizeT w hz, add_addr]
            · cases h
          · cases h
        · cases h
      · rename_i elem hu
        split at h
        · rename_i b off len cap
          split at h
          · rename_i hle
            split at h
            · rename_i z hz
              cases h
              have hlt : n < len := Nat.le_of_ble_eq_true hle
              simp [Instr.indexAt, asIntOf, V.den, E.den, run_underlying hu, hlt, run_sizeT w hz, add_addr]
            · cases h
          · cases h
        · cases h
      · cases h
    · split at h
      · split at h
        · rename_i len elem hu
          split at h
          · rename_i hin
            split at h
            · rename_i hz
              cases h
              obtain ⟨h0, h1⟩ := inside_of hin (has_itv hb e)
              simp [Instr.indexAt, asIntOf, V.den, run_underlying hu, Instr.sureAddr, h0, h1, run_sizeT w hz, add_addr]
            · cases h
          · cases h
        · cases h
      · cases h
  · cases h

/-- one of two, by a test that need not be decided -/
def pickV (b : Bd) (pc : List E) (c x y : V) : Option V := match c with
  | .bool e => match decB b pc e with
    | some true => some x
    | some false => some y
    | none => match x with
      | .int k p => match y with
        | .int k' q => match decide (k = k') with
          | true => some (.int k (.ite e p q))
          | false => none
        | _ => none
      | .bool p => match y with
        | .bool q => some (.bool (.ite e p q))
        | _ => none
      | _ => none
  | _ => none
theorem pickV_some {ρ : Env2} {b : Bd} {pc : List E} (hb : b.ok ρ.toEnv) (hp : pcOk ρ.toEnv pc) {c x y v : V} (h : pickV b pc c x y = some v) :
    ∃ e, c = .bool e ∧ v.den ρ = if (e.den ρ.toEnv != 0) = true then x.den ρ else y.den ρ := by
  unfold pickV at h
  split at h
  · rename_i e
    refine ⟨e, rfl, ?_⟩
    split at h
    · rename_i hd; cases h; rw [decB_some hb hp _ _ hd]; simp
    · rename_i hd; cases h; rw [decB_some hb hp _ _ hd]; simp
    · split at h
      · split at h
        · split at h
          · rename_i hk
            have hk := of_decide_eq_true hk
            subst hk
            cases h
            simp only [V.den, E.den, bne_iff_ne]
            split <;> rfl
          · cases h
        · cases h
      · split at h
        · cases h
          simp only [V.den, E.den, bne_iff_ne]
          split <;> rfl
        · cases h
      · cases h
  · cases h

end Go.Sx
