/- Operations on floats, some of which draw: what comes out is a float that is a number, or a new name for one that is none. -/
import Derived.Test.YtjgobpmhdeancaaSxK
import Derived.Laws.FloatArith
import Derived.Laws.FloatBits
namespace Go.Sx
open Go

/-! ### words that are numbers -/
theorem sSW : Ieee.single.signWeight = 2147483648 := by decide
theorem sBI : Ieee.single.binade = 8388608 := by decide
theorem sIR : Ieee.single.infRung = 2139095040 := by decide
theorem sLP : Ieee.single.leastPlace = -149 := by decide
theorem dSW : Ieee.double.signWeight = 9223372036854775808 := by decide
theorem dBI : Ieee.double.binade = 4503599627370496 := by decide
theorem dIR : Ieee.double.infRung = 9218868437227405312 := by decide
theorem dLP : Ieee.double.leastPlace = -1074 := by decide
theorem read_word (f : Ieee.Format) (neg : Bool) {rung : Nat} (h : rung ≤ f.infRung) : (f.read (f.word neg rung)).isNaN = false := by
  have hs := f.infRung_lt
  have hp : 0 < f.signWeight := by omega
  have hm : f.word neg rung % f.signWeight = rung := by
    unfold Ieee.Format.word
    split
    · rw [Nat.add_mod_left]; exact Nat.mod_eq_of_lt (by omega)
    · exact Nat.mod_eq_of_lt (by omega)
  unfold Ieee.Format.read
  simp only [hm]
  split
  · rfl
  · split
    · rfl
    · split
      · rfl
      · omega
theorem write_number (f : Ieee.Format) (d : Ieee.Datum) (h : d.isNaN = false) : (f.read (f.write d)).isNaN = false := by
  cases d with
  | number neg mag place =>
    unfold Ieee.Format.write Ieee.Format.nearest
    dsimp only
    split
    · exact read_word f neg (Nat.zero_le _)
    · exact read_word f neg (Nat.min_le_right ..)
  | infinity neg => exact read_word f neg (Nat.le_refl _)
  | nan neg t => cases h
theorem sum_number {a b d : Ieee.Datum} (h : a.sum b = some d) : d.isNaN = false := by
  cases a <;> cases b <;> simp only [Ieee.Datum.sum] at h <;> first | (cases h; done) | (cases h; rfl) | skip
  split at h
  · cases h; rfl
  · cases h
theorem product_number {a b d : Ieee.Datum} (h : a.product b = some d) : d.isNaN = false := by
  cases a <;> cases b <;> simp only [Ieee.Datum.product] at h <;> first | (cases h; done) | (cases h; rfl) | skip
  all_goals
    split at h
    · cases h
    · cases h; rfl
theorem quotient_number {n : Nat} {a b d : Ieee.Datum} (h : a.quotient n b = some d) : d.isNaN = false := by
  cases a <;> cases b <;> simp only [Ieee.Datum.quotient] at h <;> first | (cases h; done) | (cases h; rfl) | skip
  split at h
  · split at h
    · cases h
    · cases h; rfl
  · cases h; rfl
theorem root_number {n : Nat} {a d : Ieee.Datum} (h : a.root n = some d) : d.isNaN = false := by
  cases a <;> simp only [Ieee.Datum.root] at h
  · split at h
    · cases h; rfl
    · split at h
      · cases h
      · cases h; rfl
  · split at h
    · cases h
    · cases h; rfl
  · cases h
theorem map_number {f : Ieee.Format} {d : Option Ieee.Datum} {r : Nat} (h : d.map f.write = some r) (hd : ∀ x, d = some x → x.isNaN = false) : (f.read r).isNaN = false := by
  cases d with
  | none => cases h
  | some x => cases h; exact write_number f x (hd x rfl)
theorem order_self {d : Ieee.Datum} (h : d.isNaN = false) : d.order d = some .eq := by
  cases d with
  | number s m i => simp [Ieee.Datum.order]
  | infinity s => simp [Ieee.Datum.order]
  | nan s t => cases h
theorem order_nan {d : Ieee.Datum} (h : d.isNaN = true) : d.order d = none := by
  cases d with
  | number s m i => cases h
  | infinity s => cases h
  | nan s t => rfl

def topF (k : FloatKind) : Int := match k with
  | .f32 => 4294967295
  | .f64 => 18446744073709551615
theorem topF_eq (k : FloatKind) : topF k = 2 ^ k.format.width - 1 := by cases k <;> rfl
/-- that bits are those of a number -/
def GoodF (k : FloatKind) (n : Int) : Prop := (0 ≤ n ∧ n ≤ topF k) ∧ fordI k n n = 0
def NanF (k : FloatKind) (n : Int) : Prop := (0 ≤ n ∧ n ≤ topF k) ∧ fordI k n n = 3
theorem good_of {k : FloatKind} {r : Nat} (h : (k.format.read r).isNaN = false) (hl : r < 2 ^ k.format.width) : GoodF k (r : Int) := by
  refine ⟨⟨Int.natCast_nonneg _, ?_⟩, ?_⟩
  · rw [topF_eq]
    have : ((2 : Int) ^ k.format.width) = ((2 ^ k.format.width : Nat) : Int) := by rw [Int.natCast_pow]; rfl
    rw [this]; omega
  · unfold fordI Ieee.Format.order
    rw [Int.toNat_natCast, order_self h]
theorem opt_cases {r : Option Nat} {n : Int} (h : (match r with | some r => (r : Int) | none => -1) = n) : (∃ m : Nat, r = some m ∧ n = m) ∨ (r = none ∧ n = -1) := by
  cases r with
  | none => exact .inr ⟨rfl, h.symm⟩
  | some m => exact .inl ⟨m, rfl, h.symm⟩
def arOf (op : BinOp) (f : Ieee.Format) (x y : Nat) : Option Nat := match op with
  | .add => f.add x y
  | .sub => f.sub x y
  | .mul => f.mul x y
  | _ => f.div x y
theorem farI_eq (op : BinOp) (k : FloatKind) (x y : Int) : farI op k x y = match arOf op k.format x.toNat y.toNat with | some r => (r : Int) | none => -1 := by
  unfold farI arOf; cases op <;> rfl
theorem arOf_good {op : BinOp} {k : FloatKind} {x y r : Nat} (h : arOf op k.format x y = some r) : GoodF k (r : Int) := by
  have key : (k.format.read r).isNaN = false ∧ r < 2 ^ k.format.width := by
    unfold arOf at h
    split at h
    · exact ⟨map_number h fun d hd => sum_number hd, k.format.add_lt h⟩
    · exact ⟨map_number h fun d hd => sum_number hd, k.format.sub_lt h⟩
    · exact ⟨map_number h fun d hd => product_number hd, k.format.mul_lt h⟩
    · exact ⟨map_number h fun d hd => quotient_number hd, k.format.div_lt h⟩
  exact good_of key.1 key.2
theorem far_good {op : BinOp} {k : FloatKind} {x y : Int} (h : farI op k x y ≠ -1) : GoodF k (farI op k x y) := by
  rcases opt_cases (farI_eq op k x y).symm with ⟨m, h1, h2⟩ | ⟨_, h2⟩
  · rw [h2]; exact arOf_good h1
  · exact absurd h2 h
theorem isnan_of {f : Ieee.Format} {n r : Nat} (hr : n % f.signWeight = r) (h1 : f.binade ≤ r) (h2 : f.infRung < r) : (f.read n).isNaN = true := by
  unfold Ieee.Format.read
  dsimp only
  rw [hr, if_neg (Nat.not_lt.2 h1), if_neg (by omega), if_neg (by omega)]
  rfl
theorem nanCut {k : FloatKind} {q : Question} (hq : (∃ x y, q = .nanBits k x y) ∨ ∃ x, q = .nanConv k x) (t : Nat) : NanF k ((q.cut t : Nat) : Int) := by
  have key : ∀ n : Nat, ((k = .f32 ∧ n = (t % 2) * 2 ^ 31 + 0x7f800000 + 1 + (t / 2) % (2 ^ 23 - 1)) ∨ (k = .f64 ∧ n = (t % 2) * 2 ^ 63 + 0x7ff0000000000000 + 1 + (t / 2) % (2 ^ 52 - 1))) → NanF k (n : Int) := by
    intro n h
    have h1 : t % 2 < 2 := Nat.mod_lt _ (by decide)
    rcases h with ⟨rfl, h⟩ | ⟨rfl, h⟩
    · have h2 : t / 2 % (2 ^ 23 - 1) < 2 ^ 23 - 1 := Nat.mod_lt _ (by decide)
      generalize t / 2 % (2 ^ 23 - 1) = b at *
      generalize t % 2 = s at *
      refine ⟨⟨Int.natCast_nonneg _, by simp only [topF]; omega⟩, ?_⟩
      unfold fordI Ieee.Format.order
      rw [Int.toNat_natCast]
      have : (FloatKind.f32.format.read n).isNaN = true :=
        isnan_of (f := Ieee.single) (r := 2139095041 + b) (by rw [sSW]; omega) (by rw [sBI]; omega) (by rw [sIR]; omega)
      rw [order_nan this]
    · have h2 : t / 2 % (2 ^ 52 - 1) < 2 ^ 52 - 1 := Nat.mod_lt _ (by decide)
      generalize t / 2 % (2 ^ 52 - 1) = b at *
      generalize t % 2 = s at *
      refine ⟨⟨Int.natCast_nonneg _, by simp only [topF]; omega⟩, ?_⟩
      unfold fordI Ieee.Format.order
      rw [Int.toNat_natCast]
      have : (FloatKind.f64.format.read n).isNaN = true :=
        isnan_of (f := Ieee.double) (r := 9218868437227405313 + b) (by rw [dSW]; omega) (by rw [dBI]; omega) (by rw [dIR]; omega)
      rw [order_nan this]
  rcases hq with ⟨x, y, rfl⟩ | ⟨x, rfl⟩ <;> cases k
  · exact key _ (.inl ⟨rfl, by simp only [Question.cut]⟩)
  · exact key _ (.inr ⟨rfl, by simp only [Question.cut]⟩)
  · exact key _ (.inl ⟨rfl, by simp only [Question.cut]⟩)
  · exact key _ (.inr ⟨rfl, by simp only [Question.cut]⟩)

/-! ### new names -/
def bndF (k : FloatKind) : Iv := (some 0, some (topF k))
def goodB (k : FloatKind) (e : E) : Bd := [(e, bndF k), (.bin (.ford k) e e, (some 0, some 0))]
def nanB (k : FloatKind) (e : E) : Bd := [(e, bndF k), (.bin (.ford k) e e, (some 3, some 3))]
theorem goodB_ok {ρ : Env} {k : FloatKind} {e : E} (h : GoodF k (e.den ρ)) : (goodB k e).ok ρ := fun p hp => by
  simp only [goodB, List.mem_cons, List.not_mem_nil, or_false] at hp
  rcases hp with rfl | rfl
  · exact ⟨fun _ h' => by cases h'; exact h.1.1, fun _ h' => by cases h'; exact h.1.2⟩
  · exact ⟨fun _ h' => by cases h'; simp only [E.den, Bi.den, h.2]; exact Int.le_refl _, fun _ h' => by cases h'; simp only [E.den, Bi.den, h.2]; exact Int.le_refl _⟩
theorem nanB_ok {ρ : Env} {k : FloatKind} {e : E} (h : NanF k (e.den ρ)) : (nanB k e).ok ρ := fun p hp => by
  simp only [nanB, List.mem_cons, List.not_mem_nil, or_false] at hp
  rcases hp with rfl | rfl
  · exact ⟨fun _ h' => by cases h'; exact h.1.1, fun _ h' => by cases h'; exact h.1.2⟩
  · exact ⟨fun _ h' => by cases h'; simp only [E.den, Bi.den, h.2]; exact Int.le_refl _, fun _ h' => by cases h'; simp only [E.den, Bi.den, h.2]; exact Int.le_refl _⟩
def St.more (s : St) (b : Bd) : St := { s with bd := b ++ s.bd }
def St.fresh (s : St) (b : Bd) : St := { s with nv := s.nv + 1, bd := b ++ s.bd }
def Env2.setV (ρ : Env2) (i : Nat) (n : Int) : Env2 := { ρ with v := fun j => if j = i then n else ρ.v j }
theorem bd_app {ρ : Env} {a b : Bd} (ha : a.ok ρ) (hb : b.ok ρ) : Bd.ok ρ (a ++ b) := fun p hp => by
  rcases List.mem_append.1 hp with h | h
  · exact ha p h
  · exact hb p h
theorem relW_more {w0 : Base} {w : World} {ρ : Env2} {s : St} (h : RelW w0 ρ s w) {b : Bd} (hb : ∀ ρ', Le s ρ ρ' → b.ok ρ'.toEnv) : RelW w0 ρ (s.more b) w := fun ρ' hle =>
  let h0 := h ρ' hle
  ⟨h0.ext, h0.fn, h0.hp, h0.inj, h0.gl, bd_app (hb ρ' hle) h0.bd, h0.pc⟩
theorem le_setV (s : St) (ρ : Env2) (n : Int) : Le s ρ (ρ.setV s.nv n) := ⟨fun _ _ => rfl, fun i hi => by simp only [Env2.setV]; rw [if_neg (by omega)], rfl, rfl⟩
theorem le_fresh {s : St} {ρ ρ' : Env2} {n : Int} {b : Bd} (h : Le (s.fresh b) (ρ.setV s.nv n) ρ') : Le s ρ ρ' ∧ ρ'.v s.nv = n :=
  ⟨(le_setV s ρ n).trans (s' := s.fresh b) (Nat.le_refl _) (Nat.le_succ _) h, (h.2.1 s.nv (Nat.lt_succ_self _)).trans (by simp [Env2.setV])⟩
theorem relW_fresh {w0 : Base} {w : World} {ρ : Env2} {s : St} (h : RelW w0 ρ s w) {n : Int} {b : Bd} (hb : ∀ ρ' : Env2, ρ'.v s.nv = n → b.ok ρ'.toEnv) : RelW w0 (ρ.setV s.nv n) (s.fresh b) w := fun ρ' hle =>
  let ⟨h1, h2⟩ := le_fresh hle
  let h0 := h ρ' h1
  ⟨h0.ext, h0.fn, h0.hp, h0.inj, h0.gl, bd_app (hb ρ' h2) h0.bd, h0.pc⟩
theorem relW_drawn {w0 : Base} {w : World} {ρ : Env2} {s : St} (h : RelW w0 ρ s w) : RelW w0 ρ s { w with drawn := w.drawn + 1 } := fun ρ' hle =>
  let h0 := h ρ' hle
  ⟨⟨h0.ext.os, h0.ext.output, h0.ext.size, h0.ext.old, h0.ext.frozen⟩, h0.fn, h0.hp, h0.inj, h0.gl, h0.bd, h0.pc⟩

/-! ### arithmetic, conversions -/
/-- is it known that it is a number, or that it is none -/
def knownN (b : Bd) (k : FloatKind) (a : E) : Option Bool := match itv b (mkBin (.ford k) a a) with
  | i => match within i (some 0, some 0) with
    | true => some true
    | false => match within i (some 3, some 3) with
      | true => some false
      | false => none
theorem is_zero {i : Iv} {n : Int} (h : within i (some 0, some 0) = true) (hn : i.has n) : n = 0 := by
  obtain ⟨a, b⟩ := i
  cases a <;> cases b <;> simp [within] at h
  have := hn.1 _ rfl; have := hn.2 _ rfl
  omega
theorem isNaN_of_ford {k : FloatKind} {n : Int} (h : fordI k n n = 0) : (k.format.read n.toNat).isNaN = false := by
  cases hd : (k.format.read n.toNat).isNaN with
  | false => rfl
  | true =>
    unfold fordI Ieee.Format.order at h
    rw [order_nan hd] at h
    cases h
theorem isNaN_of_ford3 {k : FloatKind} {n : Int} (h : fordI k n n = 3) : (k.format.read n.toNat).isNaN = true := by
  cases hd : (k.format.read n.toNat).isNaN with
  | true => rfl
  | false =>
    unfold fordI Ieee.Format.order at h
    rw [order_self hd] at h
    cases h
theorem knownF_some {ρ : Env} {b : Bd} (hb : b.ok ρ) {k : FloatKind} {a : E} {t : Bool} (h : knownN b k a = some t) : (k.decode (a.den ρ).toNat).isNaN = !t := by
  have hi := has_itv hb (mkBin (.ford k) a a)
  rw [den_mkBin] at hi
  have hi : (itv b (mkBin (.ford k) a a)).has (fordI k (a.den ρ) (a.den ρ)) := hi
  unfold knownN at h
  dsimp only at h
  split at h
  · rename_i hw; cases h; exact isNaN_of_ford (is_zero hw hi)
  · split at h
    · rename_i hw
      cases h
      refine isNaN_of_ford3 ?_
      generalize itv b (mkBin (.ford k) a a) = i at hw hi
      obtain ⟨x, y⟩ := i
      cases x <;> cases y <;> simp [within] at hw
      have := hi.1 _ rfl; have := hi.2 _ rfl
      omega
    · cases h
theorem conv_nan (k d : FloatKind) (x : Int) : (k.decode x.toNat).isNaN = true ↔ fconvI k d x = -1 := by
  unfold fconvI
  cases hd : k.decode x.toNat with
  | nan g t => exact ⟨fun _ => rfl, fun _ => rfl⟩
  | infinity g =>
    refine ⟨fun h => (by cases h), fun h => ?_⟩
    have := Int.natCast_nonneg (d.encode (.infinity g)); simp only at h; omega
  | number g m e =>
    refine ⟨fun h => (by cases h), fun h => ?_⟩
    simp only at h
    split at h
    · exact absurd h (by decide)
    · have := Int.natCast_nonneg (d.encode (.number g m e)); omega
/-- a result that is a number, or none of them -/
def orNan (s : St) (k : FloatKind) (e : E) : List (V × St) := (branch s (mkNot (mkEq e (.lit (-1))))).map fun r => match r.1 with
  | true => (.flt k e, r.2.more (goodB k e))
  | false => (.flt k (.var r.2.nv), r.2.fresh (nanB k (.var r.2.nv)))
def isAr : BinOp → Bool
  | .add | .sub | .mul | .quo => true
  | _ => false
def opF (P : Program) (s : St) (o : Oper) : Option (List (V × St)) := match o.op with
  | .binOp op _ x y _ => match evO s x, evO s y with
    | some (.flt k a), some (.flt k' c) => match isAr op && decide (k = k') with
      | true => some (orNan s k (mkBin (.far op k) a c))
      | false => none
    | _, _ => none
  | .convert src dst x => match evO s x with
    | some (.int _ a) => match P.underlying src with
      | none => none
      | some _ => match P.underlying dst with
        | some (.float d) => match mkUn (.i2f d) a with
          | e => some [(.flt d e, s.more (goodB d e))]
        | _ => none
    | some (.flt k a) => match P.underlying src with
      | none => none
      | some _ => match P.underlying dst with
        | some (.int d) => match mkUn (.ftrunc k) a with
          | e => some ((branch s (mkBin .and (mkBin .le (.lit d.min) e) (mkBin .le e (.lit d.max)))).map fun r => match r.1 with
            | true => (.int d e, r.2)
            | false => (.int d (.var r.2.nv), r.2.fresh [(.var r.2.nv, kindIv d)]))
        | some (.float d) => match decide (k = d) with
          | true => none
          | false => match mkUn (.fconv k d) a with
            | e => match knownN s.bd k a with
             | some true => match k with
               | .f32 => some [(.flt d e, s.more (goodB d e))]
               | .f64 => some ((branch s (mkNot (mkEq e (.lit (-2))))).map fun r => match r.1 with
                  | true => (.flt d e, r.2.more (goodB d e))
                  | false => (.flt d (.var r.2.nv), r.2.fresh [(.var r.2.nv, bndF d)]))
             | some false => some [(.flt d (.var s.nv), s.fresh (nanB d (.var s.nv)))]
             | none => some ((branch s (mkNot (mkEq e (.lit (-1))))).flatMap fun r => match r.1 with
              | true => match k with
                | .f32 => [(.flt d e, r.2.more (goodB d e))]
                | .f64 => (branch r.2 (mkNot (mkEq e (.lit (-2))))).map fun r => match r.1 with
                  | true => (.flt d e, r.2.more (goodB d e))
                  | false => (.flt d (.var r.2.nv), r.2.fresh [(.var r.2.nv, bndF d)])
              | false => [(.flt d (.var r.2.nv), r.2.fresh (nanB d (.var r.2.nv)))])
        | _ => none
    | _ => none
  | _ => none


/-! ### that they tell the truth -/
theorem cut_zero (way : Ieee.Toward) (neg : Bool) (n : Nat) : way.cut neg n 0 = n := by
  unfold Ieee.Toward.cut
  cases way <;> simp [Nat.mod_one]
theorem read_word_fin (f : Ieee.Format) (neg : Bool) {rung : Nat} (h : rung < f.infRung) : (f.read (f.word neg rung)).isInfinity = false := by
  have hs := f.infRung_lt
  have hp : 0 < f.signWeight := by omega
  have hm : f.word neg rung % f.signWeight = rung := by
    unfold Ieee.Format.word
    split
    · rw [Nat.add_mod_left]; exact Nat.mod_eq_of_lt (by omega)
    · exact Nat.mod_eq_of_lt (by omega)
  unfold Ieee.Format.read
  simp only [hm]
  split
  · rfl
  · first | rfl | (rw [if_pos h]; rfl)
theorem read_single {x : Nat} {g : Bool} {m : Nat} {e : Int} (h : FloatKind.f32.decode x = .number g m e) : m < 2 ^ 24 ∧ -149 ≤ e ∧ e ≤ 104 := by
  have h : Ieee.single.read x = .number g m e := h
  unfold Ieee.Format.read at h
  dsimp only at h
  rw [sSW, sBI, sIR, sLP] at h
  split at h
  · cases h; omega
  · split at h
    · cases h; omega
    · split at h <;> cases h
theorem nearest_up {neg : Bool} {m : Nat} {e : Int} (hm : m < 2 ^ 24) (h1 : -149 ≤ e) (h2 : e ≤ 104) : (Ieee.double.read (Ieee.double.nearest neg m e)).isInfinity = false := by
  unfold Ieee.Format.nearest
  by_cases h0 : m = 0
  · rw [if_pos h0]; exact read_word_fin _ _ (by rw [dIR]; decide)
  · rw [if_neg h0]
    have hl : m.log2 < 24 := (Nat.log2_lt h0).2 hm
    have hm2 : m < 2 ^ (m.log2 + 1) := (Nat.log2_lt h0).1 (Nat.lt_succ_self _)
    generalize m.log2 = lg at hl hm2
    have e1 : ((Ieee.double.fractionBits : Nat) : Int) = 52 := by decide
    dsimp only
    rw [e1, dLP]
    have hlast : max (e + (lg : Int) - 52) (-1074) = e + (lg : Int) - 52 := by omega
    rw [hlast]
    have d0 : (e + (lg : Int) - 52 - e).toNat = 0 := by omega
    have d1 : (e - (e + (lg : Int) - 52)).toNat = 52 - lg := by omega
    rw [d0, d1, cut_zero]
    have d2 : m <<< (52 - lg) < 9007199254740992 := by
      rw [Nat.shiftLeft_eq]
      have : 9007199254740992 = 2 ^ (lg + 1) * 2 ^ (52 - lg) := by rw [← Nat.pow_add, show lg + 1 + (52 - lg) = 53 by omega]
      rw [this]
      exact Nat.mul_lt_mul_of_pos_right hm2 (Nat.two_pow_pos _)
    generalize m <<< (52 - lg) = z at d2
    have d3 : (e + (lg : Int) - 52 - -1074).toNat ≤ 1149 := by omega
    generalize (e + (lg : Int) - 52 - -1074).toNat = q at d3
    refine read_word_fin _ _ ?_
    rw [dIR, dBI]
    refine Nat.lt_of_le_of_lt (Nat.min_le_left _ _) ?_
    have d4 := Nat.add_lt_add_of_le_of_lt (Nat.mul_le_mul_right 4503599627370496 d3) d2
    exact Nat.lt_of_lt_of_le d4 (by decide)
theorem fconv_up (x : Int) : fconvI .f32 .f64 x ≠ -2 := by
  unfold fconvI
  split
  · decide
  · rename_i g _
    intro h; have := Int.natCast_nonneg (FloatKind.f64.encode (.infinity g)); omega
  · rename_i g m e hd
    obtain ⟨h1, h2, h3⟩ := read_single hd
    have := nearest_up (neg := g) h1 h2 h3
    rw [if_neg (by
      intro h
      have h' : (Ieee.double.read (Ieee.double.nearest g m e)).isInfinity = true := h
      rw [this] at h'; cases h')]
    intro h; have := Int.natCast_nonneg (FloatKind.f64.encode (.number g m e)); omega
theorem fconv_good {s d : FloatKind} {x : Int} (h1 : fconvI s d x ≠ -1) (h2 : fconvI s d x ≠ -2) : GoodF d (fconvI s d x) := by
  cases hd : s.decode x.toNat with
  | nan g t => exact absurd (by simp only [fconvI, hd]) h1
  | infinity g =>
    have : fconvI s d x = ((d.encode (.infinity g) : Nat) : Int) := by simp only [fconvI, hd]
    rw [this]; exact good_of (write_number _ _ rfl) (d.format.write_lt _)
  | number g m e =>
    by_cases hi : (d.decode (d.encode (.number g m e))).isInfinity = true
    · exact absurd (by simp only [fconvI, hd]; rw [if_pos hi]) h2
    · have : fconvI s d x = ((d.encode (.number g m e) : Nat) : Int) := by simp only [fconvI, hd]; rw [if_neg hi]
      rw [this]; exact good_of (write_number _ _ rfl) (d.format.write_lt _)

theorem neq_lit (e : E) (n : Int) (ρ : Env) : ((mkNot (mkEq e (.lit n))).den ρ != 0) = decide (e.den ρ ≠ n) := by
  rw [den_mkNot, den_mkEq, not_b2i]
  show (!(e.den ρ == n)) = _
  by_cases h : e.den ρ = n
  · simp [h]
  · have : (e.den ρ == n) = false := by simpa using h
    rw [this]; simp [h]

section
variable {P : Program} {w0 : Base} {w : World} {ρ : Env2} {s : St} {a : Act}

/-- what came of the operation, told by a value that stands -/
theorem step_stay {s1 : St} (hw1 : RelW w0 ρ s1 w) (hb : s1.nb = s.nb) (hv : s1.nv = s.nv) (hn : s1.n = s.n) (ht : s1.tm = s.tm) {o : Oper} {b : Bd} {v : V} {x : Value}
    (hrun : (execOp a.eval o).run P w = .ok (.value x) w) (hbd : ∀ ρ', Le s ρ ρ' → b.ok ρ'.toEnv) (hx : ∀ ρ', Le s ρ ρ' → v.den ρ' = x) : Step P w0 ρ s a w o v (s1.more b) := by
  have hle : ∀ {ρ'}, Le s1 ρ ρ' ↔ Le s ρ ρ' := by simp [Le, hb, hv]
  exact ⟨_, _, ρ, w, hrun, .inl rfl, fun ρ' h => hx ρ' (hle.1 h), Le.refl _ _, relW_more hw1 fun ρ' h => hbd ρ' (hle.1 h), hn, ht, by simp [St.more, hb], by simp [St.more, hv]⟩
/-- what came of the operation, told by a new name -/
theorem step_new {s1 : St} {w1 : World} (hw1 : RelW w0 ρ s1 w1) (hb : s1.nb = s.nb) (hv : s1.nv = s.nv) (hn : s1.n = s.n) (ht : s1.tm = s.tm) {o : Oper} {b : Bd} {v : V} {x : Value} {n : Int}
    (hrun : (execOp a.eval o).run P w = .ok (.value x) w1) (hbd : ∀ ρ' : Env2, ρ'.v s1.nv = n → b.ok ρ'.toEnv) (hx : ∀ ρ' : Env2, ρ'.v s1.nv = n → v.den ρ' = x) : Step P w0 ρ s a w o v (s1.fresh b) := by
  have h0 := le_setV s ρ n
  rw [← hv] at h0
  exact ⟨_, _, ρ.setV s1.nv n, w1, hrun, .inl rfl, fun ρ' h => hx ρ' (le_fresh h).2, h0, relW_fresh hw1 hbd, hn, ht, by simp [St.fresh, hb], by simp [St.fresh, hv]⟩

theorem step_orNan (hw : RelW w0 ρ s w) (ha : RelA ρ s a) {k : FloatKind} {e : E} {o : Oper} (hsame : ∀ ρ', Le s ρ ρ' → e.den ρ'.toEnv = e.den ρ.toEnv)
    (hgood : e.den ρ.toEnv ≠ -1 → GoodF k (e.den ρ.toEnv) ∧ (execOp a.eval o).run P w = .ok (.value (.float k (e.den ρ.toEnv).toNat)) w)
    (hnan : e.den ρ.toEnv = -1 → ∃ (n : Int) (w1 : World), (w1 = w ∨ w1 = { w with drawn := w.drawn + 1 }) ∧ NanF k n ∧ (execOp a.eval o).run P w = .ok (.value (.float k n.toNat)) w1) :
    ∃ p ∈ orNan s k e, Step P w0 ρ s a w o p.1 p.2 := by
  obtain ⟨s1, hs1, hw1, ha1, hb1, hv1, hn1, ht1⟩ := branch_ok hw ha (mkNot (mkEq e (.lit (-1)))) (decide (e.den ρ.toEnv ≠ -1)) fun ρ' hle => by rw [neq_lit, hsame ρ' hle]
  by_cases h : e.den ρ.toEnv = -1
  · rw [decide_eq_false (by simp [h])] at hs1
    obtain ⟨n, w1, hw2, hN, hrun⟩ := hnan h
    refine ⟨_, List.mem_map.2 ⟨_, hs1, rfl⟩, ?_⟩
    have hw3 : RelW w0 ρ s1 w1 := by
      rcases hw2 with h2 | h2
      · rw [h2]; exact hw1
      · rw [h2]; exact relW_drawn hw1
    exact step_new hw3 hb1 hv1 hn1 ht1 hrun (fun ρ' hn => nanB_ok (by simp only [E.den]; rw [hn]; exact hN)) fun ρ' hn => by simp only [V.den, E.den, hn]
  · rw [decide_eq_true h] at hs1
    obtain ⟨hG, hrun⟩ := hgood h
    refine ⟨_, List.mem_map.2 ⟨_, hs1, rfl⟩, ?_⟩
    exact step_stay hw1 hb1 hv1 hn1 ht1 hrun (fun ρ' hle => goodB_ok (by rw [hsame ρ' hle]; exact hG)) fun ρ' hle => by simp only [V.den, hsame ρ' hle]

theorem flt_toNat {k : FloatKind} {x y : E} {ρ ρ' : Env2} (h : (V.flt k x).den ρ' = (V.flt k y).den ρ) : (x.den ρ'.toEnv).toNat = (y.den ρ.toEnv).toNat := by
  simp only [V.den, Value.float.injEq, true_and] at h; exact h

theorem farI_congr {op : BinOp} {k : FloatKind} {x y x' y' : Int} (h1 : x.toNat = x'.toNat) (h2 : y.toNat = y'.toNat) : farI op k x y = farI op k x' y' := by
  unfold farI; rw [h1, h2]
theorem run_arOf (w : World) {op : BinOp} {k : FloatKind} {x y : Nat} {t : TypeId} (ho : isAr op = true) : (binOp op t (.float k x) (.float k y)).run P w =
    match arOf op k.format x y with
    | some r => .ok (.float k r) w
    | none => .ok (.float k ((Question.nanBits k x y).cut (w.tape w.drawn (.nanBits k x y)))) { w with drawn := w.drawn + 1 } := by
  cases op <;> simp only [isAr] at ho <;> first | (cases ho; done) | skip
  · cases h : k.format.add x y with
    | some r => simp [binOp, Op.floatArith, arOf, h]
    | none => simp [binOp, Op.floatArith, arOf, h, Question.forced]
  · cases h : k.format.sub x y with
    | some r => simp [binOp, Op.floatArith, arOf, h]
    | none => simp [binOp, Op.floatArith, arOf, h, Question.forced]
  · cases h : k.format.mul x y with
    | some r => simp [binOp, Op.floatArith, arOf, h]
    | none => simp [binOp, Op.floatArith, arOf, h, Question.forced]
  · cases h : k.format.div x y with
    | some r => simp [binOp, Op.floatArith, arOf, h]
    | none => simp [binOp, Op.floatArith, arOf, h, Question.forced]
theorem run_far (w : World) {op : BinOp} {k : FloatKind} {x y : Int} {t : TypeId} (ho : isAr op = true) :
    (farI op k x y ≠ -1 → (binOp op t (.float k x.toNat) (.float k y.toNat)).run P w = .ok (.float k (farI op k x y).toNat) w) ∧
    (farI op k x y = -1 → ∃ n : Int, NanF k n ∧ (binOp op t (.float k x.toNat) (.float k y.toNat)).run P w = .ok (.float k n.toNat) { w with drawn := w.drawn + 1 }) := by
  rw [run_arOf w ho]
  rcases opt_cases (farI_eq op k x y).symm with ⟨m, h1, h2⟩ | ⟨h1, h2⟩
  · rw [h2, h1]
    exact ⟨fun _ => by simp, fun h => by omega⟩
  · rw [h2, h1]
    exact ⟨fun h => absurd rfl h, fun _ => ⟨_, nanCut (k := k) (q := .nanBits k x.toNat y.toNat) (.inl ⟨_, _, rfl⟩) (w.tape w.drawn (.nanBits k x.toNat y.toNat)), by simp⟩⟩

theorem nearest_good (k : FloatKind) (n : Int) : GoodF k ((k.nearest n : Nat) : Int) := by
  have e : k.nearest n = k.format.write (.number (n < 0) n.natAbs 0) := rfl
  rw [e]; exact good_of (write_number _ _ rfl) (k.format.write_lt _)
theorem huge (d : IntKind) {n : Nat} (hn : 64 ≤ n) : ¬ ((2 : Int) ^ n ≤ d.max) := by
  have h1 : d.max < 2 ^ 64 := by cases d <;> decide
  have h2 : (2 : Int) ^ 64 ≤ 2 ^ n := by
    have : (2 : Nat) ^ 64 ≤ 2 ^ n := Nat.pow_le_pow_right (by decide) hn
    exact_mod_cast this
  intro h
  exact absurd (Int.le_trans h2 h) (Int.not_le.2 h1)
theorem trunc_cases (k : FloatKind) (x : Int) : (∃ n, (k.decode x.toNat).toInt .zero = some n ∧ ftruncI k x = n) ∨ ((k.decode x.toNat).toInt .zero = none ∧ ftruncI k x = 2 ^ 2000) := by
  unfold ftruncI
  cases h : (k.decode x.toNat).toInt .zero with
  | some n => exact .inl ⟨n, rfl, rfl⟩
  | none => exact .inr ⟨rfl, rfl⟩
theorem run_toInt {src dst : TypeId} {k : FloatKind} {d : IntKind} {x : Int} {u : TypeDesc} (w : World) (hs : P.underlying src = some u) (hd : P.underlying dst = some (.int d)) :
    ((d.min ≤ ftruncI k x ∧ ftruncI k x ≤ d.max) → (convert src dst (.float k x.toNat)).run P w = .ok (.int d (ftruncI k x)) w) ∧
    (¬ (d.min ≤ ftruncI k x ∧ ftruncI k x ≤ d.max) → ∃ n : Int, (kindIv d).has n ∧ (convert src dst (.float k x.toNat)).run P w = .ok (.int d n) { w with drawn := w.drawn + 1 }) := by
  rcases trunc_cases k x with ⟨n, h1, h2⟩ | ⟨h1, h2⟩
  · rw [h2]
    refine ⟨fun h => ?_, fun h => ⟨d.wrap (((Question.floatToInt k x.toNat d).cut (w.tape w.drawn (.floatToInt k x.toNat d)) : Nat) : Int), has_kind d _, ?_⟩⟩
    · cases u <;> simp [convert, run_underlying hs, run_underlying hd, Conv.floatToInt, h1, h.1, h.2]
    · cases u <;> simp [convert, run_underlying hs, run_underlying hd, Conv.floatToInt, h1, h, Question.forced]
  · rw [h2]
    refine ⟨fun h => absurd h.2 (huge d (by decide)), fun h => ⟨d.wrap (((Question.floatToInt k x.toNat d).cut (w.tape w.drawn (.floatToInt k x.toNat d)) : Nat) : Int), has_kind d _, ?_⟩⟩
    cases u <;> simp [convert, run_underlying hs, run_underlying hd, Conv.floatToInt, h1, Question.forced]
theorem nat_ne {n : Nat} {m : Int} (h : (n : Int) = m) (hm : m < 0) : False := by omega
theorem conv_cases (k d : FloatKind) (x : Int) : ((∃ g t, k.decode x.toNat = .nan g t) ∧ fconvI k d x = -1) ∨ (∃ g, k.decode x.toNat = .infinity g ∧ fconvI k d x = (d.encode (.infinity g) : Nat)) ∨
    (∃ g m e, k.decode x.toNat = .number g m e ∧ (((d.decode (d.encode (.number g m e))).isInfinity = true ∧ fconvI k d x = -2) ∨ ((d.decode (d.encode (.number g m e))).isInfinity = false ∧ fconvI k d x = (d.encode (.number g m e) : Nat)))) := by
  cases hd : k.decode x.toNat with
  | nan g t => exact .inl ⟨⟨g, t, rfl⟩, by simp only [fconvI, hd]⟩
  | infinity g => exact .inr (.inl ⟨g, rfl, by simp only [fconvI, hd]⟩)
  | number g m e =>
    refine .inr (.inr ⟨g, m, e, rfl, ?_⟩)
    cases hi : (d.decode (d.encode (.number g m e))).isInfinity with
    | true => exact .inl ⟨rfl, by simp only [fconvI, hd]; rw [if_pos hi]⟩
    | false => exact .inr ⟨rfl, by simp only [fconvI, hd]; rw [if_neg (by rw [hi]; simp)]⟩
theorem run_toFloat {src dst : TypeId} {k d : FloatKind} {x : Int} {u : TypeDesc} (w : World) (hkd : k ≠ d) (hs : P.underlying src = some u) (hd : P.underlying dst = some (.float d)) :
    (fconvI k d x = -1 → ∃ n : Int, NanF d n ∧ (convert src dst (.float k x.toNat)).run P w = .ok (.float d n.toNat) { w with drawn := w.drawn + 1 }) ∧
    (fconvI k d x = -2 → ∃ n : Int, (bndF d).has n ∧ (convert src dst (.float k x.toNat)).run P w = .ok (.float d n.toNat) { w with drawn := w.drawn + 1 }) ∧
    (fconvI k d x ≠ -1 → fconvI k d x ≠ -2 → (convert src dst (.float k x.toNat)).run P w = .ok (.float d (fconvI k d x).toNat) w) := by
  rcases conv_cases k d x with ⟨⟨g, t, h1⟩, h2⟩ | ⟨g, h1, h2⟩ | ⟨g, m, e, h1, ⟨hi, h2⟩ | ⟨hi, h2⟩⟩
  · rw [h2]
    refine ⟨fun _ => ⟨_, nanCut (k := d) (q := .nanConv d x.toNat) (.inr ⟨_, rfl⟩) (w.tape w.drawn (.nanConv d x.toNat)), ?_⟩, fun h => absurd h (by decide), fun h => absurd rfl h⟩
    cases u <;> simp [convert, run_underlying hs, run_underlying hd, Conv.floatToFloat, hkd, h1, Question.forced]
  · rw [h2]
    refine ⟨fun h => (nat_ne h (by decide)).elim, fun h => (nat_ne h (by decide)).elim, fun _ _ => ?_⟩
    cases u <;> simp [convert, run_underlying hs, run_underlying hd, Conv.floatToFloat, hkd, h1]
  · rw [h2]
    refine ⟨fun h => absurd h (by decide), fun _ => ?_, fun _ h => absurd rfl h⟩
    refine ⟨((Question.floatToFloat x.toNat).cut (w.tape w.drawn (.floatToFloat x.toNat)) : Nat), ⟨fun _ h => by cases h; exact Int.natCast_nonneg _, fun _ h => by
      cases h
      have : (Question.floatToFloat x.toNat).cut (w.tape w.drawn (.floatToFloat x.toNat)) < 2 ^ 32 := Nat.mod_lt _ (by decide)
      cases d <;> simp only [topF] <;> omega⟩, ?_⟩
    cases u <;> simp [convert, run_underlying hs, run_underlying hd, Conv.floatToFloat, hkd, h1, hi, Question.forced]
  · rw [h2]
    refine ⟨fun h => (nat_ne h (by decide)).elim, fun h => (nat_ne h (by decide)).elim, fun _ _ => ?_⟩
    cases u <;> simp [convert, run_underlying hs, run_underlying hd, Conv.floatToFloat, hkd, h1, hi]

theorem step_opF (hw : RelW w0 ρ s w) (ha : RelA ρ s a) {o : Oper} {l : List (V × St)} (h : opF P s o = some l) : ∃ p ∈ l, Step P w0 ρ s a w o p.1 p.2 := by
  unfold opF at h
  split at h <;> rename_i ho
  · rename_i op t x y g
    split at h
    · rename_i k p k' q hx hy
      split at h
      · rename_i hc
        simp only [Bool.and_eq_true, decide_eq_true_eq] at hc
        obtain ⟨hop, rfl⟩ := hc
        cases h
        have ex := fun ρ' hle => den_evO (ha ρ' hle) hx
        have ey := fun ρ' hle => den_evO (ha ρ' hle) hy
        have sx : ∀ ρ', Le s ρ ρ' → (p.den ρ'.toEnv).toNat = (p.den ρ.toEnv).toNat := fun ρ' hle => flt_toNat (k := k) ((ex ρ' hle).symm.trans (ex ρ (Le.refl _ _)))
        have sy : ∀ ρ', Le s ρ ρ' → (q.den ρ'.toEnv).toNat = (q.den ρ.toEnv).toNat := fun ρ' hle => flt_toNat (k := k) ((ey ρ' hle).symm.trans (ey ρ (Le.refl _ _)))
        have hden : ∀ ρ' : Env, (mkBin (.far op k) p q).den ρ' = farI op k (p.den ρ') (q.den ρ') := fun ρ' => by rw [den_mkBin]; rfl
        have hg : (eqGuard op t x y ((V.flt k p).den ρ) ((V.flt k q).den ρ)).run P w = .ok () w := run_eqGuard w rfl
        obtain ⟨r1, r2⟩ := run_far (P := P) w (op := op) (k := k) (x := p.den ρ.toEnv) (y := q.den ρ.toEnv) (t := t) hop
        have hrun : ∀ z w1, (binOp op t (.float k (p.den ρ.toEnv).toNat) (.float k (q.den ρ.toEnv).toNat)).run P w = .ok z w1 → (execOp a.eval o).run P w = .ok (.value z) w1 := fun z w1 hz => by
          simp only [V.den] at hg
          simp only [execOp, ho, Sem.run_bind, ex ρ (Le.refl _ _), ey ρ (Le.refl _ _), V.den, hg, Result.andThen_ok, hz, Sem.run_pure]
        refine step_orNan hw ha (fun ρ' hle => by rw [hden, hden]; exact farI_congr (sx ρ' hle) (sy ρ' hle)) (fun hne => ?_) (fun he => ?_)
        · rw [hden] at hne ⊢
          exact ⟨far_good hne, hrun _ _ (r1 hne)⟩
        · rw [hden] at he
          obtain ⟨n, hN, hr⟩ := r2 he
          exact ⟨n, _, .inr rfl, hN, hrun _ _ hr⟩
      · cases h
    · cases h
  · rename_i src dst x
    split at h
    · rename_i ki p hx
      have ex := fun ρ' hle => den_evO (ha ρ' hle) hx
      have sx : ∀ ρ', Le s ρ ρ' → p.den ρ'.toEnv = p.den ρ.toEnv := fun ρ' hle => by
        have := (ex ρ' hle).symm.trans (ex ρ (Le.refl _ _))
        simpa [V.den] using this
      split at h
      · cases h
      · rename_i u hs
        split at h
        · rename_i d hd
          cases h
          have hden : ∀ ρ' : Env, (mkUn (.i2f d) p).den ρ' = ((d.nearest (p.den ρ') : Nat) : Int) := fun ρ' => by rw [den_mkUn]; rfl
          have hrun : (execOp a.eval o).run P w = .ok (.value (.float d (d.nearest (p.den ρ.toEnv)))) w := by
            simp only [execOp, ho, Sem.run_bind, ex ρ (Le.refl _ _), V.den]
            cases u <;> simp [convert, run_underlying hs, run_underlying hd, Conv.intToFloat]
          refine ⟨_, List.mem_singleton.2 rfl, ?_⟩
          exact step_stay hw rfl rfl rfl rfl hrun (fun ρ' hle => goodB_ok (by rw [hden]; exact nearest_good d _)) fun ρ' hle => by simp only [V.den, hden, sx ρ' hle, Int.toNat_natCast]
        · cases h
    · rename_i k p hx
      have ex := fun ρ' hle => den_evO (ha ρ' hle) hx
      have sx : ∀ ρ', Le s ρ ρ' → (p.den ρ'.toEnv).toNat = (p.den ρ.toEnv).toNat := fun ρ' hle => flt_toNat (k := k) ((ex ρ' hle).symm.trans (ex ρ (Le.refl _ _)))
      split at h
      · cases h
      · rename_i u hs
        have hrun : ∀ z w1, (convert src dst (.float k (p.den ρ.toEnv).toNat)).run P w = .ok z w1 → (execOp a.eval o).run P w = .ok (.value z) w1 := fun z w1 hz => by
          simp only [execOp, ho, Sem.run_bind, ex ρ (Le.refl _ _), V.den, Result.andThen_ok, hz, Sem.run_pure]
        split at h
        · rename_i d hd
          cases h
          have hden : ∀ ρ' : Env, (mkUn (.ftrunc k) p).den ρ' = ftruncI k (p.den ρ') := fun ρ' => by rw [den_mkUn]; rfl
          have hsame : ∀ ρ', Le s ρ ρ' → (mkUn (.ftrunc k) p).den ρ'.toEnv = (mkUn (.ftrunc k) p).den ρ.toEnv := fun ρ' hle => by rw [hden, hden]; unfold ftruncI; rw [sx ρ' hle]
          generalize mkUn (.ftrunc k) p = e at *
          have hin : ∀ ρ' : Env, ((mkBin .and (mkBin .le (.lit d.min) e) (mkBin .le e (.lit d.max))).den ρ' != 0) = decide (d.min ≤ e.den ρ' ∧ e.den ρ' ≤ d.max) := fun ρ' => by
            simp only [den_mkBin, Bi.den, E.den, b2i_bne]
            by_cases h1 : d.min ≤ e.den ρ' <;> by_cases h2 : e.den ρ' ≤ d.max <;> simp [h1, h2]
          obtain ⟨s1, hs1, hw1, ha1, hb1, hv1, hn1, ht1⟩ := branch_ok hw ha _ (decide (d.min ≤ e.den ρ.toEnv ∧ e.den ρ.toEnv ≤ d.max)) fun ρ' hle => by rw [hin, hsame ρ' hle]
          have hde := hden ρ.toEnv
          by_cases hb : d.min ≤ e.den ρ.toEnv ∧ e.den ρ.toEnv ≤ d.max
          · rw [decide_eq_true hb] at hs1
            refine ⟨_, List.mem_map.2 ⟨_, hs1, rfl⟩, ?_⟩
            have hr := (run_toInt (P := P) (k := k) (x := p.den ρ.toEnv) w hs hd).1 (by rw [← hde]; exact hb)
            rw [← hde] at hr
            exact step_stay (b := []) hw1 hb1 hv1 hn1 ht1 (hrun _ _ hr) (fun _ _ => fun p hp => by cases hp) fun ρ' hle => by simp only [V.den, hsame ρ' hle]
          · rw [decide_eq_false hb] at hs1
            refine ⟨_, List.mem_map.2 ⟨_, hs1, rfl⟩, ?_⟩
            obtain ⟨n, hN, hr⟩ := (run_toInt (P := P) (k := k) (x := p.den ρ.toEnv) w hs hd).2 (by rw [← hde]; exact hb)
            exact step_new (relW_drawn hw1) hb1 hv1 hn1 ht1 (hrun _ _ hr) (fun ρ' hn => fun p hp => by
              simp only [List.mem_singleton] at hp; subst hp; simp only [E.den]; rw [hn]; exact hN) fun ρ' hn => by simp only [V.den, E.den, hn]
        · rename_i d hd
          split at h
          · cases h
          · rename_i hkd
            have hkd : k ≠ d := by simpa using hkd
            dsimp only at h
            have hden : ∀ ρ' : Env, (mkUn (.fconv k d) p).den ρ' = fconvI k d (p.den ρ') := fun ρ' => by rw [den_mkUn]; rfl
            have hsame : ∀ ρ', Le s ρ ρ' → (mkUn (.fconv k d) p).den ρ'.toEnv = (mkUn (.fconv k d) p).den ρ.toEnv := fun ρ' hle => by rw [hden, hden]; unfold fconvI; rw [sx ρ' hle]
            have hup := hden ρ.toEnv
            have hkn : ∀ t, knownN s.bd k p = some t → (fconvI k d (p.den ρ.toEnv) = -1 ↔ t = false) := fun t ht => by
              rw [← conv_nan, knownF_some hw.to.bd ht]; cases t <;> simp
            generalize mkUn (.fconv k d) p = e at *
            have good0 : e.den ρ.toEnv ≠ -1 → e.den ρ.toEnv ≠ -2 → (convert src dst (.float k (p.den ρ.toEnv).toNat)).run P w = .ok (.float d (e.den ρ.toEnv).toNat) w := fun h1 h2 => by
              rw [hup] at h1 h2 ⊢
              exact (run_toFloat (P := P) (x := p.den ρ.toEnv) w hkd hs hd).2.2 h1 h2
            have gd0 : e.den ρ.toEnv ≠ -1 → e.den ρ.toEnv ≠ -2 → ∀ ρ', Le s ρ ρ' → (goodB d e).ok ρ'.toEnv := fun h1 h2 ρ' hle => goodB_ok (by
              rw [hsame ρ' hle]; rw [hup] at h1 h2 ⊢; exact fconv_good h1 h2)
            split at h
            · rename_i hk0
              have h1 : e.den ρ.toEnv ≠ -1 := by rw [hup]; exact fun hh => by have := (hkn true hk0).1 hh; cases this
              split at h
              · cases h
                have h2 : e.den ρ.toEnv ≠ -2 := by
                  rw [hup]
                  cases d with
                  | f32 => exact absurd rfl hkd
                  | f64 => exact fconv_up _
                exact ⟨_, List.mem_singleton.2 rfl, step_stay hw rfl rfl rfl rfl (hrun _ _ (good0 h1 h2)) (gd0 h1 h2) fun ρ' hle => by simp only [V.den, hsame ρ' hle]⟩
              · cases h
                obtain ⟨s2, hs2, hw2, ha2, hb2, hv2, hn2, ht2⟩ := branch_ok hw ha (mkNot (mkEq e (.lit (-2)))) (decide (e.den ρ.toEnv ≠ -2)) fun ρ' hle => by rw [neq_lit, hsame ρ' hle]
                by_cases h2 : e.den ρ.toEnv = -2
                · rw [decide_eq_false (by simp [h2])] at hs2
                  refine ⟨_, List.mem_map.2 ⟨_, hs2, rfl⟩, ?_⟩
                  obtain ⟨n, hN, hr⟩ := (run_toFloat (P := P) (x := p.den ρ.toEnv) w hkd hs hd).2.1 (by rw [← hup]; exact h2)
                  exact step_new (relW_drawn hw2) hb2 hv2 hn2 ht2 (hrun _ _ hr) (fun ρ' hn => fun p hp => by
                    simp only [List.mem_singleton] at hp; subst hp; simp only [E.den]; rw [hn]; exact hN) fun ρ' hn => by simp only [V.den, E.den, hn]
                · rw [decide_eq_true h2] at hs2
                  refine ⟨_, List.mem_map.2 ⟨_, hs2, rfl⟩, ?_⟩
                  exact step_stay hw2 hb2 hv2 hn2 ht2 (hrun _ _ (good0 h1 h2)) (gd0 h1 h2) fun ρ' hle => by simp only [V.den, hsame ρ' hle]
            · rename_i hk0
              cases h
              have h1 : fconvI k d (p.den ρ.toEnv) = -1 := (hkn false hk0).2 rfl
              obtain ⟨n, hN, hr⟩ := (run_toFloat (P := P) (x := p.den ρ.toEnv) w hkd hs hd).1 h1
              exact ⟨_, List.mem_singleton.2 rfl, step_new (relW_drawn hw) rfl rfl rfl rfl (hrun _ _ hr) (fun ρ' hn => nanB_ok (by simp only [E.den]; rw [hn]; exact hN)) fun ρ' hn => by simp only [V.den, E.den, hn]⟩
            cases h
            obtain ⟨s1, hs1, hw1, ha1, hb1, hv1, hn1, ht1⟩ := branch_ok hw ha (mkNot (mkEq e (.lit (-1)))) (decide (e.den ρ.toEnv ≠ -1)) fun ρ' hle => by rw [neq_lit, hsame ρ' hle]
            by_cases h1 : e.den ρ.toEnv = -1
            · rw [decide_eq_false (by simp [h1])] at hs1
              refine ⟨_, List.mem_flatMap.2 ⟨_, hs1, List.mem_singleton.2 rfl⟩, ?_⟩
              obtain ⟨n, hN, hr⟩ := (run_toFloat (P := P) (x := p.den ρ.toEnv) w hkd hs hd).1 (by rw [← hup]; exact h1)
              exact step_new (relW_drawn hw1) hb1 hv1 hn1 ht1 (hrun _ _ hr) (fun ρ' hn => nanB_ok (by simp only [E.den]; rw [hn]; exact hN)) fun ρ' hn => by simp only [V.den, E.den, hn]
            · rw [decide_eq_true h1] at hs1
              have good : e.den ρ.toEnv ≠ -2 → (convert src dst (.float k (p.den ρ.toEnv).toNat)).run P w = .ok (.float d (e.den ρ.toEnv).toNat) w := fun h2 => by
                rw [hup] at h1 h2 ⊢
                exact (run_toFloat (P := P) (x := p.den ρ.toEnv) w hkd hs hd).2.2 h1 h2
              have gd : e.den ρ.toEnv ≠ -2 → ∀ ρ', Le s ρ ρ' → (goodB d e).ok ρ'.toEnv := fun h2 ρ' hle => goodB_ok (by
                rw [hsame ρ' hle]; rw [hup] at h1 h2 ⊢; exact fconv_good h1 h2)
              cases k with
              | f32 =>
                have h2 : e.den ρ.toEnv ≠ -2 := by
                  rw [hup]
                  cases d with
                  | f32 => exact absurd rfl hkd
                  | f64 => exact fconv_up _
                refine ⟨_, List.mem_flatMap.2 ⟨_, hs1, List.mem_singleton.2 rfl⟩, ?_⟩
                exact step_stay hw1 hb1 hv1 hn1 ht1 (hrun _ _ (good h2)) (gd h2) fun ρ' hle => by simp only [V.den, hsame ρ' hle]
              | f64 =>
                have hle1 : ∀ {ρ'}, Le s1 ρ ρ' ↔ Le s ρ ρ' := by simp [Le, hb1, hv1]
                obtain ⟨s2, hs2, hw2, ha2, hb2, hv2, hn2, ht2⟩ := branch_ok hw1 ha1 (mkNot (mkEq e (.lit (-2)))) (decide (e.den ρ.toEnv ≠ -2)) fun ρ' hle => by rw [neq_lit, hsame ρ' (hle1.1 hle)]
                by_cases h2 : e.den ρ.toEnv = -2
                · rw [decide_eq_false (by simp [h2])] at hs2
                  refine ⟨_, List.mem_flatMap.2 ⟨_, hs1, List.mem_map.2 ⟨_, hs2, rfl⟩⟩, ?_⟩
                  obtain ⟨n, hN, hr⟩ := (run_toFloat (P := P) (x := p.den ρ.toEnv) w hkd hs hd).2.1 (by rw [← hup]; exact h2)
                  exact step_new (relW_drawn hw2) (hb2.trans hb1) (hv2.trans hv1) (hn2.trans hn1) (ht2.trans ht1) (hrun _ _ hr) (fun ρ' hn => fun p hp => by
                    simp only [List.mem_singleton] at hp; subst hp; simp only [E.den]; rw [hn]; exact hN) fun ρ' hn => by simp only [V.den, E.den, hn]
                · rw [decide_eq_true h2] at hs2
                  refine ⟨_, List.mem_flatMap.2 ⟨_, hs1, List.mem_map.2 ⟨_, hs2, rfl⟩⟩, ?_⟩
                  exact step_stay hw2 (hb2.trans hb1) (hv2.trans hv1) (hn2.trans hn1) (ht2.trans ht1) (hrun _ _ (good h2)) (gd h2) fun ρ' hle => by simp only [V.den, hsame ρ' hle]
        · cases h
    · cases h
  · cases h
end
end Go.Sx
