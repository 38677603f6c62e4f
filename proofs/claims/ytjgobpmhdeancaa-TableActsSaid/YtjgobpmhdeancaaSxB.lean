/- Expressions over whole numbers: what they stand for, their bounds, their making. -/
import Derived.Test.YtjgobpmhdeancaaSxA
import GoSem.Op.FloatArith
namespace Go.Sx
open Go

/-- A bit operation at a kind, as the model does it. -/
def bitI (op : BinOp) (k : IntKind) (x y : Int) : Int :=
  let a := BitVec.ofInt k.bits x
  let b := BitVec.ofInt k.bits y
  k.wrap (match op with
    | .and => (a &&& b).toNat
    | .or => (a ||| b).toNat
    | .xor => (a ^^^ b).toNat
    | _ => (a &&& ~~~b).toNat : Nat)
/-- How two floats stand: 0 equal, 1 less, 2 greater, 3 one is no number. -/
def fordI (k : FloatKind) (x y : Int) : Int :=
  match k.format.order x.toNat y.toNat with
  | some .eq => 0 | some .lt => 1 | some .gt => 2 | none => 3
/-- A float's arithmetic; -1: no number. -/
def farI (op : BinOp) (k : FloatKind) (x y : Int) : Int :=
  match (match op with
    | .add => k.format.add x.toNat y.toNat
    | .sub => k.format.sub x.toNat y.toNat
    | .mul => k.format.mul x.toNat y.toNat
    | _ => k.format.div x.toNat y.toNat) with
  | some r => (r : Int)
  | none => -1
/-- A float in another format; -1: no number, -2: too great. -/
def fconvI (s d : FloatKind) (x : Int) : Int :=
  match s.decode x.toNat with
  | .nan _ _ => -1
  | .infinity g => (d.encode (.infinity g) : Nat)
  | .number g m e => if (d.decode (d.encode (.number g m e))).isInfinity then -2 else (d.encode (.number g m e) : Nat)
/-- A float cut toward 0; beyond all kinds where there is none. -/
def ftruncI (s : FloatKind) (x : Int) : Int :=
  match (s.decode x.toNat).toInt .zero with
  | some n => n
  | none => 2 ^ 2000
/-- A float made whole; -1: no number. -/
def fwholeI (way : Ieee.Toward) (x : Int) : Int :=
  match FloatKind.f64.decode x.toNat with
  | .nan _ _ => -1
  | d => (FloatKind.f64.encode (d.integral way) : Nat)
/-- A root; -1: no number. -/
def fsqrtI (x : Int) : Int :=
  match FloatKind.f64.format.sqrt x.toNat with
  | some r => (r : Int)
  | none => -1
def fpickI (neg : Bool) (x y : Int) : Int :=
  let a := FloatKind.f64.decode x.toNat
  let b := FloatKind.f64.decode y.toNat
  ((if a == .infinity neg || b == .infinity neg then FloatKind.f64.encode (.infinity neg)
    else if a.isNaN || b.isNaN then 0x7FF8000000000001
    else if a.isZero && b.isZero then (if a.neg == neg then x.toNat else y.toNat)
    else if a.order b == some (if neg then .lt else .gt) then x.toNat else y.toNat : Nat) : Int)

inductive Un where
  | wrap (k : IntKind)
  | bnot
  | tab (l : List Nat)
  | i2f (k : FloatKind)
  | fneg (k : FloatKind)
  | fconv (s d : FloatKind)
  | ftrunc (s : FloatKind)
  | fwhole (way : Ieee.Toward)
  | fsqrt
  deriving DecidableEq

inductive Bi where
  | add | sub | mul | ediv | emod | tdiv | tmod
  | bits (op : BinOp) (k : IntKind)
  | shl (k : IntKind) | shr (k : IntKind)
  | eq | lt | le | and | or
  | far (op : BinOp) (k : FloatKind)
  | ford (k : FloatKind)
  | fpick (neg : Bool)
  deriving DecidableEq

inductive E where
  | lit (n : Int)
  | var (i : Nat)
  | un (o : Un) (a : E)
  | bin (o : Bi) (a b : E)
  | ite (c a b : E)
  | fn (f : Nat) (a b c : E)
  deriving Inhabited

/-- What names stand for: blocks, numbers; functions of (up to) three numbers. -/
structure Env where
  v : Nat → Int
  fn : Nat → Int → Int → Int → Int

def b2i (b : Bool) : Int := if b then 1 else 0
theorem b2i_ne (b : Bool) : (b2i b ≠ 0) ↔ b = true := by cases b <;> simp [b2i]
theorem b2i_bne (b : Bool) : (b2i b != 0) = b := by cases b <;> rfl

def Un.den : Un → Int → Int
  | .wrap k, a => k.wrap a
  | .bnot, a => b2i (a == 0)
  | .tab l, a => (l.getD a.toNat 0 : Nat)
  | .i2f k, a => (k.nearest a : Nat)
  | .fneg k, a => (Op.negFloat k a.toNat : Nat)
  | .fconv s d, a => fconvI s d a
  | .ftrunc s, a => ftruncI s a
  | .fwhole w, a => fwholeI w a
  | .fsqrt, a => fsqrtI a

def Bi.den : Bi → Int → Int → Int
  | .add, a, b => a + b
  | .sub, a, b => a - b
  | .mul, a, b => a * b
  | .ediv, a, b => a / b
  | .emod, a, b => a % b
  | .tdiv, a, b => a.tdiv b
  | .tmod, a, b => a.tmod b
  | .bits op k, a, b => bitI op k a b
  | .shl k, a, b => k.wrap (a * 2 ^ (min b.toNat k.bits))
  | .shr k, a, b => a.fdiv (2 ^ (min b.toNat k.bits))
  | .eq, a, b => b2i (a == b)
  | .lt, a, b => b2i (decide (a < b))
  | .le, a, b => b2i (decide (a ≤ b))
  | .and, a, b => b2i (a != 0 && b != 0)
  | .or, a, b => b2i (a != 0 || b != 0)
  | .far op k, a, b => farI op k a b
  | .ford k, a, b => fordI k a b
  | .fpick g, a, b => fpickI g a b

def E.den (ρ : Env) : E → Int
  | .lit n => n
  | .var i => ρ.v i
  | .un o a => o.den (a.den ρ)
  | .bin o a b => o.den (a.den ρ) (b.den ρ)
  | .ite c a b => if c.den ρ ≠ 0 then a.den ρ else b.den ρ
  | .fn f a b c => ρ.fn f (a.den ρ) (b.den ρ) (c.den ρ)

/-- The same as a proposition, for reading. -/
def E.prop (ρ : Env) : E → Prop
  | .un .bnot a => ¬ a.prop ρ
  | .bin .eq a b => a.den ρ = b.den ρ
  | .bin .lt a b => a.den ρ < b.den ρ
  | .bin .le a b => a.den ρ ≤ b.den ρ
  | .bin .and a b => a.prop ρ ∧ b.prop ρ
  | .bin .or a b => a.prop ρ ∨ b.prop ρ
  | e => e.den ρ ≠ 0

theorem E.prop_iff (ρ : Env) (e : E) : e.prop ρ ↔ e.den ρ ≠ 0 := by
  induction e with
  | lit n => rfl
  | var i => rfl
  | un o a ih =>
    cases o <;> first | rfl | skip
    simp only [E.prop, E.den, Un.den, b2i_ne, ih]; simp
  | bin o a b iha ihb =>
    cases o <;> first | rfl | skip
    all_goals simp only [E.prop, E.den, Bi.den, b2i_ne, iha, ihb]; simp
  | ite c a b => rfl
  | fn f a b c => rfl

def E.beq : E → E → Bool
  | .lit a, .lit b => decide (a = b)
  | .var i, .var j => Nat.beq i j
  | .un o a, .un p b => match decide (o = p) with
    | true => a.beq b
    | false => false
  | .bin o a b, .bin p c d => match decide (o = p) with
    | true => match a.beq c with
      | true => b.beq d
      | false => false
    | false => false
  | .ite a b c, .ite d e f => match a.beq d with
    | true => match b.beq e with
      | true => c.beq f
      | false => false
    | false => false
  | .fn f a b c, .fn g d e h => match Nat.beq f g with
    | true => match a.beq d with
      | true => match b.beq e with
        | true => c.beq h
        | false => false
      | false => false
    | false => false
  | _, _ => false

theorem E.eq_of_beq : ∀ {a b : E}, a.beq b = true → a = b := by
  intro a
  induction a with
  | lit n => intro b h; cases b <;> simp [E.beq] at h; rw [h]
  | var i => intro b h; cases b <;> simp [E.beq] at h; rw [h]
  | un o a ih =>
    intro b h
    cases b <;> simp only [E.beq] at h <;> try contradiction
    split at h
    · rename_i ho; rw [ih h, of_decide_eq_true ho]
    · contradiction
  | bin o a b iha ihb =>
    intro x h
    cases x <;> simp only [E.beq] at h <;> try contradiction
    split at h
    · rename_i ho
      split at h
      · rename_i ha; rw [iha ha, ihb h, of_decide_eq_true ho]
      · contradiction
    · contradiction
  | ite a b c iha ihb ihc =>
    intro x h
    cases x <;> simp only [E.beq] at h <;> try contradiction
    split at h
    · rename_i ha
      split at h
      · rename_i hb; rw [iha ha, ihb hb, ihc h]
      · contradiction
    · contradiction
  | fn f a b c iha ihb ihc =>
    intro x h
    cases x <;> simp only [E.beq] at h <;> try contradiction
    split at h
    · rename_i hf
      split at h
      · rename_i ha
        split at h
        · rename_i hb; rw [Nat.eq_of_beq_eq_true hf, iha ha, ihb hb, ihc h]
        · contradiction
      · contradiction
    · contradiction

/-! ### bounds -/
abbrev Iv := Option Int × Option Int
def Iv.has (i : Iv) (n : Int) : Prop := (∀ l, i.1 = some l → l ≤ n) ∧ (∀ h, i.2 = some h → n ≤ h)
def Iv.all : Iv := (none, none)
theorem Iv.has_all (n : Int) : Iv.all.has n := ⟨fun _ h => (by cases h), fun _ h => (by cases h)⟩
def mx : Option Int → Option Int → Option Int
  | none, b => b
  | a, none => a
  | some a, some b => some (if a ≤ b then b else a)
def mn : Option Int → Option Int → Option Int
  | none, b => b
  | a, none => a
  | some a, some b => some (if a ≤ b then a else b)
def Iv.meet (i j : Iv) : Iv := (mx i.1 j.1, mn i.2 j.2)
theorem Iv.has_meet {i j : Iv} {n : Int} (hi : i.has n) (hj : j.has n) : (i.meet j).has n := by
  obtain ⟨a, b⟩ := i; obtain ⟨c, d⟩ := j
  constructor
  · intro l hl
    cases a <;> cases c <;> simp only [Iv.meet, mx] at hl
    · cases hl
    · exact hj.1 _ hl
    · exact hi.1 _ hl
    · have h1 := hi.1 _ rfl; have h2 := hj.1 _ rfl
      injection hl with hl; split at hl <;> omega
  · intro l hl
    cases b <;> cases d <;> simp only [Iv.meet, mn] at hl
    · cases hl
    · exact hj.2 _ hl
    · exact hi.2 _ hl
    · have h1 := hi.2 _ rfl; have h2 := hj.2 _ rfl
      injection hl with hl; split at hl <;> omega
def o2 (f : Int → Int → Int) : Option Int → Option Int → Option Int
  | some a, some b => some (f a b)
  | _, _ => none
theorem o2_some {f : Int → Int → Int} {a b : Option Int} {l : Int} (h : o2 f a b = some l) : ∃ x y, a = some x ∧ b = some y ∧ l = f x y := by
  cases a <;> cases b <;> simp [o2] at h
  exact ⟨_, _, rfl, rfl, h.symm⟩
def jn (f : Int → Int → Int) : Option Int → Option Int → Option Int := o2 f
def Iv.join (i j : Iv) : Iv := (o2 (fun a b => if a ≤ b then a else b) i.1 j.1, o2 (fun a b => if a ≤ b then b else a) i.2 j.2)
theorem Iv.has_join_l {i j : Iv} {n : Int} (hi : i.has n) : (i.join j).has n := by
  constructor
  · intro l hl; obtain ⟨x, y, hx, _, rfl⟩ := o2_some hl; have := hi.1 _ hx; split <;> omega
  · intro l hl; obtain ⟨x, y, hx, _, rfl⟩ := o2_some hl; have := hi.2 _ hx; split <;> omega
theorem Iv.has_join_r {i j : Iv} {n : Int} (hi : j.has n) : (i.join j).has n := by
  constructor
  · intro l hl; obtain ⟨x, y, _, hy, rfl⟩ := o2_some hl; have := hi.1 _ hy; split <;> omega
  · intro l hl; obtain ⟨x, y, _, hy, rfl⟩ := o2_some hl; have := hi.2 _ hy; split <;> omega

abbrev Bd := List (E × Iv)
def Bd.ok (ρ : Env) (b : Bd) : Prop := ∀ p ∈ b, p.2.has (p.1.den ρ)
def Bd.look : Bd → E → Iv
  | [], _ => Iv.all
  | (a, i) :: r, e => match a.beq e with
    | true => Iv.meet i (Bd.look r e)
    | false => Bd.look r e
theorem Bd.has_look {ρ : Env} : ∀ {b : Bd} {e : E}, b.ok ρ → (b.look e).has (e.den ρ)
  | [], _, _ => Iv.has_all _
  | (a, i) :: r, e, h => by
    have hr : (Bd.look r e).has (e.den ρ) := Bd.has_look fun p hp => h p (List.mem_cons_of_mem _ hp)
    simp only [Bd.look]
    split
    · rename_i he
      have := E.eq_of_beq he
      subst this
      exact Iv.has_meet (h _ List.mem_cons_self) hr
    · exact hr

def kindIv (k : IntKind) : Iv := match k with
  | .i8 => (some (-128), some 127) | .i16 => (some (-32768), some 32767) | .i32 => (some (-2147483648), some 2147483647)
  | .i64 => (some (-9223372036854775808), some 9223372036854775807)
  | .u8 => (some 0, some 255) | .u16 => (some 0, some 65535) | .u32 => (some 0, some 4294967295) | .u64 => (some 0, some 18446744073709551615)
theorem has_kind (k : IntKind) (n : Int) : (kindIv k).has (k.wrap n) := by
  have key : ∀ (a b x : Int), a ≤ x ∧ x ≤ b → Iv.has (some a, some b) x := fun a b x h => ⟨fun _ h' => by injection h'; omega, fun _ h' => by injection h'; omega⟩
  cases k <;> (refine key _ _ _ ?_; simp [IntKind.wrap, IntKind.bits, IntKind.signed]; try split) <;> omega

def within (i j : Iv) : Bool := match i, j with
  | (some a, some b), (some c, some d) => decide (c ≤ a) && decide (b ≤ d)
  | _, _ => false
theorem wrap_of_within {i : Iv} {k : IntKind} {n : Int} (h : within i (kindIv k) = true) (hn : i.has n) : k.wrap n = n := by
  obtain ⟨a, b⟩ := i
  cases a with
  | none => cases k <;> simp [within] at h
  | some a => cases b with
    | none => cases k <;> simp [within] at h
    | some b =>
      have h1 := hn.1 _ rfl
      have h2 := hn.2 _ rfl
      cases k <;> simp only [within, kindIv, Bool.and_eq_true, decide_eq_true_eq] at h <;> simp [IntKind.wrap, IntKind.bits, IntKind.signed] <;> first | (split <;> omega) | omega

def iv01 : Iv := (some 0, some 1)
theorem has_b2i (b : Bool) : iv01.has (b2i b) := by cases b <;> exact ⟨fun _ h => by cases h; decide, fun _ h => by cases h; decide⟩

/-- Of an expression's form. -/
def ivBin (o : Bi) (i j : Iv) : Iv := match o with
  | .add => (o2 (· + ·) i.1 j.1, o2 (· + ·) i.2 j.2)
  | .sub => (o2 (· - ·) i.1 j.2, o2 (· - ·) i.2 j.1)
  | .mul => match i, j with
    | (some a, some b), (some c, some d) => match decide (0 ≤ a) with
      | true => match decide (0 ≤ c) with
        | true => (some (a * c), some (b * d))
        | false => Iv.all
      | false => Iv.all
    | _, _ => Iv.all
  | .bits .and k => match j with
    | (some c, some d) => match decide (0 ≤ c) with
      | true => match within j (kindIv k) with
        | true => (some 0, some d)
        | false => kindIv k
      | false => kindIv k
    | _ => kindIv k
  | .bits _ k => kindIv k
  | .shl k => kindIv k
  | .eq | .lt | .le | .and | .or => iv01
  | .ford _ => (some 0, some 3)
  | .emod => match j with
    | (some c, some d) => match decide (0 < c) with
      | true => (some 0, some (d - 1))
      | false => Iv.all
    | _ => Iv.all
  | .ediv => match i, j with
    | (some a, some b), (some c, some d) => match decide (0 < c) with
      | true => match decide (c = d) with
        | true => (some (a / c), some (b / c))
        | false => Iv.all
      | false => Iv.all
    | _, _ => Iv.all
  | .tdiv => match i, j with
    | (some a, some b), (some c, some d) => match decide (0 < c) with
      | true => match decide (c = d) with
        | true => (some (a.tdiv c), some (b.tdiv c))
        | false => Iv.all
      | false => Iv.all
    | _, _ => Iv.all
  | _ => Iv.all

def maxL : List Nat → Nat
  | [] => 0
  | x :: r => let m := maxL r
    match Nat.ble x m with
    | true => m
    | false => x
theorem le_maxL : ∀ (l : List Nat) (i : Nat), l.getD i 0 ≤ maxL l
  | [], i => by simp [maxL]
  | x :: r, 0 => by
    simp only [maxL, List.getD_cons_zero]
    split
    · rename_i h; exact Nat.le_of_ble_eq_true h
    · exact Nat.le_refl _
  | x :: r, i + 1 => by
    have := le_maxL r i
    simp only [maxL, List.getD_cons_succ]
    split
    · exact this
    · rename_i h
      have : ¬ x ≤ maxL r := fun hh => by simp [Nat.ble_eq_true_of_le hh] at h
      omega

def ivUn (o : Un) : Iv := match o with
  | .wrap k => kindIv k
  | .bnot => iv01
  | .tab l => (some 0, some (maxL l : Nat))
  | _ => Iv.all

def itv (b : Bd) : E → Iv
  | .lit n => (some n, some n)
  | .var i => Bd.look b (.var i)
  | .un o a => Iv.meet (ivUn o) (Bd.look b (.un o a))
  | .bin o x y => Iv.meet (ivBin o (itv b x) (itv b y)) (Bd.look b (.bin o x y))
  | .ite c x y => Iv.meet (Iv.join (itv b x) (itv b y)) (Bd.look b (.ite c x y))
  | .fn f x y z => Bd.look b (.fn f x y z)

theorem wrap_natCast_le {k : IntKind} {m : Nat} {d : Int} (hd : (m : Int) ≤ d) (h : within (some 0, some d) (kindIv k) = true) : k.wrap (m : Int) = m :=
  wrap_of_within h ⟨fun _ h => by cases h; omega, fun _ h => by cases h; omega⟩

theorem has_ivBin (o : Bi) {i j : Iv} {m n : Int} (hi : i.has m) (hj : j.has n) : (ivBin o i j).has (o.den m n) := by
  cases o with
  | add => exact ⟨fun l hl => by obtain ⟨x, y, hx, hy, rfl⟩ := o2_some hl; have := hi.1 _ hx; have := hj.1 _ hy; simp only [Bi.den]; omega, fun l hl => by obtain ⟨x, y, hx, hy, rfl⟩ := o2_some hl; have := hi.2 _ hx; have := hj.2 _ hy; simp only [Bi.den]; omega⟩
  | sub => exact ⟨fun l hl => by obtain ⟨x, y, hx, hy, rfl⟩ := o2_some hl; have := hi.1 _ hx; have := hj.2 _ hy; simp only [Bi.den]; omega, fun l hl => by obtain ⟨x, y, hx, hy, rfl⟩ := o2_some hl; have := hi.2 _ hx; have := hj.1 _ hy; simp only [Bi.den]; omega⟩
  | mul =>
    obtain ⟨a, b⟩ := i; obtain ⟨c, d⟩ := j
    cases a <;> cases b <;> cases c <;> cases d <;> simp only [ivBin] <;> try exact Iv.has_all _
    rename_i a b c d
    split
    · split
      · rename_i h0 _ h1
        have h0 := of_decide_eq_true h0
        have h1 := of_decide_eq_true h1
        have ha := hi.1 _ rfl; have hb := hi.2 _ rfl; have hc := hj.1 _ rfl; have hd := hj.2 _ rfl
        refine ⟨fun l hl => ?_, fun l hl => ?_⟩
        · cases hl; exact Int.mul_le_mul ha hc h1 (by omega)
        · cases hl; exact Int.mul_le_mul hb hd (by omega) (by omega)
      · exact Iv.has_all _
    · exact Iv.has_all _
  | bits op k =>
    have hk : (kindIv k).has ((Bi.bits op k).den m n) := by simp only [Bi.den, bitI]; exact has_kind k _
    cases op <;> try exact hk
    obtain ⟨c, d⟩ := j
    cases c <;> cases d <;> simp only [ivBin] <;> try exact hk
    rename_i c d
    split
    · rename_i h0
      split
      · rename_i h1
        have h0 := of_decide_eq_true h0
        have hc := hj.1 _ rfl; have hd := hj.2 _ rfl
        have h2 : within (some 0, some d) (kindIv k) = true := by
          revert h1; cases k <;> simp [within, kindIv] <;> omega
        have hle : (((BitVec.ofInt k.bits m &&& BitVec.ofInt k.bits n).toNat : Nat) : Int) ≤ d := by
          have h3 : (BitVec.ofInt k.bits m &&& BitVec.ofInt k.bits n).toNat ≤ (BitVec.ofInt k.bits n).toNat := by
            rw [BitVec.toNat_and]; exact Nat.and_le_right
          have h4 : ((BitVec.ofInt k.bits n).toNat : Int) ≤ n := by
            rw [BitVec.toNat_ofInt]
            have h5 : n % ((2 ^ k.bits : Nat) : Int) ≤ n := by
              have h6 := Int.ediv_nonneg (show 0 ≤ n by omega) (Int.natCast_nonneg (2 ^ k.bits))
              have h7 := Int.mul_nonneg (Int.natCast_nonneg (2 ^ k.bits)) h6
              have h8 := Int.mul_ediv_add_emod n ((2 ^ k.bits : Nat) : Int)
              omega
            have h6 := Int.emod_nonneg n (show ((2 ^ k.bits : Nat) : Int) ≠ 0 by have := Nat.two_pow_pos k.bits; omega)
            omega
          omega
        have : (Bi.bits .and k).den m n = ((BitVec.ofInt k.bits m &&& BitVec.ofInt k.bits n).toNat : Nat) := by
          simp only [Bi.den, bitI]; exact wrap_natCast_le hle h2
        rw [this]
        exact ⟨fun _ h => by cases h; omega, fun _ h => by cases h; exact hle⟩
      · exact hk
    · exact hk
  | shl k => exact has_kind k _
  | eq => exact has_b2i _
  | lt => exact has_b2i _
  | le => exact has_b2i _
  | and => exact has_b2i _
  | or => exact has_b2i _
  | ford k =>
    simp only [ivBin, Bi.den, fordI]
    split <;> exact ⟨fun _ h => by cases h; decide, fun _ h => by cases h; decide⟩
  | emod =>
    obtain ⟨c, d⟩ := j
    cases c <;> cases d <;> simp only [ivBin] <;> try exact Iv.has_all _
    rename_i c d
    split
    · rename_i h0
      have h0 := of_decide_eq_true h0
      have hc := hj.1 _ rfl; have hd := hj.2 _ rfl
      have h1 := Int.emod_nonneg m (show n ≠ 0 by omega)
      have h2 := Int.emod_lt_of_pos m (show 0 < n by omega)
      exact ⟨fun _ h => by cases h; exact h1, fun _ h => by cases h; simp only [Bi.den]; omega⟩
    · exact Iv.has_all _
  | ediv =>
    obtain ⟨a, b⟩ := i; obtain ⟨c, d⟩ := j
    cases a <;> cases b <;> cases c <;> cases d <;> simp only [ivBin] <;> try exact Iv.has_all _
    rename_i a b c d
    have ha := hi.1 _ rfl; have hb := hi.2 _ rfl; have hc := hj.1 _ rfl; have hd := hj.2 _ rfl
    split
    · rename_i h1
      have h1 := of_decide_eq_true h1
      split
      · rename_i h2
        have h2 := of_decide_eq_true h2
        have : n = c := by omega
        subst this
        exact ⟨fun _ h => by cases h; exact Int.ediv_le_ediv h1 ha, fun _ h => by cases h; exact Int.ediv_le_ediv h1 hb⟩
      · exact Iv.has_all _
    · exact Iv.has_all _
  | tdiv =>
    obtain ⟨a, b⟩ := i; obtain ⟨c, d⟩ := j
    cases a <;> cases b <;> cases c <;> cases d <;> simp only [ivBin] <;> try exact Iv.has_all _
    rename_i a b c d
    have ha := hi.1 _ rfl; have hb := hi.2 _ rfl; have hc := hj.1 _ rfl; have hd := hj.2 _ rfl
    split
    · rename_i h1
      have h1 := of_decide_eq_true h1
      split
      · rename_i h2
        have h2 := of_decide_eq_true h2
        have : n = c := by omega
        subst this
        exact ⟨fun _ h => by cases h; exact Int.tdiv_le_tdiv h1 ha, fun _ h => by cases h; exact Int.tdiv_le_tdiv h1 hb⟩
      · exact Iv.has_all _
    · exact Iv.has_all _
  | _ => exact Iv.has_all _

end Go.Sx
