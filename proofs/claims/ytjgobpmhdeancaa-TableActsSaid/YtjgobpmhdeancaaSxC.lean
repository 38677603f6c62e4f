/- Expressions: making them, deciding them, supposing them. -/
import Derived.Test.YtjgobpmhdeancaaSxB
namespace Go.Sx
open Go

theorem has_ivUn (o : Un) (n : Int) : (ivUn o).has (o.den n) := by
  cases o with
  | wrap k => exact has_kind k n
  | bnot => exact has_b2i _
  | tab l =>
    refine ⟨fun _ h => ?_, fun _ h => ?_⟩
    · cases h; exact Int.natCast_nonneg _
    · cases h; exact Int.ofNat_le.2 (le_maxL l _)
  | _ => exact Iv.has_all _

theorem has_itv {ρ : Env} {b : Bd} (h : b.ok ρ) : ∀ e : E, (itv b e).has (e.den ρ)
  | .lit n => ⟨fun _ h => (by cases h; exact Int.le_refl _), fun _ h => (by cases h; exact Int.le_refl _)⟩
  | .var _ => Bd.has_look h
  | .un o _ => Iv.has_meet (has_ivUn o _) (Bd.has_look h)
  | .bin o x y => Iv.has_meet (has_ivBin o (has_itv h x) (has_itv h y)) (Bd.has_look h)
  | .ite c x y => Iv.has_meet (by
      simp only [E.den]
      split
      · exact Iv.has_join_l (has_itv h x)
      · exact Iv.has_join_r (has_itv h y)) (Bd.has_look h)
  | .fn _ _ _ _ => Bd.has_look h

/-! ### making -/
def litE (n : Int) : E := match n with
  | .ofNat k => .lit (.ofNat k)
  | .negSucc k => .lit (.negSucc k)
theorem den_litE (ρ : Env) (n : Int) : (litE n).den ρ = n := by cases n <;> rfl

def mkNot (x : E) : E := match x with
  | .bin .lt a c => .bin .le c a
  | .bin .le a c => .bin .lt c a
  | .un .bnot (.bin .eq a c) => .bin .eq a c
  | x => .un .bnot x
theorem den_mkNot (ρ : Env) (x : E) : (mkNot x).den ρ = b2i (x.den ρ == 0) := by
  unfold mkNot
  split
  · simp only [E.den, Bi.den, b2i, decide_eq_true_eq]
    repeat' split
    all_goals (simp_all <;> omega)
  · simp only [E.den, Bi.den, b2i, decide_eq_true_eq]
    repeat' split
    all_goals (simp_all <;> omega)
  · simp only [E.den, Un.den, Bi.den, b2i]
    repeat' split
    all_goals simp_all
  · rfl

def mkUn (o : Un) (x : E) : E := match x with
  | .lit n => litE (o.den n)
  | x => match o with
    | .bnot => mkNot x
    | o => .un o x
theorem den_mkUn (ρ : Env) (o : Un) (x : E) : (mkUn o x).den ρ = o.den (x.den ρ) := by
  unfold mkUn
  split
  · exact den_litE ρ _
  · split
    · exact den_mkNot ρ _
    · rfl

theorem wrap_wrap {k k' : IntKind} (h : k.bits ≤ k'.bits) (n : Int) : k.wrap (k'.wrap n) = k.wrap n := by
  cases k <;> cases k' <;> simp [IntKind.bits] at h <;> simp only [IntKind.wrap, IntKind.bits, IntKind.signed] <;> simp <;> repeat' split
  all_goals omega

def mkWrap (b : Bd) (k : IntKind) (x : E) : E := match x with
  | .lit n => litE (k.wrap n)
  | x => match within (itv b x) (kindIv k) with
    | true => x
    | false => match x with
      | .un (.wrap k') a => match Nat.ble k.bits k'.bits with
        | true => .un (.wrap k) a
        | false => .un (.wrap k) (.un (.wrap k') a)
      | x => .un (.wrap k) x
theorem den_mkWrap {ρ : Env} {b : Bd} (h : b.ok ρ) (k : IntKind) (x : E) : (mkWrap b k x).den ρ = k.wrap (x.den ρ) := by
  unfold mkWrap
  split
  · exact den_litE ρ _
  · split
    · rename_i hw; exact (wrap_of_within hw (has_itv h _)).symm
    · split
      · split
        · rename_i hb; exact (wrap_wrap (Nat.le_of_ble_eq_true hb) _).symm
        · rfl
      · rfl

def mkAdd (x y : E) : E := match x, y with
  | .lit m, .lit n => litE (m + n)
  | .lit m, y => match m with
    | .ofNat 0 => y
    | m => match y with
      | .bin .add z (.lit n) => .bin .add z (litE (m + n))
      | y => .bin .add y (.lit m)
  | x, .lit n => match n with
    | .ofNat 0 => x
    | n => match x with
      | .bin .add z (.lit m) => .bin .add z (litE (m + n))
      | x => .bin .add x (.lit n)
  | x, y => .bin .add x y
theorem den_mkAdd (ρ : Env) (x y : E) : (mkAdd x y).den ρ = x.den ρ + y.den ρ := by
  unfold mkAdd
  split
  · exact den_litE ρ _
  · split
    · simp [E.den]
    · split <;> simp only [E.den, Bi.den, den_litE] <;> omega
  · split
    · simp [E.den]
    · split <;> simp only [E.den, Bi.den, den_litE] <;> omega
  · rfl

def mkSub (x y : E) : E := match y with
  | .lit n => mkAdd x (litE (-n))
  | y => match x with
    | .bin .add z (.lit n) => .bin .add (.bin .sub z y) (.lit n)
    | x => .bin .sub x y
theorem den_mkSub (ρ : Env) (x y : E) : (mkSub x y).den ρ = x.den ρ - y.den ρ := by
  unfold mkSub
  split
  · rw [den_mkAdd, den_litE]; simp only [E.den]; omega
  · split
    · simp only [E.den, Bi.den]; omega
    · rfl

def mulL (x : E) (n : Int) : E := match decide (n = 1) with
  | true => x
  | false => .bin .mul x (.lit n)
theorem den_mulL (ρ : Env) (x : E) (n : Int) : (mulL x n).den ρ = x.den ρ * n := by
  unfold mulL
  split
  · rename_i h; rw [of_decide_eq_true h]; omega
  · rfl
def mkMul (x y : E) : E := match x, y with
  | .lit m, .lit n => litE (m * n)
  | .lit m, y => mulL y m
  | x, .lit n => mulL x n
  | x, y => .bin .mul x y
theorem den_mkMul (ρ : Env) (x y : E) : (mkMul x y).den ρ = x.den ρ * y.den ρ := by
  unfold mkMul
  split
  · exact den_litE ρ _
  · simp only [den_mulL, E.den]; rw [Int.mul_comm]
  · simp only [den_mulL, E.den]
  · rfl

/-- a number that is a multiple, divided -/
def quotE (n : Int) : E → Option E
  | .lit k => match decide (k % n = 0) with
    | true => some (litE (k / n))
    | false => none
  | .bin .add a b => match quotE n a with
    | some x => match quotE n b with
      | some y => some (mkAdd x y)
      | none => none
    | none => none
  | .bin .sub a b => match quotE n a with
    | some x => match quotE n b with
      | some y => some (mkSub x y)
      | none => none
    | none => none
  | .bin .mul a (.lit k) => match decide (k % n = 0) with
    | true => match decide (k / n = 1) with
      | true => some a
      | false => some (mkMul a (litE (k / n)))
    | false => none
  | _ => none
theorem quotE_some {n : Int} (_hn : n ≠ 0) (ρ : Env) : ∀ {e q : E}, quotE n e = some q → e.den ρ = q.den ρ * n := by
  intro e
  have key : ∀ k : Int, k % n = 0 → k = k / n * n := fun k h => by
    have := Int.emod_add_mul_ediv k n
    rw [Int.mul_comm] at this
    omega
  induction e with
  | lit k =>
    intro q h
    simp only [quotE] at h
    split at h
    · rename_i hk; cases h; rw [den_litE]; exact key k (of_decide_eq_true hk)
    · cases h
  | bin o a b iha ihb =>
    intro q h
    unfold quotE at h
    split at h
    · rename_i he; cases he
    · rename_i x y he
      cases he
      split at h
      · rename_i x hx
        split at h
        · rename_i y hy; cases h; simp only [E.den, Bi.den, den_mkAdd, iha hx, ihb hy, Int.add_mul]
        · cases h
      · cases h
    · rename_i x y he
      cases he
      split at h
      · rename_i x hx
        split at h
        · rename_i y hy; cases h; simp only [E.den, Bi.den, den_mkSub, iha hx, ihb hy, Int.sub_mul]
        · cases h
      · cases h
    · rename_i x k he
      cases he
      split at h
      · rename_i hk
        have hk := key k (of_decide_eq_true hk)
        split at h
        · rename_i h1
          have h1 := of_decide_eq_true h1
          cases h
          rw [h1, Int.one_mul] at hk
          simp only [E.den, Bi.den]
          rw [← hk]
        · cases h
          simp only [E.den, Bi.den, den_mkMul, den_litE]
          rw [Int.mul_assoc, ← hk]
      · cases h
    · cases h
  | _ => intro q h; simp [quotE] at h
def mkBin (o : Bi) (x y : E) : E := match y with
  | .lit n => match x with
    | .lit m => litE (o.den m n)
    | x => match o with
      | .ediv => match decide (n = 0) with
        | true => .bin .ediv x (.lit n)
        | false => match quotE n x with
          | some q => q
          | none => .bin .ediv x (.lit n)
      | o => .bin o x (.lit n)
  | y => .bin o x y
theorem den_mkBin (ρ : Env) (o : Bi) (x y : E) : (mkBin o x y).den ρ = o.den (x.den ρ) (y.den ρ) := by
  unfold mkBin
  split
  · split
    · exact den_litE ρ _
    · split
      · split
        · rfl
        · rename_i n _ _ _ _ hn
          have hn := of_decide_eq_false hn
          split
          · rename_i q hq
            have := quotE_some hn ρ hq
            simp only [E.den, Bi.den, this]
            exact (Int.mul_ediv_cancel _ hn).symm
          · rfl
      · rfl
  · rfl

/-- a quotient, a rest: of numbers that are not below nought the plain ones -/
def nonneg (i : Iv) : Bool := match i with
  | (some a, _) => decide (0 ≤ a)
  | _ => false
theorem nonneg_of {i : Iv} {n : Int} (h : nonneg i = true) (hn : i.has n) : 0 ≤ n := by
  obtain ⟨a, b⟩ := i
  cases a with
  | none => simp [nonneg] at h
  | some a => have := hn.1 _ rfl; simp [nonneg] at h; omega
def mkQuo (b : Bd) (x y : E) : E := match nonneg (itv b x) && nonneg (itv b y) with
  | true => mkBin .ediv x y
  | false => mkBin .tdiv x y
theorem den_mkQuo {ρ : Env} {b : Bd} (h : b.ok ρ) (x y : E) : (mkQuo b x y).den ρ = (x.den ρ).tdiv (y.den ρ) := by
  unfold mkQuo
  split
  · rename_i hh
    simp only [Bool.and_eq_true] at hh
    rw [den_mkBin]
    exact (Int.tdiv_eq_ediv_of_nonneg (nonneg_of hh.1 (has_itv h x))).symm
  · exact den_mkBin ρ _ _ _
def mkRem (b : Bd) (x y : E) : E := match nonneg (itv b x) && nonneg (itv b y) with
  | true => mkBin .emod x y
  | false => mkBin .tmod x y
theorem den_mkRem {ρ : Env} {b : Bd} (h : b.ok ρ) (x y : E) : (mkRem b x y).den ρ = (x.den ρ).tmod (y.den ρ) := by
  unfold mkRem
  split
  · rename_i hh
    simp only [Bool.and_eq_true] at hh
    rw [den_mkBin]
    exact (Int.tmod_eq_emod_of_nonneg (nonneg_of hh.1 (has_itv h x))).symm
  · exact den_mkBin ρ _ _ _

/-- shifts: by a number that is known, a product, a quotient -/
def mkShl (b : Bd) (k : IntKind) (x y : E) : E := match y with
  | .lit n => mkWrap b k (mkMul x (litE (2 ^ (min n.toNat k.bits))))
  | y => .bin (.shl k) x y
theorem den_mkShl {ρ : Env} {b : Bd} (h : b.ok ρ) (k : IntKind) (x y : E) : (mkShl b k x y).den ρ = k.wrap (x.den ρ * 2 ^ (min (y.den ρ).toNat k.bits)) := by
  unfold mkShl
  split
  · rw [den_mkWrap h, den_mkMul, den_litE]; rfl
  · rfl
def mkShr (k : IntKind) (x y : E) : E := match y with
  | .lit n => mkBin .ediv x (litE (2 ^ (min n.toNat k.bits)))
  | y => .bin (.shr k) x y
theorem den_mkShr (ρ : Env) (k : IntKind) (x y : E) : (mkShr k x y).den ρ = (x.den ρ).fdiv (2 ^ (min (y.den ρ).toNat k.bits)) := by
  unfold mkShr
  split
  · rw [den_mkBin, den_litE]
    exact (Int.fdiv_eq_ediv_of_nonneg _ (Int.le_of_lt (Int.pow_pos (by decide)))).symm
  · rfl

/-- equality of two numbers with sign, wrapped alike, is that of the ones without -/
def unS : IntKind → Option IntKind
  | .i8 => some .u8
  | .i16 => some .u16
  | .i32 => some .u32
  | _ => none
def eqW (x y : E) : E := match x, y with
  | .un (.wrap k) a, .un (.wrap k') c => match decide (k = k') with
    | true => match unS k with
      | some u => .bin .eq (.un (.wrap u) a) (.un (.wrap u) c)
      | none => .bin .eq (.un (.wrap k) a) (.un (.wrap k') c)
    | false => .bin .eq (.un (.wrap k) a) (.un (.wrap k') c)
  | .un (.wrap k) a, .lit n => match n with
    | .ofNat 0 => match unS k with
      | some u => .bin .eq (.un (.wrap u) a) (.lit 0)
      | none => .bin .eq (.un (.wrap k) a) (.lit n)
    | n => .bin .eq (.un (.wrap k) a) (.lit n)
  | x, y => .bin .eq x y
theorem unS_eq {k u : IntKind} (h : unS k = some u) (m n : Int) : (k.wrap m == k.wrap n) = (u.wrap m == u.wrap n) := by
  have hd : ∀ a b : Int, (a == b) = decide (a = b) := fun a b => by by_cases h : a = b <;> simp [h]
  rw [hd, hd]
  apply decide_eq_decide.2
  cases k <;> simp [unS] at h <;> subst h <;> simp only [IntKind.wrap, IntKind.bits, IntKind.signed] <;> simp <;> repeat' split
  all_goals omega
theorem unS_zero {k u : IntKind} (h : unS k = some u) (m : Int) : (k.wrap m == 0) = (u.wrap m == 0) := by
  have h1 := unS_eq h m 0
  have e : ∀ k : IntKind, k.wrap 0 = 0 := fun k => by cases k <;> rfl
  rwa [e, e] at h1
theorem den_eqW (ρ : Env) (x y : E) : (eqW x y).den ρ = b2i (x.den ρ == y.den ρ) := by
  unfold eqW
  split
  · rename_i k a k' c
    split
    · rename_i hk
      have hk := of_decide_eq_true hk
      subst hk
      split
      · rename_i u hu; simp only [E.den, Un.den, Bi.den, unS_eq hu]
      · rfl
    · rfl
  · split
    · split
      · rename_i u hu
        simp only [E.den, Un.den, Bi.den]
        exact congrArg b2i (unS_zero hu _).symm
      · rfl
    · rfl
  · rfl
def mkEq (x y : E) : E := match x, y with
  | .lit m, .lit n => litE (b2i (decide (m = n)))
  | .lit m, y => eqW y (.lit m)
  | x, y => eqW x y
theorem den_mkEq (ρ : Env) (x y : E) : (mkEq x y).den ρ = b2i (x.den ρ == y.den ρ) := by
  have hd : ∀ a b : Int, (a == b) = decide (a = b) := fun a b => by by_cases h : a = b <;> simp [h]
  unfold mkEq
  split
  · rw [den_litE, hd]; rfl
  · rw [den_eqW]; simp only [E.den]; congr 1; rw [hd, hd]; exact decide_eq_decide.2 eq_comm
  · exact den_eqW ρ _ _

/-! ### deciding -/
def ltI (i j : Iv) : Option Bool := match i.2, j.1 with
  | some a, some b => match decide (a < b) with
    | true => some true
    | false => match i.1, j.2 with
      | some c, some d => match decide (d ≤ c) with
        | true => some false
        | false => none
      | _, _ => none
  | _, _ => match i.1, j.2 with
    | some c, some d => match decide (d ≤ c) with
      | true => some false
      | false => none
    | _, _ => none
theorem ltI_some {i j : Iv} {m n : Int} {t : Bool} (hi : i.has m) (hj : j.has n) (h : ltI i j = some t) : decide (m < n) = t := by
  obtain ⟨a, b⟩ := i; obtain ⟨c, d⟩ := j
  have h1 := fun x hx => hi.1 x hx
  have h2 := fun x hx => hi.2 x hx
  have h3 := fun x hx => hj.1 x hx
  have h4 := fun x hx => hj.2 x hx
  simp only at h1 h2 h3 h4
  unfold ltI at h
  simp only at h
  split at h
  · rename_i x y
    have := h2 _ rfl; have := h3 _ rfl
    split at h
    · rename_i hh; cases h; simp at hh ⊢; omega
    · split at h
      · rename_i x' y' _ _ _
        have := h1 _ rfl; have := h4 _ rfl
        split at h
        · rename_i hh; cases h; simp at hh ⊢; omega
        · cases h
      · cases h
  · split at h
    · have := h1 _ rfl; have := h4 _ rfl
      split at h
      · rename_i hh; cases h; simp at hh ⊢; omega
      · cases h
    · cases h

def memE (l : List E) (e : E) : Bool := match l with
  | [] => false
  | a :: r => match a.beq e with
    | true => true
    | false => memE r e
theorem memE_mem : ∀ {l : List E} {e : E}, memE l e = true → e ∈ l
  | [], _, h => by simp [memE] at h
  | a :: r, e, h => by
    simp only [memE] at h
    split at h
    · rename_i hh; rw [E.eq_of_beq hh]; exact List.mem_cons_self
    · exact List.mem_cons_of_mem _ (memE_mem h)

def pcOk (ρ : Env) (pc : List E) : Prop := ∀ e ∈ pc, e.den ρ ≠ 0

def known (pc : List E) (e : E) : Option Bool := match memE pc e with
  | true => some true
  | false => match memE pc (mkNot e) with
    | true => some false
    | false => none
theorem known_some {ρ : Env} {pc : List E} {e : E} {t : Bool} (hp : pcOk ρ pc) (h : known pc e = some t) : (e.den ρ != 0) = t := by
  unfold known at h
  split at h
  · rename_i hm; cases h; simpa using hp _ (memE_mem hm)
  · split at h
    · rename_i hm; cases h
      have := hp _ (memE_mem hm)
      rw [den_mkNot] at this
      simpa using (b2i_ne _).1 this
    · cases h

def dec (b : Bd) (pc : List E) : E → Option Bool
  | .lit n => some (match n with
    | .ofNat 0 => false
    | _ => true)
  | .un .bnot a => match dec b pc a with
    | some t => some (!t)
    | none => known pc (.un .bnot a)
  | .bin .lt x y => match ltI (itv b x) (itv b y) with
    | some t => some t
    | none => known pc (.bin .lt x y)
  | .bin .le x y => match ltI (itv b y) (itv b x) with
    | some t => some (!t)
    | none => known pc (.bin .le x y)
  | .bin .eq x y => match ltI (itv b x) (itv b y) with
    | some true => some false
    | _ => match ltI (itv b y) (itv b x) with
      | some true => some false
      | some false => match ltI (itv b x) (itv b y) with
        | some false => some true
        | _ => known pc (.bin .eq x y)
      | none => match x.beq y with
        | true => some true
        | false => known pc (.bin .eq x y)
  | .bin .or x y => match dec b pc x with
    | some true => some true
    | some false => match dec b pc y with
      | some t => some t
      | none => known pc (.bin .or x y)
    | none => match dec b pc y with
      | some true => some true
      | _ => known pc (.bin .or x y)
  | .bin .and x y => match dec b pc x with
    | some false => some false
    | some true => match dec b pc y with
      | some t => some t
      | none => known pc (.bin .and x y)
    | none => match dec b pc y with
      | some false => some false
      | _ => known pc (.bin .and x y)
  | e => known pc e
theorem dec_some {ρ : Env} {b : Bd} {pc : List E} (hb : b.ok ρ) (hp : pcOk ρ pc) : ∀ (e : E) (t : Bool), dec b pc e = some t → (e.den ρ != 0) = t := by
  intro e
  have hd : ∀ a b : Int, (a == b) = decide (a = b) := fun a b => by by_cases h : a = b <;> simp [h]
  have hne : ∀ b : Bool, (b2i b != 0) = b := b2i_bne
  induction e with
  | lit n =>
    intro t h
    unfold dec at h
    split at h
    · cases h; rfl
    · rename_i hn
      cases h
      simp only [E.den]
      simpa [bne_iff_ne] using hn
  | var i => intro t h; exact known_some hp h
  | ite c x y => intro t h; exact known_some hp h
  | fn f x y z => intro t h; exact known_some hp h
  | un o a ih =>
    intro t h
    cases o <;> first | exact known_some hp h | skip
    simp only [dec] at h
    split at h
    · rename_i t' ht
      cases h
      have := ih _ ht
      simp only [E.den, Un.den, hne]
      rw [← this]; simp [bne]
    · exact known_some hp h
  | bin o x y ihx ihy =>
    intro t h
    cases o <;> first | exact known_some hp h | skip
    · simp only [dec] at h
      have h1 := fun t ht => ltI_some (t := t) (has_itv hb x) (has_itv hb y) ht
      have h2 := fun t ht => ltI_some (t := t) (has_itv hb y) (has_itv hb x) ht
      have key : ∀ t, (((E.bin Bi.eq x y).den ρ != 0) = t) = ((x.den ρ == y.den ρ) = t) := fun t => by simp only [E.den, Bi.den, hne]
      split at h
      · rename_i hh
        have := h1 _ hh
        cases h; rw [key, hd]; simp at this ⊢; omega
      · split at h
        · rename_i hh
          have := h2 _ hh
          cases h; rw [key, hd]; simp at this ⊢; omega
        · rename_i hh
          have a1 := h2 _ hh
          split at h
          · rename_i h3
            have a2 := h1 _ h3
            cases h; rw [key, hd]; simp at a1 a2 ⊢; omega
          · exact known_some hp h
        · split at h
          · rename_i hh; rw [key, E.eq_of_beq hh]; cases h; simp
          · exact known_some hp h
    · simp only [dec] at h
      split at h
      · rename_i hh; cases h; simp only [E.den, Bi.den, hne]; exact ltI_some (has_itv hb x) (has_itv hb y) hh
      · exact known_some hp h
    · simp only [dec] at h
      split at h
      · rename_i hh
        cases h
        simp only [E.den, Bi.den, hne]
        rw [← ltI_some (has_itv hb y) (has_itv hb x) hh, ← decide_not]
        exact decide_eq_decide.2 Int.not_lt.symm
      · exact known_some hp h
    · simp only [dec] at h
      split at h
      · rename_i hh; cases h; simp only [E.den, Bi.den, hne, ihx _ hh]; rfl
      · rename_i hh
        split at h
        · rename_i t' ht; cases h; simp only [E.den, Bi.den, hne, ihx _ hh, ihy _ ht]; rfl
        · exact known_some hp h
      · split at h
        · rename_i ht; cases h; simp only [E.den, Bi.den, hne, ihy _ ht]; simp
        · exact known_some hp h
    · simp only [dec] at h
      split at h
      · rename_i hh; cases h; simp only [E.den, Bi.den, hne, ihx _ hh]; rfl
      · rename_i hh
        split at h
        · rename_i t' ht; cases h; simp only [E.den, Bi.den, hne, ihx _ hh, ihy _ ht]; rfl
        · exact known_some hp h
      · split at h
        · rename_i ht; cases h; simp only [E.den, Bi.den, hne, ihy _ ht]; simp
        · exact known_some hp h

/-! ### supposing -/
def up1 : Option Int → Option Int
  | some a => some (a + 1)
  | none => none
def dn1 : Option Int → Option Int
  | some a => some (a - 1)
  | none => none
def bdAdd (b : Bd) (e : E) (i : Iv) : Bd := match e with
  | .lit _ => b
  | e => match i with
    | (none, none) => b
    | i => (e, i) :: b
theorem ok_bdAdd {ρ : Env} {b : Bd} {e : E} {i : Iv} (hb : b.ok ρ) (h : i.has (e.den ρ)) : (bdAdd b e i).ok ρ := by
  unfold bdAdd
  split
  · exact hb
  · split
    · exact hb
    · intro p hp
      cases hp with
      | head => exact h
      | tail _ hp => exact hb p hp

def bdDiff (b : Bd) (x y : E) (d : Int) : Bd := match x, y with
  | .lit _, _ => b
  | _, .lit _ => b
  | x, y => (.bin .sub y x, (some d, none)) :: b
theorem ok_bdDiff {ρ : Env} {b : Bd} {x y : E} {d : Int} (hb : b.ok ρ) (h : d ≤ y.den ρ - x.den ρ) : (bdDiff b x y d).ok ρ := by
  unfold bdDiff
  split
  · exact hb
  · exact hb
  · intro p hp
    cases hp with
    | head => exact ⟨fun _ h' => (by cases h'; exact h), fun _ h' => (by cases h')⟩
    | tail _ hp => exact hb p hp

def suppose (b : Bd) : E → Bd
  | .bin .lt x y => bdDiff (bdAdd (bdAdd b x (none, dn1 (itv b y).2)) y (up1 (itv b x).1, none)) x y 1
  | .bin .le x y => bdDiff (bdAdd (bdAdd b x (none, (itv b y).2)) y ((itv b x).1, none)) x y 0
  | .bin .eq x y => bdAdd (bdAdd b x (itv b y)) y (itv b x)
  | .un .bnot (.bin .eq x (.lit n)) => match itv b x with
    | (some l, h) => match decide (l = n) with
      | true => bdAdd b x (some (l + 1), none)
      | false => match h with
        | some h => match decide (h = n) with
          | true => bdAdd b x (none, some (h - 1))
          | false => b
        | none => b
    | _ => b
  | .bin .and x y => suppose (suppose b x) y
  | _ => b
theorem ok_suppose {ρ : Env} : ∀ (e : E) {b : Bd}, b.ok ρ → e.den ρ ≠ 0 → (suppose b e).ok ρ := by
  intro e
  induction e with
  | lit n => exact fun hb _ => hb
  | var i => exact fun hb _ => hb
  | ite c x y => exact fun hb _ => hb
  | fn f x y z => exact fun hb _ => hb
  | un o a _ =>
    intro b hb h
    cases o <;> try exact hb
    unfold suppose
    split
    · rename_i he; cases he
    · rename_i he; cases he
    · rename_i he; cases he
    · rename_i x n he
      injection he with _ he
      subst he
      simp only [E.den, Un.den, Bi.den, b2i_ne] at h
      have hi := has_itv hb x
      split
      · rename_i l hh hiv
        rw [hiv] at hi
        have hl := hi.1 _ rfl
        have hne : x.den ρ ≠ n := fun he => by simp [he, b2i] at h
        split
        · rename_i hln
          have hln := of_decide_eq_true hln
          exact ok_bdAdd hb ⟨fun _ h => (by cases h; omega), fun _ h => (by cases h)⟩
        · split
          · rename_i h'
            have hh := hi.2 _ rfl
            split
            · rename_i hln
              have hln := of_decide_eq_true hln
              exact ok_bdAdd hb ⟨fun _ h => (by cases h), fun _ h => (by cases h; omega)⟩
            · exact hb
          · exact hb
      · exact hb
    · rename_i he; cases he
    · exact hb
  | bin o x y ihx ihy =>
    intro b hb h
    have hx := has_itv hb x
    have hy := has_itv hb y
    cases o <;> try exact hb
    · -- eq
      simp only [E.den, Bi.den, b2i_ne] at h
      have h : x.den ρ = y.den ρ := by simpa using h
      exact ok_bdAdd (ok_bdAdd hb (h ▸ hy)) (h ▸ hx)
    · simp only [E.den, Bi.den, b2i_ne] at h
      have h := of_decide_eq_true h
      refine ok_bdDiff (ok_bdAdd (ok_bdAdd hb ⟨fun _ h => (by cases h), fun l hl => ?_⟩) ⟨fun l hl => ?_, fun _ h => (by cases h)⟩) (by omega)
      · cases hc : (itv b y).2 with
        | none => rw [hc] at hl; cases hl
        | some c => have := hy.2 _ hc; rw [hc] at hl; cases hl; omega
      · cases hc : (itv b x).1 with
        | none => rw [hc] at hl; cases hl
        | some c => have := hx.1 _ hc; rw [hc] at hl; cases hl; omega
    · simp only [E.den, Bi.den, b2i_ne] at h
      have h := of_decide_eq_true h
      refine ok_bdDiff (ok_bdAdd (ok_bdAdd hb ⟨fun _ h => (by cases h), fun l hl => ?_⟩) ⟨fun l hl => ?_, fun _ h => (by cases h)⟩) (by omega)
      · have := hy.2 _ hl; omega
      · have := hx.1 _ hl; omega
    · simp only [E.den, Bi.den, b2i_ne] at h
      simp at h
      exact ihy (ihx hb h.1) h.2

end Go.Sx
