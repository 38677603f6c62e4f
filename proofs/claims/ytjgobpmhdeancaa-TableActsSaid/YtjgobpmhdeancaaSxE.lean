/- Operations that only reckon. -/
import Derived.Test.YtjgobpmhdeancaaSxD
namespace Go.Sx
open Go

theorem bits_le (k : IntKind) : 8 ≤ k.bits := by cases k <;> decide
theorem bitI_mask (k : IntKind) (x : Int) (j : Nat) (h : j < k.bits) : bitI .and k x (2 ^ j - 1) = x % 2 ^ j := by
  unfold bitI
  have h1 : (BitVec.ofInt k.bits x &&& BitVec.ofInt k.bits (2 ^ j - 1)).toNat = (x % 2 ^ j).toNat := by
    rw [BitVec.toNat_and, BitVec.toNat_ofInt, BitVec.toNat_ofInt]
    have h2 : ((2 : Int) ^ j - 1) % ((2 ^ k.bits : Nat) : Int) = 2 ^ j - 1 := by
      apply Int.emod_eq_of_lt
      · have : (0 : Int) < 2 ^ j := Int.pow_pos (by decide)
        omega
      · have h3 : (2 : Int) ^ j ≤ ((2 ^ k.bits : Nat) : Int) := by
          rw [Int.natCast_pow]
          have := Nat.pow_le_pow_right (show 0 < 2 by decide) (Nat.le_of_lt h)
          exact_mod_cast this
        omega
    have h4 : ((2 : Int) ^ j - 1).toNat = 2 ^ j - 1 := by
      have : ((2 : Int) ^ j) = ((2 ^ j : Nat) : Int) := by rw [Int.natCast_pow]; rfl
      rw [this]; omega
    rw [h2, h4, Nat.and_two_pow_sub_one_eq_mod]
    have h5 : x % 2 ^ j = (x % ((2 ^ k.bits : Nat) : Int)) % 2 ^ j := by
      rw [Int.emod_emod_of_dvd]
      rw [Int.natCast_pow]
      exact ⟨2 ^ (k.bits - j), by rw [← Int.pow_add]; congr 1; omega⟩
    rw [h5]
    have h6 := Int.emod_nonneg x (show ((2 ^ k.bits : Nat) : Int) ≠ 0 by have := Nat.two_pow_pos k.bits; omega)
    generalize x % ((2 ^ k.bits : Nat) : Int) = y at *
    obtain ⟨m, rfl⟩ := Int.eq_ofNat_of_zero_le h6
    have : ((2 : Int) ^ j) = ((2 ^ j : Nat) : Int) := by rw [Int.natCast_pow]; rfl
    rw [this]
    simp only [Int.toNat_natCast]
    rw [← Int.natCast_emod, Int.toNat_natCast]
  simp only [h1]
  have h0 : (0 : Int) < 2 ^ j := Int.pow_pos (by decide)
  have h7 := Int.emod_nonneg x (show (2 : Int) ^ j ≠ 0 by omega)
  have h8 := Int.emod_lt_of_pos x h0
  rw [Int.toNat_of_nonneg h7]
  have h9 : (2 : Int) ^ j ≤ 2 ^ (k.bits - 1) := by
    have := Nat.pow_le_pow_right (show 0 < 2 by decide) (show j ≤ k.bits - 1 by omega)
    exact_mod_cast this
  generalize x % 2 ^ j = y at *
  have h10 : y < 2 ^ (k.bits - 1) := by omega
  revert h10 h7
  clear h1 h8 h9 h0
  cases k <;> simp only [IntKind.wrap, IntKind.bits, IntKind.signed] <;> simp <;> intros <;> (try split) <;> omega

def isMask (k : IntKind) (m : Int) : Option Nat := match m with
  | .ofNat n =>
    let j := Nat.log2 (n + 1)
    match Nat.beq (2 ^ j) (n + 1) && Nat.ble (j + 1) k.bits with
    | true => some j
    | false => none
  | .negSucc _ => none
theorem isMask_some {k : IntKind} {m : Int} {j : Nat} (h : isMask k m = some j) : m = 2 ^ j - 1 ∧ j < k.bits := by
  unfold isMask at h
  split at h
  · rename_i n
    simp only at h
    split at h
    · rename_i hb
      simp only [Bool.and_eq_true] at hb
      injection h with h
      have h1 := Nat.eq_of_beq_eq_true hb.1
      have h2 := Nat.le_of_ble_eq_true hb.2
      rw [h] at h1 h2
      have : ((2 : Int) ^ j) = ((2 ^ j : Nat) : Int) := by rw [Int.natCast_pow]; rfl
      rw [this, h1]
      refine ⟨?_, h2⟩
      show (n : Int) = _
      omega
    · cases h
  · cases h

/-- the low bits of a number: where they are a kind's, its wrap -/
def mkLow (u : IntKind) (x : E) : E := match x with
  | .un (.wrap k) a => match Nat.ble u.bits k.bits with
    | true => .un (.wrap u) a
    | false => .un (.wrap u) (.un (.wrap k) a)
  | x => mkUn (.wrap u) x
theorem den_mkLow (ρ : Env) (u : IntKind) (x : E) : (mkLow u x).den ρ = u.wrap (x.den ρ) := by
  unfold mkLow
  split
  · split
    · rename_i hb; exact (wrap_wrap (Nat.le_of_ble_eq_true hb) _).symm
    · rfl
  · exact den_mkUn ρ _ _
def mkMod (x : E) (j : Nat) : E := match j with
  | 8 => mkLow .u8 x
  | 16 => mkLow .u16 x
  | 32 => mkLow .u32 x
  | j => mkBin .emod x (litE (2 ^ j))
theorem den_mkMod (ρ : Env) (x : E) (j : Nat) : (mkMod x j).den ρ = x.den ρ % 2 ^ j := by
  unfold mkMod
  split
  · rw [den_mkLow]; simp [IntKind.wrap, IntKind.bits, IntKind.signed]
  · rw [den_mkLow]; simp [IntKind.wrap, IntKind.bits, IntKind.signed]
  · rw [den_mkLow]; simp [IntKind.wrap, IntKind.bits, IntKind.signed]
  · rw [den_mkBin, den_litE]; rfl
def mkBits (op : BinOp) (k : IntKind) (x y : E) : E := match op with
  | .and => match y with
    | .lit m => match isMask k m with
      | some j => mkMod x j
      | none => mkBin (.bits .and k) x (.lit m)
    | y => mkBin (.bits .and k) x y
  | op => mkBin (.bits op k) x y
theorem den_mkBits (ρ : Env) (op : BinOp) (k : IntKind) (x y : E) : (mkBits op k x y).den ρ = bitI op k (x.den ρ) (y.den ρ) := by
  unfold mkBits
  split
  · split
    · split
      · rename_i hj
        obtain ⟨hm, hj⟩ := isMask_some hj
        rw [den_mkMod]
        simp only [E.den]
        rw [hm, bitI_mask _ _ _ hj]
      · exact den_mkBin ρ _ _ _
    · exact den_mkBin ρ _ _ _
  · exact den_mkBin ρ _ _ _

/-- is it nought: seen through a wrap that loses nothing of it -/
def wideIv (k : IntKind) : Iv := (some (1 - 2 ^ k.bits), some (2 ^ k.bits - 1))
def mkZero (b : Bd) (x : E) : E := match x with
  | .un (.wrap k) a => match within (itv b a) (wideIv k) with
    | true => mkEq a (.lit 0)
    | false => mkEq (.un (.wrap k) a) (.lit 0)
  | x => mkEq x (.lit 0)
theorem wrap_zero {k : IntKind} {n : Int} (h1 : 1 - 2 ^ k.bits ≤ n) (h2 : n ≤ 2 ^ k.bits - 1) : k.wrap n = 0 ↔ n = 0 := by
  cases k <;> simp only [IntKind.wrap, IntKind.bits, IntKind.signed] at * <;> simp at * <;> constructor <;> intro h <;> (try split at h) <;> (try split) <;> omega
theorem den_mkZero {ρ : Env} {b : Bd} (hb : b.ok ρ) (x : E) : (mkZero b x).den ρ = b2i (x.den ρ == 0) := by
  unfold mkZero
  split
  · rename_i k a
    split
    · rename_i hw
      rw [den_mkEq]
      have hi := has_itv hb a
      generalize itv b a = i at hw hi
      obtain ⟨l, h⟩ := i
      cases l <;> cases h <;> simp [within, wideIv] at hw
      have h1 := hi.1 _ rfl
      have h2 := hi.2 _ rfl
      have := wrap_zero (k := k) (n := a.den ρ) (by omega) (by omega)
      simp only [E.den, Un.den]
      congr 1
      rw [Bool.eq_iff_iff, beq_iff_eq, beq_iff_eq]
      exact this.symm
    · rw [den_mkEq]; simp only [E.den]
  · rw [den_mkEq]; simp only [E.den]

theorem equal_bool {P : Program} (w : World) {t : TypeId} (h : P.underlying t = some .bool) (a b : Bool) :
    (Op.equal t (.bool a) (.bool b)).run P w = .ok (a == b) w := by
  have key : ∀ n, (Op.equalIn (n + 1) t (.bool a) (.bool b)).run P w = .ok (a == b) w := fun n => by
    simp [Op.equalIn, run_underlying h]
  exact key 9999

def mkEqz (b : Bd) (x y : E) : E := match y with
  | .lit (.ofNat 0) => mkZero b x
  | y => mkEq x y
theorem den_mkEqz {ρ : Env} {b : Bd} (hb : b.ok ρ) (x y : E) : (mkEqz b x y).den ρ = b2i (x.den ρ == y.den ρ) := by
  unfold mkEqz
  split
  · exact den_mkZero hb x
  · exact den_mkEq ρ _ _
/-! ### sums and differences, put in order -/
def addT (e : E) (k : Int) : List (E × Int) → List (E × Int)
  | [] => [(e, k)]
  | (a, c) :: r => match a.beq e with
    | true => match c + k == 0 with
      | true => r
      | false => (a, c + k) :: r
    | false => (a, c) :: addT e k r
def sumT (ρ : Env) : List (E × Int) → Int
  | [] => 0
  | (a, c) :: r => c * a.den ρ + sumT ρ r
theorem sum_addT (ρ : Env) (e : E) (k : Int) : ∀ l : List (E × Int), sumT ρ (addT e k l) = k * e.den ρ + sumT ρ l
  | [] => by simp [addT, sumT]
  | (a, c) :: r => by
    have ih := sum_addT ρ e k r
    simp only [addT]
    split
    · rename_i hb
      have := E.eq_of_beq hb
      subst this
      have hm : (c + k) * a.den ρ = c * a.den ρ + k * a.den ρ := Int.add_mul _ _ _
      split
      · rename_i hz
        have hz : c + k = 0 := by simpa using hz
        rw [hz] at hm
        simp only [sumT]; omega
      · simp only [sumT]; omega
    · simp only [sumT, ih]; omega
def linT (k : Int) : E → List (E × Int) × Int → List (E × Int) × Int
  | .lit n, (l, c) => (l, c + k * n)
  | .bin .add x y, acc => linT k y (linT k x acc)
  | .bin .sub x y, acc => linT (-k) y (linT k x acc)
  | .bin .mul x (.lit n), acc => linT (k * n) x acc
  | e, (l, c) => (addT e k l, c)
theorem den_linT (ρ : Env) : ∀ (e : E) (k : Int) (acc : List (E × Int) × Int), sumT ρ (linT k e acc).1 + (linT k e acc).2 = k * e.den ρ + (sumT ρ acc.1 + acc.2) := by
  intro e
  induction e with
  | lit n => intro k acc; simp only [linT, E.den]; omega
  | bin o x y hx hy =>
    intro k acc
    cases o
    case add =>
      simp only [linT, E.den, Bi.den]
      rw [hy, hx, Int.mul_add]; omega
    case sub =>
      simp only [linT, E.den, Bi.den]
      rw [hy, hx, Int.mul_sub, Int.neg_mul]; omega
    case mul =>
      cases y with
      | lit n =>
        simp only [linT, E.den, Bi.den]
        rw [hx, Int.mul_assoc, Int.mul_comm n]
      | _ => simp only [linT, sum_addT]; omega
    all_goals (simp only [linT, sum_addT]; omega)
  | _ => intro k acc; simp only [linT, sum_addT]; omega
/-- a sum that is one number is that number -/
def flatE (e : E) : E := match linT 1 e ([], 0) with
  | ([], c) => litE c
  | _ => e
theorem den_flatE (ρ : Env) (e : E) : (flatE e).den ρ = e.den ρ := by
  unfold flatE
  split
  · rename_i c h
    have := den_linT ρ e 1 ([], 0)
    rw [h] at this
    simp only [sumT] at this
    rw [den_litE]; omega
  · rfl
/-- a sum, put in order -/
def sumE : List (E × Int) → Int → E
  | [], c => litE c
  | (e, k) :: r, c => mkAdd (match decide (k = 1) with
    | true => e
    | false => mkMul e (litE k)) (sumE r c)
theorem den_sumE (ρ : Env) : ∀ (l : List (E × Int)) (c : Int), (sumE l c).den ρ = sumT ρ l + c
  | [], c => by simp only [sumE, den_litE, sumT]; omega
  | (e, k) :: r, c => by
    simp only [sumE, den_mkAdd, den_sumE ρ r c, sumT]
    split
    · rename_i h
      rw [of_decide_eq_true h]; omega
    · rw [den_mkMul, den_litE, Int.mul_comm]; omega
def canE (e : E) : E := match linT 1 e ([], 0) with
  | (l, c) => sumE l c
theorem den_canE (ρ : Env) (e : E) : (canE e).den ρ = e.den ρ := by
  unfold canE
  have := den_linT ρ e 1 ([], 0)
  split
  rename_i l c h
  rw [h] at this
  simp only [sumT] at this
  rw [den_sumE]; omega
/-! ### one test follows from another -/
def lin4 (x y a b : E) : List (E × Int) × Int := linT 1 b (linT (-1) a (linT (-1) y (linT 1 x ([], 0))))
theorem den_lin4 (ρ : Env) (x y a b : E) : x.den ρ - y.den ρ - a.den ρ + b.den ρ = sumT ρ (lin4 x y a b).1 + (lin4 x y a b).2 := by
  unfold lin4
  rw [den_linT, den_linT ρ a, den_linT ρ y, den_linT ρ x]
  simp only [sumT]
  omega
/-- what a sum is at most -/
def topT (b : Bd) : List (E × Int) → Option Int
  | [] => some 0
  | (e, c) :: r => match topT b r with
    | none => none
    | some t => match decide (0 ≤ c) with
      | true => match itv b e with
        | (_, some h) => some (c * h + t)
        | _ => none
      | false => match itv b e with
        | (some l, _) => some (c * l + t)
        | _ => none
theorem topT_of {ρ : Env} {b : Bd} (hb : b.ok ρ) : ∀ {l : List (E × Int)} {t : Int}, topT b l = some t → sumT ρ l ≤ t
  | [], t, h => by cases h; exact Int.le_refl _
  | (e, c) :: r, t, h => by
    simp only [topT] at h
    split at h
    · cases h
    · rename_i t' ht
      have ih := topT_of hb ht
      have hi := has_itv hb e
      split at h
      · rename_i hc
        have hc := of_decide_eq_true hc
        split at h
        · rename_i l u he
          cases h
          rw [he] at hi
          have h1 := hi.2 _ rfl
          have h2 : c * e.den ρ ≤ c * u := Int.mul_le_mul_of_nonneg_left h1 hc
          simp only [sumT]; omega
        · cases h
      · rename_i hc
        have hc := of_decide_eq_false hc
        split at h
        · rename_i l u he
          cases h
          rw [he] at hi
          have h1 := hi.1 _ rfl
          have h2 : c * e.den ρ ≤ c * l := Int.mul_le_mul_of_nonpos_left (by omega) h1
          simp only [sumT]; omega
        · cases h
/-- x is at most y + k, by a test that was taken -/
def over (bd : Bd) (x y : E) (k : Int) : Bool := match topT bd (linT (-1) y (linT 1 x ([], 0))).1 with
  | some t => decide (t + (linT (-1) y (linT 1 x ([], 0))).2 ≤ k)
  | none => false
theorem over_of {ρ : Env} {bd : Bd} (hb : bd.ok ρ) {x y : E} {k : Int} (h : over bd x y k = true) : x.den ρ ≤ y.den ρ + k := by
  unfold over at h
  split at h
  · rename_i t ht
    have h1 := topT_of hb ht
    have h2 := den_linT ρ y (-1) (linT 1 x ([], 0))
    rw [den_linT ρ x] at h2
    simp only [sumT] at h2
    have := of_decide_eq_true h
    omega
  · cases h
def byPc (bd : Bd) (pc : List E) (x y : E) (k : Int) : Bool := over bd x y k || pc.any fun p => match p with
  | .bin .le a b => match topT bd (lin4 x y a b).1 with
    | some t => decide (t + (lin4 x y a b).2 ≤ k)
    | none => false
  | .bin .lt a b => match topT bd (lin4 x y a b).1 with
    | some t => decide (t + (lin4 x y a b).2 - 1 ≤ k)
    | none => false
  | _ => false
theorem byPc_of {ρ : Env} {bd : Bd} {pc : List E} (hb : bd.ok ρ) (hp : pcOk ρ pc) {x y : E} {k : Int} (h : byPc bd pc x y k = true) : x.den ρ ≤ y.den ρ + k := by
  rcases Bool.or_eq_true _ _ ▸ h with h | h
  · exact over_of hb h
  obtain ⟨p, hm, h⟩ := List.any_eq_true.1 h
  have hq := hp p hm
  split at h
  · rename_i a b
    simp only [E.den, Bi.den, b2i_ne, decide_eq_true_eq] at hq
    split at h
    · rename_i t ht
      have := topT_of hb ht
      have := den_lin4 ρ x y a b
      have := of_decide_eq_true h
      omega
    · cases h
  · rename_i a b
    simp only [E.den, Bi.den, b2i_ne, decide_eq_true_eq] at hq
    split at h
    · rename_i t ht
      have := topT_of hb ht
      have := den_lin4 ρ x y a b
      have := of_decide_eq_true h
      omega
    · cases h
  · cases h
def decB (b : Bd) (pc : List E) (e : E) : Option Bool := match dec b pc e with
  | some t => some t
  | none => match e with
    | .bin .le x y => match byPc b pc x y 0 with
      | true => some true
      | false => match byPc b pc y x (-1) with
        | true => some false
        | false => none
    | .bin .lt x y => match byPc b pc x y (-1) with
      | true => some true
      | false => match byPc b pc y x 0 with
        | true => some false
        | false => none
    | _ => none
theorem decB_some {ρ : Env} {b : Bd} {pc : List E} (hb : b.ok ρ) (hp : pcOk ρ pc) (e : E) (t : Bool) (h : decB b pc e = some t) : (e.den ρ != 0) = t := by
  unfold decB at h
  split at h
  · rename_i hd; cases h; exact dec_some hb hp _ _ hd
  · split at h
    · split at h
      · rename_i x y hc; cases h
        have := byPc_of hb hp hc
        simp only [E.den, Bi.den, b2i_bne]; exact decide_eq_true (by omega)
      · split at h
        · rename_i x y _ hc; cases h
          have := byPc_of hb hp hc
          simp only [E.den, Bi.den, b2i_bne]; exact decide_eq_false (by omega)
        · cases h
    · split at h
      · rename_i x y hc; cases h
        have := byPc_of hb hp hc
        simp only [E.den, Bi.den, b2i_bne]; exact decide_eq_true (by omega)
      · split at h
        · rename_i x y _ hc; cases h
          have := byPc_of hb hp hc
          simp only [E.den, Bi.den, b2i_bne]; exact decide_eq_false (by omega)
        · cases h
    · cases h
/-- whole numbers of one kind -/
def arI (b : Bd) (pc : List E) (op : BinOp) (k : IntKind) (a c : E) : Option V := match op with
  | .add => some (.int k (mkWrap b k (flatE (mkAdd a c))))
  | .sub => some (.int k (mkWrap b k (flatE (mkSub a c))))
  | .mul => some (.int k (mkWrap b k (mkMul a c)))
  | .quo => match dec b pc (mkZero b c) with
    | some false => some (.int k (mkWrap b k (mkQuo b a c)))
    | _ => none
  | .rem => match dec b pc (mkZero b c) with
    | some false => some (.int k (mkRem b a c))
    | _ => none
  | .and => some (.int k (mkBits .and k a c))
  | .or => some (.int k (mkBits .or k a c))
  | .xor => some (.int k (mkBits .xor k a c))
  | .andNot => some (.int k (mkBits .andNot k a c))
  | .eql => some (.bool (mkEqz b a c))
  | .neq => some (.bool (mkNot (mkEqz b a c)))
  | .lss => some (.bool (mkBin .lt a c))
  | .leq => some (.bool (mkBin .le a c))
  | .gtr => some (.bool (mkBin .lt c a))
  | .geq => some (.bool (mkBin .le c a))
  | _ => none
theorem not_b2i (t : Bool) : (b2i (b2i t == 0) != 0) = !t := by cases t <;> rfl
theorem run_arI {P : Program} {ρ : Env2} {b : Bd} {pc : List E} (hb : b.ok ρ.toEnv) (hp : pcOk ρ.toEnv pc) (w : World) {op : BinOp} {k : IntKind} {a c : E} {t : TypeId} {v : V}
    (h : arI b pc op k a c = some v) : (binOp op t (.int k (a.den ρ.toEnv)) (.int k (c.den ρ.toEnv))).run P w = .ok (v.den ρ) w := by
  cases op <;> simp only [arI] at h
  case quo =>
    split at h
    · rename_i hd; cases h
      have := dec_some hb hp _ _ hd
      rw [den_mkZero hb, b2i_bne] at this
      have hne : ¬ c.den ρ.toEnv = 0 := by simpa [E.den] using this
      simp [V.den, binOp, Op.intDiv, den_mkWrap hb, den_mkQuo hb, hne]
    · cases h
  case rem =>
    split at h
    · rename_i hd; cases h
      have := dec_some hb hp _ _ hd
      rw [den_mkZero hb, b2i_bne] at this
      have hne : ¬ c.den ρ.toEnv = 0 := by simpa [E.den] using this
      simp [V.den, binOp, Op.intDiv, den_mkRem hb, hne]
    · cases h
  all_goals cases h
  case add => simp [V.den, binOp, Op.intArith, den_mkWrap hb, den_flatE, den_mkAdd]
  case sub => simp [V.den, binOp, Op.intArith, den_mkWrap hb, den_flatE, den_mkSub]
  case mul => simp [V.den, binOp, Op.intArith, den_mkWrap hb, den_mkMul]
  case and => simp [V.den, binOp, Op.intBits, den_mkBits, bitI]
  case or => simp [V.den, binOp, Op.intBits, den_mkBits, bitI]
  case xor => simp [V.den, binOp, Op.intBits, den_mkBits, bitI]
  case andNot => simp [V.den, binOp, Op.intBits, den_mkBits, bitI]
  case eql => simp [V.den, binOp, Op.intCmp, den_mkEqz hb, b2i_bne]
  case neq => simp only [V.den, den_mkNot, den_mkEqz hb, not_b2i]; simp [binOp, Op.intCmp, bne]
  case lss => simp [V.den, binOp, Op.intCmp, den_mkBin, Bi.den, b2i_bne]
  case leq => simp [V.den, binOp, Op.intCmp, den_mkBin, Bi.den, b2i_bne]
  case gtr => simp [V.den, binOp, Op.intCmp, den_mkBin, Bi.den, b2i_bne]
  case geq => simp [V.den, binOp, Op.intCmp, den_mkBin, Bi.den, b2i_bne]

def shI (b : Bd) (op : BinOp) (k : IntKind) (a c : E) : Option V := match op with
  | .shl => match nonneg (itv b c) with
    | true => some (.int k (mkShl b k a c))
    | false => none
  | .shr => match nonneg (itv b c) with
    | true => some (.int k (mkShr k a c))
    | false => none
  | _ => none
theorem run_shI {P : Program} {ρ : Env2} {b : Bd} (hb : b.ok ρ.toEnv) (w : World) {op : BinOp} {k k' : IntKind} {a c : E} {t : TypeId} {v : V}
    (h : shI b op k a c = some v) : (binOp op t (.int k (a.den ρ.toEnv)) (.int k' (c.den ρ.toEnv))).run P w = .ok (v.den ρ) w := by
  unfold shI at h
  split at h
  · split at h
    · rename_i hn; cases h
      have := nonneg_of hn (has_itv hb c)
      simp [V.den, binOp, Op.shift, den_mkShl hb, Int.not_lt.2 this]
    · cases h
  · split at h
    · rename_i hn; cases h
      have := nonneg_of hn (has_itv hb c)
      simp [V.den, binOp, Op.shift, den_mkShr, Int.not_lt.2 this]
    · cases h
  · cases h

def cmpF (op : BinOp) (k : FloatKind) (a c : E) : Option V :=
  match op with
  | .eql => some (.bool (mkEq (mkBin (.ford k) a c) (.lit 0)))
  | .neq => some (.bool (mkNot (mkEq (mkBin (.ford k) a c) (.lit 0))))
  | .lss => some (.bool (mkEq (mkBin (.ford k) a c) (.lit 1)))
  | .leq => some (.bool (mkBin .le (mkBin (.ford k) a c) (.lit 1)))
  | .gtr => some (.bool (mkEq (mkBin (.ford k) a c) (.lit 2)))
  | .geq => some (.bool (mkBin .or (mkEq (mkBin (.ford k) a c) (.lit 2)) (mkEq (mkBin (.ford k) a c) (.lit 0))))
  | _ => none
theorem ford_cases (k : FloatKind) (x y : Int) :
    (fordI k x y = 0 ∧ k.format.order x.toNat y.toNat = some .eq) ∨ (fordI k x y = 1 ∧ k.format.order x.toNat y.toNat = some .lt) ∨
    (fordI k x y = 2 ∧ k.format.order x.toNat y.toNat = some .gt) ∨ (fordI k x y = 3 ∧ k.format.order x.toNat y.toNat = none) := by
  unfold fordI
  cases h : k.format.order x.toNat y.toNat with
  | none => simp
  | some o => cases o <;> simp
theorem run_cmpF {P : Program} {ρ : Env2} (w : World) {op : BinOp} {k : FloatKind} {a c : E} {t : TypeId} {v : V}
    (h : cmpF op k a c = some v) : (binOp op t (.float k (a.den ρ.toEnv).toNat) (.float k (c.den ρ.toEnv).toNat)).run P w = .ok (v.den ρ) w := by
  have hc := ford_cases k (a.den ρ.toEnv) (c.den ρ.toEnv)
  cases op <;> simp only [cmpF] at h <;> cases h
  case neq =>
    simp only [V.den, den_mkNot, den_mkEq, not_b2i, den_mkBin, Bi.den, E.den]
    rcases hc with ⟨h1, h2⟩ | ⟨h1, h2⟩ | ⟨h1, h2⟩ | ⟨h1, h2⟩ <;> simp [binOp, Op.floatCmp, h1, h2]
  all_goals
    simp only [V.den, den_mkEq, den_mkBin, Bi.den, E.den, b2i_bne]
    rcases hc with ⟨h1, h2⟩ | ⟨h1, h2⟩ | ⟨h1, h2⟩ | ⟨h1, h2⟩ <;> simp [binOp, Op.floatCmp, h1, h2]

def cmpB (op : BinOp) (a c : E) : Option V := match op with
  | .eql => some (.bool (mkEq (mkNot (mkNot a)) (mkNot (mkNot c))))
  | .neq => some (.bool (mkNot (mkEq (mkNot (mkNot a)) (mkNot (mkNot c)))))
  | _ => none
theorem eq_notnot (x y : Int) : (b2i (b2i (x == 0) == 0) == b2i (b2i (y == 0) == 0)) = ((x != 0) == (y != 0)) := by
  have h : ∀ x : Int, (x == 0) = !(x != 0) := fun x => by simp [bne]
  rw [h x, h y]
  cases x != 0 <;> cases y != 0 <;> rfl
theorem run_cmpB {P : Program} {ρ : Env2} (w : World) {op : BinOp} {a c : E} {t : TypeId} {v : V} (ht : P.underlying t = some .bool)
    (h : cmpB op a c = some v) : (binOp op t (.bool (a.den ρ.toEnv != 0)) (.bool (c.den ρ.toEnv != 0))).run P w = .ok (v.den ρ) w := by
  unfold cmpB at h
  split at h
  · cases h
    simp only [V.den, den_mkNot, den_mkEq, b2i_bne, eq_notnot]
    simp [binOp, equal_bool w ht]
  · cases h
    simp only [V.den, den_mkNot, den_mkEq, not_b2i, eq_notnot]
    simp [binOp, equal_bool w ht]
  · cases h

def binV (P : Program) (b : Bd) (pc : List E) (op : BinOp) (t : TypeId) (x y : V) : Option V :=
  match x with
  | .int k a => match y with
    | .int k' c => match shI b op k a c with
      | some v => some v
      | none => match decide (k = k') with
        | true => arI b pc op k a c
        | false => none
    | _ => none
  | .flt k a => match y with
    | .flt k' c => match decide (k = k') with
      | true => cmpF op k a c
      | false => none
    | _ => none
  | .bool a => match y with
    | .bool c => match P.underlying t with
      | some .bool => cmpB op a c
      | _ => none
    | _ => none
  | _ => none
theorem run_binV {P : Program} {ρ : Env2} {b : Bd} {pc : List E} (hb : b.ok ρ.toEnv) (hp : pcOk ρ.toEnv pc) (w : World) {op : BinOp} {t : TypeId} {x y v : V}
    (h : binV P b pc op t x y = some v) : (binOp op t (x.den ρ) (y.den ρ)).run P w = .ok (v.den ρ) w := by
  unfold binV at h
  split at h
  · split at h
    · split at h
      · rename_i hs; cases h; exact run_shI hb w hs
      · split at h
        · rename_i hk; rw [← of_decide_eq_true hk]; exact run_arI hb hp w h
        · cases h
    · cases h
  · split at h
    · split at h
      · rename_i hk; rw [← of_decide_eq_true hk]; exact run_cmpF w h
      · cases h
    · cases h
  · split at h
    · split at h
      · rename_i ht; exact run_cmpB w ht h
      · cases h
    · cases h
  · cases h
/-- no value on which the guard of '==' looks -/
def plainV : V → Bool
  | .int _ _ | .bool _ | .flt _ _ => true
  | _ => false
theorem run_eqGuard {P : Program} {ρ : Env2} (w : World) {op : BinOp} {t : TypeId} {x y : Operand} {a b : V} (h : plainV a = true) :
    (eqGuard op t x y (a.den ρ) (b.den ρ)).run P w = .ok () w := by
  unfold eqGuard
  cases a <;> simp [plainV] at h <;> cases op <;> simp [V.den]

def unV (b : Bd) (op : UnOp) (x : V) : Option V := match op with
  | .not => match x with
    | .bool e => some (.bool (mkNot e))
    | _ => none
  | .neg => match x with
    | .int k a => some (.int k (mkWrap b k (mkSub (.lit 0) a)))
    | .flt k a => some (.flt k (mkUn (.fneg k) a))
    | _ => none
  | .xor => match x with
    | .int k a => some (.int k (mkBits .xor k (litE (match k.signed with
      | true => -1
      | false => k.max)) a))
    | _ => none
  | _ => none
theorem run_unV {P : Program} {ρ : Env2} {b : Bd} (hb : b.ok ρ.toEnv) (w : World) {op : UnOp} {x v : V}
    (h : unV b op x = some v) : (Op.unary op (x.den ρ)).run P w = .ok (v.den ρ) w := by
  unfold unV at h
  split at h
  · split at h
    · cases h; simp only [V.den, den_mkNot, b2i_bne]; simp [Op.unary, bne]
    · cases h
  · split at h
    · cases h; simp [V.den, Op.unary, Op.intArith, den_mkWrap hb, den_mkSub, E.den]
    · cases h; simp [V.den, Op.unary, den_mkUn, Un.den]
    · cases h
  · split at h
    · rename_i k a
      cases h
      simp only [V.den, den_mkBits, den_litE, Op.unary, Op.intBits]
      cases k <;> simp [IntKind.signed, bitI]
    · cases h
  · cases h

/-- conversions that neither draw nor fail -/
def convV (P : Program) (b : Bd) (src dst : TypeId) (x : V) : Option V := match P.underlying src with
  | none => none
  | some _ => match P.underlying dst with
    | some (.int k) => match x with
      | .int _ a => some (.int k (mkWrap b k a))
      | _ => none
    | some (.float k) => match x with
      | .flt k' a => match decide (k' = k) with
        | true => some (.flt k a)
        | false => none
      | _ => none
    | _ => none
theorem run_convV {P : Program} {ρ : Env2} {b : Bd} (hb : b.ok ρ.toEnv) (w : World) {src dst : TypeId} {x v : V}
    (h : convV P b src dst x = some v) : (convert src dst (x.den ρ)).run P w = .ok (v.den ρ) w := by
  unfold convV at h
  split at h
  · cases h
  · rename_i d hs
    split at h
    · rename_i k hd
      split at h
      · cases h; simp [V.den, convert, run_underlying hs, run_underlying hd, Conv.intToInt, den_mkWrap hb]
      · cases h
    · rename_i k hd
      split at h
      · split at h
        · rename_i hk; cases h
          have hk := of_decide_eq_true hk
          subst hk
          simp [V.den, convert, run_underlying hs, run_underlying hd, Conv.floatToFloat]
        · cases h
      · cases h
    · cases h

end Go.Sx
