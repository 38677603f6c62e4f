/- Bits of whole numbers: counts and rolls, as plain functions, and their laws. No condition. -/
import Derived.Test.YtdmdjhmaanhocaaDoorSxU
import Derived.Test.YtdmdjhmaanhocaaDoorPlNum
namespace Go.Sx
open Go

/-- the pattern of w bits -/
def pat (w : Nat) (x : Int) : Nat := (x % (2 ^ w : Nat)).toNat
/-- noughts above, of so many bits -/
def clzF : Nat → Nat → Nat
  | 0, _ => 0
  | f + 1, n => if n.testBit f then 0 else 1 + clzF f n
/-- noughts below -/
def ctzF : Nat → Nat → Nat
  | 0, _ => 0
  | f + 1, n => if n % 2 = 1 then 0 else 1 + ctzF f (n / 2)
/-- ones -/
def popF : Nat → Nat → Nat
  | 0, _ => 0
  | f + 1, n => n % 2 + popF f (n / 2)
/-- rolled up by k, which is below w -/
def rotF (w n k : Nat) : Nat := (n * 2 ^ k + n / 2 ^ (w - k)) % 2 ^ w

/-- the functions that contracts speak of, by number: 0 noughts above, 1 noughts below, 2 ones, 3 rolled, 4 how many bits; 12 13 14: of the bits from a place on -/
def fnT : Nat → Int → Int → Int → Int := fun f x w y => match f with
  | 0 => (clzF w.toNat (pat w.toNat x) : Nat)
  | 1 => (ctzF w.toNat (pat w.toNat x) : Nat)
  | 2 => (popF w.toNat (pat w.toNat x) : Nat)
  | 3 => (rotF w.toNat (pat w.toNat x) (y % w).toNat : Nat)
  | 4 => (64 - clzF 64 (pat 64 x) : Nat)
  | 10 => (clzF (w - y).toNat (pat w.toNat x) : Nat)
  | 11 => (ctzF (w - y).toNat (pat w.toNat x / 2 ^ y.toNat) : Nat)
  | 12 => (popF (w - y).toNat (pat w.toNat x / 2 ^ y.toNat) : Nat)
  | 14 => x / 2 ^ w.toNat * 2 ^ w.toNat
  | _ => 0

theorem clzF_le : ∀ f n, clzF f n ≤ f
  | 0, _ => Nat.le_refl _
  | f + 1, n => by
    have := clzF_le f n
    simp only [clzF]; split <;> omega
theorem ctzF_le : ∀ f n, ctzF f n ≤ f
  | 0, _ => Nat.le_refl _
  | f + 1, n => by
    have := ctzF_le f (n / 2)
    simp only [ctzF]; split <;> omega
theorem popF_le : ∀ f n, popF f n ≤ f
  | 0, _ => Nat.le_refl _
  | f + 1, n => by
    have := popF_le f (n / 2)
    simp only [popF]; omega
theorem pat_lt (w : Nat) (x : Int) : pat w x < 2 ^ w := by
  have h := Nat.two_pow_pos w
  have h1 := Int.emod_lt_of_pos x (show (0 : Int) < ((2 ^ w : Nat) : Int) by omega)
  have h2 := Int.emod_nonneg x (show ((2 ^ w : Nat) : Int) ≠ 0 by omega)
  unfold pat; omega

end Go.Sx
