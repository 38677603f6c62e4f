/- The library's counts: ones by halves, noughts below by a table, rolls by two shifts. No condition. -/
import Derived.Test.YtdmdjhmaanhocaaDoorPlLoop
namespace Go.Sx
open Go

/-! ### ones by halves -/
/-- n bytes, each c -/
def reps : Nat → Nat → Nat
  | 0, _ => 0
  | n + 1, c => c + 256 * reps n c
/-- the first steps, of so many bytes -/
def sw1 (n x : Nat) : Nat := ((x / 2) &&& reps n 85) + (x &&& reps n 85)
def sw2 (n x : Nat) : Nat := ((x / 4) &&& reps n 51) + (x &&& reps n 51)
def sw3 (n x : Nat) : Nat := (x / 16 + x) &&& reps n 15
def ones8 (x : Nat) : Nat := popF 8 x
theorem and_byte {a b c d : Nat} (ha : a < 256) (hc : c < 256) : (a + 256 * b) &&& (c + 256 * d) = (a &&& c) + 256 * (b &&& d) := by
  apply Nat.eq_of_testBit_eq
  intro i
  have h1 : ∀ {u v : Nat}, u < 256 → (u + 256 * v).testBit i = if i < 8 then u.testBit i else v.testBit (i - 8) := fun {u v} hu => by
    rw [Nat.add_comm, show (256 : Nat) = 2 ^ 8 from rfl, Nat.testBit_two_pow_mul_add v (show u < 2 ^ 8 from hu)]
  rw [Nat.testBit_and, h1 ha, h1 hc, h1 (Nat.lt_of_le_of_lt Nat.and_le_left ha), Nat.testBit_and, Nat.testBit_and]
  split <;> rfl
theorem swar_byte : ∀ a, a < 256 → ∀ u, u < 2 → ((a / 2 + 128 * u) &&& 85) = (a / 2 &&& 85) := by decide +kernel
theorem swar_byte2 : ∀ a, a < 256 → ∀ u, u < 4 → ((a / 4 + 64 * u) &&& 51) = (a / 4 &&& 51) := by decide +kernel
theorem sw1_lt : ∀ a, a < 256 → sw1 1 a < 171 := by decide +kernel
theorem sw2_lt : ∀ a, a < 256 → sw2 1 (sw1 1 a) < 69 := by decide +kernel
theorem sw2_low : ∀ a, a < 256 → sw2 1 (sw1 1 a) % 16 ≤ 4 := by decide +kernel
theorem sw3_byte : ∀ a, a < 256 → sw3 1 (sw2 1 (sw1 1 a)) = ones8 a := by decide +kernel
theorem swar_byte3 : ∀ y, y < 69 → ∀ u, u < 5 → ((y / 16 + 16 * u + y) &&& 15) = ((y / 16 + y) &&& 15) := by decide +kernel
theorem sw1_succ {n a b : Nat} (ha : a < 256) : sw1 (n + 1) (a + 256 * b) = sw1 1 a + 256 * sw1 n b := by
  have e : (a + 256 * b) / 2 = (a / 2 + 128 * (b % 2)) + 256 * (b / 2) := by omega
  simp only [sw1, reps]
  rw [e, and_byte (by omega) (by decide), and_byte ha (by decide), swar_byte a ha (b % 2) (by omega)]
  simp only [Nat.mul_zero, Nat.add_zero]
  omega
theorem sw2_succ {n a b : Nat} (ha : a < 256) : sw2 (n + 1) (a + 256 * b) = sw2 1 a + 256 * sw2 n b := by
  have e : (a + 256 * b) / 4 = (a / 4 + 64 * (b % 4)) + 256 * (b / 4) := by omega
  simp only [sw2, reps]
  rw [e, and_byte (by omega) (by decide), and_byte ha (by decide), swar_byte2 a ha (b % 4) (by omega)]
  simp only [Nat.mul_zero, Nat.add_zero]
  omega
theorem sw3_succ {n y b : Nat} (ha : y < 69) (hb : b % 16 < 5) : sw3 (n + 1) (y + 256 * b) = sw3 1 y + 256 * sw3 n b := by
  have e : (y + 256 * b) / 16 + (y + 256 * b) = (y / 16 + 16 * (b % 16) + y) + 256 * (b / 16 + b) := by omega
  simp only [sw3, reps]
  rw [e, and_byte (by omega) (by decide), swar_byte3 y ha (b % 16) hb]
/-- a number by its bytes -/
theorem byte_split (x : Nat) : x = x % 256 + 256 * (x / 256) := by omega
theorem sw21_low : ∀ (n x : Nat), sw2 n (sw1 n x) % 16 < 5
  | 0, x => by simp [sw2, reps]
  | n + 1, x => by
    have h := Nat.mod_lt x (show 256 > 0 by decide)
    rw [byte_split x, sw1_succ h, sw2_succ (Nat.lt_of_lt_of_le (sw1_lt _ h) (by decide))]
    have := sw2_low _ h
    omega
/-- the sum of the bytes' ones, each in its byte -/
def onesB : Nat → Nat → Nat
  | 0, _ => 0
  | n + 1, x => ones8 (x % 256) + 256 * onesB n (x / 256)
theorem swar_ones : ∀ (n x : Nat), sw3 n (sw2 n (sw1 n x)) = onesB n x
  | 0, x => by simp [sw3, reps, onesB]
  | n + 1, x => by
    have h := Nat.mod_lt x (show 256 > 0 by decide)
    conv => lhs; rw [byte_split x]
    rw [sw1_succ h, sw2_succ (Nat.lt_of_lt_of_le (sw1_lt _ h) (by decide)), sw3_succ (sw2_lt _ h) (sw21_low n _), sw3_byte _ h, swar_ones n]
    rfl
theorem popF_add : ∀ (m n x : Nat), popF (m + n) x = popF m x + popF n (x / 2 ^ m)
  | 0, n, x => by simp [popF]
  | m + 1, n, x => by
    rw [show m + 1 + n = m + n + 1 by omega]
    simp only [popF, popF_add m n, Nat.pow_succ, Nat.div_div_eq_div_mul, Nat.mul_comm 2]
    omega
theorem popF_mod : ∀ (m x : Nat), popF m (x % 2 ^ m) = popF m x
  | 0, x => rfl
  | m + 1, x => by
    simp only [popF]
    have h1 : x % 2 ^ (m + 1) % 2 = x % 2 := by rw [Nat.pow_succ]; exact Nat.mod_mul_left_mod x (2 ^ m) 2
    have h2 : x % 2 ^ (m + 1) / 2 = x / 2 % 2 ^ m := by rw [Nat.pow_succ, Nat.mul_comm, Nat.mod_mul_right_div_self]
    rw [h1, h2, popF_mod m]
theorem ones8_le (x : Nat) : ones8 x ≤ 8 := popF_le 8 x
/-- the last steps -/
theorem onesCount (x : Nat) : (let c := onesB 8 x; let d := (c / 256 + c) % 2 ^ 64; let e := (d / 65536 + d) % 2 ^ 64; let f := (e / 4294967296 + e) % 2 ^ 64; f % 128) = popF 64 x := by
  have h : popF 64 x = ones8 (x % 256) + (ones8 (x / 256 % 256) + (ones8 (x / 256 / 256 % 256) + (ones8 (x / 256 / 256 / 256 % 256) + (ones8 (x / 256 / 256 / 256 / 256 % 256) + (ones8 (x / 256 / 256 / 256 / 256 / 256 % 256) + (ones8 (x / 256 / 256 / 256 / 256 / 256 / 256 % 256) + ones8 (x / 256 / 256 / 256 / 256 / 256 / 256 / 256 % 256))))))) := by
    have g : ∀ n y, popF (8 + n) y = ones8 (y % 256) + popF n (y / 256) := fun n y => by
      rw [popF_add, ← popF_mod 8 y]; rfl
    rw [show 64 = 8 + (8 + (8 + (8 + (8 + (8 + (8 + (8 + 0))))))) from rfl]
    simp only [g]; simp only [popF, Nat.add_zero]
  rw [h]
  simp only [onesB]
  have b := ones8_le
  have b0 := b (x % 256); have b1 := b (x / 256 % 256); have b2 := b (x / 256 / 256 % 256); have b3 := b (x / 256 / 256 / 256 % 256)
  have b4 := b (x / 256 / 256 / 256 / 256 % 256); have b5 := b (x / 256 / 256 / 256 / 256 / 256 % 256); have b6 := b (x / 256 / 256 / 256 / 256 / 256 / 256 % 256); have b7 := b (x / 256 / 256 / 256 / 256 / 256 / 256 / 256 % 256)
  generalize ones8 (x % 256) = a0 at *; generalize ones8 (x / 256 % 256) = a1 at *; generalize ones8 (x / 256 / 256 % 256) = a2 at *; generalize ones8 (x / 256 / 256 / 256 % 256) = a3 at *
  generalize ones8 (x / 256 / 256 / 256 / 256 % 256) = a4 at *; generalize ones8 (x / 256 / 256 / 256 / 256 / 256 % 256) = a5 at *; generalize ones8 (x / 256 / 256 / 256 / 256 / 256 / 256 % 256) = a6 at *; generalize ones8 (x / 256 / 256 / 256 / 256 / 256 / 256 / 256 % 256) = a7 at *
  clear h b
  simp only [Nat.mul_zero, Nat.add_zero]
  have q1 : ∀ a q, a < 256 → (a + 256 * q) / 256 = q := fun a q h => by omega
  have q2 : ∀ a b q, a < 256 → b < 256 → (a + 256 * (b + 256 * q)) / 65536 = q := fun a b q h h' => by omega
  have q4 : ∀ a b c d q, a < 256 → b < 256 → c < 256 → d < 256 → (a + 256 * (b + 256 * (c + 256 * (d + 256 * q)))) / 4294967296 = q := fun a b c d q _ _ _ _ => by omega
  rw [q1 a0 _ (by omega)]
  have s1 : a1 + 256 * (a2 + 256 * (a3 + 256 * (a4 + 256 * (a5 + 256 * (a6 + 256 * a7))))) + (a0 + 256 * (a1 + 256 * (a2 + 256 * (a3 + 256 * (a4 + 256 * (a5 + 256 * (a6 + 256 * a7)))))))
    = (a0 + a1) + 256 * ((a1 + a2) + 256 * ((a2 + a3) + 256 * ((a3 + a4) + 256 * ((a4 + a5) + 256 * ((a5 + a6) + 256 * ((a6 + a7) + 256 * a7)))))) := by omega
  rw [s1, Nat.mod_eq_of_lt (show (a0 + a1) + 256 * ((a1 + a2) + 256 * ((a2 + a3) + 256 * ((a3 + a4) + 256 * ((a4 + a5) + 256 * ((a5 + a6) + 256 * ((a6 + a7) + 256 * a7)))))) < 2 ^ 64 by omega), q2 _ _ _ (by omega) (by omega)]
  have s2 : (a2 + a3) + 256 * ((a3 + a4) + 256 * ((a4 + a5) + 256 * ((a5 + a6) + 256 * ((a6 + a7) + 256 * a7)))) + ((a0 + a1) + 256 * ((a1 + a2) + 256 * ((a2 + a3) + 256 * ((a3 + a4) + 256 * ((a4 + a5) + 256 * ((a5 + a6) + 256 * ((a6 + a7) + 256 * a7)))))))
    = (a0 + a1 + a2 + a3) + 256 * ((a1 + a2 + a3 + a4) + 256 * ((a2 + a3 + a4 + a5) + 256 * ((a3 + a4 + a5 + a6) + 256 * ((a4 + a5 + a6 + a7) + 256 * ((a5 + a6 + a7) + 256 * ((a6 + a7) + 256 * a7)))))) := by omega
  rw [s2, Nat.mod_eq_of_lt (show (a0 + a1 + a2 + a3) + 256 * ((a1 + a2 + a3 + a4) + 256 * ((a2 + a3 + a4 + a5) + 256 * ((a3 + a4 + a5 + a6) + 256 * ((a4 + a5 + a6 + a7) + 256 * ((a5 + a6 + a7) + 256 * ((a6 + a7) + 256 * a7)))))) < 2 ^ 64 by omega), q4 _ _ _ _ _ (by omega) (by omega) (by omega) (by omega)]
  rw [Nat.mod_eq_of_lt (show a4 + a5 + a6 + a7 + 256 * (a5 + a6 + a7 + 256 * (a6 + a7 + 256 * a7)) + ((a0 + a1 + a2 + a3) + 256 * ((a1 + a2 + a3 + a4) + 256 * ((a2 + a3 + a4 + a5) + 256 * ((a3 + a4 + a5 + a6) + 256 * ((a4 + a5 + a6 + a7) + 256 * ((a5 + a6 + a7) + 256 * ((a6 + a7) + 256 * a7))))))) < 2 ^ 64 by omega)]
  generalize (a5 + a6 + a7) + 256 * ((a6 + a7) + 256 * a7) = r
  generalize (a1 + a2 + a3 + a4) + 256 * ((a2 + a3 + a4 + a5) + 256 * ((a3 + a4 + a5 + a6) + 256 * ((a4 + a5 + a6 + a7) + 256 * r))) = r'
  omega
end Go.Sx
