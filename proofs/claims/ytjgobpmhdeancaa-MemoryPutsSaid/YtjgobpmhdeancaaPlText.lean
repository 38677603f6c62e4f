/- A string that came in, told by its length and its bytes. No condition. -/
import Derived.Test.YtjgobpmhdeancaaSxT
import Derived.Test.YtjgobpmhdeancaaSxZ
namespace Go.Sx
open Go
def byteFn (s : ByteArray) : Nat → Int → Int → Int → Int := fun _ j _ _ => ((s.data.getD j.toNat 0).toNat : Int)
theorem text_in (s : ByteArray) (ρ : Env) (i : Nat) (h1 : ρ.v i = (s.size : Int)) (h2 : ρ.fn = byteFn s) : Arr.bytes ρ ⟨.var i, .u8, .fn i (.lit 0), []⟩ = s := by
  apply ByteArray.ext
  apply Array.ext_getElem?
  intro j
  have hlen := bytes_len ρ ⟨.var i, .u8, .fn i (.lit 0), []⟩
  simp only [E.den, h1, Int.toNat_natCast] at hlen
  by_cases hj : j < s.size
  · rw [bytes_get ρ ⟨.var i, .u8, .fn i (.lit 0), []⟩ (by simp only [E.den, h1]; omega)]
    have hd : j < s.data.size := hj
    simp only [readW, D.at, E.den, h2, byteFn, Int.add_zero, Int.toNat_natCast]
    rw [Array.getElem?_eq_getElem hd, Array.getD_eq_getD_getElem?, Array.getElem?_eq_getElem hd, Option.getD_some]
    have hb : s.data[j].toNat < 256 := s.data[j].toNat_lt
    have hw : IntKind.u8.wrap ((s.data[j].toNat : Nat) : Int) = ((s.data[j].toNat : Nat) : Int) := by
      simp [IntKind.wrap, IntKind.bits, IntKind.signed]
      omega
    rw [hw, Int.toNat_natCast]
    simp
  · rw [Array.getElem?_eq_none (by rw [hlen]; omega), Array.getElem?_eq_none (show s.data.size ≤ j from Nat.le_of_not_lt hj)]
end Go.Sx
