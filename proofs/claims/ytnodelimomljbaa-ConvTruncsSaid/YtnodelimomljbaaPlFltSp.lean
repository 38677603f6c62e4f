/- Contracts of the operations of floats: what each answers, as one expression of what came in. No condition. -/
import Derived.Test.YtnodelimomljbaaSxX
namespace Go.Sx.Flt
open Go Go.Sx

def v (i : Nat) : E := .var i
def bi (o : Bi) (a b : E) : E := .bin o a b
def un (o : Un) (a : E) : E := .un o a
def no (a : E) : E := .un .bnot a
def tr (c : E) : E := .ite c (.lit 1) (.lit 0)
def u64 (a : E) : E := un (.wrap .u64) a
def i64 (a : E) : E := un (.wrap .i64) a
def u32 (a : E) : E := un (.wrap .u32) a
def i32 (a : E) : E := un (.wrap .i32) a
/-- by which number the first name is -/
def sel : List (Int × E) → E → E
  | [], d => d
  | (k, e) :: r, d => .ite (.bin .eq (v 0) (.lit k)) e (sel r d)
def selF : List (Int × E) → E → Int → E
  | [], d, _ => d
  | (k, e) :: r, d, n => if n = k then e else selF r d n
theorem den_sel (ρ : Env) : ∀ (l : List (Int × E)) (d : E), (sel l d).den ρ = (selF l d (ρ.v 0)).den ρ
  | [], d => rfl
  | (k, e) :: r, d => by
    simp only [sel, selF, E.den, Bi.den, v]
    by_cases h : ρ.v 0 = k
    · simp [h, b2i]
    · simp only [h, if_false, ← den_sel ρ r d]
      simp [h, b2i]
theorem selF_none : ∀ (l : List (Int × E)) (d : E) (n : Int), (∀ k ∈ l.map (·.1), n ≠ k) → selF l d n = d
  | [], _, _, _ => rfl
  | (k, e) :: r, d, n, h => by
    simp only [selF]
    rw [if_neg (h _ List.mem_cons_self)]
    exact selF_none r d n fun p hp => h p (List.mem_cons_of_mem _ hp)
def xts : List (Nat × XK) := [(66, .bits .f32), (67, .frombits .f64), (68, .bits .f64), (69, .frombits .f32), (70, .whole "math.archCeil" .up), (72, .whole "math.archFloor" .down), (74, .whole "math.archTrunc" .zero), (52, .whole "math.RoundToEven" .even), (76, .sqrt), (115, .pick "math.archMin" true), (117, .pick "math.archMax" false)]
/-! ### 64 bits -/
def nan64 : E := .lit 9221120237041090560
def can64 (e : E) : E := .ite (bi .eq e (.lit (-1))) nan64 (i64 e)
def x64 : E := u64 (v 1)
def y64 : E := u64 (v 2)
def sign64 : E := .lit (-9223372036854775808)
def unL64 : List (Int × E) := [(153, bi (.bits .andNot .i64) (v 1) sign64), (154, bi (.bits .xor .i64) (v 1) sign64), (155, can64 (un (.fwhole .up) x64)), (156, can64 (un (.fwhole .down) x64)), (157, can64 (un (.fwhole .zero) x64)), (158, can64 (un (.fwhole .even) x64)), (159, can64 (un .fsqrt x64))]
def o64 : E := bi (.ford .f64) x64 y64
def pick64 (g : Bool) : E := .ite (no (bi .eq (bi (.ford .f64) x64 x64) (.lit 0))) nan64 (.ite (no (bi .eq (bi (.ford .f64) y64 y64) (.lit 0))) nan64 (i64 (bi (.fpick g) x64 y64)))
def binL64 : List (Int × E) := [(97, tr (bi .eq o64 (.lit 0))), (98, tr (no (bi .eq o64 (.lit 0)))), (99, tr (bi .eq o64 (.lit 1))), (100, tr (bi .eq o64 (.lit 2))), (101, tr (bi .le o64 (.lit 1))), (102, tr (bi .or (bi .eq o64 (.lit 2)) (bi .eq o64 (.lit 0)))),
  (160, can64 (bi (.far .add .f64) x64 y64)), (161, can64 (bi (.far .sub .f64) x64 y64)), (162, can64 (bi (.far .mul .f64) x64 y64)), (163, can64 (bi (.far .quo .f64) x64 y64)), (164, pick64 true), (165, pick64 false),
  (166, bi (.bits .or .i64) (bi (.bits .andNot .i64) (v 1) sign64) (bi (.bits .and .i64) (v 2) sign64))]
def errs (l : List Int) (d : Int) : E := sel (l.map fun k => (k, .lit 0)) (.lit d)
def unV64 : E := sel unL64 (.lit 0)
def unE64 : E := errs [153, 154, 155, 156, 157, 158, 159] 500
def binV64 : E := sel binL64 (.lit 0)
def binE64 : E := errs [97, 98, 99, 100, 101, 102, 160, 161, 162, 163, 164, 165, 166] 500
def unS64 : FSpec := ⟨30, [some .i64, some .i64], [], [(some .i64, unV64), (some .i64, unE64)], []⟩
def binS64 : FSpec := ⟨32, [some .i64, some .i64, some .i64], [], [(some .i64, binV64), (some .i64, binE64)], []⟩
def aw64 : FSpec := ⟨34, [], [], [(none, .lit 1)], []⟩
def specs64 : List FSpec := [unS64, binS64, aw64]
/-! ### 32 bits (the lesser and the greater left out) -/
def nan32 : E := .lit 2143289344
def can32 (e : E) : E := .ite (bi .eq e (.lit (-1))) nan32 e
def x32 : E := u32 (v 1)
def y32 : E := u32 (v 2)
def sign32 : E := .lit 2147483648
def o32 : E := bi (.ford .f32) x32 y32
def binL32 : List (Int × E) := [(91, tr (bi .eq o32 (.lit 0))), (92, tr (no (bi .eq o32 (.lit 0)))), (93, tr (bi .eq o32 (.lit 1))), (94, tr (bi .eq o32 (.lit 2))), (95, tr (bi .le o32 (.lit 1))), (96, tr (bi .or (bi .eq o32 (.lit 2)) (bi .eq o32 (.lit 0)))),
  (146, can32 (bi (.far .add .f32) x32 y32)), (147, can32 (bi (.far .sub .f32) x32 y32)), (148, can32 (bi (.far .mul .f32) x32 y32)), (149, can32 (bi (.far .quo .f32) x32 y32)),
  (152, u32 (bi (.bits .or .i64) (bi (.bits .andNot .i64) (v 1) sign32) (bi (.bits .and .i64) (v 2) sign32)))]
def binV32 : E := sel binL32 (.lit 0)
def binE32 : E := errs [91, 92, 93, 94, 95, 96, 146, 147, 148, 149, 152] 400
def binS32 : FSpec := ⟨37, [some .i64, some .i64, some .i64], [no (bi .eq (v 0) (.lit 150)), no (bi .eq (v 0) (.lit 151))], [(some .i64, binV32), (some .i64, binE32)], []⟩
def aw32 : FSpec := ⟨39, [], [], [(none, .lit 1)], []⟩
def specs32 : List FSpec := [binS32, aw32]
end Go.Sx.Flt
