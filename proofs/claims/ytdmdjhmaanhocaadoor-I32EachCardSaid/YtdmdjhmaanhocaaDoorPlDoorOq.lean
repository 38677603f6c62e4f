/- Contracts of the operations of 32 bits: what each answers, as one expression of what came in. No condition. -/
import Derived.Test.YtdmdjhmaanhocaaDoorPlDoorOp
namespace Go.Sx.Door
open Go Go.Sx

def a32 : E := u32 (v 1)
def b32 : E := u32 (v 2)
def p32 : E := i32 (v 1)
def q32 : E := i32 (v 2)
def unV32 : E := sel [(69, tr (bi .eq a32 (.lit 0))), (103, .fn 10 (v 1) (.lit 32) (.lit 0)), (104, .fn 11 (v 1) (.lit 32) (.lit 0)), (105, .fn 12 (v 1) (.lit 32) (.lit 0))] (.lit 0)
def unE32 : E := oks [69, 103, 104, 105] 200
def and32 : E := bi .and (bi .eq p32 (.lit (-2147483648))) (bi .eq q32 (.lit (-1)))
def k32 : E := bi .emod (v 2) (.lit 32)
def valL32 : List (Int × E) := [(70, tr (bi .eq a32 b32)), (71, tr (no (bi .eq a32 b32))), (72, tr (bi .lt p32 q32)), (73, tr (bi .lt a32 b32)), (74, tr (bi .lt q32 p32)), (75, tr (bi .lt b32 a32)),
  (76, tr (bi .le p32 q32)), (77, tr (bi .le a32 b32)), (78, tr (bi .le q32 p32)), (79, tr (bi .le b32 a32)),
  (106, u32 (bi .add (v 1) (v 2))), (107, u32 (bi .sub (v 1) (v 2))), (108, u32 (bi .mul (v 1) (v 2))),
  (109, .ite (bi .eq b32 (.lit 0)) (.lit 0) (.ite and32 (.lit 0) (u32 (bi .tdiv p32 q32)))), (110, .ite (bi .eq b32 (.lit 0)) (.lit 0) (bi .ediv a32 b32)),
  (111, .ite (bi .eq b32 (.lit 0)) (.lit 0) (u32 (bi .tmod p32 q32))), (112, .ite (bi .eq b32 (.lit 0)) (.lit 0) (bi .emod a32 b32)),
  (113, u32 (bi (.bits .and .i64) (v 1) (v 2))), (114, u32 (bi (.bits .or .i64) (v 1) (v 2))), (115, u32 (bi (.bits .xor .i64) (v 1) (v 2))), (116, u32 (bi (.shl .i64) (v 1) k32)), (117, u32 (bi (.shr .i64) p32 k32)), (118, bi (.shr .i64) a32 k32),
  (119, .fn 3 a32 (.lit 32) k32), (120, .fn 3 a32 (.lit 32) (bi .sub (.lit 32) k32))]
def binV32 : E := sel valL32 (.lit 0)
def div32 (k : Int) : E := .ite (bi .eq b32 (.lit 0)) (.lit 201) (if k = 109 then .ite and32 (.lit 202) (.lit 0) else .lit 0)
def errL32 : List (Int × E) := ([70, 71, 72, 73, 74, 75, 76, 77, 78, 79, 106, 107, 108].map fun k => (k, .lit 0)) ++ ([109, 110, 111, 112].map fun k => (k, div32 k)) ++ ([113, 114, 115, 116, 117, 118, 119, 120].map fun k => (k, .lit 0))
def binE32 : E := sel errL32 (.lit 200)
def sign32 : FSpec := ⟨35, [some .i64], [], [(some .i64, i32 (v 0))], []⟩
def unSp32 (f : Nat) : FSpec := ⟨f, [some .i64, some .i64], [], [(some .i64, unV32), (some .i64, unE32)], []⟩
def binSp32 (f : Nat) : FSpec := ⟨f, [some .i64, some .i64, some .i64], [], [(some .i64, binV32), (some .i64, binE32)], []⟩
def all32 : List FSpec := all ++ [sign32]
def ops32 : List FSpec := all32 ++ [unSp32 46, unSp32 47, binSp32 48, binSp32 49]
def each32 : LSpec := { f := 16, p := [1, 0, 1, 1], n := 66, ins := [(0, some .i64), (1, some .i64), (5, some .i64)], pre := [le (.lit 60) (v 2), le (v 2) (.lit 130)], outs := [(5, some .i64, .lit 130)], kill := ((List.range 8).map (· + 6)) ++ ((List.range 50).map (· + 16)), meas := .bin .sub (.lit 130) (v 2) }
theorem keys32 : valL32.map (·.1) = [70, 71, 72, 73, 74, 75, 76, 77, 78, 79, 106, 107, 108, 109, 110, 111, 112, 113, 114, 115, 116, 117, 118, 119, 120] := rfl
theorem keys32' : errL32.map (·.1) = [70, 71, 72, 73, 74, 75, 76, 77, 78, 79, 106, 107, 108, 109, 110, 111, 112, 113, 114, 115, 116, 117, 118, 119, 120] := rfl
theorem binV32_den (ρ : Env) : binV32.den ρ = (selF valL32 (.lit 0) (ρ.v 0)).den ρ := den_sel _ _ _
theorem binE32_den (ρ : Env) : binE32.den ρ = (selF errL32 (.lit 200) (ρ.v 0)).den ρ := den_sel _ _ _
theorem unV32_den (ρ : Env) : unV32.den ρ = (selF [(69, tr (bi .eq a32 (.lit 0))), (103, .fn 10 (v 1) (.lit 32) (.lit 0)), (104, .fn 11 (v 1) (.lit 32) (.lit 0)), (105, .fn 12 (v 1) (.lit 32) (.lit 0))] (.lit 0) (ρ.v 0)).den ρ := den_sel _ _ _
theorem unE32_den (ρ : Env) : unE32.den ρ = (selF [(69, .lit 0), (103, .lit 0), (104, .lit 0), (105, .lit 0)] (.lit 200) (ρ.v 0)).den ρ := den_sel _ _ _
end Go.Sx.Door
