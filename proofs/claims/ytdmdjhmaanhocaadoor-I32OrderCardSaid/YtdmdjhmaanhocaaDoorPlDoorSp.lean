/- Contracts of functions and of loops: bits. No condition. -/
import Derived.Test.YtdmdjhmaanhocaaDoorSxU
namespace Go.Sx.Door
open Go Go.Sx
def v (i : Nat) : E := .var i
def le (a b : E) : E := .bin .le a b
def n32or64 (w : E) : E := .bin .or (.bin .eq w (.lit 32)) (.bin .eq w (.lit 64))
def aw1 : FSpec := ⟨39, [], [], [(none, .lit 1)], []⟩
def aw3 : FSpec := ⟨44, [], [], [(none, .lit 1)], []⟩
def aw2 : FSpec := ⟨50, [], [], [(none, .lit 1)], []⟩
def lz32 : FSpec := ⟨53, [some .u32], [], [(some .i64, .fn 0 (v 0) (.lit 32) (.lit 0))], [(.fn 0 (v 0) (.lit 32) (.lit 0), (some 0, some 32))]⟩
def lz64 : FSpec := ⟨54, [some .u64], [], [(some .i64, .fn 0 (v 0) (.lit 64) (.lit 0))], [(.fn 0 (v 0) (.lit 64) (.lit 0), (some 0, some 64))]⟩
def tz64 : FSpec := ⟨59, [some .u64], [], [(some .i64, .fn 1 (v 0) (.lit 64) (.lit 0))], [(.fn 1 (v 0) (.lit 64) (.lit 0), (some 0, some 64))]⟩
def oc64 : FSpec := ⟨60, [some .u64], [], [(some .i64, .fn 2 (v 0) (.lit 64) (.lit 0))], [(.fn 2 (v 0) (.lit 64) (.lit 0), (some 0, some 64))]⟩
def rl32 : FSpec := ⟨61, [some .u32, some .i64], [], [(some .u32, .fn 3 (v 0) (.lit 32) (v 1))], [(.fn 3 (v 0) (.lit 32) (v 1), (some 0, some 4294967295))]⟩
def rl64 : FSpec := ⟨62, [some .u64, some .i64], [], [(some .u64, .fn 3 (v 0) (.lit 64) (v 1))], [(.fn 3 (v 0) (.lit 64) (v 1), (some 0, some 18446744073709551615))]⟩
def libs : List FSpec := [lz32, lz64, tz64, oc64, rl32, rl64]
def tab : Tabs := [(0, .u8, [0, 1, 56, 2, 57, 49, 28, 3, 61, 58, 42, 50, 38, 29, 17, 4, 62, 47, 59, 36, 45, 43, 51, 22, 53, 39, 33, 30, 24, 18, 12, 5, 63, 55, 48, 27, 60, 41, 37, 16, 46, 35, 44, 21, 52, 32, 23, 11, 54, 26, 40, 15, 34, 20, 31, 10, 25, 14, 19, 9, 13, 8, 7, 6])]
def clzL : LSpec := { f := 56, p := [0, 1, 1], n := 21, ins := [(0, some .i64), (1, some .i64), (5, some .i64)], pre := [le (.lit 0) (v 2), le (v 2) (v 1), le (v 1) (.lit 64)], outs := [(5, some .i64, .bin .add (v 2) (.fn 10 (v 0) (v 1) (v 2)))], kill := (List.range 14).map (· + 6), meas := .bin .sub (v 1) (v 2) }
def ctzL : LSpec := { f := 57, p := [0, 1, 1], n := 18, ins := [(0, some .i64), (1, some .i64), (5, some .i64)], pre := [le (.lit 0) (v 2), le (v 2) (v 1), le (v 1) (.lit 64)], outs := [(5, some .i64, .bin .add (v 2) (.fn 11 (v 0) (v 1) (v 2)))], kill := (List.range 11).map (· + 6), meas := .bin .sub (v 1) (v 2) }
def popL : LSpec := { f := 58, p := [1, 0, 1, 1], n := 18, ins := [(0, some .i64), (1, some .i64), (6, some .i64), (5, some .i64)], pre := [le (.lit 0) (v 2), le (v 2) (v 1), le (v 1) (.lit 64), le (.lit 0) (v 3), le (v 3) (v 2)], outs := [(5, some .i64, .bin .add (v 3) (.fn 12 (v 0) (v 1) (v 2))), (6, some .i64, v 1)], kill := (List.range 10).map (· + 7), meas := .bin .sub (v 1) (v 2) }
def rotL : LSpec := { f := 29, p := [1, 0, 1, 1, 1], n := 34, ins := [(0, some .i64), (1, some .i64), (2, some .i64), (9, some .i64), (8, some .i64)], pre := [le (.lit 0) (v 3), le (v 3) (v 2), n32or64 (v 2)], outs := [(8, some .i64, .bin (.bits .or .i64) (v 4) (.un (.wrap .i64) (.fn 3 (.fn 14 (v 0) (v 3) (.lit 0)) (v 2) (v 1)))), (9, some .i64, v 2)], kill := (List.range 24).map (· + 10), meas := .bin .sub (v 2) (v 3) }
def all : List FSpec := [aw1, aw2, aw3] ++ libs
def lspecs : List LSpec := [clzL, ctzL, popL, rotL]
end Go.Sx.Door
