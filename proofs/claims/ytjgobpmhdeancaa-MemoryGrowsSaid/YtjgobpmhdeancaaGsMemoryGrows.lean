/- The loops that are told by one round, and what came in, of the law MemoryGrows. No condition. -/
import Derived.Test.YtjgobpmhdeancaaFns
namespace Go.Proofs.Ytjgobpmhdeancaa
open Go Go.Sx

def top63 : Iv := (some 0, some 9223372036854775807)
def nv (i : Nat) : E := .var i
def pages (e : E) : E := .bin .mul e (.lit 65536)
/- MemoryGrows: names 0 now, 1 i, 2 cap; 3 a, 4 bound, 5 most -/
def growsH (ws : List (E × E × D)) : GSpec := {
  f := 5, p := [1, 0, 1, 1, 1, 1, 1, 1, 1, 1, 1, 1, 1],
  gone := [65, 66, 67, 68, 69, 70, 71, 72, 75, 76, 77, 78, 79, 17, 80, 18, 81, 82, 83, 84, 85, 18, 86, 87, 88, 89, 90, 8, 91, 92, 93, 94, 95, 96, 97, 98, 99, 100, 8, 73, 74],
  ints := [(⟨15, none, 0⟩, (some 0, some 22)), (⟨16, none, 0⟩, (some 0, some 12)), (⟨13, some 0, 3⟩, top63)],
  tmps := [(15, .int .i64 (nv 0)), (16, .int .i64 (nv 1))],
  objs := [⟨13, none, false, .row [.sl 1 (.lit 0) (pages (nv 0)) (nv 2), .int .i64 (nv 5)]⟩, ⟨13, some 0, true, .arr ⟨nv 2, .u8, .con (.lit 0), ws⟩⟩],
  pars := [⟨10, none, 0⟩, ⟨12, none, 0⟩, ⟨13, some 1, 0⟩],
  facts := [.bin .le (pages (nv 3)) (pages (nv 0)), .bin .le (nv 0) (nv 4), .bin .le (pages (nv 0)) (nv 2)],
  meas := .bin .sub (.lit 12) (nv 1) }
/- its second loop: names 0 i; 1 now -/
def growsI : GSpec := {
  f := 5, p := [1, 0, 1, 1, 1, 1, 1, 1, 1, 1, 1, 1, 1, 1, 1],
  gone := [103, 104, 105, 106, 109, 110, 111, 112, 113, 114, 115, 116, 117, 118, 119, 8, 107, 108],
  ints := [(⟨20, none, 0⟩, top63)],
  tmps := [(20, .int .i64 (nv 0))],
  objs := [], pars := [⟨15, none, 0⟩],
  facts := [.bin .le (nv 0) (.bin .add (pages (nv 1)) (.lit 4095))],
  meas := .bin .sub (.bin .add (pages (nv 1)) (.lit 4095)) (nv 0) }
def gsMemoryGrows : List GSpec := [growsH [(.bin .sub (pages (nv 3)) (.lit 1), pages (nv 3), .con (.lit 7))], growsH [], growsI]
def inpMemoryGrows : List InSpec := [{ f := 0, size := 1, len := .fn 1 (.lit 0) (.var 0) (.lit 0), parts := [.int .i64 (.un (.wrap .i64) (.fn 0 (.var 0) (.var 1) (.lit 0)))] }]
noncomputable def loopedMemoryGrows : LoopOracle := gOracle Try.prog noOracle noLoops (bodies fns) 4000 gsMemoryGrows
theorem loopedMemoryGrows_ok (w : World) {fn : Nat → Int → Int → Int → Int} (h : CodeOk fn) : LoopsOk Try.prog ⟨w, fn⟩ (bodies fns) loopedMemoryGrows := gOracle_ok h (noOracle_ok _ _) (bodies_ok fnsKnown) (noLoops_ok _ _ _) gsMemoryGrows
end Go.Proofs.Ytjgobpmhdeancaa
