/- The loops that are told by one round. No condition. -/
import Derived.Test.YtjgobpmhdeancaaFns
import Derived.Test.YtjgobpmhdeancaaSxV
namespace Go.Proofs.Ytjgobpmhdeancaa
open Go Go.Sx

def gone11 : List Nat := [77, 78, 18, 81, 82, 83, 84, 85, 86, 87, 88, 89, 90, 91, 92, 93, 94, 95, 96, 97, 98, 99, 100, 101, 102, 103, 104, 105, 106, 108, 109, 110, 107, 111, 112, 19, 20, 113, 114, 115, 116, 117, 118, 119, 120, 121, 122, 123, 124, 125, 126, 127, 128, 129, 130, 131, 132, 133, 8, 79, 80]
def repeatH : HSpec := { f := 47, p := [0, 1, 1, 1, 1, 1, 1], ints := [(8, .i64)], gone := [34, 35, 36, 37, 38, 39, 40, 41, 42, 43, 44, 45, 46], rows := [(7, .con (.lit 0), [(.lit 0, .var 0, .con (.lit (-1)))])], pars := [(7, 1)], facts := [.bin .le (.lit 1) (.var 0), .bin .le (.var 0) (.var 1)], meas := .bin .sub (.var 1) (.var 0) }
def formsH : HSpec := { f := 11, p := [1, 0, 1, 1, 1, 1, 1, 1, 1, 1, 1], ints := [(17, .i64)], gone := gone11, rows := [], pars := [], facts := [.bin .le (.lit 0) (.var 0), .bin .le (.var 0) (.lit 20)], meas := .bin .sub (.lit 20) (.var 0) }
def gone10 : List Nat := [57, 58, 59, 63, 64, 65, 62, 66, 67, 17, 18, 68, 69, 70, 71, 72, 73, 74, 75, 76, 77, 78, 79, 80, 19, 81, 82, 83, 84, 85, 86, 87, 88, 89, 90, 91, 92, 93, 94, 95, 96, 97, 98, 99, 100, 101, 102, 103, 6, 60, 61]
def putsH : HSpec := { f := 10, p := [1, 0, 1, 1, 1, 1, 1, 1, 1, 1, 1], ints := [(16, .i64)], gone := gone10, rows := [], pars := [(7, 0)], facts := [.bin .le (.lit 0) (.var 0), .bin .le (.var 0) (.var 1)], meas := .bin .sub (.var 1) (.var 0) }
def hs : List HSpec := [repeatH, formsH, putsH]
noncomputable def looped : LoopOracle := hOracle Try.prog noOracle noLoops (bodies fns) 4000 hs
theorem looped_ok (w : World) : LoopsOk Try.prog ⟨w, fnF⟩ (bodies fns) looped := hOracle_ok (noOracle_ok _ _) (bodies_ok fnsKnown) (noLoops_ok _ _ _) hs
end Go.Proofs.Ytjgobpmhdeancaa
