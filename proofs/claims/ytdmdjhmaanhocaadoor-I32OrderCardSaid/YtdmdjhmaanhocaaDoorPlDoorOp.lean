/- Contracts of the operations: what each operation answers, as one expression of what came in. No condition. -/
import Derived.Test.YtdmdjhmaanhocaaDoorPlDoorSp
namespace Go.Sx.Door
open Go Go.Sx

/-- by which number the first name is -/
def sel : List (Int × E) → E → E
  | [], d => d
  | (k, e) :: r, d => .ite (.bin .eq (v 0) (.lit k)) e (sel r d)
def tr (c : E) : E := .ite c (.lit 1) (.lit 0)
def un (o : Un) (a : E) : E := .un o a
def bi (o : Bi) (a b : E) : E := .bin o a b
def no (a : E) : E := .un .bnot a
def oks (l : List Int) (d : Int) : E := sel (l.map fun k => (k, .lit 0)) (.lit d)
def u64 (a : E) : E := un (.wrap .u64) a
def i64 (a : E) : E := un (.wrap .i64) a
def u32 (a : E) : E := un (.wrap .u32) a
def i32 (a : E) : E := un (.wrap .i32) a
def unV64 : E := sel [(80, tr (bi .eq (v 1) (.lit 0))), (121, .fn 10 (v 1) (.lit 64) (.lit 0)), (122, .fn 11 (v 1) (.lit 64) (.lit 0)), (123, .fn 12 (v 1) (.lit 64) (.lit 0))] (.lit 0)
def unE64 : E := oks [80, 121, 122, 123] 300
def and64 : E := bi .and (bi .eq (v 1) (.lit (-9223372036854775808))) (bi .eq (v 2) (.lit (-1)))
def k64 : E := bi .emod (v 2) (.lit 64)
def valL64 : List (Int × E) := [(81, tr (bi .eq (v 1) (v 2))), (82, tr (no (bi .eq (v 1) (v 2)))), (83, tr (bi .lt (v 1) (v 2))), (84, tr (bi .lt (u64 (v 1)) (u64 (v 2)))), (85, tr (bi .lt (v 2) (v 1))), (86, tr (bi .lt (u64 (v 2)) (u64 (v 1)))),
  (87, tr (bi .le (v 1) (v 2))), (88, tr (bi .le (u64 (v 1)) (u64 (v 2)))), (89, tr (bi .le (v 2) (v 1))), (90, tr (bi .le (u64 (v 2)) (u64 (v 1)))),
  (124, i64 (bi .add (v 1) (v 2))), (125, i64 (bi .sub (v 1) (v 2))), (126, i64 (bi .mul (v 1) (v 2))),
  (127, .ite (bi .eq (v 2) (.lit 0)) (.lit 0) (.ite and64 (.lit 0) (i64 (bi .tdiv (v 1) (v 2))))), (128, .ite (bi .eq (v 2) (.lit 0)) (.lit 0) (i64 (bi .ediv (u64 (v 1)) (u64 (v 2))))),
  (129, .ite (bi .eq (v 2) (.lit 0)) (.lit 0) (bi .tmod (v 1) (v 2))), (130, .ite (bi .eq (v 2) (.lit 0)) (.lit 0) (i64 (bi .emod (u64 (v 1)) (u64 (v 2))))),
  (131, bi (.bits .and .i64) (v 1) (v 2)), (132, bi (.bits .or .i64) (v 1) (v 2)), (133, bi (.bits .xor .i64) (v 1) (v 2)), (134, bi (.shl .i64) (v 1) k64), (135, bi (.shr .i64) (v 1) k64), (136, i64 (bi (.shr .u64) (u64 (v 1)) k64)),
  (137, i64 (.fn 3 (v 1) (.lit 64) (v 2))), (138, i64 (.fn 3 (v 1) (.lit 64) (bi .sub (.lit 0) (v 2))))]
def binV64 : E := sel valL64 (.lit 0)
def div64 (k : Int) : E := .ite (bi .eq (v 2) (.lit 0)) (.lit 301) (if k = 127 then .ite and64 (.lit 302) (.lit 0) else .lit 0)
def errL64 : List (Int × E) := ([81, 82, 83, 84, 85, 86, 87, 88, 89, 90, 124, 125, 126].map fun k => (k, .lit 0)) ++ ([127, 128, 129, 130].map fun k => (k, div64 k)) ++ ([131, 132, 133, 134, 135, 136, 137, 138].map fun k => (k, .lit 0))
def binE64 : E := sel errL64 (.lit 300)
def unSp64 (f : Nat) : FSpec := ⟨f, [some .i64, some .i64], [], [(some .i64, unV64), (some .i64, unE64)], []⟩
def binSp64 (f : Nat) : FSpec := ⟨f, [some .i64, some .i64, some .i64], [], [(some .i64, binV64), (some .i64, binE64)], []⟩
/-- which one it comes to -/
def selF : List (Int × E) → E → Int → E
  | [], d, _ => d
  | (k, e) :: r, d, n => if n = k then e else selF r d n
theorem den_sel (ρ : Env) : ∀ (l : List (Int × E)) (d : E), (sel l d).den ρ = (selF l d (ρ.v 0)).den ρ
  | [], d => rfl
  | (k, e) :: r, d => by
    simp only [sel, selF, E.den, Bi.den, v]
    by_cases h : ρ.v 0 = k
    · simp [h, b2i]
    · simp only [h, if_false, ← den_sel ρ r d]
      simp [h, b2i]
theorem selF_none : ∀ (l : List (Int × E)) (d : E) (n : Int), (∀ k ∈ l.map (·.1), n ≠ k) → selF l d n = d
  | [], _, _, _ => rfl
  | (k, e) :: r, d, n, h => by
    simp only [selF]
    rw [if_neg (h _ List.mem_cons_self)]
    exact selF_none r d n fun p hp => h p (List.mem_cons_of_mem _ hp)
theorem keys : valL64.map (·.1) = [81, 82, 83, 84, 85, 86, 87, 88, 89, 90, 124, 125, 126, 127, 128, 129, 130, 131, 132, 133, 134, 135, 136, 137, 138] := rfl
theorem keys' : errL64.map (·.1) = [81, 82, 83, 84, 85, 86, 87, 88, 89, 90, 124, 125, 126, 127, 128, 129, 130, 131, 132, 133, 134, 135, 136, 137, 138] := rfl
theorem binV64_den (ρ : Env) : binV64.den ρ = (selF valL64 (.lit 0) (ρ.v 0)).den ρ := den_sel _ _ _
theorem binE64_den (ρ : Env) : binE64.den ρ = (selF errL64 (.lit 300) (ρ.v 0)).den ρ := den_sel _ _ _
/-- the contracts with those of the operations -/
def ops64 : List FSpec := all ++ [unSp64 40, unSp64 41, binSp64 42, binSp64 43]
def each64 : LSpec := { f := 7, p := [1, 0, 1, 1], n := 66, ins := [(0, some .i64), (1, some .i64), (5, some .i64)], pre := [le (.lit 75) (v 2), le (v 2) (.lit 145)], outs := [(5, some .i64, .lit 145)], kill := ((List.range 8).map (· + 6)) ++ ((List.range 50).map (· + 16)), meas := .bin .sub (.lit 145) (v 2) }
end Go.Sx.Door
