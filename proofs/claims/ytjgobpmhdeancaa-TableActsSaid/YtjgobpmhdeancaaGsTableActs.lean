/- The law TableActs: its loops told by templates, the cases of a round, and what cannot be. No condition. -/
import Derived.Test.YtjgobpmhdeancaaFns
namespace Go.Proofs.Ytjgobpmhdeancaa.GsTableActs
open Go Go.Sx

def top63 : Iv := (some 0, some 9223372036854775807)
def nv (i : Nat) : E := .var i
def fld (k : Nat) : V := .int .i64 (.un (.wrap .i64) (.fn k (.var 0) (.lit 0) (.lit 0)))
def inpTableActs : List InSpec := [{ f := 0, size := 3, len := .fn 1 (.lit 0) (.lit 0) (.lit 0), parts := [fld 10, .vf 1 (.var 0), fld 12] },
  { f := 1, size := 1, len := .bin .emod (.fn 13 (.var 0) (.lit 0) (.lit 0)) (.lit 17592186043905), parts := [.int .i64 (.un (.wrap .i64) (.fn 14 (.var 0) (.var 1) (.lit 0)))] }]
def hs9 : List HSpec := [{ f := 47, p := [0, 1, 1, 1, 1, 1, 1], ints := [(8, .i64)], gone := [34, 35, 36, 37, 38, 39, 40, 41, 42, 43, 44, 45, 46], rows := [(7, .con (.lit 0), [(.lit 0, .var 0, .con (.lit (-1)))])], pars := [(7, 1)], facts := [.bin .le (.lit 1) (.var 0), .bin .le (.var 0) (.var 1)], meas := .bin .sub (.var 1) (.var 0) }]
/- NewTable: names 0 i, 1 gap; 2 least -/
def newH : GSpec := {
  f := 29, p := [1, 0, 1, 1, 1],
  gone := [33, 34, 35, 36, 39, 40, 41, 42, 43, 44, 45, 46, 47, 37, 38],
  ints := [(⟨5, none, 0, 1⟩, (some 1, some 1024)), (⟨4, some 0, 4, 1⟩, top63)],
  tmps := [(5, .int .i64 (nv 0))],
  objs := [⟨4, none, false, .row [.sl 1 (.lit 0) (nv 0) (.bin .add (nv 0) (nv 1))]⟩, ⟨4, some 0, true, .arr ⟨.bin .add (nv 0) (nv 1), .i64, .con (.lit 0), [(.lit 0, nv 0, .con (.lit (-1)))]⟩⟩],
  pars := [⟨1, some 0, 0, 1⟩],
  facts := [.bin .le (nv 0) (nv 2), .bin .le (.bin .add (nv 0) (nv 1)) (.lit 9223372036854775807)],
  meas := .bin .sub (nv 2) (nv 0) }
def big : E := .lit 17592186043905
def gOf (c : E) : E := .bin .emod (.fn 60 c (.lit 0) (.lit 0)) (.lit 35184372088832)
def lenOf' (c : E) : E := .bin .emod (.fn 13 c (.lit 0) (.lit 0)) big
def val (i c : E) : E := .un (.wrap .i64) (.fn 14 i c (.lit 0))
def upto40 : Iv := (some 0, some 17592186043904)
/- IndexFunc: 0 i; 1 len, 2 code -/
def idxH : GSpec := {
  f := 53, p := [1, 0, 1], gone := [9, 10, 5, 11, 12, 13, 14, 15, 16, 17, 18],
  ints := [(⟨8, none, 0, 1⟩, upto40)], tmps := [(8, .int .i64 (nv 0))], objs := [], pars := [⟨7, none, 0, 1⟩, ⟨0, none, 5, 1⟩],
  facts := [.bin .le (nv 0) (nv 1), .bin .le (nv 0) (gOf (nv 2))], meas := .bin .sub (nv 1) (nv 0),
  lems := [([.bin .le (.lit 0) (val (nv 0) (nv 2)), .bin .le (nv 0) (gOf (nv 2))], .bin .le (.bin .add (nv 0) (.lit 1)) (gOf (nv 2)))] }
/- the other's Put: 0 i; 1 code -/
def rputH : GSpec := {
  f := 33, p := [1, 0, 1], gone := [8, 9, 10, 11, 14, 15, 16, 17, 18, 12, 13],
  ints := [(⟨7, none, 0, 1⟩, upto40)], tmps := [(7, .int .i64 (nv 0))], objs := [], pars := [⟨2, none, 0, 1⟩],
  facts := [.bin .le (nv 0) (lenOf' (nv 1)), .bin .le (nv 0) (gOf (nv 1))], meas := .bin .sub (lenOf' (nv 1)) (nv 0),
  lems := [([.bin .le (.lit 0) (val (nv 0) (nv 1)), .bin .le (nv 0) (gOf (nv 1))], .bin .le (.bin .add (nv 0) (.lit 1)) (gOf (nv 1)))] }
/- SpoilInts: 0 i, 1 room; 2 len -/
def spoilH (e : E) : GSpec := {
  f := 37, p := [1], gone := [3, 4, 5, 6, 9, 10, 11, 12, 13, 14, 15, 16, 7, 8],
  ints := [(⟨2, none, 0, 1⟩, upto40), (⟨0, none, 7, 1⟩, top63)], tmps := [(2, .int .i64 (nv 0))],
  objs := [⟨0, none, false, .code (.bin .add (nv 2) (nv 1)) e .i64⟩], pars := [⟨0, none, 2, 1⟩],
  facts := [.bin .le (nv 0) (nv 2)], meas := .bin .sub (nv 2) (nv 0) }
/- SameInts: 0 i; 1 len -/
def sameH : GSpec := {
  f := 39, p := [1, 0, 1, 1], gone := [11, 12, 13, 14, 17, 18, 19, 20, 21, 22, 23, 24, 25, 15, 16],
  ints := [(⟨5, none, 0, 1⟩, upto40)], tmps := [(5, .int .i64 (nv 0))], objs := [], pars := [⟨0, none, 2, 1⟩],
  facts := [.bin .le (nv 0) (nv 1)], meas := .bin .sub (nv 1) (nv 0) }
def gs : List GSpec := [idxH, rputH, spoilH (nv 2), spoilH (.bin .add (nv 2) (nv 1)), sameH]
def g1 : E := .bin .add (nv 0) (nv 2)
def g2 : E := .bin .add (nv 0) (nv 3)
/- TableActs, no place: 0 places, 1 i, 2 room -/
def actsZ : CSpec := {
  f := 9, p := [1, 0, 1, 1, 1, 1, 1], n := 136,
  ints := [(⟨5, some 0, 2, 1⟩, (some 0, some 0)), (⟨9, none, 0, 1⟩, (some 0, some 60)), (⟨5, some 0, 4, 1⟩, top63)],
  tmps := [(5, .ptr 0 0), (7, .ptr 2 0), (9, .int .i64 (nv 1)), (1, .vf 0 (.lit 0))],
  objs := [⟨5, none, false, .row [.sl 1 (.lit 0) (nv 0) (.bin .add (nv 0) (nv 2))]⟩, ⟨5, some 0, true, .code (.bin .add (nv 0) (nv 2)) (nv 0) .i64 91⟩, ⟨7, none, false, .row [.nils]⟩],
  els := [90, 3, 75],
  facts := [],
  meas := .bin .sub (.lit 60) (nv 1), inp := inpTableActs, rl := [(14, gOf (nv 0))] }
/- TableActs: 0 places, 1 i, 2 3 room -/
def actsT : CSpec := {
  f := 9, p := [1, 0, 1, 1, 1, 1, 1], n := 136,
  ints := [(⟨5, some 0, 2, 1⟩, (some 1, some 1024)), (⟨9, none, 0, 1⟩, (some 0, some 60)), (⟨5, some 0, 4, 1⟩, top63), (⟨7, some 0, 4, 1⟩, top63)],
  tmps := [(5, .ptr 0 0), (7, .ptr 2 0), (9, .int .i64 (nv 1)), (1, .vf 0 (.lit 0))],
  objs := [⟨5, none, false, .row [.sl 1 (.lit 0) (nv 0) g1]⟩, ⟨5, some 0, true, .code g1 (nv 0) .i64 91⟩, ⟨7, none, false, .row [.sl 3 (.lit 0) (nv 0) g2]⟩, ⟨7, some 0, true, .code g2 (nv 0) .i64 91⟩],
  els := [90, 3, 75, 3],
  facts := [],
  meas := .bin .sub (.lit 60) (nv 1), inp := inpTableActs, rl := [(14, gOf (nv 0))] }
def going : List E := [.bin .lt (nv 1) (.fn 1 (.lit 0) (.lit 0) (.lit 0)), .bin .lt (nv 1) (.lit 60)]
def nt (e : E) : E := .un .bnot e
def le (a b : E) : E := .bin .le a b
def lt (a b : E) : E := .bin .lt a b
def LEN : E := lenOf' (nv 1)
def G : E := gOf (nv 1)
def F (i : E) : E := val i (nv 1)
def AT : E := .un (.wrap .i64) (.fn 10 (nv 1) (.lit 0) (.lit 0))
def GET : E := .un (.wrap .i64) (.fn 12 (nv 1) (.lit 0) (.lit 0))
def held (i : E) : E := .un (.wrap .i64) (.fn 91 i (nv 4) (.lit 0))
def ago (i : E) : E := F (.bin .add i (.bin .mul AT (.lit (-1))))
def put : E := .ite (.bin .and (le AT GET) (lt GET (.bin .add AT LEN))) (ago GET) (held GET)
def non (i a : E) : E := .ite (.bin .and (le AT i) (lt i AT)) a (held i)
/-- the place i is told to be below nought, the place j is the end -/
def stop (i j : Nat) : List E := [lt (F (nv i)) (.lit 0), lt (nv i) LEN, le LEN (nv j), le (nv j) G]
def clT : List (List E) := [stop 7 9, stop 9 7, [nt (.bin .eq (held GET) (.lit (-1))), lt (held GET) (.lit 0)], [nt (.bin .eq put (.lit (-1))), lt put (.lit 0), le LEN (nv 7), le (nv 7) G],
  [nt (.bin .eq (held (nv 14)) (non (nv 14) (ago (nv 14))))], [.bin .eq (non GET (.lit 0)) (.lit (-1)), le (.lit 0) (non GET (ago GET))], [nt (.bin .eq (non GET (.lit 0)) (.lit (-1))), lt (non GET (ago GET)) (.lit 0)], [nt (.bin .eq (non GET (.lit 0)) (non GET (ago GET)))]]
def clZ : List (List E) := [stop 6 8, stop 8 6]
def cs0 : List (List E) := [[.bin .le (.fn 1 (.lit 0) (.lit 0) (.lit 0)) (nv 1)], [.bin .le (.lit 60) (nv 1)]]
def lo0 (e : E) : List E := [lt e (.lit 0)]
def hi0 (e : E) : List E := [le (.lit 0) e]
def gets : List (List E) := [lo0 GET, [le (.lit 0) GET, le (nv 0) GET], [le (.lit 0) GET, lt GET (nv 0)]]
def ats : List (List E) := [lo0 AT, [le (.lit 0) AT, lt (nv 0) AT], [le (.lit 0) AT, le AT (nv 0)]]
def lens : List (List E) := [[le LEN (.lit 0)], [lt (.lit 0) LEN]]
def cs : List (List E) := cs0 ++ lens.flatMap fun l => ats.flatMap fun a => gets.map fun g => g ++ a ++ l ++ going
def getsZ : List (List E) := [lo0 GET, hi0 GET]
def csZ : List (List E) := cs0 ++ lens.flatMap fun l => ats.flatMap fun a => getsZ.map fun g => g ++ a ++ l ++ going
noncomputable def inner : LoopOracle := gOracle Try.prog noOracle (hOracle Try.prog noOracle noLoops (bodies fns) 4000 hs9) (bodies fns) 4000 gs
noncomputable def loopedTableActs : LoopOracle := cOracle actsT (cOracle actsZ (pOracle Try.prog noOracle inner (bodies fns) 4000 ⟨newH, [75, 3]⟩ inner))
end Go.Proofs.Ytjgobpmhdeancaa.GsTableActs
