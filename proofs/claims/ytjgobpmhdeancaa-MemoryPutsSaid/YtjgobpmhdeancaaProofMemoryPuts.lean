/- The law MemoryPuts: for every input the Go code returns true, and what it was given reads as it did. No condition. -/
import Derived.Test.YtjgobpmhdeancaaRows
import Derived.Test.YtjgobpmhdeancaaBaseMake
import Derived.Test.YtjgobpmhdeancaaPlainMemoryPuts
import Derived.Test.YtjgobpmhdeancaaPlText
import Derived.WalkKit
import Derived.ProofKit
import Derived.OpenShut
namespace Go.Proofs.Ytjgobpmhdeancaa.memoryPuts
open Go Go.Sx Go.Proofs.Ytjgobpmhdeancaa.RunMemoryPuts Go.Proofs.Ytjgobpmhdeancaa.PlainMemoryPuts 
open Go.ChangeShapes Go.WideShapes Go.ChangeAt Go.RowKit
set_option linter.unusedVariables false      -- a walk need not use every 'w<i>' (that an integer argument fits its kind)


/-! ### STEP 1: THE WALK: the Go text returns true. 'Grown w w'': the world has at most new blocks (Derived/RowKit3.lean). Part the cases AHEAD of 'go_enter' where a test parts the walk; take each callee by a contract of your own. -/
theorem walk (a0 : Int) (a1 : ByteArray) (w0 : (Lit.int .i64 a0).wf = true) (w : World) :
    Calls Try.prog 8 #[.int .i64 a0, .string a1] w fun e w' => e = .returned (.bool true) ∧ Grown w w' := by
  have h := law_callsV (w := w) (byteFn a1) (noOracle_ok _ _) (noLoops_ok _ _ _) fnsKnown (noTabs w) lawRan (vals [a0, (a1.size : Int)]) (fun u hu p hp => by
    have h0 : u 0 = a0 := hu 0 (by decide)
    have h1 : u 1 = (a1.size : Int) := hu 1 (by decide)
    simp only [bd, List.mem_cons, List.not_mem_nil, or_false] at hp
    rcases hp with rfl | rfl
    · show Iv.has _ (u 0)
      rw [h0]; exact has_of_wf w0
    · show Iv.has _ (u 1)
      rw [h1]
      exact ⟨fun l hl => by cases hl; omega, fun l hl => by cases hl⟩) [.int .i64 a0, .string a1] (fun ρ hv hfn => by
    have h0 : ρ.v 0 = a0 := hv 0 (by decide)
    have h1 : ρ.v 1 = (a1.size : Int) := hv 1 (by decide)
    simp only [args, V.denL, V.den, E.den, h0, text_in a1 ρ.toEnv 1 h1 hfn]) (fun u _ => plain _)
  exact h

/-! ### THE ROW's STEP: WRITTEN OUT: LEAVE IT -/
set_option maxRecDepth 100000 in
theorem lifted (os : Os) (started : os.Started) (H : Type) (enc : TypeId × Value → H) :
    ReturnsInHanded {} Try.checked os 8 .any (Rows.memoryPutsSpec.pre6 enc Try.prog Try.f8 Rows.memoryPutsRow.domain false) (Rows.memoryPutsSpec.post enc Try.prog Try.f8 false true false false) := by
  refine returnsInHanded_of_change (C := Try.checked) Base.own started (by kernel_rfl) Try.func8
    (ChangeSpec.witness6 (enc := enc) (C := Try.checked) false ⟨#[], #[.int .i64 0, .string ByteArray.empty], []⟩ 8 (by kernel_rfl) (by kernel_rfl) (by kernel_rfl) (by kernel_rfl)) ?_
  intro W base args ds gs before hval0 hW hcnd _
  have hval : ∀ (j : Nat) t v, Try.f8.params[j]? = some t → args[j]? = some v → Value.okWide Try.prog W .any base t v := hval0
  have hW' := hW
  obtain ⟨p, q, hA0, hV, rfl, hfz, hnd⟩ := hW
  have hA : DataW.TrodAll enc Try.prog W 0 (fun _ => true) true Try.f8.params.toList args.toList ds p := hA0
  rw [Try.params8] at hA hval
  obtain ⟨v0, vs0, d0, ds0, p0, q0, hargs, rfl, rfl, h0, r0⟩ := trodAll_cons hA
  obtain ⟨v1, vs1, d1, ds1, p1, q1, rfl, rfl, rfl, h1, r1⟩ := trodAll_cons r0
  obtain ⟨rfl, rfl, rfl⟩ := trodAll_nil r1
  obtain rfl : args = #[v0, v1] := by cases args; simp_all
  obtain ⟨rfl, rfl⟩ := trodVars_none hV
  obtain ⟨a0, rfl, rfl, rfl, w0⟩ := open_int Try.underlying3 (hval 0 3 v0 rfl rfl) h0
  obtain ⟨a1, rfl, rfl, rfl, w1⟩ := Go.ChangeMaps.open_string Try.underlying9 (hval 1 9 v1 rfl rfl) h1
  clear hA0 hval0
  simp only [List.append_nil] at hW'
  refine (walk a0 a1 w0 W).mono fun e W' ⟨he, hg⟩ => ?_
  subst he
  exact ⟨_, rfl, post_of_same (pa := []) (pv := []) hW' (fun _ _ _ => (trodAll_cons_mk (shut_bool Try.underlying4 _) trodAll_mk0)) (fun sp _ => (trodAll_cons_mk (shut_int Try.underlying3 w0) (trodAll_cons_mk (Go.ChangeMaps.shut_string Try.underlying9 w1) trodAll_mk0))) (fun _ _ => rfl) rfl
    (hg.frame _) hg.2.1 (ok_one (by kernel_rfl) rfl (okWide_bool_mk Try.underlying4 _))⟩

set_option maxRecDepth 100000 in
theorem closed : joinedFacts Try.prog 8 Try.f8 Rows.memoryPutsSpec Rows.memoryPutsRow = true := by
  unfold joinedFacts
  rw [Base.laidOut, Base.mapsRow, Base.stopsHeard, Base.mayEnter, Base.plainKeys, Base.lifts, Base.make]
  kernel_rfl
theorem over : Rows.memoryPutsRow.holds Try.pinned (OpenSpec.ofChange Rows.memoryPutsSpec) :=
  OpenClaim.holds_of_wide 8 Try.f8 rfl rfl rfl rfl rfl rfl rfl ⟨rfl, rfl, rfl, rfl, rfl⟩ rfl rfl rfl rfl rfl (by kernel_rfl) Try.func8 closed
    (of_decide_eq_true (by kernel_rfl)) (by unfold Func.isWrapper; first | (rw [if_pos (by decide +kernel)]; kernel_rfl) | (rw [if_neg (by decide +kernel)]; exact ⟨rfl, rfl⟩))
    (fun os started H enc _ => lifted os started H enc)

/-- The statement. -/
theorem proved : Rows.MemoryPutsSaid :=
  over
end Go.Proofs.Ytjgobpmhdeancaa.memoryPuts
