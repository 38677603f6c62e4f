/- The law MemoryGrows: for every input the Go code returns true, and what it was given reads as it did. No condition. -/
import Derived.Test.YtjgobpmhdeancaaRows
import Derived.Test.YtjgobpmhdeancaaBaseMake
import Derived.Test.YtjgobpmhdeancaaPlainMemoryGrows
import Derived.Test.YtjgobpmhdeancaaPlArgs
import Derived.WalkKit
import Derived.ProofKit
import Derived.OpenShut
namespace Go.Proofs.Ytjgobpmhdeancaa.memoryGrows
open Go Go.Sx Go.Proofs.Ytjgobpmhdeancaa.RunMemoryGrows Go.Proofs.Ytjgobpmhdeancaa.PlainMemoryGrows Go.Proofs.Args
open Go.ChangeShapes Go.WideShapes Go.ChangeAt Go.RowKit
set_option linter.unusedVariables false

def theFn (Z : Nat → Int) (n : Nat) : Nat → Int → Int → Int → Int := fun f j c _ => match f with
  | 0 => Z j.toNat
  | 1 => (n : Int)
  | 90 => deco j c
  | _ => 0
theorem walk (a0 a1 a2 : Int) (v3 : Value) (w0 : (Lit.int .i64 a0).wf = true) (w1 : (Lit.int .i64 a1).wf = true) (w2 : (Lit.int .i64 a2).wf = true) (w : World)
    (h3 : ∃ (a : Option Addr) (n cap : Nat) (Z : Nat → Int), v3 = .slice a n cap ∧ n ≤ maxLen ∧ ∀ j, j < n → ∃ b, a = some b ∧ b.block < w.heap.size ∧ w.cell? (b.add j) = some (.int .i64 (Z j)) ∧ (Lit.int .i64 (Z j)).wf = true) :
    Calls Try.prog 5 #[.int .i64 a0, .int .i64 a1, .int .i64 a2, v3] w fun e w' => e = .returned (.bool true) ∧ Grown w w' ∧ ∀ i, i < w.heap.size → w'.heap[i]? = w.heap[i]? := by
  obtain ⟨a, n, cap, Z, rfl, _, hZ⟩ := h3
  have h := law_callsI (w := w) (theFn Z n) (fun _ => .slice a n cap) (noOracle_ok _ _) (loopedMemoryGrows_ok w (codeOk_of fun j c => rfl)) fnsKnown (fun ρ hfn hraw sp hsp => by
    simp only [inpMemoryGrows, List.mem_singleton] at hsp
    subst hsp
    intro c
    refine ⟨a, n, cap, by simp [Env2.inAt, hraw], by simp only [E.den, hfn]; rfl, fun j hj => ?_⟩
    obtain ⟨b, e1, e2, e3, e4⟩ := hZ j hj
    refine ⟨b, e1, e2, fun k v hv => ?_⟩
    cases k with
    | succ k => simp at hv
    | zero =>
      simp at hv
      subst hv
      rw [Nat.mul_one, Nat.add_zero, e3]
      have hw := wrap_has (has_of_wf e4)
      simp only [V.den, E.den, Un.den, Env2.two, hfn, theFn]
      simp [hw]) lawRan (vals [a0, a1, a2, 0]) (fun u hu => ⟨fun p hp => by
    have h0 : u 0 = a0 := hu 0 (by decide)
    have h1 : u 1 = a1 := hu 1 (by decide)
    have h2 : u 2 = a2 := hu 2 (by decide)
    have h3 : u 3 = 0 := hu 3 (by decide)
    simp only [bd, List.mem_cons, List.not_mem_nil, or_false] at hp
    rcases hp with rfl | rfl | rfl | rfl
    · show Iv.has _ (u 0)
      rw [h0]; exact has_of_wf w0
    · show Iv.has _ (u 1)
      rw [h1]; exact has_of_wf w1
    · show Iv.has _ (u 2)
      rw [h2]; exact has_of_wf w2
    · show Iv.has _ (u 3)
      rw [h3]; exact ⟨fun l hl => (by cases hl; decide), fun l hl => (by cases hl; decide)⟩, fun e he => by cases he⟩) [.int .i64 a0, .int .i64 a1, .int .i64 a2, .slice a n cap] (fun ρ hv hfn hraw => by
    have h0 : ρ.v 0 = a0 := hv 0 (by decide)
    have h1 : ρ.v 1 = a1 := hv 1 (by decide)
    have h2 : ρ.v 2 = a2 := hv 2 (by decide)
    simp only [args, V.denL, V.den, E.den, h0, h1, h2, Env2.inAt, hraw]) (fun u _ => plain _)
  exact h

theorem readable : (Try.f5.params.toList.all fun t => Try.prog.readableRec t && decide (t < Try.prog.types.size)) = true := by kernel_rfl
set_option maxRecDepth 100000 in
theorem lifted (os : Os) (started : os.Started) (H : Type) (enc : TypeId × Value → H) :
    ReturnsInHanded {} Try.checked os 5 .any (Rows.memoryGrowsSpec.pre6 enc Try.prog Try.f5 Rows.memoryGrowsRow.domain false) (Rows.memoryGrowsSpec.post enc Try.prog Try.f5 false true false false) := by
  refine returnsInHanded_of_change (C := Try.checked) Base.own started (by kernel_rfl) Try.func5
    (ChangeSpec.witness6 (enc := enc) (C := Try.checked) false ⟨#[], #[.int .i64 0, .int .i64 0, .int .i64 0, .slice none 0 0], []⟩ 5 (by kernel_rfl) (by kernel_rfl) (by kernel_rfl) (by kernel_rfl)) ?_
  intro W base args ds gs before hval0 hW hcnd _
  have hval : ∀ (j : Nat) t v, Try.f5.params[j]? = some t → args[j]? = some v → Value.okWide Try.prog W .any base t v := hval0
  have hW' := hW
  obtain ⟨p, q, hA0, hV, rfl, hfz, hnd⟩ := hW
  have hA : DataW.TrodAll enc Try.prog W 0 (fun _ => true) true Try.f5.params.toList args.toList ds p := hA0
  have hA1 := hA
  rw [Try.params5] at hA hval
  obtain ⟨v0, vs0, d0, ds0, p0, q0, hargs, rfl, rfl, h0, r0⟩ := trodAll_cons hA
  obtain ⟨v1, vs1, d1, ds1, p1, q1, rfl, rfl, rfl, h1, r1⟩ := trodAll_cons r0
  obtain ⟨v2, vs2, d2, ds2, p2, q2, rfl, rfl, rfl, h2, r2⟩ := trodAll_cons r1
  obtain ⟨v3, vs3, d3, ds3, p3, q3, rfl, rfl, rfl, h3, r3⟩ := trodAll_cons r2
  obtain ⟨rfl, rfl, rfl⟩ := trodAll_nil r3
  obtain rfl : args = #[v0, v1, v2, v3] := by cases args; simp_all
  obtain ⟨rfl, rfl⟩ := trodVars_none hV
  have s3 := okWide_slice Try.underlying38 (hval 3 38 v3 rfl rfl)
  have i3 := in_ints Try.underlying38 Try.underlying3 (by kernel_rfl) h3 s3
  obtain ⟨a0, rfl, rfl, rfl, w0⟩ := open_int Try.underlying3 (hval 0 3 v0 rfl rfl) h0
  obtain ⟨a1, rfl, rfl, rfl, w1⟩ := open_int Try.underlying3 (hval 1 3 v1 rfl rfl) h1
  obtain ⟨a2, rfl, rfl, rfl, w2⟩ := open_int Try.underlying3 (hval 2 3 v2 rfl rfl) h2
  clear hA0 hval0
  refine (walk a0 a1 a2 v3 w0 w1 w2 W i3).mono fun e W' ⟨he, hg, hold⟩ => ?_
  subst he
  exact ⟨_, rfl, post_of_same (pv := []) hW' (fun _ _ _ => (trodAll_cons_mk (shut_bool Try.underlying4 _) trodAll_mk0)) (fun sp hsp => stays_all Base.laidOut hold (fun t ht => by
      have := List.all_eq_true.1 readable t ht
      simpa using this) hA1 (fun x hx => hsp x (by simpa using hx))) (fun _ _ => rfl) rfl
    (hg.frame _) hg.2.1 (ok_one (by kernel_rfl) rfl (okWide_bool_mk Try.underlying4 _))⟩

set_option maxRecDepth 100000 in
theorem closed : joinedFacts Try.prog 5 Try.f5 Rows.memoryGrowsSpec Rows.memoryGrowsRow = true := by
  unfold joinedFacts
  rw [Base.laidOut, Base.mapsRow, Base.stopsHeard, Base.mayEnter, Base.plainKeys, Base.lifts, Base.make]
  kernel_rfl
theorem over : Rows.memoryGrowsRow.holds Try.pinned (OpenSpec.ofChange Rows.memoryGrowsSpec) :=
  OpenClaim.holds_of_wide 5 Try.f5 rfl rfl rfl rfl rfl rfl rfl ⟨rfl, rfl, rfl, rfl, rfl⟩ rfl rfl rfl rfl rfl (by kernel_rfl) Try.func5 closed
    (of_decide_eq_true (by kernel_rfl)) (by unfold Func.isWrapper; first | (rw [if_pos (by decide +kernel)]; kernel_rfl) | (rw [if_neg (by decide +kernel)]; exact ⟨rfl, rfl⟩))
    (fun os started H enc _ => lifted os started H enc)

/-- The statement. -/
theorem proved : Rows.MemoryGrowsSaid :=
  over
end Go.Proofs.Ytjgobpmhdeancaa.memoryGrows
