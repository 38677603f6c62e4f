/- The law MemoryActs: for every input the Go code returns true, and what it was given reads as it did. No condition. -/
import Derived.Test.YtjgobpmhdeancaaRows
import Derived.Test.YtjgobpmhdeancaaBaseMake
import Derived.Test.YtjgobpmhdeancaaLoMemoryActs
import Derived.Test.YtjgobpmhdeancaaRunMemoryActs
import Derived.Test.YtjgobpmhdeancaaPlArgs
import Derived.Test.YtjgobpmhdeancaaPlRow
import Derived.WalkKit
import Derived.ProofKit
import Derived.OpenShut
namespace Go.Proofs.Ytjgobpmhdeancaa.memoryActs
open Go Go.Sx Go.Proofs.Ytjgobpmhdeancaa.RunMemoryActs Go.Proofs.Ytjgobpmhdeancaa.PlainMemoryActs Go.Proofs.Args Go.Proofs.Ytjgobpmhdeancaa.GsMemoryActs
open Go.ChangeShapes Go.WideShapes Go.ChangeAt Go.RowKit
set_option linter.unusedVariables false

theorem text_of (ρ : Env) (s : ByteArray) (A : Arr) (hs : A.size.den ρ = (s.size : Int)) (hw : ∀ j : Nat, j < s.size → readW ρ A.dflt A.ws (j : Int) = (((s.data.getD j 0).toNat : Nat) : Int)) : A.bytes ρ = s := by
  apply ByteArray.ext
  apply Array.ext_getElem?
  intro j
  have hlen := bytes_len ρ A
  rw [hs, Int.toNat_natCast] at hlen
  by_cases hj : j < s.size
  · rw [bytes_get ρ A (by rw [hs]; omega), hw j hj]
    have hd : j < s.data.size := hj
    rw [Array.getElem?_eq_getElem hd, Array.getD_eq_getD_getElem?, Array.getElem?_eq_getElem hd, Option.getD_some, Int.toNat_natCast]
    simp
  · rw [Array.getElem?_eq_none (by rw [hlen]; omega), Array.getElem?_eq_none (show s.data.size ≤ j from Nat.le_of_not_lt hj)]
theorem two_cells {cs : Array Value} {x y : Value} (h : cs.size = 2) (h0 : cs.toList[0]? = some x) (h1 : cs.toList[1]? = some y) : cs = #[x, y] := by
  obtain ⟨l⟩ := cs
  match l, h with
  | [u, v], _ =>
    simp at h0 h1
    rw [h0, h1]
def theFn (Z : Nat → Nat → Int) (S : Nat → ByteArray) (n : Nat) : Nat → Int → Int → Int → Int := fun f j c _ => match f with
  | 1 => (n : Int)
  | 10 => Z 0 j.toNat
  | 11 => Z 1 j.toNat
  | 12 => Z 2 j.toNat
  | 13 => Z 3 j.toNat
  | 14 => Z 4 j.toNat
  | 15 => ((S j.toNat).size : Int)
  | 16 => (((S c.toNat).data.getD j.toNat 0).toNat : Int)
  | 90 => deco j c
  | _ => 0
def rowAct (w : World) (b : Addr) (j : Nat) (Z : Nat → Nat → Int) (S : Nat → ByteArray) : Prop :=
  (∀ k, k < 5 → w.cell? (b.add (j * 6 + k)) = some (.int .i64 (Z k j)) ∧ (Lit.int .i64 (Z k j)).wf = true) ∧ w.cell? (b.add (j * 6 + 5)) = some (.string (S j)) ∧ (S j).size ≤ maxLen
theorem walk (a0 a1 a2 : Int) (v3 : Value) (w0 : (Lit.int .i64 a0).wf = true) (w1 : (Lit.int .i64 a1).wf = true) (w2 : (Lit.int .i64 a2).wf = true) (w : World)
    (h3 : ∃ (a : Option Addr) (n cap : Nat) (Z : Nat → Nat → Int) (S : Nat → ByteArray), v3 = .slice a n cap ∧ ∀ j, j < n → ∃ b, a = some b ∧ b.block < w.heap.size ∧ rowAct w b j Z S) :
    Calls Try.prog 7 #[.agg #[.int .i64 a0, .int .i64 a1], .int .i64 a2, v3] w fun e w' => e = .returned (.bool true) ∧ Grown w w' ∧ ∀ i, i < w.heap.size → w'.heap[i]? = w.heap[i]? := by
  obtain ⟨a, n, cap, Z, S, rfl, hZ⟩ := h3
  have h := law_callsI (w := w) (theFn Z S n) (fun _ => .slice a n cap) (noOracle_ok _ _) (loopedMemoryActs_ok w (codeOk_of fun j c => rfl)) fnsKnown (fun ρ hfn hraw sp hsp => by
    simp only [inpMemoryActs, List.mem_singleton] at hsp
    subst hsp
    intro c
    refine ⟨a, n, cap, by simp [Env2.inAt, hraw], by simp only [E.den, hfn]; rfl, fun j hj => ?_⟩
    obtain ⟨b, e1, e2, e3, e4, e5⟩ := hZ j hj
    refine ⟨b, e1, e2, fun k v hv => ?_⟩
    have num : ∀ k, k < 5 → ∀ f, theFn Z S n f (j : Int) 0 0 = Z k j → w.cell? (b.add (j * 6 + k)) = some ((fld f).den (ρ.two j c)) := fun k hk f hf => by
      obtain ⟨e6, e7⟩ := e3 k hk
      rw [e6]
      simp only [fld, V.den, E.den, Un.den, Env2.two, hfn, if_true]
      rw [hf, wrap_has (has_of_wf e7)]
    match k, hv with
    | 0, hv => simp at hv; subst hv; exact num 0 (by decide) 10 (by simp [theFn])
    | 1, hv => simp at hv; subst hv; exact num 1 (by decide) 11 (by simp [theFn])
    | 2, hv => simp at hv; subst hv; exact num 2 (by decide) 12 (by simp [theFn])
    | 3, hv => simp at hv; subst hv; exact num 3 (by decide) 13 (by simp [theFn])
    | 4, hv => simp at hv; subst hv; exact num 4 (by decide) 14 (by simp [theFn])
    | 5, hv =>
      simp at hv
      subst hv
      rw [e4]
      simp only [V.den]
      congr 2
      refine (text_of _ (S j) _ ?_ fun i hi => ?_).symm
      · simp only [E.den, Bi.den, Env2.two, hfn, theFn, if_true, Int.toNat_natCast]
        have : maxLen < 9223372036854775808 := by decide
        omega
      · simp only [readW, D.at, E.den, Env2.two, hfn, theFn, if_true, Int.toNat_natCast, Int.add_zero]
        have hb : ((S j).data.getD i 0).toNat < 256 := ((S j).data.getD i 0).toNat_lt
        generalize ((S j).data.getD i 0).toNat = t at hb ⊢
        simp only [IntKind.wrap, IntKind.bits, IntKind.signed]
        simp
        omega
    | k + 6, hv => simp at hv) lawRan (vals [a0, a1, a2]) (fun u hu => ⟨fun p hp => by
    have h0 : u 0 = a0 := hu 0 (by decide)
    have h1 : u 1 = a1 := hu 1 (by decide)
    have h2 : u 2 = a2 := hu 2 (by decide)
    simp only [bd, kindBd, List.mem_cons, List.not_mem_nil, or_false] at hp
    rcases hp with rfl | rfl | rfl
    · show Iv.has _ (u 0)
      rw [h0]; exact has_of_wf w0
    · show Iv.has _ (u 1)
      rw [h1]; exact has_of_wf w1
    · show Iv.has _ (u 2)
      rw [h2]; exact has_of_wf w2, fun e he => by cases he⟩) [.agg #[.int .i64 a0, .int .i64 a1], .int .i64 a2, .slice a n cap] (fun ρ hv hfn hraw => by
    have h0 : ρ.v 0 = a0 := hv 0 (by decide)
    have h1 : ρ.v 1 = a1 := hv 1 (by decide)
    have h2 : ρ.v 2 = a2 := hv 2 (by decide)
    simp only [args, V.denL, V.den, E.den, h0, h1, h2, Env2.inAt, hraw]) (fun u _ => law_of_facts (fs := []) trivial (by decide))
  exact h

theorem readable : (Try.f7.params.toList.all fun t => Try.prog.readableRec t && decide (t < Try.prog.types.size)) = true := by kernel_rfl
set_option maxRecDepth 100000 in
theorem lifted (os : Os) (started : os.Started) (H : Type) (enc : TypeId × Value → H) :
    ReturnsInHanded {} Try.checked os 7 .any (Rows.memoryActsSpec.pre6 enc Try.prog Try.f7 Rows.memoryActsRow.domain false) (Rows.memoryActsSpec.post enc Try.prog Try.f7 false true false false) := by
  refine returnsInHanded_of_change (C := Try.checked) Base.own started (by kernel_rfl) Try.func7
    (ChangeSpec.witness6 (enc := enc) (C := Try.checked) false ⟨#[], #[.agg #[.int .i64 0, .int .i64 0], .int .i64 0, .slice none 0 0], []⟩ 7 (by kernel_rfl) (by kernel_rfl) (by kernel_rfl) (by kernel_rfl)) ?_
  intro W base args ds gs before hval0 hW hcnd _
  have hval : ∀ (j : Nat) t v, Try.f7.params[j]? = some t → args[j]? = some v → Value.okWide Try.prog W .any base t v := hval0
  have hW' := hW
  obtain ⟨p, q, hA0, hV, rfl, hfz, hnd⟩ := hW
  have hA : DataW.TrodAll enc Try.prog W 0 (fun _ => true) true Try.f7.params.toList args.toList ds p := hA0
  have hA1 := hA
  rw [Try.params7] at hA hval
  obtain ⟨v0, vs0, d0, ds0, p0, q0, hargs, rfl, rfl, h0, r0⟩ := trodAll_cons hA
  obtain ⟨v1, vs1, d1, ds1, p1, q1, rfl, rfl, rfl, h1, r1⟩ := trodAll_cons r0
  obtain ⟨v2, vs2, d2, ds2, p2, q2, rfl, rfl, rfl, h2, r2⟩ := trodAll_cons r1
  obtain ⟨rfl, rfl, rfl⟩ := trodAll_nil r2
  obtain rfl : args = #[v0, v1, v2] := by cases args; simp_all
  obtain ⟨rfl, rfl⟩ := trodVars_none hV
  obtain ⟨a2, rfl, rfl, rfl, w2⟩ := open_int Try.underlying3 (hval 1 3 v1 rfl rfl) h1
  have s2 := okWide_slice Try.underlying41 (hval 2 41 v2 rfl rfl)
  obtain ⟨cs0, rfl, hcs0⟩ := okWide_struct Try.underlying28 (hval 0 28 v0 rfl rfl)
  obtain ⟨m0, hm0⟩ := h0
  simp only [Value.cells] at hm0
  obtain ⟨a0, e0, w0⟩ := int_field Try.underlying28 hm0 0 rfl (by kernel_rfl) (by decide +kernel) Try.underlying3
  obtain ⟨a1, e1, w1⟩ := int_field Try.underlying28 hm0 1 rfl (by kernel_rfl) (by decide +kernel) Try.underlying3
  have hc2 : Try.prog.cellsOf 28 = 2 := by kernel_rfl
  have hcs : cs0 = #[.int .i64 a0, .int .i64 a1] := two_cells (hcs0.trans hc2) e0 e1
  subst hcs
  have hc6 : Try.prog.cellsOf 46 = 6 := by kernel_rfl
  obtain ⟨a, n, cap, hsl, _, hrow⟩ := in_row Try.underlying41 hc6 (by decide) h2 s2
  have hact : ∀ j, j < n → ∃ q : (Nat → Int) × ByteArray, ∃ b, a = some b ∧ b.block < W.heap.size ∧ ((∀ k, k < 5 → W.cell? (b.add (j * 6 + k)) = some (.int .i64 (q.1 k)) ∧ (Lit.int .i64 (q.1 k)).wf = true) ∧ W.cell? (b.add (j * 6 + 5)) = some (.string q.2) ∧ q.2.size ≤ maxLen) := fun j hj => by
    obtain ⟨b, cs, m, x, k1, k2, k3, k4, k5⟩ := hrow j hj
    obtain ⟨z0, f0, g0⟩ := int_field Try.underlying46 k5 0 rfl (by kernel_rfl) (by decide +kernel) Try.underlying3
    obtain ⟨z1, f1, g1⟩ := int_field Try.underlying46 k5 1 rfl (by kernel_rfl) (by decide +kernel) Try.underlying3
    obtain ⟨z2, f2, g2⟩ := int_field Try.underlying46 k5 2 rfl (by kernel_rfl) (by decide +kernel) Try.underlying3
    obtain ⟨z3, f3, g3⟩ := int_field Try.underlying46 k5 3 rfl (by kernel_rfl) (by decide +kernel) Try.underlying3
    obtain ⟨z4, f4, g4⟩ := int_field Try.underlying46 k5 4 rfl (by kernel_rfl) (by decide +kernel) Try.underlying3
    obtain ⟨s5, f5, g5⟩ := string_field Try.underlying46 k5 5 rfl (by kernel_rfl) (by decide +kernel) Try.underlying9
    refine ⟨(fun k => match k with | 0 => z0 | 1 => z1 | 2 => z2 | 3 => z3 | _ => z4, s5), b, k1, k2, fun k hk => ?_, (k4 5 (by decide)).trans f5, g5⟩
    have : k = 0 ∨ k = 1 ∨ k = 2 ∨ k = 3 ∨ k = 4 := by omega
    rcases this with rfl | rfl | rfl | rfl | rfl
    · exact ⟨(k4 0 (by decide)).trans f0, g0⟩
    · exact ⟨(k4 1 (by decide)).trans f1, g1⟩
    · exact ⟨(k4 2 (by decide)).trans f2, g2⟩
    · exact ⟨(k4 3 (by decide)).trans f3, g3⟩
    · exact ⟨(k4 4 (by decide)).trans f4, g4⟩
  haveI : Inhabited ((Nat → Int) × ByteArray) := ⟨(fun _ => 0, ByteArray.empty)⟩
  obtain ⟨F, hF⟩ := Go.Deep.choose_lt hact
  clear hA0 hval0
  refine (walk a0 a1 a2 v2 w0 w1 w2 W ⟨a, n, cap, fun k j => (F j).1 k, fun j => (F j).2, hsl, fun j hj => hF j hj⟩).mono fun e W' ⟨he, hg, hold⟩ => ?_
  subst he
  exact ⟨_, rfl, post_of_same (pv := []) hW' (fun _ _ _ => (trodAll_cons_mk (shut_bool Try.underlying4 _) trodAll_mk0)) (fun sp hsp => stays_all Base.laidOut hold (fun t ht => by
      have := List.all_eq_true.1 readable t ht
      simpa using this) hA1 (fun x hx => hsp x (by simpa using hx))) (fun _ _ => rfl) rfl
    (hg.frame _) hg.2.1 (ok_one (by kernel_rfl) rfl (okWide_bool_mk Try.underlying4 _))⟩

set_option maxRecDepth 100000 in
theorem closed : joinedFacts Try.prog 7 Try.f7 Rows.memoryActsSpec Rows.memoryActsRow = true := by
  unfold joinedFacts
  rw [Base.laidOut, Base.mapsRow, Base.stopsHeard, Base.mayEnter, Base.plainKeys, Base.lifts, Base.make]
  kernel_rfl
theorem over : Rows.memoryActsRow.holds Try.pinned (OpenSpec.ofChange Rows.memoryActsSpec) :=
  OpenClaim.holds_of_wide 7 Try.f7 rfl rfl rfl rfl rfl rfl rfl ⟨rfl, rfl, rfl, rfl, rfl⟩ rfl rfl rfl rfl rfl (by kernel_rfl) Try.func7 closed
    (of_decide_eq_true (by kernel_rfl)) (by unfold Func.isWrapper; first | (rw [if_pos (by decide +kernel)]; kernel_rfl) | (rw [if_neg (by decide +kernel)]; exact ⟨rfl, rfl⟩))
    (fun os started H enc _ => lifted os started H enc)

/-- The statement. -/
theorem proved : Rows.MemoryActsSaid :=
  over
end Go.Proofs.Ytjgobpmhdeancaa.memoryActs
