/- The law TableActs: for every input the Go code returns true, and what it was given reads as it did. No condition. -/
import Derived.Test.YtjgobpmhdeancaaRows
import Derived.Test.YtjgobpmhdeancaaBaseMake
import Derived.Test.YtjgobpmhdeancaaLoTableActs
import Derived.Test.YtjgobpmhdeancaaRunTableActs
import Derived.Test.YtjgobpmhdeancaaPlArgs
import Derived.Test.YtjgobpmhdeancaaPlRow
import Derived.Test.YtjgobpmhdeancaaPlRowD
import Derived.WalkKit
import Derived.ProofKit
import Derived.OpenShut
namespace Go.Proofs.Ytjgobpmhdeancaa.tableActs
open Go Go.Sx Go.Proofs.Ytjgobpmhdeancaa.RunTableActs Go.Proofs.Ytjgobpmhdeancaa.PlainTableActs Go.Proofs.Args Go.Proofs.Ytjgobpmhdeancaa.GsTableActs
open Go.ChangeShapes Go.WideShapes Go.ChangeAt Go.RowKit
set_option linter.unusedVariables false
theorem two_cells {cs : Array Value} {x y : Value} (h : cs.size = 2) (h0 : cs.toList[0]? = some x) (h1 : cs.toList[1]? = some y) : cs = #[x, y] := by
  obtain ⟨l⟩ := cs
  match l, h with
  | [u, v], _ =>
    simp at h0 h1
    rw [h0, h1]

/-! ### what cannot be -/
def tt (i : Nat) : E := .ite (.bin .and (.bin .le (.lit 1) (.var i)) (.bin .lt (.var i) (.lit 2))) (.lit 7) (.ite (.bin .and (.bin .le (.lit 2) (.var i)) (.bin .lt (.var i) (.lit 3))) (.lit 8) (.lit (-1)))
def three (i : Nat) : List (List E) := [[.un .bnot (.bin .eq (tt i) (.lit (-1))), .bin .eq (.var i) (.lit 0)], [.un .bnot (.bin .eq (tt i) (.lit 7)), .bin .eq (.var i) (.lit 1)], [.un .bnot (.bin .eq (tt i) (.lit 8)), .bin .eq (.var i) (.lit 2)]]
def never : List (List E) := three 4 ++ three 8 ++ three 16
theorem ttIs (ρ : Env) (i : Nat) : (tt i).den ρ = if 1 ≤ ρ.v i ∧ ρ.v i < 2 then 7 else if 2 ≤ ρ.v i ∧ ρ.v i < 3 then 8 else -1 := by
  unfold tt
  rw [den_if, den_if]
  have h1 : (E.prop ρ (.bin .and (.bin .le (.lit 1) (.var i)) (.bin .lt (.var i) (.lit 2)))) ↔ (1 ≤ ρ.v i ∧ ρ.v i < 2) := Iff.rfl
  have h2 : (E.prop ρ (.bin .and (.bin .le (.lit 2) (.var i)) (.bin .lt (.var i) (.lit 3)))) ↔ (2 ≤ ρ.v i ∧ ρ.v i < 3) := Iff.rfl
  simp only [h1, h2, E.den]
theorem no3 (ρ : Env) (i : Nat) : ∀ c ∈ three i, chain ρ False c := by
  intro c hc
  simp only [three, List.mem_cons, List.not_mem_nil, or_false] at hc
  have ht := ttIs ρ i
  rcases hc with rfl | rfl | rfl
  · intro h1 h2
    have h1 : ρ.v i = 0 := h1
    refine h2 (show (tt i).den ρ = -1 from ?_)
    rw [ht, h1]; rfl
  · intro h1 h2
    have h1 : ρ.v i = 1 := h1
    refine h2 (show (tt i).den ρ = 7 from ?_)
    rw [ht, h1]; rfl
  · intro h1 h2
    have h1 : ρ.v i = 2 := h1
    refine h2 (show (tt i).den ρ = 8 from ?_)
    rw [ht, h1]; rfl
theorem all_clauses {ρ : Env} : ∀ {cs : List (List E)}, (∀ c ∈ cs, chain ρ False c) → ClausesOk ρ cs
  | [], _ => trivial
  | c :: r, h => ⟨h c List.mem_cons_self, all_clauses fun d hd => h d (List.mem_cons_of_mem _ hd)⟩
theorem neverOk (ρ : Env) : ClausesOk ρ never := all_clauses fun c hc => by
  simp only [never, List.mem_append] at hc
  rcases hc with (hc | hc) | hc
  · exact no3 ρ 4 c hc
  · exact no3 ρ 8 c hc
  · exact no3 ρ 16 c hc

/-! ### what the functions of numbers are -/
def front (F : Nat → Int) : Nat → Nat → Nat
  | i, 0 => i
  | i, k + 1 => if F i < 0 then i else front F (i + 1) k
theorem front_is (F : Nat → Int) : ∀ k i : Nat, i ≤ front F i k ∧ front F i k ≤ i + k ∧ (∀ j, i ≤ j → j < front F i k → 0 ≤ F j) ∧ (front F i k < i + k → F (front F i k) < 0)
  | 0, i => ⟨Nat.le_refl _, Nat.le_refl _, fun j h1 h2 => by simp only [front] at h2; omega, fun h => by simp only [front] at h; omega⟩
  | k + 1, i => by
    simp only [front]
    split
    · rename_i h
      exact ⟨by omega, by omega, fun j h1 h2 => by omega, fun _ => h⟩
    · rename_i h
      obtain ⟨h1, h2, h3, h4⟩ := front_is F k (i + 1)
      refine ⟨by omega, by omega, fun j g1 g2 => ?_, fun g => h4 (by omega)⟩
      by_cases e : j = i
      · subst e; omega
      · exact h3 j (by omega) g2
def theFn (n : Nat) (At Get : Nat → Int) (m : Nat → Nat) (F : Nat → Nat → Int) : Nat → Int → Int → Int → Int := fun f j c _ => match f with
  | 1 => (n : Int)
  | 10 => At j.toNat
  | 12 => Get j.toNat
  | 13 => (m j.toNat : Int)
  | 14 => if j < 0 then 0 else if j.toNat < m c.toNat then F c.toNat j.toNat else -1
  | 60 => (front (F j.toNat) 0 (m j.toNat) : Int)
  | 90 => deco j c
  | 91 => deco1 j c
  | _ => 0
theorem deco1_least (j c : Int) : -1 ≤ IntKind.i64.wrap (deco1 j c) := by
  rw [IntKind.wrap_i64, deco1]
  split <;> omega
theorem wrap_minus : IntKind.i64.wrap (-1) = -1 := rfl
theorem keeps (n : Nat) (At Get : Nat → Int) (m : Nat → Nat) (F : Nat → Nat → Int) (hm : ∀ c, m c ≤ 17592186043904) (hF : ∀ c j, j < m c → IntKind.i64.wrap (F c j) = F c j) : Keeps (theFn n At Get m F) := by
  have h60 : ∀ c : Int, theFn n At Get m F 60 c 0 0 % 35184372088832 = (front (F c.toNat) 0 (m c.toNat) : Int) := fun c => by
    show ((front (F c.toNat) 0 (m c.toNat) : Nat) : Int) % 35184372088832 = _
    have := (front_is (F c.toNat) (m c.toNat) 0).2.1
    have := hm c.toNat
    omega
  have h14 : ∀ j c : Int, theFn n At Get m F 14 j c 0 = if j < 0 then 0 else if j.toNat < m c.toNat then F c.toNat j.toNat else -1 := fun j c => rfl
  refine ⟨fun j c h0 h1 => ?_, fun j c h => ?_, fun c => ?_, fun j c => deco1_least j c⟩
  · rw [h60] at h1
    obtain ⟨_, g2, g3, _⟩ := front_is (F c.toNat) (m c.toNat) 0
    rw [h14, if_neg (by omega), if_pos (by omega), hF _ _ (by omega)]
    exact g3 j.toNat (Nat.zero_le _) (by omega)
  · rw [h60]
    obtain ⟨_, g2, g3, _⟩ := front_is (F c.toNat) (m c.toNat) 0
    rw [h14] at h
    split at h
    · rename_i hj
      have : IntKind.i64.wrap 0 = 0 := rfl
      omega
    · rename_i hj
      split at h
      · rename_i hm'
        rw [hF _ _ hm'] at h
        by_cases hlt : j.toNat < front (F c.toNat) 0 (m c.toNat)
        · have := g3 j.toNat (Nat.zero_le _) hlt
          omega
        · omega
      · omega
  · rw [h60, h14, if_neg (by omega), Int.toNat_natCast]
    obtain ⟨_, g2, _, g4⟩ := front_is (F c.toNat) (m c.toNat) 0
    split
    · rename_i h
      rw [hF _ _ h]
      exact g4 (by omega)
    · rw [wrap_minus]; omega
structure RowAct (w : World) (b : Addr) (j : Nat) (at_ get_ : Int) (v : Value) : Prop where
  c0 : w.cell? (b.add (j * 3 + 0)) = some (.int .i64 at_)
  c1 : w.cell? (b.add (j * 3 + 1)) = some v
  c2 : w.cell? (b.add (j * 3 + 2)) = some (.int .i64 get_)
  w0 : (Lit.int .i64 at_).wf = true
  w2 : (Lit.int .i64 get_).wf = true
structure RowInts (w : World) (v : Value) (m : Nat) (F : Nat → Int) : Prop where
  is : ∃ (a : Option Addr) (cap : Nat), v = .slice a m cap ∧ ∀ i, i < m → ∃ b, a = some b ∧ b.block < w.heap.size ∧ w.cell? (b.add i) = some (.int .i64 (F i)) ∧ (Lit.int .i64 (F i)).wf = true
  most : m ≤ 17592186043904
def rawOf (v3 : Value) (fs : Nat → Value) (n i : Nat) : Value := if i % 64 = 1 then (if i / 64 < n then fs (i / 64) else .slice none 0 0) else v3
theorem walk (a0 a1 : Int) (v3 : Value) (w0 : (Lit.int .i64 a0).wf = true) (w1 : (Lit.int .i64 a1).wf = true) (w : World)
    (h3 : ∃ (a : Option Addr) (n cap : Nat) (At Get : Nat → Int) (fs : Nat → Value) (m : Nat → Nat) (F : Nat → Nat → Int), v3 = .slice a n cap ∧ ∀ j, j < n → (∃ b, a = some b ∧ b.block < w.heap.size ∧ RowAct w b j (At j) (Get j) (fs j)) ∧ RowInts w (fs j) (m j) (F j)) :
    Calls Try.prog 9 #[.agg #[.int .i64 a0, .int .i64 a1], v3] w fun e w' => e = .returned (.bool true) ∧ Grown w w' ∧ ∀ i, i < w.heap.size → w'.heap[i]? = w.heap[i]? := by
  obtain ⟨a, n, cap, At, Get, fs, m0, F, rfl, hZ⟩ := h3
  let m : Nat → Nat := fun c => if c < n then m0 c else 0
  have hmn : ∀ c, c < n → m c = m0 c := fun c hc => if_pos hc
  have hm : ∀ c, m c ≤ 17592186043904 := fun c => by
    by_cases hc : c < n
    · rw [hmn c hc]; exact (hZ c hc).2.most
    · show (if c < n then m0 c else 0) ≤ _; rw [if_neg hc]; omega
  have hF : ∀ c j, j < m c → IntKind.i64.wrap (F c j) = F c j := fun c j hj => by
    by_cases hc : c < n
    · rw [hmn c hc] at hj
      obtain ⟨a', cap', _, h⟩ := (hZ c hc).2.is
      obtain ⟨_, _, _, _, h⟩ := h j hj
      exact wrap_has (has_of_wf h)
    · have : m c = 0 := if_neg hc
      omega
  have k := keeps n At Get m F hm hF
  have h := law_callsI (w := w) (theFn n At Get m F) (rawOf (.slice a n cap) fs n) (noOracle_ok _ _) (loopedTableActs_ok w (codeOk_of (fun j c => rfl) (fun j c => rfl)) k) fnsKnown (fun ρ hfn hraw sp hsp => by
    simp only [inpTableActs, List.mem_cons, List.not_mem_nil, or_false] at hsp
    rcases hsp with rfl | rfl
    · intro c
      have hin : ρ.inAt 0 c = .slice a n cap := by
        simp only [Env2.inAt, hraw, rawOf]
        rw [if_neg (by omega)]
      refine ⟨a, n, cap, hin, by simp only [E.den, hfn]; rfl, fun j hj => ?_⟩
      obtain ⟨⟨b, e1, e2, e3⟩, e4⟩ := hZ j hj
      refine ⟨b, e1, e2, fun q v hv => ?_⟩
      match q, hv with
      | 0, hv =>
        simp at hv; subst hv
        rw [e3.c0]
        simp only [fld, V.den, E.den, Un.den, Env2.two, hfn, theFn, if_true, Int.toNat_natCast]
        rw [wrap_has (has_of_wf e3.w0)]
      | 1, hv =>
        simp at hv; subst hv
        rw [e3.c1]
        obtain ⟨a', cap', e5, _⟩ := e4.is
        have h1 : ρ.inAt 1 j = fs j := by
          simp only [Env2.inAt, hraw, rawOf]
          rw [if_pos (by omega), show (1 + 64 * j) / 64 = j by omega, if_pos hj]
        have h2 : (ρ.two j c).inAt 1 j = ρ.inAt 1 j := rfl
        simp only [V.den, E.den, Env2.two, if_true, Int.toNat_natCast]
        show _ = some (sliceIn ((ρ.two j c).inAt 1 j))
        rw [h2, h1, e5]; rfl
      | 2, hv =>
        simp at hv; subst hv
        rw [e3.c2]
        simp only [fld, V.den, E.den, Un.den, Env2.two, hfn, theFn, if_true, Int.toNat_natCast]
        rw [wrap_has (has_of_wf e3.w2)]
      | q + 3, hv => simp at hv
    · intro c
      by_cases hc : c < n
      · have e4 := (hZ c hc).2
        obtain ⟨a', cap', e5, e6⟩ := e4.is
        have h1 : ρ.inAt 1 c = fs c := by
          simp only [Env2.inAt, hraw, rawOf]
          rw [if_pos (by omega), show (1 + 64 * c) / 64 = c by omega, if_pos hc]
        refine ⟨a', m0 c, cap', by rw [h1, e5], ?_, fun j hj => ?_⟩
        · simp only [E.den, Bi.den, hfn, theFn, Int.toNat_natCast, hmn c hc]
          have := e4.most
          omega
        · obtain ⟨b, g1, g2, g3, g4⟩ := e6 j hj
          refine ⟨b, g1, g2, fun q v hv => ?_⟩
          match q, hv with
          | 0, hv =>
            simp at hv; subst hv
            rw [show j * 1 + 0 = j by omega, g3]
            simp only [V.den, E.den, Un.den, Env2.two, hfn, theFn, if_true, Int.toNat_natCast]
            rw [if_neg (by omega)]
            have hcn : (if (1 : Nat) = 0 then (j : Int) else (c : Int)).toNat = c := by simp
            rw [hcn, if_pos (by rw [hmn c hc]; exact hj), wrap_has (has_of_wf g4)]
          | q + 1, hv => simp at hv
      · have h1 : ρ.inAt 1 c = .slice none 0 0 := by
          simp only [Env2.inAt, hraw, rawOf]
          rw [if_pos (by omega), show (1 + 64 * c) / 64 = c by omega, if_neg hc]
        refine ⟨none, 0, 0, h1, ?_, fun j hj => by omega⟩
        have : m c = 0 := if_neg hc
        simp only [E.den, Bi.den, hfn, theFn, Int.toNat_natCast, this]
        rfl) lawRan (vals [a0, a1]) (fun u hu => ⟨fun p hp => by
    have h0 : u 0 = a0 := hu 0 (by decide)
    have h1 : u 1 = a1 := hu 1 (by decide)
    simp only [bd, kindBd, List.mem_cons, List.not_mem_nil, or_false] at hp
    rcases hp with rfl | rfl
    · show Iv.has _ (u 0)
      rw [h0]; exact has_of_wf w0
    · show Iv.has _ (u 1)
      rw [h1]; exact has_of_wf w1, fun e he => by cases he⟩) [.agg #[.int .i64 a0, .int .i64 a1], .slice a n cap] (fun ρ hv hfn hraw => by
    have h0 : ρ.v 0 = a0 := hv 0 (by decide)
    have h1 : ρ.v 1 = a1 := hv 1 (by decide)
    have h2 : ρ.inAt 0 0 = .slice a n cap := by
      simp only [Env2.inAt, hraw, rawOf]
      rw [if_neg (by omega)]
    have h3 : ((0 : Int)).toNat = 0 := rfl
    simp only [args, V.denL, V.den, E.den, h0, h1, h3, h2]
    rfl) (fun u _ => law_of_clauses (neverOk _) (by kernel_rfl))
  exact h

theorem readable : (Try.f9.params.toList.all fun t => Try.prog.readableRec t && decide (t < Try.prog.types.size)) = true := by kernel_rfl
theorem bytes3 : Try.prog.bytesOf 3 = 8 := by kernel_rfl
theorem cells3 : Try.prog.cellsOf 3 = 1 := by kernel_rfl
set_option maxRecDepth 100000 in
theorem lifted (os : Os) (started : os.Started) (H : Type) (enc : TypeId × Value → H) :
    ReturnsInHanded {} Try.checked os 9 .any (Rows.tableActsSpec.pre6 enc Try.prog Try.f9 Rows.tableActsRow.domain false) (Rows.tableActsSpec.post enc Try.prog Try.f9 false true false false) := by
  refine returnsInHanded_of_change_sized (C := Try.checked) Base.own started (by kernel_rfl) Try.func9
    (ChangeSpec.witness6 (enc := enc) (C := Try.checked) false ⟨#[], #[.agg #[.int .i64 0, .int .i64 0], .slice none 0 0], []⟩ 7 (by kernel_rfl) (by kernel_rfl) (by kernel_rfl) (by kernel_rfl)) ?_
  intro W base args ds gs before hval0 hW hcnd hsz0 _
  have hsz : (DataW.weightsEach Try.prog (Try.f9.params.toList ++ Rows.tableActsSpec.plain.varTypes Try.prog) (ds ++ gs)).all (· ≤ reachBytes) = true := hsz0
  clear hsz0
  have hval : ∀ (j : Nat) t v, Try.f9.params[j]? = some t → args[j]? = some v → Value.okWide Try.prog W .any base t v := hval0
  have hW' := hW
  obtain ⟨p, q, hA0, hV, rfl, hfz, hnd⟩ := hW
  have hA : DataW.TrodAll enc Try.prog W 0 (fun _ => true) true Try.f9.params.toList args.toList ds p := hA0
  have hA1 := hA
  rw [Try.params9] at hA hval hsz
  obtain ⟨v0, vs0, d0, ds0, p0, q0, hargs, rfl, rfl, h0, r0⟩ := trodAll_cons hA
  obtain ⟨v1, vs1, d1, ds1, p1, q1, rfl, rfl, rfl, h1, r1⟩ := trodAll_cons r0
  obtain ⟨rfl, rfl, rfl⟩ := trodAll_nil r1
  obtain rfl : args = #[v0, v1] := by cases args; simp_all
  obtain ⟨rfl, rfl⟩ := trodVars_none hV
  have hsz1 : ∀ k ∈ d1.weights Try.prog 57, k ≤ reachBytes := fun k hk => by
    have := List.all_eq_true.1 hsz k (DataW.weights_mem_each (j := 1) (t := 57) (d := d1) rfl rfl k hk)
    simpa using this
  have s1 := okWide_slice Try.underlying57 (hval 1 57 v1 rfl rfl)
  obtain ⟨cs0, rfl, hcs0⟩ := okWide_struct Try.underlying28 (hval 0 28 v0 rfl rfl)
  obtain ⟨m0, hm0⟩ := h0
  simp only [Value.cells] at hm0
  obtain ⟨a0, e0, w0⟩ := int_field Try.underlying28 hm0 0 rfl (by kernel_rfl) (by decide +kernel) Try.underlying3
  obtain ⟨a1, e1, w1⟩ := int_field Try.underlying28 hm0 1 rfl (by kernel_rfl) (by decide +kernel) Try.underlying3
  have hc2 : Try.prog.cellsOf 28 = 2 := by kernel_rfl
  have hcs : cs0 = #[.int .i64 a0, .int .i64 a1] := two_cells (hcs0.trans hc2) e0 e1
  subst hcs
  have hc3 : Try.prog.cellsOf 65 = 3 := by kernel_rfl
  obtain ⟨a, n, cap, hsl, _, hrow⟩ := in_rowD Try.underlying57 hc3 (by decide) h1 s1
  have hact : ∀ j, j < n → ∃ q : (Int × Int) × Value × Nat × (Nat → Int), (∃ b, a = some b ∧ b.block < W.heap.size ∧ RowAct W b j q.1.1 q.1.2 q.2.1) ∧ RowInts W q.2.1 q.2.2.1 q.2.2.2 := fun j hj => by
    obtain ⟨b, cs, m, x, k1, k2, k3, k4, k5, k6⟩ := hrow j hj
    obtain ⟨z0, f0, g0⟩ := int_field Try.underlying65 k5 0 rfl (by kernel_rfl) (by decide +kernel) Try.underlying3
    obtain ⟨z2, f2, g2⟩ := int_field Try.underlying65 k5 2 rfl (by kernel_rfl) (by decide +kernel) Try.underlying3
    obtain ⟨v, n', y, f1, g1, g3⟩ := field_atD Try.underlying65 k5 (i := 1) rfl (by kernel_rfl) (by decide +kernel)
    obtain ⟨a', m', cap', Z, j1, j2, j3⟩ := in_intsD (B := reachBytes) Try.underlying38 Try.underlying3 cells3 g1 (fun k hk => hsz1 k (k6 k (g3 k hk)))
    rw [bytes3] at j2
    have hr : reachBytes = 140737488351232 := by decide
    exact ⟨((z0, z2), v, m', Z), ⟨b, k1, k2, ⟨(k4 0 (by decide)).trans f0, (k4 1 (by decide)).trans f1, (k4 2 (by decide)).trans f2, g0, g2⟩⟩, ⟨⟨a', cap', j1, j3⟩, by show m' ≤ 17592186043904; omega⟩⟩
  haveI : Inhabited ((Int × Int) × Value × Nat × (Nat → Int)) := ⟨((0, 0), .nilIface, 0, fun _ => 0)⟩
  obtain ⟨F, hF⟩ := Go.Deep.choose_lt hact
  clear hA0 hval0
  refine (walk a0 a1 v1 w0 w1 W ⟨a, n, cap, fun j => (F j).1.1, fun j => (F j).1.2, fun j => (F j).2.1, fun j => (F j).2.2.1, fun j => (F j).2.2.2, hsl, fun j hj => hF j hj⟩).mono fun e W' ⟨he, hg, hold⟩ => ?_
  subst he
  exact ⟨_, rfl, post_of_same (pv := []) hW' (fun _ _ _ => (trodAll_cons_mk (shut_bool Try.underlying4 _) trodAll_mk0)) (fun sp hsp => stays_all Base.laidOut hold (fun t ht => by
      have := List.all_eq_true.1 readable t ht
      simpa using this) hA1 (fun x hx => hsp x (by simpa using hx))) (fun _ _ => rfl) rfl
    (hg.frame _) hg.2.1 (ok_one (by kernel_rfl) rfl (okWide_bool_mk Try.underlying4 _))⟩

set_option maxRecDepth 100000 in
theorem closed : joinedFacts Try.prog 9 Try.f9 Rows.tableActsSpec Rows.tableActsRow = true := by
  unfold joinedFacts
  rw [Base.laidOut, Base.mapsRow, Base.stopsHeard, Base.mayEnter, Base.plainKeys, Base.lifts, Base.make]
  kernel_rfl
theorem over : Rows.tableActsRow.holds Try.pinned (OpenSpec.ofChange Rows.tableActsSpec) :=
  OpenClaim.holds_of_wide 9 Try.f9 rfl rfl rfl rfl rfl rfl rfl ⟨rfl, rfl, rfl, rfl, rfl⟩ rfl rfl rfl rfl rfl (by kernel_rfl) Try.func9 closed
    (of_decide_eq_true (by kernel_rfl)) (by unfold Func.isWrapper; first | (rw [if_pos (by decide +kernel)]; kernel_rfl) | (rw [if_neg (by decide +kernel)]; exact ⟨rfl, rfl⟩))
    (fun os started H enc _ => lifted os started H enc)

/-- The statement. -/
theorem proved : Rows.TableActsSaid :=
  over
end Go.Proofs.Ytjgobpmhdeancaa.tableActs
