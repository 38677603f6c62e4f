/- Texts that a claim needs, put together: the engine, plain lemmas, contracts. No condition. -/
import Derived.Test.YtnodelimomljbaaMgd
import Derived.Test.YtnodelimomljbaaMge
import Derived.Test.YtnodelimomljbaaMgb

/- The contracts of the reference's doubles hold, up to its exported operations. No condition. -/
namespace Go.Proofs.Ytnodelimomljbaa.RefB
open Go Go.Sx Go.Sx.Flt Go.Sx.Ref Go.Proofs.Ytnodelimomljbaa.RunRefA Go.Proofs.Ytnodelimomljbaa.PlainRefA Go.Proofs.Ytnodelimomljbaa.RefA Go.Proofs.Ytnodelimomljbaa.PlainRefB Go.Proofs.Ytnodelimomljbaa.RunRefB Go.Proofs.Ytnodelimomljbaa.PlainRefD Go.Proofs.Ytnodelimomljbaa.PlainRefE
theorem pre0 {w : World} {l : List GSpec} (h : ∀ g ∈ l, g.Ok Try.prog ⟨w, fnG⟩) : OracleOk Try.prog ⟨w, fnG⟩ (gOracle (gsD0 ++ l)) := gOracle_ok fun g hg => by
  rcases List.mem_append.1 hg with hg | hg
  · simp only [gsD0, List.mem_cons, List.not_mem_nil, or_false] at hg
    rcases hg with rfl | rfl | rfl | rfl | rfl | rfl
    · exact sgn_ok w
    · exact bias_ok w
    · exact least_ok w
    · exact top_ok w
    · exact nan_ok w
    · exact inf_ok w
  · exact h g hg
theorem mem1 {α : Type} {p : α → Prop} {a : α} (h : p a) : ∀ g ∈ [a], p g := fun g hg => by cases List.mem_singleton.1 hg; exact h
theorem mem2 {α : Type} {p : α → Prop} {a b : α} (h : p a) (k : p b) : ∀ g ∈ [a, b], p g := fun g hg => by
  simp only [List.mem_cons, List.not_mem_nil, or_false] at hg
  rcases hg with rfl | rfl
  · exact h
  · exact k
theorem mem4 {α : Type} {p : α → Prop} {a b c d : α} (h : p a) (k : p b) (l : p c) (m : p d) : ∀ g ∈ [a, b, c, d], p g := fun g hg => by
  simp only [List.mem_cons, List.not_mem_nil, or_false] at hg
  rcases hg with rfl | rfl | rfl | rfl
  · exact h
  · exact k
  · exact l
  · exact m
theorem lenT_ok (w : World) : lenT.Ok Try.prog ⟨w, fnG⟩ := ⟨(len_ok w).1, fun v hv hp => ⟨fun p hq => by
  simp only [lenT, List.mem_singleton] at hq
  subst hq
  have h0 : 0 ≤ v 0 ∧ v 0 ≤ 18446744073709551615 := of_kind hv.1
  have h1 := PlainRefC.le_of (hp (bi .le (Flt.v 0) (.lit 9007199254740991)) (by simp [lenT, bi]))
  have h1 : v 0 ≤ 9007199254740991 := h1
  have h2 := lenN53 (m := (v 0).toNat) (by omega)
  have e : (f1 0 (Flt.v 0)).den ⟨v, fnG⟩ = (lenN (v 0).toNat : Int) := rfl
  simp only [e]
  exact ⟨fun _ h => by cases h; omega, fun _ h => by cases h; omega⟩, ((len_ok w).2 v hv (fun e he => by cases he)).2⟩⟩
theorem divLo_ok (w : World) : divLo.Ok Try.prog ⟨w, fnG⟩ (bodies fns) := lspec_run (fun _ _ => noOracle_ok _ _) (fun _ _ => noLoops_ok _ _ _) fnsKnown (noTabs w) divLoRan rfl fun u h _ => divLo_plain u h
theorem div_ok (w : World) : divS.Ok Try.prog ⟨w, fnG⟩ := spec_run Try.call110 (fun _ _ => noOracle_ok _ _) (fun w' _ => lone_ok (divLo_ok w')) fnsKnown (noTabs w) divRan rfl div_bd div_plain
theorem rootLo_ok (w : World) : rootLo.Ok Try.prog ⟨w, fnG⟩ (bodies fns) := lspec_run (fun w' _ => one_ok (mul_ok w')) (fun _ _ => noLoops_ok _ _ _) fnsKnown (noTabs w) rootLoRan rfl fun u h _ => rootLo_plain u h
theorem apart_ok (w : World) : apartD.Ok Try.prog ⟨w, fnG⟩ := gspec_run Try.call79 (fun w' _ => g0_ok w') (fun _ _ => noLoops_ok _ _ _) fnsKnown (noTabs w) rfl apartDRan rfl apart_bd apart_plain
theorem ap_ok (w : World) : OracleOk Try.prog ⟨w, fnG⟩ (nameO (gOracle [apartD])) := nameO_ok (gone_ok (apart_ok w))
theorem less_ok (w : World) : lessD.Ok Try.prog ⟨w, fnG⟩ := gspec_run Try.call85 (fun w' _ => ap_ok w') (fun _ _ => noLoops_ok _ _ _) fnsKnown (noTabs w) rfl lessDRan rfl (fun _ _ _ => noBd rfl _) less_plain
theorem add_ok (w : World) : addD.Ok Try.prog ⟨w, fnG⟩ := gspec_run Try.call109 (fun w' _ => pre0 (mem1 (rnd_ok w'))) (fun _ _ => noLoops_ok _ _ _) fnsKnown (noTabs w) rfl RunRefC.addDRan rfl PlainRefC.add_bd PlainRefC.add_plain
theorem sum_ok (w : World) : sumD.Ok Try.prog ⟨w, fnG⟩ := gspec_run Try.call86 (fun w' _ => pre0 (mem1 (add_ok w'))) (fun _ _ => noLoops_ok _ _ _) fnsKnown (noTabs w) rfl sumDRan rfl (fun _ hk hp => sum_in hk hp) sum_plain
theorem prod_ok (w : World) : mulD.Ok Try.prog ⟨w, fnG⟩ := gspec_run Try.call87 (fun w' _ => orcs_ok (pre0 (mem1 (rnd_ok w'))) (one_ok (mul_ok w'))) (fun _ _ => noLoops_ok _ _ _) fnsKnown (noTabs w) rfl mulDRan rfl (fun _ hk hp => mul_in hk hp) mul_plain'
theorem quo_ok (w : World) : quoD.Ok Try.prog ⟨w, fnG⟩ := gspec_run Try.call88 (fun w' _ => orcs_ok (pre0 (mem1 (rnd_ok w'))) (specOracle_ok (mem2 (lenT_ok w') (div_ok w')))) (fun _ _ => noLoops_ok _ _ _) fnsKnown (noTabs w) rfl RunRefD.quoDRan rfl quo_bd quo_plain
theorem root_ok (w : World) : rootD.Ok Try.prog ⟨w, fnG⟩ := gspec_run Try.call78 (fun w' _ => orcs_ok (pre0 (mem1 (rnd_ok w'))) (specOracle_ok (mem2 (lenT_ok w') (mul_ok w')))) (fun w' _ => lone_ok (rootLo_ok w')) fnsKnown (noTabs w) rfl RunRefD.rootDRan rfl root_bd root_plain
theorem whole_ok (w : World) : wholeD.Ok Try.prog ⟨w, fnG⟩ := gspec_run Try.call80 (fun w' _ => orcs_ok (ap_ok w') (orcs_ok (pre0 (mem1 (rnd_ok w'))) (nameO_ok (one_ok (down_ok w'))))) (fun _ _ => noLoops_ok _ _ _) fnsKnown (noTabs w) rfl RunRefD.wholeDRan rfl whole_bd whole_plain
theorem extr_ok (w : World) : extrD.Ok Try.prog ⟨w, fnG⟩ := gspec_run Try.call89 (fun w' _ => orcs_ok (ap_ok w') (pre0 (mem1 (less_ok w')))) (fun _ _ => noLoops_ok _ _ _) fnsKnown (noTabs w) rfl RunRefE.extrDRan rfl extr_bd extr_plain
theorem un_ok (w : World) : unD.Ok Try.prog ⟨w, fnG⟩ := gspec_run Try.call55 (fun w' _ => orcs_ok (ap_ok w') (pre0 (mem2 (root_ok w') (whole_ok w')))) (fun _ _ => noLoops_ok _ _ _) fnsKnown (noTabs w) rfl RunRefE.unDRan rfl un_bd un_plain
theorem bin_ok (w : World) : binD.Ok Try.prog ⟨w, fnG⟩ := gspec_run Try.call59 (fun w' _ => orcs_ok (ap_ok w') (pre0 (mem4 (sum_ok w') (prod_ok w') (quo_ok w') (extr_ok w')))) (fun _ _ => noLoops_ok _ _ _) fnsKnown (noTabs w) rfl RunRefE.binDRan rfl bin_bd bin_plain
/-! ### comparisons: six kinds make one -/
theorem cmp_orc (w : World) : OracleOk Try.prog ⟨w, fnG⟩ (orcs (nameO (gOracle [apartD])) (gOracle [lessD])) := orcs_ok (ap_ok w) (gone_ok (less_ok w))
theorem comp0_ok (w : World) : (compDK 0).Ok Try.prog ⟨w, fnG⟩ := gspec_run Try.call58 (fun w' _ => cmp_orc w') (fun _ _ => noLoops_ok _ _ _) fnsKnown (noTabs w) rfl RunRefF.compDK0Ran rfl (fun _ _ _ => noBd rfl _) PlainRefF.plain0
theorem comp1_ok (w : World) : (compDK 1).Ok Try.prog ⟨w, fnG⟩ := gspec_run Try.call58 (fun w' _ => cmp_orc w') (fun _ _ => noLoops_ok _ _ _) fnsKnown (noTabs w) rfl RunRefF.compDK1Ran rfl (fun _ _ _ => noBd rfl _) PlainRefF.plain1
theorem comp2_ok (w : World) : (compDK 2).Ok Try.prog ⟨w, fnG⟩ := gspec_run Try.call58 (fun w' _ => cmp_orc w') (fun _ _ => noLoops_ok _ _ _) fnsKnown (noTabs w) rfl RunRefF.compDK2Ran rfl (fun _ _ _ => noBd rfl _) PlainRefF.plain2
theorem comp3_ok (w : World) : (compDK 3).Ok Try.prog ⟨w, fnG⟩ := gspec_run Try.call58 (fun w' _ => cmp_orc w') (fun _ _ => noLoops_ok _ _ _) fnsKnown (noTabs w) rfl RunRefF.compDK3Ran rfl (fun _ _ _ => noBd rfl _) PlainRefF.plain3
theorem comp4_ok (w : World) : (compDK 4).Ok Try.prog ⟨w, fnG⟩ := gspec_run Try.call58 (fun w' _ => cmp_orc w') (fun _ _ => noLoops_ok _ _ _) fnsKnown (noTabs w) rfl RunRefF.compDK4Ran rfl (fun _ _ _ => noBd rfl _) PlainRefF.plain4
theorem comp5_ok (w : World) : (compDK 5).Ok Try.prog ⟨w, fnG⟩ := gspec_run Try.call58 (fun w' _ => cmp_orc w') (fun _ _ => noLoops_ok _ _ _) fnsKnown (noTabs w) rfl RunRefF.compDK5Ran rfl (fun _ _ _ => noBd rfl _) PlainRefF.plain5
theorem comp_of {w : World} {k : Int} (h : (compDK k).Ok Try.prog ⟨w, fnG⟩) (v : Nat → Int) (hv : KindOk v 0 compD.sp.ks) (hk : v 0 = k) (he : (compK k).den ⟨fun i => v (i + 1), fnG⟩ = compE.den ⟨v, fnG⟩) :
    ∀ w', Ext w w' → Calls Try.prog 58 (groupA compD.sh (kindVals v 0 compD.sp.ks)).toArray w' fun e w1 => e = .returned (outA compD.ra (compD.sp.res.map (resVal ⟨v, fnG⟩))) ∧ Ext w' w1 := by
  intro w' hx
  have h1 := ((h.2 (fun i => v (i + 1)) ⟨hv.2.1, hv.2.2.1, trivial⟩ (fun e he => by cases he)).2 w' hx)
  have e1 : groupA (compDK k).sh (kindVals (fun i => v (i + 1)) 0 (compDK k).sp.ks) = groupA compD.sh (kindVals v 0 compD.sp.ks) := by
    subst hk; rfl
  rw [e1] at h1
  have e2 : (compDK k).sp.res.map (resVal ⟨fun i => v (i + 1), fnG⟩) = compD.sp.res.map (resVal ⟨v, fnG⟩) := by
    simp only [compDK, compD, List.map, resVal, he]
  rw [e2] at h1
  exact h1
theorem comp_ok (w : World) : compD.Ok Try.prog ⟨w, fnG⟩ := by
  refine ⟨Try.call58, fun v hv hp => ⟨fun _ h => (by cases h), ?_⟩⟩
  have h1 : (0 : Int) ≤ v 0 := PlainRefC.le_of (hp (bi .le (.lit 0) (Flt.v 0)) (by simp [compD, bi]))
  have h2 : v 0 ≤ 5 := PlainRefC.le_of (hp (bi .le (Flt.v 0) (.lit 5)) (by simp [compD, bi]))
  have hc : v 0 = 0 ∨ v 0 = 1 ∨ v 0 = 2 ∨ v 0 = 3 ∨ v 0 = 4 ∨ v 0 = 5 := by omega
  have hd : ∀ k : Int, v 0 = k → (compE.den ⟨v, fnG⟩ = if k = 0 then (tr (bi .eq oU (.lit 0))).den ⟨v, fnG⟩ else if k = 1 then (tr (no (bi .eq oU (.lit 0)))).den ⟨v, fnG⟩ else if k = 2 then (tr (bi .eq oU (.lit 1))).den ⟨v, fnG⟩ else if k = 3 then (tr (bi .eq oU (.lit 2))).den ⟨v, fnG⟩ else if k = 4 then (tr (bi .le oU (.lit 1))).den ⟨v, fnG⟩ else (tr (bi .or (bi .eq oU (.lit 2)) (bi .eq oU (.lit 0)))).den ⟨v, fnG⟩) := by
    intro k hk
    have hb : ∀ j : Int, (b2i (v 0 == j) ≠ 0) = (k = j) := fun j => by rw [hk, b2i_ne, beq_iff_eq]
    simp only [compE, bi, Flt.v, E.den, Bi.den, hb]
  rcases hc with h | h | h | h | h | h
  · exact comp_of (comp0_ok w) v hv h (by rw [hd _ h]; rfl)
  · exact comp_of (comp1_ok w) v hv h (by rw [hd _ h]; rfl)
  · exact comp_of (comp2_ok w) v hv h (by rw [hd _ h]; rfl)
  · exact comp_of (comp3_ok w) v hv h (by rw [hd _ h]; rfl)
  · exact comp_of (comp4_ok w) v hv h (by rw [hd _ h]; rfl)
  · exact comp_of (comp5_ok w) v hv h (by rw [hd _ h]; rfl)
theorem refUn_ok (w : World) : refUnS.Ok Try.prog ⟨w, fnG⟩ := spec_run Try.call31 (fun w' _ => pre0 (mem1 (un_ok w'))) (fun _ _ => noLoops_ok _ _ _) fnsKnown (noTabs w) RunRefE.refUnRan rfl (fun _ _ _ => noBd rfl _) PlainRefG.refUn_plain
theorem refBin_ok (w : World) : refBinS.Ok Try.prog ⟨w, fnG⟩ := spec_run Try.call33 (fun w' _ => pre0 (mem2 (comp_ok w') (bin_ok w'))) (fun _ _ => noLoops_ok _ _ _) fnsKnown (noTabs w) RunRefE.refBinRan rfl (fun _ _ _ => noBd rfl _) PlainRefG.refBin_plain
/-! ### what names no function holds with any -/
def noFn : E → Bool
  | .lit _ => true
  | .var _ => true
  | .un _ a => noFn a
  | .bin _ a b => noFn a && noFn b
  | .ite c a b => noFn c && noFn a && noFn b
  | .fn _ _ _ _ => false
theorem den_noFn {v : Nat → Int} {f g : Nat → Int → Int → Int → Int} : ∀ {e : E}, noFn e = true → e.den ⟨v, f⟩ = e.den ⟨v, g⟩
  | .lit _, _ => rfl
  | .var _, _ => rfl
  | .un o a, h => by simp only [E.den]; rw [den_noFn (e := a) h]
  | .bin o a b, h => by
    simp only [noFn, Bool.and_eq_true] at h
    simp only [E.den]; rw [den_noFn h.1, den_noFn h.2]
  | .ite c a b, h => by
    simp only [noFn, Bool.and_eq_true] at h
    simp only [E.den]; rw [den_noFn h.1.1, den_noFn h.1.2, den_noFn h.2]
theorem spec_fn {P : Program} {w : World} {f g : Nat → Int → Int → Int → Int} {sp : FSpec} (h : sp.Ok P ⟨w, f⟩) (h1 : sp.pre = []) (h2 : sp.bds = []) (h3 : (sp.res.map (·.2)).all noFn = true) : sp.Ok P ⟨w, g⟩ := by
  refine ⟨h.1, fun v hv hp => ⟨fun p hq => (by rw [h2] at hq; cases hq), ?_⟩⟩
  have h4 := (h.2 v hv (fun e he => by rw [h1] at he; cases he)).2
  have e : sp.res.map (resVal ⟨v, g⟩) = sp.res.map (resVal ⟨v, f⟩) := by
    apply List.map_congr_left
    intro r hr
    have := den_noFn (v := v) (f := g) (g := f) (List.all_eq_true.1 h3 r.2 (List.mem_map.2 ⟨r, hr, rfl⟩))
    obtain ⟨k, e⟩ := r
    cases k <;> simp only [resVal] <;> rw [this]
  rw [e]
  exact h4
theorem refUn_fn (w : World) : refUnS.Ok Try.prog ⟨w, fnF⟩ := spec_fn (refUn_ok w) rfl rfl (by decide)
theorem refBin_fn (w : World) : refBinS.Ok Try.prog ⟨w, fnF⟩ := spec_fn (refBin_ok w) rfl rfl (by decide)
end Go.Proofs.Ytnodelimomljbaa.RefB

/- The contracts of f64n hold. No condition. -/
namespace Go.Proofs.Ytnodelimomljbaa.Op64
open Go Go.Sx Go.Sx.Flt Go.Proofs.Ytnodelimomljbaa.RunOp64 Go.Proofs.Ytnodelimomljbaa.PlainOp64

theorem x_ok (w : World) : OracleOk Try.prog ⟨w, fnF⟩ (xOracle xts) := xOracle_ok xtsOk
theorem un_ok (w : World) : unS64.Ok Try.prog ⟨w, fnF⟩ := spec_run Try.call30 (fun w' _ => x_ok w') (fun _ _ => noLoops_ok _ _ _) fnsKnown (noTabs w) unRan rfl (fun _ _ _ _ hp => by cases hp) fun u hk _ => un_plain u hk
theorem bin_ok (w : World) : binS64.Ok Try.prog ⟨w, fnF⟩ := spec_run Try.call32 (fun w' _ => x_ok w') (fun _ _ => noLoops_ok _ _ _) fnsKnown (noTabs w) binRan rfl (fun _ _ _ _ hp => by cases hp) fun u hk _ => bin_plain u hk
theorem aw_ok (w : World) : aw64.Ok Try.prog ⟨w, fnF⟩ := spec_run Try.call34 (fun w' _ => x_ok w') (fun _ _ => noLoops_ok _ _ _) fnsKnown (noTabs w) awRan rfl (fun _ _ _ _ hp => by cases hp) fun u _ _ => aw_plain u
theorem ops_ok (w : World) : OracleOk Try.prog ⟨w, fnF⟩ (orcs (xOracle xts) (specOracle specs64)) := orcs_ok (x_ok w) (specOracle_ok fun sp h => by
  simp only [specs64, List.mem_cons, List.not_mem_nil, or_false] at h
  rcases h with rfl | rfl | rfl
  · exact un_ok w
  · exact bin_ok w
  · exact aw_ok w)
end Go.Proofs.Ytnodelimomljbaa.Op64

/- The contracts of the program's doubles and of the reference's, together; the loop over all operations. No condition. -/
namespace Go.Sx.Ref
open Go Go.Sx Go.Sx.Flt
def specsA64 : List FSpec := specs64 ++ [refUnS, refBinS]
def each64F : LSpec := { f := 8, p := [1, 0, 1, 1], n := 66, ins := [(0, some .i64), (1, some .i64), (5, some .i64)], pre := [bi .le (.lit 88) (v 2), bi .le (v 2) (.lit 168)], outs := [(5, some .i64, .lit 168)], kill := ((List.range 8).map (· + 6)) ++ ((List.range 50).map (· + 16)), meas := bi .sub (.lit 168) (v 2) }
end Go.Sx.Ref

/- The contracts of the program's doubles and of the reference's hold together. No condition. -/
namespace Go.Proofs.Ytnodelimomljbaa.OpA64
open Go Go.Sx Go.Sx.Flt Go.Sx.Ref
theorem ops_ok (w : World) : OracleOk Try.prog ⟨w, fnF⟩ (orcs (xOracle xts) (specOracle specsA64)) := orcs_ok (Op64.x_ok w) (specOracle_ok fun sp h => by
  simp only [specsA64, specs64, List.cons_append, List.nil_append, List.mem_cons, List.not_mem_nil, or_false] at h
  rcases h with rfl | rfl | rfl | rfl | rfl
  · exact Op64.un_ok w
  · exact Op64.bin_ok w
  · exact Op64.aw_ok w
  · exact RefB.refUn_fn w
  · exact RefB.refBin_fn w)
end Go.Proofs.Ytnodelimomljbaa.OpA64
