/- What a slice of structs holds, with what it reads as; how long the slices in it may be. -/
import Derived.Test.YtjgobpmhdeancaaPlRow
import Derived.SizedLaws
namespace Go.Proofs.Args
open Go Go.Deep Go.ChangeShapes Go.WideShapes Go.RowKit
section
variable {H : Type} {enc : TypeId × Value → H} {P : Program}
theorem weights_all {e : TypeId} : ∀ {l : List (DataW H)} {d : DataW H}, d ∈ l → ∀ n ∈ d.weights P e, n ∈ DataW.weightsAll P e l
  | [], d, h, _, _ => by cases h
  | x :: r, d, h, n, hn => by
    simp only [DataW.weightsAll, List.mem_append]
    cases h with
    | head => exact .inl hn
    | tail _ h => exact .inr (weights_all h n hn)
theorem in_rowD {w : World} {t e : TypeId} {z : Nat} {v : Value} {d : DataW H} {ps : List MemPlace} (ht : P.underlying t = some (.slice e)) (hz : P.cellsOf e = z) (h0 : 0 < z)
    (h : DataW.Trod enc P w 0 (fun _ => true) true t v d ps) (hv : ∃ a n c, v = .slice a n c) : ∃ (a : Option Addr) (n cap : Nat), v = .slice a n cap ∧ n ≤ maxLen ∧
      ∀ j, j < n → ∃ (b : Addr) (cs : List Value) (m : Nat) (x : DataW H × List MemPlace), a = some b ∧ b.block < w.heap.size ∧ cs.length = z ∧ (∀ k, k < z → w.cell? (b.add (j * z + k)) = cs[k]?) ∧ DataW.trod enc P w 0 (fun _ => true) true m e cs = some x ∧
        ∀ k ∈ x.1.weights P e, k ∈ d.weights P t := by
  obtain ⟨m, hm⟩ := h
  obtain ⟨a0, n0, c0, rfl⟩ := hv
  simp only [Value.cells] at hm
  rcases open_slice ht hm with ⟨h1, _⟩ | ⟨a, len, cap, m', n, D, Pl, h1, _, hl, hcap, hmm, he, hx⟩
  · cases h1
    exact ⟨none, 0, 0, rfl, Nat.zero_le _, fun j hj => by omega⟩
  · have e1 : a0 = some a ∧ n0 = len ∧ c0 = cap := by simpa using h1
    obtain ⟨e1, e2, e3⟩ := e1
    have hmm : m' = cap := by simpa using hmm
    refine ⟨a0, n0, c0, rfl, by omega, fun j hj => ?_⟩
    obtain ⟨cs, h2, h3⟩ := hx j (by omega)
    rw [hz] at h2
    obtain ⟨_, h5, h6⟩ := World.cells?_some h2
    have hadd : ∀ k, (a.add (j * z)).add k = a.add (j * z + k) := fun k => by
      unfold Addr.add
      by_cases hm : j * z = 0
      · rw [hm]; simp
      · by_cases hn : k = 0
        · subst hn; simp
        · simp [hm, hn, Nat.add_assoc]
    refine ⟨a, cs, n, _, e1, ?_, h5, fun k hk => by rw [← hadd]; exact h6 k hk, h3, fun k hk => ?_⟩
    · have h7 := h6 0 h0
      obtain ⟨c, hc⟩ : ∃ c, cs[0]? = some c := ⟨_, List.getElem?_eq_getElem (by omega)⟩
      rw [hc] at h7
      have := World.block_lt_of_cell? w _ h7
      have e : ((a.add (j * z)).add 0).block = a.block := by unfold Addr.add; split <;> (split <;> rfl)
      rwa [e] at this
    · have ed : d = .slice ((List.range len).map D) ((List.range (m' - len)).map fun j => D (len + j)) := congrArg Prod.fst he
      subst ed
      simp only [DataW.weights, ht, List.mem_cons, List.mem_append]
      exact .inr (.inl (weights_all (List.mem_map.2 ⟨j, List.mem_range.2 (by omega), rfl⟩) k hk))
/-- a field that is one cell, and its weights -/
theorem field_atD {w : World} {t : TypeId} {fs : Array Field} {m : Nat} {cs : List Value} {x : DataW H × List MemPlace} (ht : P.underlying t = some (.struct fs)) (h : DataW.trod enc P w 0 (fun _ => true) true m t cs = some x)
    {i : Nat} {f : Field} (hi : fs[i]? = some f) (hc : P.cellsOf f.type = 1) (ho : f.offset < P.cellsOf t) : ∃ (v : Value) (n : Nat) (y : DataW H × List MemPlace), cs[f.offset]? = some v ∧ DataW.trod enc P w 0 (fun _ => true) true n f.type [v] = some y ∧
      ∀ k ∈ y.1.weights P f.type, k ∈ x.1.weights P t := by
  obtain ⟨xs, n, _, hx, hl, hlen, hf⟩ := DataW.trod_struct ht h
  have h1 := hf i f hi
  have hlt : f.offset < cs.length := by omega
  have h2 : (cs.drop f.offset).take (P.cellsOf f.type) = [cs[f.offset]] := by
    rw [hc, List.drop_eq_getElem_cons hlt]; rfl
  rw [h2] at h1
  have hi' : i < fs.size := (Array.getElem?_eq_some_iff.1 hi).1
  have hil : i < xs.length := by omega
  refine ⟨cs[f.offset], n, xs[i], List.getElem?_eq_getElem hlt, h1.trans (List.getElem?_eq_getElem hil), fun k hk => ?_⟩
  subst hx
  simp only [DataW.weights, ht]
  have hi2 : fs.toList[i]? = some f := by simpa using hi
  exact DataW.weights_mem_each (j := i) (t := f.type) (d := xs[i].1) (by rw [List.getElem?_map, hi2]; rfl) (by rw [List.getElem?_map, List.getElem?_eq_getElem hil]; rfl) k hk
/-- what a slice of numbers holds, and how long it may be -/
theorem in_intsD {w : World} {t e : TypeId} {k : IntKind} {v : Value} {fuel : Nat} {x : DataW H × List MemPlace} {B : Nat} (ht : P.underlying t = some (.slice e)) (he : P.underlying e = some (.int k)) (hc : P.cellsOf e = 1)
    (h : DataW.trod enc P w 0 (fun _ => true) true fuel t [v] = some x) (hs : ∀ n ∈ x.1.weights P t, n ≤ B) : ∃ (a : Option Addr) (n cap : Nat) (Z : Nat → Int), v = .slice a n cap ∧ n * P.bytesOf e ≤ B ∧ ∀ j, j < n → ∃ b, a = some b ∧ b.block < w.heap.size ∧ w.cell? (b.add j) = some (.int k (Z j)) ∧ (Lit.int k (Z j)).wf = true := by
  rcases open_slice1 ht hc h with ⟨h1, _⟩ | ⟨a, len, cap, m', n, V, D, Pl, h1, _, hl, hcap, hmm, hxx, hx⟩
  · have h1 : v = .slice none 0 0 := by simpa using h1
    exact ⟨none, 0, 0, fun _ => 0, h1, by omega, fun j hj => by omega⟩
  · have h1 : v = .slice (some a) len cap := by simpa using h1
    have hmm : m' = cap := by simpa using hmm
    have hint : ∀ i, i < len → ∃ z, V i = .int k z ∧ (Lit.int k z).wf = true := fun i hi => by
      obtain ⟨_, h2⟩ := hx i (by omega)
      obtain ⟨z, h3, _, h4⟩ := DataW.trod_int he h2
      exact ⟨z, by simpa using h3, h4⟩
    refine ⟨some a, len, cap, fun j => match V j with
      | .int _ z => z
      | _ => 0, h1, ?_, fun j hj => ?_⟩
    · have := hs ((((List.range len).map D).length + ((List.range (m' - len)).map fun j => D (len + j)).length) * P.bytesOf e) (by
        rw [hxx]
        simp only [DataW.weights, ht, List.mem_cons, true_or])
      refine Nat.le_trans (Nat.mul_le_mul_right _ ?_) this
      simp
    obtain ⟨z, hz, hwf⟩ := hint j hj
    obtain ⟨h2, _⟩ := hx j (by omega)
    refine ⟨a, rfl, ?_, ?_, ?_⟩
    · have := World.block_lt_of_cell? w _ h2
      have e : (a.add j).block = a.block := by unfold Addr.add; split <;> rfl
      rwa [e] at this
    · rw [h2]; simp only [hz]
    · simp only [hz]; exact hwf
end
end Go.Proofs.Args
