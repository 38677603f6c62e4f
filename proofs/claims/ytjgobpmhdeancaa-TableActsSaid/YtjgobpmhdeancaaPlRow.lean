/- What a slice of structs holds, cell by cell; what a struct of single cells holds. -/
import Derived.Carry
import Derived.Deep.Slices
import Derived.ChangeMaps
namespace Go.Proofs.Args
open Go Go.Deep Go.ChangeShapes Go.WideShapes Go.RowKit
section
variable {H : Type} {enc : TypeId × Value → H} {P : Program}
theorem in_row {w : World} {t e : TypeId} {z : Nat} {v : Value} {d : DataW H} {ps : List MemPlace} (ht : P.underlying t = some (.slice e)) (hz : P.cellsOf e = z) (h0 : 0 < z)
    (h : DataW.Trod enc P w 0 (fun _ => true) true t v d ps) (hv : ∃ a n c, v = .slice a n c) : ∃ (a : Option Addr) (n cap : Nat), v = .slice a n cap ∧ n ≤ maxLen ∧
      ∀ j, j < n → ∃ (b : Addr) (cs : List Value) (m : Nat) (x : DataW H × List MemPlace), a = some b ∧ b.block < w.heap.size ∧ cs.length = z ∧ (∀ k, k < z → w.cell? (b.add (j * z + k)) = cs[k]?) ∧ DataW.trod enc P w 0 (fun _ => true) true m e cs = some x := by
  obtain ⟨m, hm⟩ := h
  obtain ⟨a0, n0, c0, rfl⟩ := hv
  simp only [Value.cells] at hm
  rcases open_slice ht hm with ⟨h1, _⟩ | ⟨a, len, cap, m', n, D, Pl, h1, _, hl, hcap, hmm, _, hx⟩
  · cases h1
    exact ⟨none, 0, 0, rfl, Nat.zero_le _, fun j hj => by omega⟩
  · have e : a0 = some a ∧ n0 = len ∧ c0 = cap := by simpa using h1
    obtain ⟨e1, e2, e3⟩ := e
    have hmm : m' = cap := by simpa using hmm
    refine ⟨a0, n0, c0, rfl, by omega, fun j hj => ?_⟩
    obtain ⟨cs, h2, h3⟩ := hx j (by omega)
    rw [hz] at h2
    obtain ⟨_, h5, h6⟩ := World.cells?_some h2
    have hadd : ∀ k, (a.add (j * z)).add k = a.add (j * z + k) := fun k => by
      unfold Addr.add
      by_cases hm : j * z = 0
      · rw [hm]; simp
      · by_cases hn : k = 0
        · subst hn; simp [hm]
        · simp [hm, hn, Nat.add_assoc]
    refine ⟨a, cs, n, _, e1, ?_, h5, fun k hk => by rw [← hadd]; exact h6 k hk, h3⟩
    have h7 := h6 0 h0
    obtain ⟨c, hc⟩ : ∃ c, cs[0]? = some c := ⟨_, List.getElem?_eq_getElem (by omega)⟩
    rw [hc] at h7
    have := World.block_lt_of_cell? w _ h7
    have e : ((a.add (j * z)).add 0).block = a.block := by unfold Addr.add; split <;> (split <;> rfl)
    rwa [e] at this
/-- a field that is one cell -/
theorem field_at {w : World} {t : TypeId} {fs : Array Field} {m : Nat} {cs : List Value} {x : DataW H × List MemPlace} (ht : P.underlying t = some (.struct fs)) (h : DataW.trod enc P w 0 (fun _ => true) true m t cs = some x)
    {i : Nat} {f : Field} (hi : fs[i]? = some f) (hc : P.cellsOf f.type = 1) (ho : f.offset < P.cellsOf t) : ∃ (v : Value) (n : Nat) (y : DataW H × List MemPlace), cs[f.offset]? = some v ∧ DataW.trod enc P w 0 (fun _ => true) true n f.type [v] = some y := by
  obtain ⟨xs, n, _, _, hl, hlen, hf⟩ := DataW.trod_struct ht h
  have h1 := hf i f hi
  have hlt : f.offset < cs.length := by omega
  have h2 : (cs.drop f.offset).take (P.cellsOf f.type) = [cs[f.offset]] := by
    rw [hc, List.drop_eq_getElem_cons hlt]; rfl
  rw [h2] at h1
  have hi' : i < fs.size := (Array.getElem?_eq_some_iff.1 hi).1
  exact ⟨cs[f.offset], n, xs[i], List.getElem?_eq_getElem hlt, by rw [h1]; exact List.getElem?_eq_getElem (by omega)⟩
theorem int_field {w : World} {t : TypeId} {fs : Array Field} {m : Nat} {cs : List Value} {x : DataW H × List MemPlace} (ht : P.underlying t = some (.struct fs)) (h : DataW.trod enc P w 0 (fun _ => true) true m t cs = some x)
    (i : Nat) {f : Field} (hi : fs[i]? = some f) (hc : P.cellsOf f.type = 1) (ho : f.offset < P.cellsOf t) {k : IntKind} (hk : P.underlying f.type = some (.int k)) : ∃ z, cs[f.offset]? = some (.int k z) ∧ (Lit.int k z).wf = true := by
  obtain ⟨v, n, y, h1, h2⟩ := field_at ht h hi hc ho
  obtain ⟨z, h3, _, h4⟩ := DataW.trod_int hk h2
  have h3 : v = .int k z := by simpa using h3
  exact ⟨z, by rw [h1, h3], h4⟩
theorem string_field {w : World} {t : TypeId} {fs : Array Field} {m : Nat} {cs : List Value} {x : DataW H × List MemPlace} (ht : P.underlying t = some (.struct fs)) (h : DataW.trod enc P w 0 (fun _ => true) true m t cs = some x)
    (i : Nat) {f : Field} (hi : fs[i]? = some f) (hc : P.cellsOf f.type = 1) (ho : f.offset < P.cellsOf t) (hk : P.underlying f.type = some .string) : ∃ s : ByteArray, cs[f.offset]? = some (.string s) ∧ s.size ≤ maxLen := by
  obtain ⟨v, n, y, h1, h2⟩ := field_at ht h hi hc ho
  obtain ⟨z, h3, _, h4⟩ := DataW.trod_string hk h2
  have h3 : v = .string z := by simpa using h3
  exact ⟨z, by rw [h1, h3], h4⟩
end
end Go.Proofs.Args
