/- Arguments that lie in memory: they read behind a call as they read before; what a row of numbers holds. -/
import Derived.Carry
import Derived.Deep.Slices
import Derived.Deep.Frames
import Derived.ChangeMaps
namespace Go.Proofs.Args
open Go Go.Deep Go.ChangeShapes Go.WideShapes Go.RowKit
section
variable {H : Type} {enc : TypeId × Value → H} {P : Program}

theorem same {W W' : World} (hg : ∀ i, i < W.heap.size → W'.heap[i]? = W.heap[i]?) {p : MemPlace} (hp : p.block < W.heap.size) : W.sameAt W' p := by
  cases p with
  | cell b o => exact World.cell?_of_block (w := W) (hg b hp)
  | map b => exact hg b hp
theorem stays {t : TypeId} (hl : laidOutB P = true) (hr : P.readableRec t = true) (hrow : t < P.types.size) {W W' : World} {v : Value} {d : DataW H} {ps : List MemPlace}
    (h : DataW.Trod enc P W 0 (fun _ => true) true t v d ps) (hg : ∀ i, i < W.heap.size → W'.heap[i]? = W.heap[i]?) {sp : Nat → Bool} (hsp : ∀ x ∈ ps, sp x.block = true) : DataW.Trod enc P W' 0 sp true t v d ps := by
  obtain ⟨n, hn⟩ := h
  have hlt := DataW.trod_lt n t _ _ hn
  exact WideElems.Trod_stays hl hr hrow ⟨n, hn⟩ (fun x hx => same hg (hlt x hx)) hsp
theorem stays_all (hl : laidOutB P = true) {W W' : World} (hg : ∀ i, i < W.heap.size → W'.heap[i]? = W.heap[i]?) {sp : Nat → Bool} : ∀ {ts : List TypeId} {vs : List Value} {ds : List (DataW H)} {ps : List MemPlace}, (∀ t ∈ ts, P.readableRec t = true ∧ t < P.types.size) →
    DataW.TrodAll enc P W 0 (fun _ => true) true ts vs ds ps → (∀ x ∈ ps, sp x.block = true) → DataW.TrodAll enc P W' 0 sp true ts vs ds ps
  | [], _, _, _, _, h, _ => by
    obtain ⟨rfl, rfl, rfl⟩ := trodAll_nil h
    exact rfl
  | t :: ts, _, _, _, ht, h, hsp => by
    obtain ⟨v, vs1, d, ds1, a, b, rfl, rfl, rfl, h1, h2⟩ := trodAll_cons h
    exact ⟨a, b, stays hl (ht t (by simp)).1 (ht t (by simp)).2 h1 hg fun x hx => hsp x (by simp [hx]), stays_all hl hg (fun t' h' => ht t' (by simp [h'])) h2 fun x hx => hsp x (by simp [hx]), rfl⟩

/-- what a slice of numbers holds -/
theorem in_ints {w : World} {t e : TypeId} {k : IntKind} {v : Value} {d : DataW H} {ps : List MemPlace} (ht : P.underlying t = some (.slice e)) (he : P.underlying e = some (.int k)) (hc : P.cellsOf e = 1)
    (h : DataW.Trod enc P w 0 (fun _ => true) true t v d ps) (hv : ∃ a n c, v = .slice a n c) : ∃ (a : Option Addr) (n cap : Nat) (Z : Nat → Int), v = .slice a n cap ∧ n ≤ maxLen ∧ ∀ j, j < n → ∃ b, a = some b ∧ b.block < w.heap.size ∧ w.cell? (b.add j) = some (.int k (Z j)) ∧ (Lit.int k (Z j)).wf = true := by
  obtain ⟨m, hm⟩ := h
  obtain ⟨a0, n0, c0, rfl⟩ := hv
  simp only [Value.cells] at hm
  rcases open_slice1 ht hc hm with ⟨h1, _⟩ | ⟨a, len, cap, m', n, V, D, Pl, h1, _, hl, hcap, hmm, _, hx⟩
  · cases h1
    exact ⟨none, 0, 0, fun _ => 0, rfl, Nat.zero_le _, fun j hj => by omega⟩
  · have e : a0 = some a ∧ n0 = len ∧ c0 = cap := by simpa using h1
    obtain ⟨e1, e2, e3⟩ := e
    have hmm : m' = cap := by simpa using hmm
    have hint : ∀ i, i < n0 → ∃ z, V i = .int k z ∧ (Lit.int k z).wf = true := fun i hi => by
      obtain ⟨_, h2⟩ := hx i (by omega)
      obtain ⟨z, h3, _, h4⟩ := DataW.trod_int he h2
      exact ⟨z, by simpa using h3, h4⟩
    refine ⟨a0, n0, c0, fun j => match V j with
      | .int _ z => z
      | _ => 0, rfl, by omega, fun j hj => ?_⟩
    obtain ⟨z, hz, hwf⟩ := hint j hj
    obtain ⟨h2, _⟩ := hx j (by omega)
    refine ⟨a, e1, ?_, ?_, ?_⟩
    · have := World.block_lt_of_cell? w _ h2
      have e : (a.add j).block = a.block := by unfold Addr.add; split <;> rfl
      rwa [e] at this
    · rw [h2]; simp only [hz]
    · simp only [hz]; exact hwf
end
end Go.Proofs.Args
