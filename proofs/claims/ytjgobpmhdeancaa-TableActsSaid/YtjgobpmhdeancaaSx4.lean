/- Orders of a region: what only reckons may be taken first. -/
import Derived.Test.YtjgobpmhdeancaaSxM
namespace Go.Sx
open Go

/-! ### what only reckons -/
def opP (P : Program) (s : St) (o : Oper) : Option V := match o.op with
  | .move x => evO s x
  | .assign x => evO s x
  | .pick c x y => match evO s c, evO s x, evO s y with
    | some c, some x, some y => pickV s.bd s.pc c x y
    | _, _, _ => none
  | .binOp op t x y _ => match evO s x, evO s y with
    | some a, some b => match plainV a with
      | true => binV P s.bd s.pc op t a b
      | false => none
    | _, _ => none
  | .unOp op _ x => match evO s x with
    | some a => unV s.bd op a
    | none => none
  | .convert src dst x => match evO s x with
    | some a => convV P s.bd src dst a
    | none => none
  | .field t x f => match evO s x with
    | some a => fieldV P t a f
    | none => none
  | .fieldAddr t x f => match evO s x with
    | some a => fieldAtV P t a f
    | none => none
  | .extract x i => match evO s x with
    | some a => extractV a i
    | none => none
  | .nilCheck x => match evO s x with
    | some (.ptr b off) => some (.ptr b off)
    | _ => none
  | _ => none
theorem run_opP {P : Program} {ρ : Env2} {s : St} {a : Act} (hb : s.bd.ok ρ.toEnv) (hp : pcOk ρ.toEnv s.pc) (ha : RelA0 ρ s a) {o : Oper} {v : V} (h : opP P s o = some v) (w : World) :
    (execOp a.eval o).run P w = .ok (.value (v.den ρ)) w := by
  unfold opP at h
  split at h <;> rename_i ho <;> simp only [execOp, ho]
  · simp [den_evO ha h]
  · simp [den_evO ha h]
  · split at h
    · rename_i c x y hc hx hy
      obtain ⟨e, he, hv⟩ := pickV_some hb hp h
      subst he
      rw [den_evO ha hc, den_evO ha hx, den_evO ha hy, hv]
      simp [V.den, asBool]
    · cases h
  · split at h
    · rename_i x y hx hy
      split at h
      · rename_i hpl
        simp only [Sem.run_bind, den_evO ha hx, den_evO ha hy, run_eqGuard w hpl, Result.andThen_ok, run_binV hb hp w h, Sem.run_pure]
      · cases h
    · cases h
  · split at h
    · rename_i x hx
      simp only [Sem.run_bind, den_evO ha hx, run_unV hb w h, Result.andThen_ok, Sem.run_pure]
    · cases h
  · split at h
    · rename_i x hx
      simp only [Sem.run_bind, den_evO ha hx, run_convV hb w h, Result.andThen_ok, Sem.run_pure]
    · cases h
  · split at h
    · rename_i x hx
      simp only [Sem.run_bind, den_evO ha hx, run_fieldV ρ w h, Result.andThen_ok, Sem.run_pure]
    · cases h
  · split at h
    · rename_i x hx
      simp only [Sem.run_bind, den_evO ha hx, run_fieldAtV ρ w h, Result.andThen_ok, Sem.run_pure]
    · cases h
  · split at h
    · rename_i x hx
      simp only [Sem.run_bind, den_evO ha hx, run_extractV ρ w h, Result.andThen_ok, Sem.run_pure]
    · cases h
  · split at h
    · rename_i hx; cases h; rw [den_evO ha hx]; simp [V.den]
    · cases h
  · cases h
def isCalm : Op → Bool
  | .move _ | .assign _ | .pick _ _ _ | .binOp _ _ _ _ _ | .unOp _ _ _ | .convert _ _ _ | .field _ _ _ | .fieldAddr _ _ _ | .extract _ _ | .nilCheck _ => true
  | _ => false

/-! ### which may be taken first -/
def onB (j : Nat) : List Edge → Bool
  | [] => false
  | e :: r => match Region.binds .any e && Nat.beq e.on j with
    | true => true
    | false => onB j r
theorem onB_true {j : Nat} : ∀ {l : List Edge}, onB j l = true → ∃ e ∈ l, Region.binds .any e = true ∧ e.on = j
  | [], h => by cases h
  | e :: r, h => by
    simp only [onB] at h
    split at h
    · rename_i hb
      simp only [Bool.and_eq_true] at hb
      exact ⟨e, List.mem_cons_self, hb.1, Nat.eq_of_beq_eq_true hb.2⟩
    · obtain ⟨e', h1, h2⟩ := onB_true h; exact ⟨e', List.mem_cons_of_mem _ h1, h2⟩
def freeFrom (ops : Array Oper) (i : Nat) (oi : Oper) : Nat → List Oper → Bool
  | _, [] => true
  | j, oj :: r => match Nat.beq j i || onB i oj.after.toList || onB j oi.after.toList || oi.apart ops oj with
    | true => freeFrom ops i oi (j + 1) r
    | false => false
theorem freeFrom_get {ops : Array Oper} {i : Nat} {oi : Oper} : ∀ {l : List Oper} {k : Nat}, freeFrom ops i oi k l = true → ∀ {d : Nat} {oj : Oper}, l[d]? = some oj → k + d ≠ i →
    onB i oj.after.toList = true ∨ onB (k + d) oi.after.toList = true ∨ oi.apart ops oj = true
  | [], _, _, d, oj, h, _ => by simp at h
  | o :: r, k, hf, d, oj, h, hne => by
    simp only [freeFrom] at hf
    split at hf
    · rename_i hc
      cases d with
      | zero =>
        simp at h
        subst h
        simp only [Bool.or_eq_true] at hc
        rcases hc with ((hc | hc) | hc) | hc
        · exact absurd (Nat.eq_of_beq_eq_true hc) (by simpa using hne)
        · exact .inl hc
        · exact .inr (.inl (by simpa using hc))
        · exact .inr (.inr hc)
      | succ d =>
        have := freeFrom_get hf (d := d) (oj := oj) (by simpa using h) (by omega)
        rw [show k + 1 + d = k + (d + 1) by omega] at this
        exact this
    · cases hf
def calms (ops : Array Oper) : Nat → List Oper → List Bool
  | _, [] => []
  | i, oi :: r => (isCalm oi.op && freeFrom ops i oi 0 ops.toList) :: calms ops (i + 1) r
theorem calms_get {ops : Array Oper} : ∀ {l : List Oper} {k d : Nat} {b : Bool}, (calms ops k l)[d]? = some b → ∃ oi, l[d]? = some oi ∧ b = (isCalm oi.op && freeFrom ops (k + d) oi 0 ops.toList)
  | [], k, d, b, h => by simp [calms] at h
  | o :: r, k, 0, b, h => by simp [calms] at h; exact ⟨o, rfl, h.symm⟩
  | o :: r, k, d + 1, b, h => by
    simp only [calms, List.getElem?_cons_succ] at h
    obtain ⟨oi, h1, h2⟩ := calms_get h
    exact ⟨oi, by simpa using h1, by rw [h2, show k + 1 + d = k + (d + 1) by omega]⟩
def isOn (cs : List Bool) (i : Nat) : Bool := match cs[i]? with
  | some b => b
  | none => false
def firstCalm (cs : List Bool) : List Nat → Option Nat
  | [] => none
  | i :: r => match isOn cs i with
    | true => some i
    | false => firstCalm cs r
theorem firstCalm_some {cs : List Bool} {i : Nat} : ∀ {l : List Nat}, firstCalm cs l = some i → i ∈ l ∧ isOn cs i = true
  | [], h => by cases h
  | j :: r, h => by
    simp only [firstCalm] at h
    split at h
    · rename_i hj; cases h; exact ⟨List.mem_cons_self, hj⟩
    · obtain ⟨h1, h2⟩ := firstCalm_some h; exact ⟨List.mem_cons_of_mem _ h1, h2⟩
def calmOne (P : Program) (ops : Array Oper) (i : Nat) (s : St) : Option St := match ops[i]? with
  | none => none
  | some o => match guardL s ops o with
    | some [(t, s1)] => match t with
      | true => match opP P s1 o with
        | some v => some (s1.put o.dst v)
        | none => none
      | false => some (s1.put o.dst undefV)
    | _ => none
def growP (P : Program) (call : CallF) (ops : Array Oper) (cs : List Bool) (l : Nat) (s : St) (rs : List Nat) (acc : List Entry) : Option (List Entry) := match firstCalm cs rs with
  | some i => match calmOne P ops i s with
    | some s' => some (insertL (Nat.lor l (2 ^ i)) s' acc)
    | none => growL P call ops l s rs acc
  | none => growL P call ops l s rs acc
def growAllP (P : Program) (call : CallF) (ops : Array Oper) (cs : List Bool) (ms : List Nat) : List Entry → List Entry → Option (List Entry)
  | [], acc => some acc
  | (l, s) :: r, acc => match readyM l 0 ms with
    | [] => none
    | i :: is => match growP P call ops cs l s (i :: is) acc with
      | none => none
      | some acc => growAllP P call ops cs ms r acc
def exploreQ (P : Program) (call : CallF) (ops : Array Oper) (cs : List Bool) (ms : List Nat) : Nat → List Entry → Option (List St)
  | 0, es => match allDone ms es with
    | true => some (es.map (·.2))
    | false => none
  | f + 1, es => match growAllP P call ops cs ms es [] with
    | none => none
    | some next => exploreQ P call ops cs ms f next
def exploreP (P : Program) (call : CallF) (ops : Array Oper) (s : St) : Option (List St) := match Region.noSelect ops with
  | true => exploreQ P call ops (calms ops 0 ops.toList) (masks ops) ops.size [(0, s)]
  | false => none

/-! ### it is right -/
def noPanic (Q : Exit → Act → World → Prop) : Exit → Act → World → Prop
  | .panic _, _, _ => False
  | e, a, w => Q e a w
theorem noPanic_of {Q : Exit → Act → World → Prop} : ∀ e a w, noPanic Q e a w → Q e a w := fun e _ _ h => by
  cases e <;> first | exact h | exact h.elim
theorem upon_Q {P : Program} {o : Oper} {a : Act} {K : Act → World → Prop} {Q Q' : Exit → Act → World → Prop} (hQ : ∀ e a w, Q e a w → Q' e a w) (hl : LetsOut Q → LetsOut Q') {r : Result Next} (h : o.upon P a K Q r) : o.upon P a K Q' r := by
  unfold Oper.upon at *
  split at h <;> first | exact h | skip
  · refine h.mono ?_
    intro e w he
    cases e <;> first | exact he | exact hQ _ _ _ he | exact hl he
  · exact hQ _ _ _ h
theorem wpOp_Q {P : Program} {ops : Array Oper} {Q Q' : Exit → Act → World → Prop} (hQ : ∀ e a w, Q e a w → Q' e a w) (hl : LetsOut Q → LetsOut Q') {i : Nat} {K K' : Act → World → Prop} (hK : ∀ a w, K a w → K' a w) {a : Act} {w : World}
    (h : wpOp P ops Q i K a w) : wpOp P ops Q' i K' a w := by
  refine wpOp_mono hK ?_
  unfold wpOp at *
  split
  · rename_i ho; simp only [ho] at h; exact h
  · rename_i o ho
    simp only [ho] at h
    split
    · rename_i hw
      simp only [hw, if_true] at h
      exact h.imp (fun h => upon_Q hQ hl h) fun h => ⟨h.1, hl h.2⟩
    · rename_i hw
      simp only [hw] at h
      exact h
theorem wpAny_Q {P : Program} {md : Region.Mode} {ops : Array Oper} {Q Q' : Exit → Act → World → Prop} (hQ : ∀ e a w, Q e a w → Q' e a w) (hl : LetsOut Q → LetsOut Q') : ∀ (f : Nat) {listed : Array Bool} {a : Act} {w : World}, wpAny P md ops Q f listed a w → wpAny P md ops Q' f listed a w
  | 0, _, _, _, h => ⟨h.1, hQ _ _ _ h.2⟩
  | f + 1, _, _, _, h => ⟨fun h0 => hQ _ _ _ (h.1 h0), fun i hi => wpOp_Q hQ hl (fun _ _ h => wpAny_Q hQ hl f h) (h.2 i hi)⟩
theorem calmOne_ok {P : Program} {w0 : Base} {w : World} {ops : Array Oper} {ρ : Env2} {s s' : St} {a : Act} {i : Nat} {oi : Oper} (hi : ops[i]? = some oi)
    (hw : RelW w0 ρ s w) (ha : RelA ρ s a) (h : calmOne P ops i s = some s') : ∃ v, Yields P ops oi v a ∧ RelW w0 ρ s' w ∧ RelA ρ s' (a.put oi.dst v) ∧ s'.nb = s.nb ∧ s'.nv = s.nv := by
  unfold calmOne at h
  rw [hi] at h
  simp only at h
  split at h
  · rename_i t s1 hg
    obtain ⟨s2, hm, hw1, ha1, hb1, hv1⟩ := guardL_ok hw ha hg
    simp at hm
    obtain ⟨ht, rfl⟩ := hm
    obtain ⟨p1, p2, _⟩ := put_nb s2 oi.dst undefV
    split at h
    · split at h
      · rename_i v hv
        cases h
        obtain ⟨p1, p2, _⟩ := put_nb s2 oi.dst v
        have hrun := run_opP (P := P) hw1.to.bd hw1.to.pc ha1.to hv
        refine ⟨v.den ρ, .inl ⟨ht, hrun⟩, relW_put hw1, relA_put ha1 fun ρ' hle => ?_, by omega, by omega⟩
        have h1 := run_opP (P := P) (hw1 ρ' hle).bd (hw1 ρ' hle).pc (ha1 ρ' hle) hv w
        rw [hrun w] at h1
        injection h1 with h1
        injection h1 with h1
        exact h1.symm
      · cases h
    · cases h
      exact ⟨undef, .inr ⟨ht, rfl⟩, relW_put hw1, relA_put ha1 fun ρ' _ => den_undef ρ', by omega, by omega⟩
  · cases h
theorem growAllP_ok {P : Program} {call : CallF} {ops : Array Oper} {cs : List Bool} {ms : List Nat} : ∀ {es acc out : List Entry}, growAllP P call ops cs ms es acc = some out →
    (∀ e ∈ acc, e ∈ out) ∧ ∀ e ∈ es, (∃ i s', i ∈ readyM e.1 0 ms ∧ isOn cs i = true ∧ calmOne P ops i e.2 = some s' ∧ (Nat.lor e.1 (2 ^ i), s') ∈ out) ∨
      (readyM e.1 0 ms ≠ [] ∧ ∀ i ∈ readyM e.1 0 ms, ∃ s', loneL P call ops i e.2 = some s' ∧ ∀ t ∈ s', (Nat.lor e.1 (2 ^ i), t) ∈ out)
  | [], acc, out, h => by cases h; exact ⟨fun e he => he, fun e he => by cases he⟩
  | (l, s) :: r, acc, out, h => by
    simp only [growAllP] at h
    split at h
    · cases h
    · rename_i i is his
      split at h
      · cases h
      · rename_i acc' hacc
        obtain ⟨h3, h4⟩ := growAllP_ok h
        have key : (∀ e ∈ acc, e ∈ acc') ∧ ((∃ j s', j ∈ readyM l 0 ms ∧ isOn cs j = true ∧ calmOne P ops j s = some s' ∧ (Nat.lor l (2 ^ j), s') ∈ acc') ∨
            (readyM l 0 ms ≠ [] ∧ ∀ j ∈ readyM l 0 ms, ∃ s', loneL P call ops j s = some s' ∧ ∀ t ∈ s', (Nat.lor l (2 ^ j), t) ∈ acc')) := by
          have slow : growL P call ops l s (i :: is) acc = some acc' → (∀ e ∈ acc, e ∈ acc') ∧ ((∃ j s', j ∈ readyM l 0 ms ∧ isOn cs j = true ∧ calmOne P ops j s = some s' ∧ (Nat.lor l (2 ^ j), s') ∈ acc') ∨
              (readyM l 0 ms ≠ [] ∧ ∀ j ∈ readyM l 0 ms, ∃ s', loneL P call ops j s = some s' ∧ ∀ t ∈ s', (Nat.lor l (2 ^ j), t) ∈ acc')) := fun hg => by
            obtain ⟨h1, h2⟩ := growL_ok hg
            exact ⟨h1, .inr ⟨by rw [his]; simp, fun j hj => h2 j (by rw [← his]; exact hj)⟩⟩
          unfold growP at hacc
          split at hacc
          · rename_i j hj
            split at hacc
            · rename_i s' hs'
              cases hacc
              obtain ⟨h1, h2⟩ := insertL_ok (l := Nat.lor l (2 ^ j)) (s := s') (es := acc)
              obtain ⟨h5, h6⟩ := firstCalm_some hj
              exact ⟨h2, .inl ⟨j, s', by rw [his]; exact h5, h6, hs', h1⟩⟩
            · exact slow hacc
          · exact slow hacc
        refine ⟨fun e he => h3 e (key.1 e he), fun e he => ?_⟩
        cases he with
        | head =>
          rcases key.2 with ⟨j, s', k1, k2, k3, k4⟩ | ⟨k1, k2⟩
          · exact .inl ⟨j, s', k1, k2, k3, h3 _ k4⟩
          · exact .inr ⟨k1, fun j hj => by
              obtain ⟨s', q1, q2⟩ := k2 j hj
              exact ⟨s', q1, fun t ht => h3 _ (q2 t ht)⟩⟩
        | tail _ he => exact h4 e he
theorem exploreQ_ok {P : Program} {call : CallF} {w0 : Base} (hc : CallOk P w0 call) {ops : Array Oper} (hsel : Region.noSelect ops = true) {Q : Exit → Act → World → Prop} : ∀ (f : Nat) {es : List Entry} {sf : List St}, exploreQ P call ops (calms ops 0 ops.toList) (masks ops) f es = some sf →
    ∀ e ∈ es, ∀ {listed : Array Bool}, Holds listed e.1 ops.size → ∀ {ρ : Env2} {a : Act} {w : World}, RelW w0 ρ e.2 w → RelA ρ e.2 a → Goes w0 ρ e.2 sf (Q .normal) → wpAny P .any ops (noPanic Q) f listed a w
  | 0, es, sf, h, e, he, listed, hl, ρ, a, w, hw, ha, hk => by
    simp only [exploreQ] at h
    split at h
    · rename_i hr
      cases h
      refine ⟨?_, hk e.2 (List.mem_map.2 ⟨e, he, rfl⟩) ρ a w (Le.refl _ _) (Nat.le_refl _) (Nat.le_refl _) hw ha⟩
      refine List.eq_nil_iff_forall_not_mem.2 fun i hi => ?_
      rw [ready_iff hl, allDone_ok hr e he] at hi
      cases hi
    · cases h
  | f + 1, es, sf, h, e, he, listed, hl, ρ, a, w, hw, ha, hk => by
    simp only [exploreQ] at h
    split at h
    · cases h
    · rename_i next hn
      obtain ⟨_, h2⟩ := growAllP_ok hn
      rcases h2 e he with ⟨i, s', hi, hon, hs', hm⟩ | ⟨hne, hall⟩
      · have hir := (ready_iff hl i).2 hi
        have hlt : i < ops.size := by
          obtain ⟨_, o, ho, _⟩ := mem_ready.1 hir
          exact (Array.getElem?_eq_some_iff.1 ho).1
        have hoi : ops[i]? = some ops[i] := Array.getElem?_eq_getElem hlt
        obtain ⟨v, hy, hw2, ha2, hb2, hv2⟩ := calmOne_ok hoi hw ha hs'
        have hle2 : ∀ {ρ' : Env2}, Le s' ρ ρ' ↔ Le e.2 ρ ρ' := by simp [Le, hb2, hv2]
        refine wpAny_first hoi (Region.noSelect_spec hsel) (fun _ _ _ h => h.elim) f listed a w ?_ hir hy ?_
        · intro j oj hoj hne hun hno
          unfold isOn at hon
          split at hon
          · rename_i b hb
            obtain ⟨oi, h3, h4⟩ := calms_get hb
            rw [Array.getElem?_toList] at h3
            rw [hoi] at h3
            cases h3
            subst hon
            have h5 := h4.symm
            simp only [Bool.and_eq_true, Nat.zero_add] at h5
            rcases freeFrom_get h5.2 (d := j) (oj := oj) (by rw [Array.getElem?_toList]; exact hoj) (by omega) with h6 | h6 | h6
            · obtain ⟨ed, k1, k2, k3⟩ := onB_true h6
              exact absurd k3 (hno ed (by simpa using k1) k2)
            · obtain ⟨ed, k1, k2, k3⟩ := onB_true h6
              obtain ⟨_, o, ho, hall⟩ := mem_ready.1 hir
              rw [hoi] at ho
              cases ho
              have := hall ed (by simpa using k1) k2
              rw [k3, Nat.zero_add] at this
              have hjl : j < listed.size := by rw [hl.1]; exact (Array.getElem?_eq_some_iff.1 hoj).1
              simp [hjl] at hun this
              rw [hun] at this
              cases this
            · exact h6
          · cases hon
        · exact exploreQ_ok hc hsel f h _ hm (holds_set hl hlt) hw2 ha2 fun s3 hs3 ρ3 a3 w3 hle3 hb3 hv3 hw3 ha3 =>
            hk s3 hs3 ρ3 a3 w3 (hle2.1 hle3) (by simp at hb3 ⊢; omega) (by simp at hv3 ⊢; omega) hw3 ha3
      · refine ⟨fun h0 => absurd (List.eq_nil_iff_forall_not_mem.2 fun i hi => by rw [← ready_iff hl, h0] at hi; cases hi) hne, fun i hi => ?_⟩
        have hlt : i < ops.size := by
          obtain ⟨_, o, ho, _⟩ := mem_ready.1 hi
          exact (Array.getElem?_eq_some_iff.1 ho).1
        obtain ⟨s', hs, hm⟩ := hall i ((ready_iff hl i).1 hi)
        refine loneL_ok hc hw ha hs fun s2 hs2 ρ2 a2 w2 hle hb hv hw2 ha2 => ?_
        exact exploreQ_ok hc hsel f h _ (hm s2 hs2) (holds_set hl hlt) hw2 ha2 fun s3 hs3 ρ3 a3 w3 hle3 hb3 hv3 hw3 ha3 =>
          hk s3 hs3 ρ3 a3 w3 (hle.trans hb hv hle3) (by simp at hb3 ⊢; omega) (by simp at hv3 ⊢; omega) hw3 ha3
theorem exploreP_ok {P : Program} {call : CallF} {w0 : Base} (hc : CallOk P w0 call) {ops : Array Oper} {Q : Exit → Act → World → Prop} {s : St} {sf : List St} (h : exploreP P call ops s = some sf)
    {ρ : Env2} {a : Act} {w : World} (hw : RelW w0 ρ s w) (ha : RelA ρ s a) (hk : Goes w0 ρ s sf (Q .normal)) : wpAny P .any ops Q ops.size (Array.replicate ops.size false) a w := by
  unfold exploreP at h
  split at h
  · rename_i hsel
    refine wpAny_Q noPanic_of (fun h => ?_) ops.size (exploreQ_ok hc hsel ops.size h (0, s) (List.mem_singleton.2 rfl) (holds_start _) hw ha hk)
    exact h
  · cases h
end Go.Sx
