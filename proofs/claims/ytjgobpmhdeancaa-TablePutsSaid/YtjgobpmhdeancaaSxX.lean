/- Functions that the model stands in for: floats and their bits, whole parts, roots, the lesser and the greater. -/
import Derived.Test.YtjgobpmhdeancaaSxV
import Derived.Laws.Externs
namespace Go.Sx
open Go

inductive XK where
  | bits (k : FloatKind)
  | frombits (k : FloatKind)
  | whole (name : String) (way : Ieee.Toward)
  | sqrt
  | pick (name : String) (neg : Bool)
def XK.sem : XK → Array Value → Sem Value
  | .bits .f64 => Extern.MathFloatBits.float64bits
  | .bits .f32 => Extern.MathFloatBits.float32bits
  | .frombits .f64 => Extern.MathFloatBits.float64frombits
  | .frombits .f32 => Extern.MathFloatBits.float32frombits
  | .whole name way => Extern.MathFloor.toIntegral name way
  | .sqrt => Extern.MathSqrt.sqrt
  | .pick name neg => Extern.MathDim.pick name neg (if neg then .lt else .gt)
def kU : FloatKind → IntKind
  | .f32 => .u32
  | .f64 => .u64
def numF (b : Bd) (e : E) : Bool := within (itv b e) (bndF .f64) && within (itv b (mkBin (.ford .f64) e e)) (some 0, some 0)
def XK.out (k : XK) (s : St) (args : List V) : Option (List (V × St)) := match k with
  | .bits k => match args with
    | [.flt k' a] => match decide (k = k') && within (itv s.bd a) (bndF k) with
      | true => some [(.int (kU k) a, s)]
      | false => none
    | _ => none
  | .frombits k => match args with
    | [.int u a] => match decide (u = kU k) with
      | true => some [(.flt k a, s)]
      | false => none
    | _ => none
  | .whole _ way => match args with
    | [.flt .f64 a] => match within (itv s.bd a) (bndF .f64) with
      | true => some (match knownN s.bd .f64 a with
        | some true => [(.flt .f64 (mkUn (.fwhole way) a), s.more (goodB .f64 (mkUn (.fwhole way) a)))]
        | some false => orNan (s.more [(mkUn (.fwhole way) a, (some (-1), some (-1)))]) .f64 (mkUn (.fwhole way) a)
        | none => orNan s .f64 (mkUn (.fwhole way) a))
      | false => none
    | _ => none
  | .sqrt => match args with
    | [.flt .f64 a] => some (match knownN s.bd .f64 a with
        | some false => orNan (s.more [(mkUn .fsqrt a, (some (-1), some (-1)))]) .f64 (mkUn .fsqrt a)
        | _ => orNan s .f64 (mkUn .fsqrt a))
    | _ => none
  | .pick _ neg => match args with
    | [.flt .f64 a, .flt .f64 c] => match numF s.bd a && numF s.bd c with
      | true => match mkBin (.fpick neg) a c with
        | e => some [(.flt .f64 e, s.more (goodB .f64 e))]
      | false => none
    | _ => none
def xOracle : List (Nat × XK) → Oracle
  | [], _, _, _ => none
  | p :: r, f, s, args => match Nat.beq p.1 f with
    | true => some (p.2.out s args)
    | false => xOracle r f s args
def orcs (a b : Oracle) : Oracle := fun f s args => match a f s args with
  | some r => some r
  | none => b f s args
theorem orcs_ok {P : Program} {w0 : Base} {a b : Oracle} (ha : OracleOk P w0 a) (hb : OracleOk P w0 b) : OracleOk P w0 (orcs a b) := fun f s args l h => by
  unfold orcs at h
  split at h
  · rename_i r hr; cases h; exact ha f s args l hr
  · exact hb f s args l h

def XtOk (P : Program) (xs : List (Nat × XK)) : Prop := ∀ p ∈ xs, ∀ ys w, (callFunc p.1 ys).run P w = ((p.2.sem ys).run P w).andThen fun v w' => .ok (.value v) w'

theorem in_bnd {i : Iv} {k : FloatKind} {n : Int} (h : within i (bndF k) = true) (hn : i.has n) : 0 ≤ n ∧ n ≤ topF k := by
  obtain ⟨a, b⟩ := i
  cases a <;> cases b <;> simp [within, bndF] at h
  have := hn.1 _ rfl; have := hn.2 _ rfl
  omega
theorem quiet_nan (t : Nat) (g : Bool) : NanF .f64 ((FloatKind.f64.encode (.nan g (FloatKind.f64.format.quiet t)) : Nat) : Int) := by
  have h0 : (Ieee.double.quiet t % Ieee.double.binade) ≠ 0 := by
    intro h
    have e1 : Ieee.double.quiet t = t ||| 2 ^ 51 := rfl
    have e2 : Ieee.double.binade = 2 ^ 52 := by decide
    have h1 : ((t ||| 2 ^ 51) % 2 ^ 52).testBit 51 = true := by
      rw [Nat.testBit_mod_two_pow, Nat.testBit_or, Nat.testBit_two_pow_self]; simp
    rw [← e1, ← e2, h] at h1
    simp at h1
  have h1 : Ieee.double.quiet t % Ieee.double.binade < Ieee.double.binade := Nat.mod_lt _ (by decide)
  have e : FloatKind.f64.encode (.nan g (FloatKind.f64.format.quiet t)) = Ieee.double.word g (Ieee.double.infRung + Ieee.double.quiet t % Ieee.double.binade) := rfl
  rw [e]
  generalize Ieee.double.quiet t % Ieee.double.binade = b at *
  have hb : b < 4503599627370496 := h1
  have hs : Ieee.double.signWeight = 9223372036854775808 := rfl
  have hi : Ieee.double.infRung = 0x7ff0000000000000 := rfl
  have hbi : Ieee.double.binade = 4503599627370496 := rfl
  have hm : Ieee.double.word g (Ieee.double.infRung + b) % Ieee.double.signWeight = Ieee.double.infRung + b := by
    unfold Ieee.Format.word
    split
    · rw [Nat.add_mod_left]; exact Nat.mod_eq_of_lt (by omega)
    · exact Nat.mod_eq_of_lt (by omega)
  refine ⟨⟨Int.natCast_nonneg _, ?_⟩, ?_⟩
  · have : Ieee.double.word g (Ieee.double.infRung + b) ≤ 18446744073709551615 := by
      unfold Ieee.Format.word
      split <;> omega
    simp only [topF]; omega
  · unfold fordI Ieee.Format.order
    rw [Int.toNat_natCast]
    have : (FloatKind.f64.format.read (Ieee.double.word g (Ieee.double.infRung + b))).isNaN = true := by
      show (Ieee.double.read _).isNaN = true
      unfold Ieee.Format.read
      simp only [hm]
      rw [if_neg (by omega), if_neg (by omega), if_neg (by omega)]
      rfl
    rw [order_nan this]
theorem nan_self {n : Int} (h : 0 ≤ n ∧ n ≤ topF .f64) {g : Bool} {t : Nat} (hd : FloatKind.f64.decode n.toNat = .nan g t) : NanF .f64 n := by
  refine ⟨h, ?_⟩
  unfold fordI Ieee.Format.order
  have : (FloatKind.f64.format.read n.toNat).isNaN = true := by
    have : FloatKind.f64.format.read n.toNat = .nan g t := hd
    rw [this]; rfl
  rw [order_nan this]
theorem integral_number {way : Ieee.Toward} {d : Ieee.Datum} (h : d.isNaN = false) : (d.integral way).isNaN = false := by
  cases d <;> first | rfl | exact h
theorem whole_cases (way : Ieee.Toward) (x : Int) : ((∃ g t, FloatKind.f64.decode x.toNat = .nan g t) ∧ fwholeI way x = -1) ∨
    ((FloatKind.f64.decode x.toNat).isNaN = false ∧ fwholeI way x = (FloatKind.f64.encode ((FloatKind.f64.decode x.toNat).integral way) : Nat)) := by
  cases hd : FloatKind.f64.decode x.toNat with
  | nan g t => exact .inl ⟨⟨g, t, rfl⟩, by simp only [fwholeI, hd]⟩
  | number g m e => exact .inr ⟨rfl, by simp only [fwholeI, hd]⟩
  | infinity g => exact .inr ⟨rfl, by simp only [fwholeI, hd]⟩
theorem fwhole_good {way : Ieee.Toward} {x : Int} (h : fwholeI way x ≠ -1) : GoodF .f64 (fwholeI way x) := by
  rcases whole_cases way x with ⟨_, h2⟩ | ⟨h1, h2⟩
  · exact absurd h2 h
  · rw [h2]; exact good_of (write_number _ _ (integral_number h1)) (FloatKind.f64.format.write_lt _)
theorem sqrt_cases (x : Int) : (FloatKind.f64.format.sqrt x.toNat = none ∧ fsqrtI x = -1) ∨ ∃ r, FloatKind.f64.format.sqrt x.toNat = some r ∧ fsqrtI x = (r : Nat) := by
  cases hd : FloatKind.f64.format.sqrt x.toNat with
  | none => exact .inl ⟨rfl, by simp only [fsqrtI, hd]⟩
  | some r => exact .inr ⟨r, rfl, by simp only [fsqrtI, hd]⟩
theorem fsqrt_good {x : Int} (h : fsqrtI x ≠ -1) : GoodF .f64 (fsqrtI x) := by
  rcases sqrt_cases x with ⟨_, h2⟩ | ⟨r, hr, h2⟩
  · exact absurd h2 h
  · rw [h2]; exact good_of (map_number hr fun d hd => root_number hd) (FloatKind.f64.format.sqrt_lt hr)
theorem fpick_good {neg : Bool} {x y : Int} (hx : GoodF .f64 x) (hy : GoodF .f64 y) : GoodF .f64 (fpickI neg x y) := by
  have gx : GoodF .f64 (x.toNat : Int) := by rw [Int.toNat_of_nonneg hx.1.1]; exact hx
  have gy : GoodF .f64 (y.toNat : Int) := by rw [Int.toNat_of_nonneg hy.1.1]; exact hy
  have nx : (FloatKind.f64.decode x.toNat).isNaN = false := isNaN_of_ford hx.2
  have ny : (FloatKind.f64.decode y.toNat).isNaN = false := isNaN_of_ford hy.2
  unfold fpickI
  simp only [nx, ny, Bool.or_false, Bool.false_eq_true, if_false]
  split
  · exact good_of (write_number _ _ rfl) (FloatKind.f64.format.write_lt _)
  · split
    · split <;> assumption
    · generalize (if neg = true then some Ordering.lt else some Ordering.gt : Option Ordering) = z
      split <;> first | assumption | (split <;> assumption)

section
variable {P : Program} {w0 : Base} {w : World} {ρ : Env2} {s : St}
theorem run_bits (k : FloatKind) (n : Nat) : ((XK.bits k).sem #[.float k n]).run P w = .ok (.int (kU k) n) w := by cases k <;> rfl
theorem run_from (k : FloatKind) (n : Int) : ((XK.frombits k).sem #[.int (kU k) n]).run P w = .ok (.float k n.toNat) w := by cases k <;> rfl
theorem run_whole (name : String) (way : Ieee.Toward) (n : Nat) : ((XK.whole name way).sem #[.float .f64 n]).run P w = match FloatKind.f64.decode n with
    | .nan s t => if FloatKind.f64.format.quiet t = t then .ok (.float .f64 n) w else
        .ok (.float .f64 (if (Question.extern "math.Floor,Ceil,Trunc,RoundToEven.signallingNaN kept" 2).cut (w.tape w.drawn (.extern "math.Floor,Ceil,Trunc,RoundToEven.signallingNaN kept" 2)) == 1 then n else FloatKind.f64.encode (.nan s (FloatKind.f64.format.quiet t)))) { w with drawn := w.drawn + 1 }
    | d => .ok (.float .f64 (FloatKind.f64.encode (d.integral way))) w := by
  have h : (XK.whole name way).sem #[.float .f64 n] = (match FloatKind.f64.decode n with
    | .nan s t =>
      if FloatKind.f64.format.quiet t = t then pure (.float .f64 n) else do
      let kept ← choose (.extern "math.Floor,Ceil,Trunc,RoundToEven.signallingNaN kept" 2)
      pure (.float .f64 (if kept == 1 then n else FloatKind.f64.encode (.nan s (FloatKind.f64.format.quiet t))))
    | d => pure (.float .f64 (FloatKind.f64.encode (d.integral way)))) := rfl
  rw [h]
  cases FloatKind.f64.decode n with
  | number g m e => rfl
  | infinity g => rfl
  | nan g t =>
    dsimp only
    by_cases hq : FloatKind.f64.format.quiet t = t
    · rw [if_pos hq, if_pos hq]; rfl
    · rw [if_neg hq, if_neg hq]; rfl
theorem run_sqrt (n : Nat) : (XK.sqrt.sem #[.float .f64 n]).run P w = match FloatKind.f64.format.sqrt n with
    | some r => .ok (.float .f64 r) w
    | none => .ok (.float .f64 ((Question.nanBits .f64 n n).cut (w.tape w.drawn (.nanBits .f64 n n)))) { w with drawn := w.drawn + 1 } := by
  have h : XK.sqrt.sem #[.float .f64 n] = (match FloatKind.f64.format.sqrt n with
    | some r => pure (.float .f64 r)
    | none => do pure (.float .f64 (← choose (.nanBits .f64 n n)))) := rfl
  rw [h]
  cases FloatKind.f64.format.sqrt n with
  | some r => rfl
  | none => rfl
theorem run_pick (name : String) (neg : Bool) (x y : Int) : ((XK.pick name neg).sem #[.float .f64 x.toNat, .float .f64 y.toNat]).run P w = .ok (.float .f64 (fpickI neg x y).toNat) w := by
  cases neg <;> rfl
theorem ans_orNan (hw : RelW w0 ρ s w) {k : FloatKind} {e : E} {f : Nat} {xs : List Value} (hsame : ∀ ρ', Le s ρ ρ' → e.den ρ'.toEnv = e.den ρ.toEnv)
    (hgood : e.den ρ.toEnv ≠ -1 → GoodF k (e.den ρ.toEnv) ∧ (callFunc f xs.toArray).run P w = .ok (.value (.float k (e.den ρ.toEnv).toNat)) w)
    (hnan : e.den ρ.toEnv = -1 → ∃ (n : Int) (w1 : World), (w1 = w ∨ w1 = { w with drawn := w.drawn + 1 }) ∧ NanF k n ∧ (callFunc f xs.toArray).run P w = .ok (.value (.float k n.toNat)) w1) :
    Told P f xs w (Answers w0 ρ s (orNan s k e)) := by
  obtain ⟨s1, hs1, hw1, _, hb1, hv1, _, _⟩ := branch_ok (a := { tmps := #[], defers := [] }) (s := { s with n := 0, tm := .e }) (ρ := ρ) (w := w) (w0 := w0)
    (fun ρ' hle => let h0 := hw ρ' hle; ⟨h0.ext, h0.fn, h0.hp, h0.inj, h0.gl, h0.bd, h0.pc⟩) (fun ρ' _ => ⟨rfl, fun t v ht _ => absurd ht (Nat.not_lt_zero _), rfl⟩) (mkNot (mkEq e (.lit (-1)))) (decide (e.den ρ.toEnv ≠ -1)) fun ρ' hle => by rw [neq_lit, hsame ρ' hle]
  have hbr : ∀ (b : Bool) (s2 : St), (b, s2) ∈ branch { s with n := 0, tm := .e } (mkNot (mkEq e (.lit (-1)))) → ∃ s3, (b, s3) ∈ branch s (mkNot (mkEq e (.lit (-1)))) ∧ s3.nb = s2.nb ∧ s3.nv = s2.nv ∧ s3.hp = s2.hp ∧ s3.bd = s2.bd ∧ s3.pc = s2.pc ∧ s3.gl = s2.gl := by
    intro b s2 hm
    unfold branch at hm ⊢
    cases hd : decB s.bd s.pc (mkNot (mkEq e (.lit (-1)))) with
    | some t => simp only [hd, List.mem_singleton, Prod.mk.injEq] at hm ⊢; obtain ⟨rfl, rfl⟩ := hm; exact ⟨s, ⟨rfl, rfl⟩, rfl, rfl, rfl, rfl, rfl, rfl⟩
    | none =>
      simp only [hd, List.mem_cons, Prod.mk.injEq, List.not_mem_nil, or_false] at hm ⊢
      rcases hm with ⟨rfl, rfl⟩ | ⟨rfl, rfl⟩
      · exact ⟨_, .inl ⟨rfl, rfl⟩, rfl, rfl, rfl, rfl, rfl, rfl⟩
      · exact ⟨_, .inr ⟨rfl, rfl⟩, rfl, rfl, rfl, rfl, rfl, rfl⟩
  obtain ⟨s3, hs3, e1, e2, e3, e4, e5, e6⟩ := hbr _ _ hs1
  have hw3 : RelW w0 ρ s3 w := fun ρ' hle => by
    have h0 := hw1 ρ' ⟨fun i hi => hle.1 i (by omega), fun i hi => hle.2.1 i (by omega), hle.2.2.1, hle.2.2.2⟩
    exact ⟨h0.ext, h0.fn, fun i o ho => by rw [e1]; exact h0.hp i o (e3 ▸ ho), fun i j o o' hi hj => h0.inj i j o o' (e3 ▸ hi) (e3 ▸ hj), e6 ▸ h0.gl, e4 ▸ h0.bd, e5 ▸ h0.pc⟩
  have b3 : s3.nb = s.nb := e1.trans hb1
  have v3 : s3.nv = s.nv := e2.trans hv1
  have hle3 : ∀ {ρ'}, Le s3 ρ ρ' ↔ Le s ρ ρ' := by simp [Le, b3, v3]
  by_cases h : e.den ρ.toEnv = -1
  · rw [decide_eq_false (by simp [h])] at hs3
    obtain ⟨n, w1, hw2, hN, hrun⟩ := hnan h
    have hw4 : RelW w0 ρ s3 w1 := by
      rcases hw2 with h2 | h2
      · rw [h2]; exact hw3
      · rw [h2]; exact relW_drawn hw3
    have h0 := le_setV s ρ n
    rw [← v3] at h0
    refine .inr ⟨_, w1, hrun, _, List.mem_map.2 ⟨_, hs3, rfl⟩, _, ρ.setV s3.nv n, rfl, h0, by simp [St.fresh, b3], by simp [St.fresh, v3], relW_fresh hw4 fun ρ' hn => nanB_ok (by simp only [E.den]; rw [hn]; exact hN), fun ρ' hle => ?_⟩
    simp only [V.den, E.den, (le_fresh hle).2]
  · rw [decide_eq_true h] at hs3
    obtain ⟨hG, hrun⟩ := hgood h
    refine .inr ⟨_, w, hrun, _, List.mem_map.2 ⟨_, hs3, rfl⟩, _, ρ, rfl, Le.refl _ _, by simp [St.more, b3], by simp [St.more, v3], relW_more hw3 fun ρ' hle => goodB_ok (by rw [hsame ρ' (hle3.1 hle)]; exact hG), fun ρ' hle => ?_⟩
    have hle : Le s3 ρ ρ' := hle
    simp only [V.den, hsame ρ' (hle3.1 hle)]

theorem xk_ok {k : XK} {f : Nat} (hx : ∀ ys w, (callFunc f ys).run P w = ((k.sem ys).run P w).andThen fun v w' => .ok (.value v) w') {args : List V} {l : List (V × St)} (h : k.out s args = some l)
    (hw : RelW w0 ρ s w) {xs : List Value} (hxs : ∀ ρ', Le s ρ ρ' → V.denL ρ' args = xs) : Told P f xs w (Answers w0 ρ s l) := by
  have h00 := hxs ρ (Le.refl _ _)
  have one : ∀ {v : V} {x : Value} {b : Bd}, l = [(v, s.more b)] → (callFunc f xs.toArray).run P w = .ok (.value x) w → (∀ ρ', Le s ρ ρ' → b.ok ρ'.toEnv) → (∀ ρ', Le s ρ ρ' → v.den ρ' = x) → Told P f xs w (Answers w0 ρ s l) := fun hl hr hb hv =>
    .inr ⟨_, w, hr, _, by rw [hl]; exact List.mem_singleton.2 rfl, _, ρ, rfl, Le.refl _ _, Nat.le_refl _, Nat.le_refl _, relW_more hw hb, fun ρ' hle => hv ρ' hle⟩
  have nob : ∀ ρ', Le s ρ ρ' → Bd.ok ρ'.toEnv [] := fun _ _ => fun p hp => by cases hp
  unfold XK.out at h
  split at h
  · rename_i k
    split at h
    · rename_i k' a
      split at h
      · rename_i hc
        simp only [Bool.and_eq_true, decide_eq_true_eq] at hc
        obtain ⟨rfl, hc⟩ := hc
        cases h
        have hb := in_bnd hc (has_itv hw.to.bd a)
        refine one (b := []) rfl (x := .int (kU k) (a.den ρ.toEnv)) ?_ nob fun ρ' hle => ?_
        · rw [hx, ← h00, show (V.denL ρ [V.flt k a]).toArray = #[.float k (a.den ρ.toEnv).toNat] by simp [V.denL, V.den], run_bits, Int.toNat_of_nonneg hb.1]; rfl
        · have h1 := hxs ρ' hle
          rw [← h00] at h1
          simp only [V.denL, V.den, List.cons.injEq, Value.float.injEq, true_and, and_true] at h1
          have hb' := in_bnd hc (has_itv (hw ρ' hle).bd a)
          simp only [V.den]
          congr 1; omega
      · cases h
    · cases h
  · rename_i k
    split at h
    · rename_i u a
      split at h
      · rename_i hc
        have hc := of_decide_eq_true hc
        subst hc
        cases h
        refine one (b := []) rfl (x := .float k (a.den ρ.toEnv).toNat) ?_ nob fun ρ' hle => ?_
        · rw [hx, ← h00, show (V.denL ρ [V.int (kU k) a]).toArray = #[.int (kU k) (a.den ρ.toEnv)] by simp [V.denL, V.den], run_from]; rfl
        · have h1 := hxs ρ' hle
          rw [← h00] at h1
          simp only [V.denL, V.den, List.cons.injEq, Value.int.injEq, true_and, and_true] at h1
          simp only [V.den, h1]
      · cases h
    · cases h
  · rename_i name way
    split at h
    · rename_i a
      split at h
      · rename_i hc
        cases h
        have hb := in_bnd hc (has_itv hw.to.bd a)
        have hden : ∀ ρ' : Env, (mkUn (.fwhole way) a).den ρ' = fwholeI way (a.den ρ') := fun ρ' => by rw [den_mkUn]; rfl
        have hrun : (callFunc f xs.toArray).run P w = (((XK.whole name way).sem #[.float .f64 (a.den ρ.toEnv).toNat]).run P w).andThen fun v w' => .ok (.value v) w' := by
          rw [hx, ← h00, show (V.denL ρ [V.flt .f64 a]).toArray = #[.float .f64 (a.den ρ.toEnv).toNat] by simp [V.denL, V.den]]
        rw [run_whole] at hrun
        have hsame : ∀ ρ', Le s ρ ρ' → (mkUn (.fwhole way) a).den ρ'.toEnv = (mkUn (.fwhole way) a).den ρ.toEnv := fun ρ' hle => by
          have h1 := hxs ρ' hle
          rw [← h00] at h1
          simp only [V.denL, V.den, List.cons.injEq, Value.float.injEq, true_and, and_true] at h1
          rw [hden, hden]; unfold fwholeI; rw [h1]
        have bad : knownN s.bd .f64 a = some false → fwholeI way (a.den ρ.toEnv) = -1 := fun ht => by
          have := knownF_some hw.to.bd ht
          rcases whole_cases way (a.den ρ.toEnv) with ⟨_, h2⟩ | ⟨h1, _⟩
          · exact h2
          · rw [h1] at this; cases this
        have fine : knownN s.bd .f64 a = some true → fwholeI way (a.den ρ.toEnv) ≠ -1 := fun ht hh => by
          have := knownF_some hw.to.bd ht
          rcases whole_cases way (a.den ρ.toEnv) with ⟨⟨g, t, hd⟩, _⟩ | ⟨_, h2⟩
          · rw [hd] at this; cases this
          · exact (nat_ne (h2.symm.trans hh) (by decide)).elim
        have okrun : fwholeI way (a.den ρ.toEnv) ≠ -1 → (callFunc f xs.toArray).run P w = .ok (.value (.float .f64 (fwholeI way (a.den ρ.toEnv)).toNat)) w := fun hne => by
          rw [hrun]
          rcases whole_cases way (a.den ρ.toEnv) with ⟨_, h2⟩ | ⟨h1, h2⟩
          · exact absurd h2 hne
          · rw [h2, Int.toNat_natCast]
            cases hd : FloatKind.f64.decode (a.den ρ.toEnv).toNat with
            | nan g t => rw [hd] at h1; cases h1
            | number g m e => rfl
            | infinity g => rfl
        have nanw : fwholeI way (a.den ρ.toEnv) = -1 → ∃ (n : Int) (w1 : World), (w1 = w ∨ w1 = { w with drawn := w.drawn + 1 }) ∧ NanF .f64 n ∧ (callFunc f xs.toArray).run P w = .ok (.value (.float .f64 n.toNat)) w1 := fun he => by
            rcases whole_cases way (a.den ρ.toEnv) with ⟨⟨g, t, hd⟩, _⟩ | ⟨_, h2⟩
            · rw [hd] at hrun
              dsimp only at hrun
              by_cases hq : FloatKind.f64.format.quiet t = t
              · rw [if_pos hq] at hrun
                exact ⟨a.den ρ.toEnv, w, .inl rfl, nan_self hb hd, hrun⟩
              · rw [if_neg hq] at hrun
                by_cases hk : ((Question.extern "math.Floor,Ceil,Trunc,RoundToEven.signallingNaN kept" 2).cut (w.tape w.drawn (.extern "math.Floor,Ceil,Trunc,RoundToEven.signallingNaN kept" 2)) == 1) = true
                · rw [if_pos hk] at hrun
                  exact ⟨a.den ρ.toEnv, _, .inr rfl, nan_self hb hd, hrun⟩
                · rw [if_neg hk] at hrun
                  exact ⟨_, _, .inr rfl, quiet_nan t g, by rw [Int.toNat_natCast]; exact hrun⟩
            · exact (nat_ne (h2.symm.trans he) (by decide)).elim
        cases hkk : knownN s.bd .f64 a with
        | some t =>
          cases t with
          | true =>
            have hne := fine hkk
            refine .inr ⟨_, w, okrun hne, _, List.mem_singleton.2 rfl, _, ρ, rfl, Le.refl _ _, Nat.le_refl _, Nat.le_refl _, relW_more hw fun ρ' hle => goodB_ok (by rw [hsame ρ' hle, hden]; exact fwhole_good hne), fun ρ' hle => ?_⟩
            have hle : Le s ρ ρ' := hle
            simp only [V.den]
            rw [hsame ρ' hle, hden]
          | false =>
            refine (ans_orNan (s := s.more [(mkUn (.fwhole way) a, (some (-1), some (-1)))]) (relW_more hw fun ρ' hle => fun p hp => by
              simp only [List.mem_singleton] at hp; subst hp; rw [hsame ρ' hle, hden, bad hkk]; exact ⟨fun _ h => by cases h; decide, fun _ h => by cases h; decide⟩) (fun ρ' hle => hsame ρ' hle) (fun hne => ?_) (fun he => ?_))
            · rw [hden] at hne; exact absurd (bad hkk) hne
            · exact nanw (bad hkk)
        | none =>
        refine ans_orNan hw hsame (fun hne => ?_) (fun he => ?_)
        · rw [hden] at hne ⊢
          exact ⟨fwhole_good hne, okrun hne⟩
        · rw [hden] at he; exact nanw he
      · cases h
    · cases h
  · split at h
    · rename_i a
      cases h
      have hden : ∀ ρ' : Env, (mkUn .fsqrt a).den ρ' = fsqrtI (a.den ρ') := fun ρ' => by rw [den_mkUn]; rfl
      have hrun : (callFunc f xs.toArray).run P w = ((XK.sqrt.sem #[.float .f64 (a.den ρ.toEnv).toNat]).run P w).andThen fun v w' => .ok (.value v) w' := by
        rw [hx, ← h00, show (V.denL ρ [V.flt .f64 a]).toArray = #[.float .f64 (a.den ρ.toEnv).toNat] by simp [V.denL, V.den]]
      rw [run_sqrt] at hrun
      have hsame : ∀ ρ', Le s ρ ρ' → (mkUn .fsqrt a).den ρ'.toEnv = (mkUn .fsqrt a).den ρ.toEnv := fun ρ' hle => by
        have h1 := hxs ρ' hle
        rw [← h00] at h1
        simp only [V.denL, V.den, List.cons.injEq, Value.float.injEq, true_and, and_true] at h1
        rw [hden, hden]; unfold fsqrtI; rw [h1]
      have bad : knownN s.bd .f64 a = some false → fsqrtI (a.den ρ.toEnv) = -1 := fun ht => by
        have := knownF_some hw.to.bd ht
        rcases sqrt_cases (a.den ρ.toEnv) with ⟨_, h2⟩ | ⟨r, hr, _⟩
        · exact h2
        · unfold Ieee.Format.sqrt at hr
          have hn : (FloatKind.f64.format.read (a.den ρ.toEnv).toNat).isNaN = true := this
          cases hd : FloatKind.f64.format.read (a.den ρ.toEnv).toNat with
          | nan g t => rw [hd] at hr; cases hr
          | number g m e => rw [hd] at hn; cases hn
          | infinity g => rw [hd] at hn; cases hn
      have key : ∀ b : Bd, (∀ ρ', Le s ρ ρ' → b.ok ρ'.toEnv) → Told P f xs w (Answers w0 ρ s (orNan (s.more b) .f64 (mkUn .fsqrt a))) := fun b hb => by
       refine ans_orNan (s := s.more b) (relW_more hw hb) hsame (fun hne => ?_) (fun he => ?_)
       · rw [hden] at hne ⊢
         refine ⟨fsqrt_good hne, ?_⟩
         rw [hrun]
         rcases sqrt_cases (a.den ρ.toEnv) with ⟨_, h2⟩ | ⟨r, hr, h2⟩
         · exact absurd h2 hne
         · rw [h2, hr]; rfl
       · rw [hden] at he
         rcases sqrt_cases (a.den ρ.toEnv) with ⟨hr, _⟩ | ⟨r, _, h2⟩
         · rw [hr] at hrun
           exact ⟨_, _, .inr rfl, nanCut (k := .f64) (q := .nanBits .f64 (a.den ρ.toEnv).toNat (a.den ρ.toEnv).toNat) (.inl ⟨_, _, rfl⟩) (w.tape w.drawn (.nanBits .f64 (a.den ρ.toEnv).toNat (a.den ρ.toEnv).toNat)), by rw [Int.toNat_natCast]; exact hrun⟩
         · exact (nat_ne (h2.symm.trans he) (by decide)).elim
      cases hkk : knownN s.bd .f64 a with
      | some t =>
        cases t with
        | true => exact key [] fun _ _ => fun p hp => by cases hp
        | false =>
          refine key _ fun ρ' hle => fun p hp => ?_
          simp only [List.mem_singleton] at hp; subst hp; rw [hsame ρ' hle, hden, bad hkk]; exact ⟨fun _ h => by cases h; decide, fun _ h => by cases h; decide⟩
      | none => exact key [] fun _ _ => fun p hp => by cases hp
    · cases h
  · rename_i name neg
    split at h
    · rename_i a c
      split at h
      · rename_i hc
        simp only [Bool.and_eq_true, numF] at hc
        obtain ⟨⟨a1, a2⟩, ⟨c1, c2⟩⟩ := hc
        cases h
        have ga : ∀ ρ', Le s ρ ρ' → GoodF .f64 (a.den ρ'.toEnv) := fun ρ' hle => ⟨in_bnd a1 (has_itv (hw ρ' hle).bd a), by
          have := is_zero a2 (has_itv (hw ρ' hle).bd _); rw [den_mkBin] at this; exact this⟩
        have gc : ∀ ρ', Le s ρ ρ' → GoodF .f64 (c.den ρ'.toEnv) := fun ρ' hle => ⟨in_bnd c1 (has_itv (hw ρ' hle).bd c), by
          have := is_zero c2 (has_itv (hw ρ' hle).bd _); rw [den_mkBin] at this; exact this⟩
        have hden : ∀ ρ' : Env, (mkBin (.fpick neg) a c).den ρ' = fpickI neg (a.den ρ') (c.den ρ') := fun ρ' => by rw [den_mkBin]; rfl
        refine one rfl (x := .float .f64 (fpickI neg (a.den ρ.toEnv) (c.den ρ.toEnv)).toNat) ?_ (fun ρ' hle => goodB_ok (by rw [hden]; exact fpick_good (ga ρ' hle) (gc ρ' hle))) fun ρ' hle => ?_
        · rw [hx, ← h00, show (V.denL ρ [V.flt .f64 a, V.flt .f64 c]).toArray = #[.float .f64 (a.den ρ.toEnv).toNat, .float .f64 (c.den ρ.toEnv).toNat] by simp [V.denL, V.den], run_pick]; rfl
        · have h1 := hxs ρ' hle
          rw [← h00] at h1
          simp only [V.denL, V.den, List.cons.injEq, Value.float.injEq, true_and, and_true] at h1
          simp only [V.den, hden]
          unfold fpickI
          rw [h1.1, h1.2]
      · cases h
    · cases h

theorem xOracle_ok : ∀ {xs : List (Nat × XK)}, XtOk P xs → OracleOk P w0 (xOracle xs)
  | [], _, f, s, args, l, h => by simp [xOracle] at h
  | p :: r, hx, f, s, args, l, h => by
    intro ρ w hw xs hxs
    simp only [xOracle] at h
    split at h
    · rename_i hb
      have := Nat.eq_of_beq_eq_true hb
      subst this
      have hs : p.2.out s args = some l := by injection h
      exact xk_ok (hx p List.mem_cons_self) hs hw hxs
    · exact xOracle_ok (fun q hq => hx q (List.mem_cons_of_mem _ hq)) f s args l h ρ w hw xs hxs
end
end Go.Sx
