/- Names and blocks put in the place of others; input rows: what they hold is told by functions of numbers. -/
import Derived.Test.YtjgobpmhdeancaaSxZ
namespace Go.Sx
open Go
set_option linter.unusedSimpArgs false

/-- an expression at others in the place of its names -/
def E.at (l : List E) : E → E
  | .lit n => .lit n
  | .var i => l.getD i (.lit 0)
  | .un o a => mkUn o (a.at l)
  | .bin o a b => mkBin o (a.at l) (b.at l)
  | .ite c a b => match c.at l with
    | .lit n => match decide (n = 0) with
      | true => b.at l
      | false => a.at l
    | c' => .ite c' (a.at l) (b.at l)
  | .fn f a b c => .fn f (a.at l) (b.at l) (c.at l)
def atEnv (ρ : Env) (l : List E) : Env := ⟨fun i => (l.getD i (.lit 0)).den ρ, ρ.fn⟩
theorem den_at (ρ : Env) (l : List E) : ∀ e : E, (e.at l).den ρ = e.den (atEnv ρ l)
  | .lit _ => rfl
  | .var _ => rfl
  | .un o a => by simp only [E.at, den_mkUn, E.den, den_at ρ l a]
  | .bin o a b => by simp only [E.at, den_mkBin, E.den, den_at ρ l a, den_at ρ l b]
  | .ite c a b => by
    have hc := den_at ρ l c
    simp only [E.at, E.den]
    split
    · rename_i n hn
      rw [hn] at hc
      simp only [E.den] at hc
      split
      · rename_i h; rw [if_neg (by rw [← hc]; simpa using h), den_at ρ l b]
      · rename_i h; rw [if_pos (by rw [← hc]; simpa using h), den_at ρ l a]
    · simp only [E.den, den_at ρ l a, den_at ρ l b, hc]
  | .fn f a b c => by simp only [E.at, E.den, den_at ρ l a, den_at ρ l b, den_at ρ l c]; rfl
/-! ### rows over other names -/
def D.sub (l : List E) : D → D
  | .con e => .con (e.at l)
  | .fn k f sh cd => .fn k f (sh.at l) (cd.at l)
def subW (l : List E) : List (E × E × D) → List (E × E × D)
  | [] => []
  | (lo, hi, d) :: r => (lo.at l, hi.at l, d.sub l) :: subW l r
theorem D.at_sub (ρ : Env) (l : List E) (d : D) (j : Int) : (d.sub l).at ρ j = d.at (atEnv ρ l) j := by
  cases d with
  | con e => simp only [D.sub, D.at, den_at]
  | fn k f sh cd => simp only [D.sub, D.at, den_at]; rfl
theorem readW_sub (ρ : Env) (l : List E) (d : D) (j : Int) : ∀ ws : List (E × E × D), readW ρ (d.sub l) (subW l ws) j = readW (atEnv ρ l) d ws j
  | [] => by simp only [subW, readW, D.at_sub]
  | (lo, hi, v) :: r => by simp only [subW, readW, den_at, D.at_sub, readW_sub ρ l d j r]
def Arr.sub (l : List E) (A : Arr) : Arr := ⟨A.size.at l, A.kind, A.dflt.sub l, subW l A.ws⟩
theorem Arr.row_sub (ρ : Env) (l : List E) (A : Arr) : (A.sub l).row ρ = A.row (atEnv ρ l) := by
  simp only [Arr.row, Arr.sub, den_at, readW_sub]
theorem Arr.den_sub (ρ : Env) (l : List E) (A : Arr) : (A.sub l).den ρ = A.den (atEnv ρ l) := by
  simp only [Arr.den, Arr.row_sub]; rfl
theorem Arr.bytes_sub (ρ : Env) (l : List E) (A : Arr) : (A.sub l).bytes ρ = A.bytes (atEnv ρ l) := by
  simp only [Arr.bytes, Arr.row_sub]

/-! ### values over other names and blocks -/
def blkOf (bl : List Nat) (i : Nat) : Nat := bl.getD i (bl.headD 0)
mutual
def V.sub (l : List E) (bl : List Nat) : V → V
  | .bool e => .bool (e.at l)
  | .int k e => .int k (e.at l)
  | .flt k e => .flt k (e.at l)
  | .ptr b off => .ptr (blkOf bl b) off
  | .gat g e => .gat g (e.at l)
  | .slice b off len cap => .slice (blkOf bl b) off len cap
  | .sl b off len cap => .sl (blkOf bl b) (off.at l) (len.at l) (cap.at l)
  | .cel b off => .cel (blkOf bl b) (off.at l)
  | .astr A => .astr (A.sub l)
  | .agg vs => .agg (V.subL l bl vs)
  | .tup vs => .tup (V.subL l bl vs)
  | .iface t v => .iface t (v.sub l bl)
  | .vf f c => .vf f (c.at l)
  | .ia f c j size off => .ia f (c.at l) (j.at l) size off
  | .str s => .str s
  | .gptr g off => .gptr g off
  | .nilp => .nilp
  | .nils => .nils
  | .func f => .func f
  | .nili => .nili
  | .raw i => .raw i
def V.subL (l : List E) (bl : List Nat) : List V → List V
  | [] => []
  | v :: r => v.sub l bl :: V.subL l bl r
end
def Env2.atL (ρ : Env2) (l : List E) (bl : List Nat) : Env2 := { ρ with v := fun i => (l.getD i (.lit 0)).den ρ.toEnv, blk := fun i => ρ.blk (blkOf bl i) }
mutual
theorem V.den_sub (ρ : Env2) (l : List E) (bl : List Nat) : ∀ v : V, (v.sub l bl).den ρ = v.den (ρ.atL l bl)
  | .bool e => by simp only [V.sub, V.den, den_at]; rfl
  | .int k e => by simp only [V.sub, V.den, den_at]; rfl
  | .flt k e => by simp only [V.sub, V.den, den_at]; rfl
  | .ptr b off => by simp only [V.sub, V.den]; rfl
  | .gat g e => by simp only [V.sub, V.den, den_at]; rfl
  | .slice b off len cap => by simp only [V.sub, V.den]; rfl
  | .sl b off len cap => by simp only [V.sub, V.den, den_at]; rfl
  | .cel b off => by simp only [V.sub, V.den, den_at]; rfl
  | .astr A => by simp only [V.sub, V.den, Arr.bytes_sub]; rfl
  | .agg vs => by simp only [V.sub, V.den, V.den_subL ρ l bl vs]
  | .tup vs => by simp only [V.sub, V.den, V.den_subL ρ l bl vs]
  | .iface t v => by simp only [V.sub, V.den, V.den_sub ρ l bl v]
  | .vf f c => by simp only [V.sub, V.den, den_at]; rfl
  | .ia f c j size off => by simp only [V.sub, V.den, den_at]; rfl
  | .str s => by simp only [V.sub, V.den]
  | .gptr g off => by simp only [V.sub, V.den]
  | .nilp => by simp only [V.sub, V.den]
  | .nils => by simp only [V.sub, V.den]
  | .func f => by simp only [V.sub, V.den]
  | .nili => by simp only [V.sub, V.den]
  | .raw i => by simp only [V.sub, V.den]; rfl
theorem V.den_subL (ρ : Env2) (l : List E) (bl : List Nat) : ∀ vs : List V, V.denL ρ (V.subL l bl vs) = V.denL (ρ.atL l bl) vs
  | [] => by simp only [V.subL, V.denL]
  | v :: r => by simp only [V.subL, V.denL, V.den_sub ρ l bl v, V.den_subL ρ l bl r]
end

/-! ### input rows -/
variable {P : Program} {w0 : Base} {w : World} {ρ : Env2} {s : St} {a : Act}
theorem add_add (b : Addr) (m n : Nat) : (b.add m).add n = b.add (m + n) := by
  unfold Addr.add
  by_cases hm : m = 0
  · subst hm; simp
  · by_cases hn : n = 0
    · subst hn; simp [hm]
    · have : m + n ≠ 0 := by omega
      simp [hm, hn, this, Nat.add_assoc]
def inpOf : List InSpec → Nat → Option InSpec
  | [], _ => none
  | sp :: r, f => match Nat.beq sp.f f with
    | true => some sp
    | false => inpOf r f
theorem inpOf_some : ∀ {l : List InSpec} {f : Nat} {sp : InSpec}, inpOf l f = some sp → sp ∈ l ∧ sp.f = f
  | [], f, sp, h => by cases h
  | q :: r, f, sp, h => by
    simp only [inpOf] at h
    split at h
    · rename_i hb; cases h; exact ⟨List.mem_cons_self, Nat.eq_of_beq_eq_true hb⟩
    · obtain ⟨h1, h2⟩ := inpOf_some h; exact ⟨List.mem_cons_of_mem _ h1, h2⟩
def InSpec.lenAt (sp : InSpec) (c : E) : E := sp.len.at [c]
theorem lenAt_den (ρ : Env2) (sp : InSpec) (c : E) (h : 0 ≤ c.den ρ.toEnv) (hu : sp.len.low 1 = true) : (sp.lenAt c).den ρ.toEnv = sp.len.den ⟨fun _ => (((c.den ρ.toEnv).toNat : Nat) : Int), ρ.fn⟩ := by
  unfold InSpec.lenAt
  rw [den_at]
  refine den_low (n := 1) (ρ := ⟨fun _ => (((c.den ρ.toEnv).toNat : Nat) : Int), ρ.fn⟩) (ρ' := atEnv ρ.toEnv [c]) rfl (fun j hj => ?_) hu
  obtain rfl : j = 0 := by omega
  simp only [atEnv, List.getD, List.getElem?_cons_zero, Option.getD_some]
  omega
def lowV2 : V → Bool
  | .int _ e => e.low 2
  | .bool e => e.low 2
  | .vf _ c => c.low 2
  | .astr ⟨sz, _, .fn _ _ sh cd, []⟩ => sz.low 2 && sh.low 2 && cd.low 2
  | _ => false
theorem low2_den {ρ : Env2} {c j : E} (hc : 0 ≤ c.den ρ.toEnv) (hj : 0 ≤ j.den ρ.toEnv) {e : E} (h : e.low 2 = true) : e.den (ρ.atL [j, c] []).toEnv = e.den (ρ.two (j.den ρ.toEnv).toNat (c.den ρ.toEnv).toNat).toEnv := by
  refine den_low (n := 2) (ρ := (ρ.two (j.den ρ.toEnv).toNat (c.den ρ.toEnv).toNat).toEnv) (ρ' := (ρ.atL [j, c] []).toEnv) rfl (fun i hi => ?_) h
  have : i = 0 ∨ i = 1 := by omega
  rcases this with rfl | rfl
  · simp only [Env2.atL, Env2.two, List.getD, List.getElem?_cons_zero, Option.getD_some, if_true]; omega
  · simp only [Env2.atL, Env2.two, List.getD, List.getElem?_cons_zero, List.getElem?_cons_succ, Option.getD_some]; rw [if_neg (by decide)]; omega
theorem lowV2_den {ρ : Env2} {c j : E} (hc : 0 ≤ c.den ρ.toEnv) (hj : 0 ≤ j.den ρ.toEnv) {v : V} (h : lowV2 v = true) : v.den (ρ.atL [j, c] []) = v.den (ρ.two (j.den ρ.toEnv).toNat (c.den ρ.toEnv).toNat) := by
  unfold lowV2 at h
  split at h
  · simp only [V.den, low2_den hc hj h]
  · simp only [V.den, low2_den hc hj h]
  · simp only [V.den, low2_den hc hj h]; rfl
  · rename_i sz k k' f sh cd
    simp only [Bool.and_eq_true] at h
    have h1 := low2_den hc hj h.1.1
    have h2 := low2_den hc hj h.1.2
    have h3 := low2_den hc hj h.2
    simp only [V.den, Arr.bytes, Arr.row, readW, D.at, h1, h2, h3]
    rfl
  · cases h
def allLow2 : List V → Bool
  | [] => true
  | v :: r => lowV2 v && allLow2 r
theorem allLow2_get : ∀ {l : List V}, allLow2 l = true → ∀ {k : Nat} {v : V}, l[k]? = some v → lowV2 v = true
  | [], _, k, v, h => by simp at h
  | u :: r, hl, k, v, h => by
    simp only [allLow2, Bool.and_eq_true] at hl
    cases k with
    | zero => simp at h; subst h; exact hl.1
    | succ k => exact allLow2_get hl.2 (by simpa using h)
theorem in_len {ρ' : Env2} (h : RelW0 w0 ρ' s w) {f : Nat} {c : E} {sp : InSpec} (hs : inpOf s.inp f = some sp) (hc : 0 ≤ c.den ρ'.toEnv) (hl : sp.len.low 1 = true) :
    ∃ (a : Option Addr) (n cap : Nat), ρ'.inAt f (c.den ρ'.toEnv).toNat = .slice a n cap ∧ (sp.lenAt c).den ρ'.toEnv = (n : Int) ∧
      ∀ j : Nat, j < n → ∃ b, a = some b ∧ b.block < w0.w.heap.size ∧ ∀ (k : Nat) (v : V), sp.parts[k]? = some v → w.cell? (b.add (j * sp.size + k)) = some (v.den (ρ'.two j (c.den ρ'.toEnv).toNat)) := by
  obtain ⟨hm, rfl⟩ := inpOf_some hs
  obtain ⟨a, n, cap, h1, h2, h3⟩ := h.gl.2 sp hm (c.den ρ'.toEnv).toNat
  refine ⟨a, n, cap, h1, by rw [lenAt_den ρ' sp c hc hl, h2], fun j hj => ?_⟩
  obtain ⟨b, e1, e2, e3⟩ := h3 j hj
  refine ⟨b, e1, e2, fun k v hv => ?_⟩
  rw [← e3 k v hv]
  unfold World.cell?
  have : (b.add (j * sp.size + k)).block = b.block := by unfold Addr.add; split <;> rfl
  rw [this, h.ext.old _ e2]
end Go.Sx
