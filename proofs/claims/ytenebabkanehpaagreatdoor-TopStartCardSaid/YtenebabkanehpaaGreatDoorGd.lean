/- The engine, part Gd: runs of the code over expressions, and that they tell the truth. No condition. -/
import Derived.Test.YtenebabkanehpaaGreatDoorGc
import Derived.Laws.MakeOwn
import Derived.Lib.UnsafeStr
import Derived.Lib.Builder
import Derived.Test.YtenebabkanehpaaGreatDoorGb
import Derived.RecoverIn
import Derived.Test.YtenebabkanehpaaGreatDoorGa
set_option linter.unusedVariables false
set_option linter.unusedSimpArgs false
/- copy, clear, new rows. -/
namespace Go.Gx
open Go Go.Sx

theorem run_copyB {P : Program} {w w' : World} {ts : Array TypeId} {t ty e : TypeId} {tr : List TypeId} {size n m cap : Nat} {base : Option Addr} {src : Value} {cells : List Value} (ht : ts.toList = t :: tr) (hu : P.underlying t = some (.slice e)) (hs : sizeT P e = some size)
    (hl : (Builtin.lenOf src).run P w = .ok n w) (hc : (Builtin.firstCells size (Nat.min n m) src).run P w = .ok cells.toArray w) (hb : match base with
      | none => w' = w
      | some a => (storeCells a cells).run P w = .ok () w') : (Builtin.copy_ ts ty #[.slice base m cap, src]).run P w = .ok (goInt (Nat.min n m)) w' := by
  cases base with
  | none =>
    simp only at hb
    subst hb
    simp [Builtin.copy_, at0 ht, run_underlying hu, run_sizeT w' hs, hl, hc]
  | some a =>
    simp only at hb
    simp [Builtin.copy_, at0 ht, run_underlying hu, run_sizeT w hs, hl, hc, hb]
theorem minN_eq (a b : Nat) : minN a b = Nat.min a b := by
  unfold minN
  cases h : Nat.ble a b with
  | true => exact (Nat.min_eq_left (Nat.le_of_ble_eq_true h)).symm
  | false => exact (Nat.min_eq_right (Nat.le_of_lt (Nat.lt_of_not_le (Nat.not_le_of_not_ble_eq_true (by simp [h]))))).symm
theorem turn_ok {P : Program} {w0 : Base} {ρ : Rho} {h : H} {w : World} (rh : RelH w0 ρ h w) {b p : Nat} {cs : List V} {xs : List Value} (dcs : DenL h ρ cs xs) {k : H → Res} {l : List (V × H)} (hr : turnRow h b p cs k = some l) :
    ∃ w' h', (storeCells ⟨ρ.blk b, p, none⟩ xs).run P w = .ok () w' ∧ k h' = some l ∧ (∀ ρ', Le h' ρ ρ' ↔ Le h ρ ρ') ∧ Gr h h' ∧ RelH w0 ρ h' w' ∧ Fra h ρ w h' ρ w' := by
  unfold turnRow at hr
  split at hr
  · have : xs = [] := by rw [← dcs ρ (Le.refl _ _)]; rfl
    subst this
    exact ⟨w, h, rfl, hr, fun _ => Iff.rfl, Gr.refl _, rh, Fra.refl _ _ _⟩
  · split at hr
    · rename_i hone
      split at hr
      · rename_i el sz vs hg
        split at hr
        · rename_i vs' hp
          obtain ⟨e1, _, _⟩ := putS_some hp
          obtain ⟨w', g1, g2, g3⟩ := write_row (P := P) rh hg (off := p) dcs (allOne_mem hone) (putL_of_putS hp) (fun w' r0 rest' _ _ => by omega)
          exact ⟨w', _, g1, hr, fun _ => le_put, gr_put _ _ _, g2, g3⟩
        · cases hr
      · cases hr
    · cases hr
theorem DenL.take {h : H} {ρ : Rho} {cs : List V} {xs : List Value} (d : DenL h ρ cs xs) (n : Nat) : DenL h ρ (cs.take n) (xs.take n) := fun ρ' hl => by rw [← denL_take, d ρ' hl]
theorem len_run {P : Program} {w0 : Base} {ρ : Rho} {h : H} {w : World} (rh : RelH w0 ρ h w) {size n : Nat} {v : V} {cs : List V} {ln : E} (hc : cellsOf h size v = some cs) (hl : lenE v = some ln) (hn : litN ln = some n) : (Builtin.lenOf (v.den ρ)).run P w = .ok n w := by
  have hln : ln.den ρ.toEnv = n := by rw [litN_some hn]; rfl
  unfold lenE at hl
  split at hl
  · cases hl
    have : n = 0 := by have := litN_some hn; simp [lit] at this; omega
    simp [Builtin.lenOf, V.den, this]
  · rename_i l
    cases hl
    have : n = l.length := by have := litN_some hn; simp [lit, lenL_eq] at this; omega
    simp [Builtin.lenOf, V.den, strOf, size_str, this]
  · simp [cellsOf] at hc
  · cases hl
    simp [Builtin.lenOf, V.den, hln]
  · cases hl
theorem copy_ok {P : Program} {n : Nat} {o : Oper} {c : Call} {t tx e : TypeId} {x y : Operand} {size : Nat} (ho : o.op = .call c) (hcal : c.callee = .builtin .copy) (hts : c.argTypes.toList = [t, tx]) (hargs : c.args.toList = [x, y]) (hu : P.underlying t = some (.slice e)) (hs : sizeT P e = some size)
    (hx : okOd n x = true) (hy : okOd n y = true) : PO.Ok P n o ⟨fun _ k F h => copyV size h ((od x).g F) ((od y).g F) k⟩ := by
  intro w0 cx _ k F h l hr ρ a w rh rf
  dsimp only [copyV] at hr
  split at hr
  · rename_i cs ln hcs hln
    split at hr
    · rename_i m hm
      have hexec : ∀ {r w1}, (Builtin.copy_ c.argTypes o.type #[a.eval x, a.eval y]).run P w = .ok r w1 → (execOp a.eval o).run P w = .ok (.value r) w1 := fun {r w1} he => by
        rw [run_builtin ho hcal, hargs]
        simp only [List.map_cons, List.map_nil, builtin, Sem.run_bind, he, Result.andThen_ok, Sem.run_pure]
      have ex := den_od rf.to hx
      have ey := den_od rf.to hy
      have dy := Den.od rf hy
      have dcs := cells_stable P rh dy hcs
      have hlen := len_run (P := P) rh hcs hln hm
      rw [← ey] at hlen
      obtain ⟨m', g1, g2, g3⟩ := cellsOf_ok (P := P) rh.to hcs
      rw [← ey] at g1 g3
      rw [hlen] at g1
      injection g1 with g1 _
      subst g1
      generalize hxv : (od x).g F = xv at hr ex
      split at hr
      · -- into nothing
        have h0 := g3 0 (Nat.zero_le _)
        rw [Nat.zero_mul, List.take_zero] at h0
        have hrun := run_copyB (P := P) (w' := w) (ty := o.type) (base := none) (m := 0) (cap := 0) (cells := []) hts hu hs hlen (by rw [show Nat.min m 0 = 0 from Nat.min_zero m]; exact h0) rfl
        refine goes_run (hexec (by rw [ex]; exact hrun)) (post_same rh hr fun ρ' _ => ?_)
        simp [V.den, lit, E.den, goInt]
      · rename_i b off len cap
        split at hr
        · rename_i q p hq hp
          split at hr
          · rename_i cs' hcs'
            obtain ⟨e1, e2⟩ := takeL_some hcs'
            have hpd : off.den ρ.toEnv = p := by rw [litN_some hp]; rfl
            have hqd : len.den ρ.toEnv = q := by rw [litN_some hq]; rfl
            have d' : DenL h ρ cs' (V.denL ρ cs') := by rw [e1, ← denL_take]; exact dcs.take _
            obtain ⟨w', h', k1, k2, k3, k4, k5, k6⟩ := turn_ok (P := P) rh d' hr
            have hfc := g3 (Nat.min m q) (Nat.min_le_left _ _)
            have hrun := run_copyB (P := P) (w' := w') (ty := o.type) (base := some ⟨ρ.blk b, p, none⟩) (m := q) (cap := (cap.den ρ.toEnv).toNat) (cells := V.denL ρ cs') hts hu hs hlen (by
              rw [hfc, e1, ← denL_take, minN_eq]
              rfl) k1
            refine goes_run (hexec (by rw [ex]; simp only [V.den, hpd, hqd, Int.toNat_natCast]; exact hrun)) ⟨_, h', ρ, l, k2, fun _ hy => hy, Le.refl _ _, k4, k5, fun ρ' _ => ?_, k6⟩
            simp [V.den, lit, E.den, goInt, minN_eq]
          · cases hr
        · cases hr
      · cases hr
    · cases hr
  · cases hr
theorem clear_none (ts : Array TypeId) (t ty e : TypeId) (tr : List TypeId) {P : Program} (w : World) (ht : ts.toList = t :: tr) (hu : P.underlying t = some (.slice e)) (n c : Nat) : (Builtin.clear_ ts ty #[.slice none n c]).run P w = .ok undef w := by
  simp [Builtin.clear_, at0 ht, run_underlying hu, undef]
theorem clear_some (ts : Array TypeId) (t ty e : TypeId) (tr : List TypeId) {P : Program} (w w' : World) (ht : ts.toList = t :: tr) (hu : P.underlying t = some (.slice e)) {z : Value} (hz : (zeroValue e).run P w = .ok z w) (a : Addr) (n c : Nat) (hst : (storeCells a (Builtin.zeroCells z.cells n).toList).run P w = .ok () w') :
    (Builtin.clear_ ts ty #[.slice (some a) n c]).run P w = .ok undef w' := by
  cases n with
  | zero =>
    have : (Builtin.zeroCells z.cells 0).toList = [] := by simp [Builtin.zeroCells]
    rw [this] at hst
    have hw : w' = w := by
      have h0 : (storeCells a []).run P w = .ok () w := rfl
      rw [h0] at hst
      injection hst with _ hst
      exact hst.symm
    subst hw
    simp [Builtin.clear_, at0 ht, run_underlying hu, undef]
  | succ n => simp [Builtin.clear_, at0 ht, run_underlying hu, hz, hst, undef]
theorem repL_stable {P : Program} {t : TypeId} {v : V} {h : H} {ρ : Rho} (hz : zeroT P t = some v) (hraw : isRaw v = false) (hpos : 0 < v.cells.length) (m : Nat) : DenL h ρ (repL v.cells m) (Builtin.zeroCells (v.den ρ).cells m).toList := by
  intro ρ' _
  have e : (v.den ρ).cells = (v.den ρ').cells := by
    obtain ⟨i, h1, h2⟩ := zeroT_some ρ hz
    obtain ⟨i', h1', h2'⟩ := zeroT_some ρ' hz
    rw [h1] at h1'
    cases h1'
    rw [h2] at h2'
    rw [Option.some.inj h2']
  rw [e, den_cells _ _ hraw]
  have := repL_den ρ' v.cells m hpos
  have h2 : (Builtin.zeroCells (V.denL ρ' v.cells).toArray m) = (V.denL ρ' (repL v.cells m)).toArray := by
    rw [← this]
    simp [Builtin.zeroCells, denL_len]
  rw [h2]
theorem clear_ok {P : Program} {n : Nat} {o : Oper} {c : Call} {t e : TypeId} {x : Operand} {size : Nat} {z : List V} (ho : o.op = .call c) (hcal : c.callee = .builtin .clear) (hts : c.argTypes.toList = [t]) (hargs : c.args.toList = [x]) (hu : P.underlying t = some (.slice e)) (hz : zerosN P e = some (z, size))
    (hx : okOd n x = true) : PO.Ok P n o ⟨fun _ k F h => clearV z h ((od x).g F) k⟩ := by
  obtain ⟨zv, ie, hzv, rfl, hraw, hie, hsz, hzl, hpos⟩ := zerosN_some hz
  intro w0 cx _ k F h l hr ρ a w rh rf
  dsimp only [clearV] at hr
  have hexec : ∀ {r w1}, (Builtin.clear_ c.argTypes o.type #[a.eval x]).run P w = .ok r w1 → (execOp a.eval o).run P w = .ok (.value r) w1 := fun {r w1} he => by
    rw [run_builtin ho hcal, hargs]
    simp only [List.map_cons, List.map_nil, builtin, Sem.run_bind, he, Result.andThen_ok, Sem.run_pure]
  have ex := den_od rf.to hx
  generalize hxv : (od x).g F = xv at hr ex
  split at hr
  · exact goes_run (hexec (by rw [ex]; exact clear_none _ t _ e _ w hts hu _ _)) (post_same rh hr fun ρ' _ => den_undef ρ')
  · rename_i b off len cap
    split at hr
    · rename_i m p hm hp
      have hpd : off.den ρ.toEnv = p := by rw [litN_some hp]; rfl
      have hmd : len.den ρ.toEnv = m := by rw [litN_some hm]; rfl
      obtain ⟨w', h', k1, k2, k3, k4, k5, k6⟩ := turn_ok (P := P) rh (repL_stable hzv hraw (by omega) m) hr
      refine goes_run (hexec (by rw [ex]; simp only [V.den, hpd, hmd, Int.toNat_natCast]; exact clear_some _ t _ e _ w w' hts hu (run_zeroT ρ w hzv) _ _ _ k1)) ⟨_, h', ρ, l, k2, fun _ hy => hy, Le.refl _ _, k4, k5, fun ρ' _ => den_undef ρ', k6⟩
    · cases hr
  · cases hr
end Go.Gx

/- make: new rows for slices. -/
namespace Go.Gx
open Go Go.Sx

theorem oneInt_some {z : List V} {kd : IntKind} {e : E} (h : oneInt z = some (kd, e)) : z = [.int kd e] := by
  unfold oneInt at h
  split at h
  · split at h
    · cases h; rfl
    · cases h
  · cases h
theorem makeSlice_ok {P : Program} {n : Nat} {o : Oper} {t : TypeId} {l c : Operand} (ho : o.op = .makeSlice t l c) (hl : okOd n l = true) (hc : okOd n c = true) : (dMakeSlice P t l c).Ok P n o := by
  unfold dMakeSlice
  split
  · rename_i e hu
    split
    · rename_i z size ie hz hie
      split
      · rename_i hby
        have hby := Nat.le_of_ble_eq_true hby
        obtain ⟨zv, ie', hzv, rfl, hraw, hie', hsz, hzl, hpos⟩ := zerosN_some hz
        rw [hie] at hie'
        cases hie'
        intro w0 cx _ k F h lo hr ρ a w rh rf
        dsimp only at hr
        have el := den_od rf.to hl
        have ec := den_od rf.to hc
        split at hr
        · rename_i kl le kc ce hle hce
          split at hr
          · rename_i m q hm hq
            split at hr
            · rename_i hmq hq6
              have hmq := Nat.le_of_ble_eq_true hmq
              have hq6 := Nat.le_of_ble_eq_true hq6
              have em : le = .lit (m : Int) := litN_some hm
              have eq : ce = .lit (q : Int) := litN_some hq
              rw [hle, em] at el
              rw [hce, eq] at ec
              simp only [V.den, E.den] at el ec
              have hb : (ie.bytes : Int) * (q : Int) ≤ 281474976710656 := by
                have h1 := Nat.mul_le_mul hby hq6
                have h2 : 65536 * 1000000 = 65536000000 := rfl
                have h3 : ((ie.bytes * q : Nat) : Int) ≤ 281474976710656 := by omega
                rwa [Int.natCast_mul] at h3
              have hrun : ∀ ρ', (execOp a.eval o).run P w = .ok (.value (.slice (some ⟨w.heap.size, 0, none⟩) m q)) (w.alloc (.cells (madeCells (zv.den ρ').cells (q * size)) e)) := fun ρ' => by
                obtain ⟨i, hi, hzi⟩ := zeroT_some ρ' hzv
                rw [hie] at hi
                cases hi
                have := run_make (P := P) w t e ie (zv.den ρ') hu hie hzi kl kc m q (by omega) (by omega) hb (by omega)
                simp only [Int.toNat_natCast, hsz] at this
                simp only [execOp, ho, el, ec, Sem.run_bind, this, Result.andThen_ok, Sem.run_pure]
              have hcell : ∀ ρ', madeCells (zv.den ρ').cells (q * size) = madeCells (zv.den ρ).cells (q * size) := fun ρ' => by
                have e1 := run_zeroT (P := P) ρ w hzv
                have e2 := run_zeroT (P := P) ρ' w hzv
                rw [e1] at e2
                injection e2 with e2
                rw [e2]
              have hrow : ∀ ρ', madeCells (zv.den ρ').cells (q * size) = (V.denL ρ' (repL zv.cells q)).toArray := fun ρ' => by
                rw [den_cells _ _ hraw]
                have := repL_den ρ' zv.cells q (by omega)
                rw [hzl] at this
                exact this
              have done : ∀ {ob : O}, h.new ob (fun b h => k (.sl b (lit 0) le ce) h) = some lo → ob.ro = false → (∀ ρ', Le h ρ ρ' → ob.is ρ' h.nb (.cells (madeCells (zv.den ρ).cells (q * size)) e)) → Goes P o a w (Post w0 ρ h w k lo) := fun {ob} hr h1 h2 => by
                obtain ⟨ρ1, hb, hk, h1, h2, h3, h4, h5⟩ := new_post (ob := ob) rh hr h1 h2
                refine goes_run (hrun ρ) ⟨_, _, ρ1, lo, hk, fun _ hy => hy, h1, h2, h3, fun ρ' hl => ?_, h4⟩
                simp [V.den, lit, E.den, em, eq, hl.blk h.nb h5, hb]
              split at hr
              · refine done hr rfl fun ρ' hle => ⟨[], ?_, rfl⟩
                rw [← hcell ρ', hrow ρ']
                simp
              · split at hr
                · rename_i kd z0 ho1
                  have hz1 := oneInt_some ho1
                  have hs1 : size = 1 := by rw [hz1] at hzl; simpa using hzl.symm
                  refine done hr rfl fun ρ' hle => ?_
                  show _ = _
                  rw [← hcell ρ', hrow ρ', hz1]
                  congr 1
                  apply Array.ext'
                  apply List.ext_getElem?
                  intro j
                  simp only [denL_get, Arr.den, Arr.row, List.map_map, eq, E.den, Int.toNat_natCast]
                  by_cases hj : j < q
                  · rw [repL_get _ _ _ (by simpa using hj)]
                    simp [hj, Nat.mod_one, V.den, readW, D.at]
                  · rw [List.getElem?_eq_none (by rw [repL_len]; simp; omega), List.getElem?_eq_none (by simp; omega)]
                    rfl
                · cases hr
            · cases hr
          · cases hr
        · cases hr
      · exact failO_ok P n o
    · exact failO_ok P n o
  · exact failO_ok P n o

end Go.Gx

/- min, max. -/
namespace Go.Gx
open Go Go.Sx

def mm (less : Bool) : Value → Value → Sem Value := Bool.casesOn less Builtin.max2 Builtin.min2
theorem mm_run {P : Program} {w : World} (less : Bool) (kd : IntKind) (x y : Int) : (mm less (.int kd x) (.int kd y)).run P w = .ok (.int kd (if less then (if y < x then y else x) else (if y > x then y else x))) w := by
  cases less <;> simp [mm, Builtin.min2, Builtin.max2]
theorem minW_ok {P : Program} {w0 : Base} {ρ : Rho} {w : World} {less : Bool} {kd : IntKind} {k : KV} : ∀ (r : List V) {xs : List Value} {h : H} {a : E} {x : Int} {l : List (V × H)}, minW less kd k a r h = some l → RelH w0 ρ h w → (∀ ρ', Le h ρ ρ' → a.den ρ'.toEnv = x) → DenL h ρ r xs →
    ∃ h' l' e y, (∀ z ∈ l', z ∈ l) ∧ Sup w0 ρ h h' w ∧ k (.int kd e) h' = some l' ∧ (∀ ρ', Le h' ρ ρ' → e.den ρ'.toEnv = y) ∧ (xs.foldlM (mm less) (.int kd x)).run P w = .ok (.int kd y) w
  | [], xs, h, a, x, l, hr, rh, ha, hd => by
    have : xs = [] := by rw [← hd ρ (Le.refl _ _)]; rfl
    subst this
    exact ⟨h, l, a, x, fun _ h => h, Sup.refl rh, hr, ha, rfl⟩
  | v :: r, xs, h, a, x, l, hr, rh, ha, hd => by
    have hv : ∃ k' b, v = .int k' b := by
      cases v <;> first | exact ⟨_, _, rfl⟩ | (simp only [minW] at hr; cases hr)
    obtain ⟨k', b, rfl⟩ := hv
    · simp only [minW] at hr
      split at hr
      · rename_i hk
        have hk := eqK_eq hk
        subst hk
        obtain ⟨y, hy⟩ : ∃ y, y = b.den ρ.toEnv := ⟨_, rfl⟩
        have hxs : xs = .int kd y :: V.denL ρ r := by rw [← hd ρ (Le.refl _ _)]; simp [V.denL, V.den, hy]
        have hb : ∀ ρ', Le h ρ ρ' → b.den ρ'.toEnv = y := fun ρ' hl => by
          have := hd ρ' hl
          rw [hxs] at this
          simp only [V.denL, V.den] at this
          injection this with h1 _
          injection h1
        have hd' : DenL h ρ r (V.denL ρ r) := fun ρ' hl => by
          have := hd ρ' hl
          rw [hxs] at this
          simp only [V.denL] at this
          injection this
        subst hxs
        have key : ∀ {h1 : H} {l1 : List (V × H)} {c : E} {z : Int}, (∀ y ∈ l1, y ∈ l) → Sup w0 ρ h h1 w → minW less kd k c r h1 = some l1 → (∀ ρ', Le h ρ ρ' → c.den ρ'.toEnv = z) → z = (if less then (if y < x then y else x) else (if y > x then y else x)) →
            ∃ h' l' e y', (∀ z ∈ l', z ∈ l) ∧ Sup w0 ρ h h' w ∧ k (.int kd e) h' = some l' ∧ (∀ ρ', Le h' ρ ρ' → e.den ρ'.toEnv = y') ∧ ((Value.int kd y :: V.denL ρ r).foldlM (mm less) (.int kd x)).run P w = .ok (.int kd y') w := by
          intro h1 l1 c z s1 s2 hm hc hz
          obtain ⟨h', l', e, y', g1, g2, g3, g4, g5⟩ := minW_ok r hm s2.rel (fun ρ' hl => hc ρ' ((s2.le _ _).1 hl)) (fun ρ' hl => hd' ρ' ((s2.le _ _).1 hl))
          refine ⟨h', l', e, y', fun z hz => s1 z (g1 z hz), s2.trans g2, g3, g4, ?_⟩
          rw [List.foldlM_cons, Sem.run_bind, mm_run, ← hz, Result.andThen_ok]
          exact g5
        split at hr
        · rename_i m n hm hn
          have em := litN_some hm
          have en := litN_some hn
          have ex : x = m := by have := ha ρ (Le.refl _ _); rw [em] at this; exact this.symm
          have ey : y = n := by rw [hy, en]; rfl
          cases hb' : Nat.ble m n with
          | true =>
            have h1 := Nat.le_of_ble_eq_true hb'
            rw [hb'] at hr
            cases less
            · exact key (fun _ h => h) (Sup.refl rh) hr hb (by simp only [Bool.false_eq_true, if_false]; split <;> omega)
            · exact key (fun _ h => h) (Sup.refl rh) hr ha (by simp only [if_true]; split <;> omega)
          | false =>
            have h1 : ¬ m ≤ n := Nat.not_le_of_not_ble_eq_true (by simp [hb'])
            rw [hb'] at hr
            cases less
            · exact key (fun _ h => h) (Sup.refl rh) hr ha (by simp only [Bool.false_eq_true, if_false]; split <;> omega)
            · exact key (fun _ h => h) (Sup.refl rh) hr hb (by simp only [if_true]; split <;> omega)
        · have hbool : ∀ ρ', Le h ρ ρ' → (((mkBin .le a b).den ρ'.toEnv != 0) = decide (x ≤ y)) := fun ρ' hl => by
            rw [den_mkBin]
            have h1 := ha ρ' hl
            have h2 := hb ρ' hl
            simp [Bi.den, b2i_bne, h1, h2]
          obtain ⟨h', l', s1, s2, s3⟩ := brE_ok rh (fun ρ' hl => by rw [hbool ρ' hl, hbool ρ (Le.refl _ _)]) hr
          rw [hbool ρ (Le.refl _ _)] at s3
          by_cases hxy : x ≤ y
          · rw [if_pos (by simpa using hxy)] at s3
            cases less
            · exact key s1 s2 s3 hb (by simp only [Bool.false_eq_true, if_false]; split <;> omega)
            · exact key s1 s2 s3 ha (by simp only [if_true]; split <;> omega)
          · rw [if_neg (by simpa using hxy)] at s3
            cases less
            · exact key s1 s2 s3 ha (by simp only [Bool.false_eq_true, if_false]; split <;> omega)
            · exact key s1 s2 s3 hb (by simp only [if_true]; split <;> omega)
      · cases hr
theorem minmax_ok {P : Program} {n : Nat} {o : Oper} {c : Call} {less : Bool} (ho : o.op = .call c) (hcal : c.callee = .builtin (Bool.casesOn less .max .min)) (hargs : c.args.toList.all (okOd n) = true) :
    PO.Calm P n o ⟨fun _ k F h => minV less h ((ods c.args.toList).g F) k⟩ := by
  intro w0 cx _ k F h l hr ρ a w rh rf
  replace hr : minV less h ((ods c.args.toList).g F) k = some l := hr
  have dxs := DenL.ods rf hargs
  generalize hvs : (ods c.args.toList).g F = vs at hr dxs
  unfold minV at hr
  split at hr
  · rename_i kd e r
    obtain ⟨x, hx⟩ : ∃ x, x = e.den ρ.toEnv := ⟨_, rfl⟩
    have hxs : c.args.toList.map a.eval = .int kd x :: V.denL ρ r := by rw [← dxs ρ (Le.refl _ _)]; simp [V.denL, V.den, hx]
    have hd' : ∀ ρ', Le h ρ ρ' → e.den ρ'.toEnv = x ∧ V.denL ρ' r = V.denL ρ r := fun ρ' hl => by
      have := dxs ρ' hl
      rw [hxs] at this
      simp only [V.denL, V.den] at this
      injection this with h1 h2
      injection h1 with _ h1
      exact ⟨h1, h2⟩
    obtain ⟨h', l', e', y, g1, g2, g3, g4, g5⟩ := minW_ok (P := P) (less := less) r hr rh (fun ρ' hl => (hd' ρ' hl).1) (fun ρ' hl => (hd' ρ' hl).2)
    obtain ⟨h2, l2, e2, f1, f2, f3, f4⟩ := fewE_ok g2.rel g4 g3
    refine goes_val (g2.trans f2) (fun z hz => g1 z (f1 z hz)) f3 (x := .int kd y) (fun ρ' hl => by simp only [V.den, f4 ρ' hl]) ?_
    rw [run_builtin ho hcal, hxs]
    cases less
    · have g5 : ((V.denL ρ r).foldlM Builtin.max2 (.int kd x)).run P w = .ok (.int kd y) w := g5
      simp only [builtin, Builtin.max_, Sem.run_bind, g5, Result.andThen_ok, Sem.run_pure]
    · have g5 : ((V.denL ρ r).foldlM Builtin.min2 (.int kd x)).run P w = .ok (.int kd y) w := g5
      simp only [builtin, Builtin.min_, Sem.run_bind, g5, Result.andThen_ok, Sem.run_pure]
  · cases hr

end Go.Gx

/- Maps: made, looked into, written to. -/
namespace Go.Gx
open Go Go.Sx

theorem bytes_beq (a b : ByteArray) : (a == b) = true ↔ a = b := by
  cases a; cases b
  rename_i x y
  show (x == y) = true ↔ _
  constructor
  · intro h; rw [eq_of_beq h]
  · intro h; injection h with h; rw [h]; exact beq_self_eq_true y
theorem keyK_some {P : Program} {t : TypeId} {s : Bool} (h : keyK P t = some s) : ∃ d, P.underlying t = some d ∧ (s = false → ∃ k, d = .int k) ∧ (s = true → d = .string) := by
  unfold keyK at h
  split at h
  · rename_i k hu; cases h; exact ⟨_, hu, fun _ => ⟨_, rfl⟩, fun hh => absurd hh (by decide)⟩
  · rename_i hu; cases h; exact ⟨_, hu, fun hh => absurd hh (by decide), fun _ => rfl⟩
  · cases h
theorem run_checkKey {P : Program} {t : TypeId} {d : TypeDesc} {s : Bool} (hu : P.underlying t = some d) (h1 : s = false → ∃ k, d = .int k) (h2 : s = true → d = .string) (w : World) (em : Bool) (n : Nat) (v : Value) : (Instr.checkKey em (n + 1) t v).run P w = .ok () w := by
  have hd : (∃ k, d = .int k) ∨ d = .string := by cases s; exact .inl (h1 rfl); exact .inr (h2 rfl)
  rcases hd with ⟨k, rfl⟩ | rfl <;> simp [Instr.checkKey, run_underlying hu]
theorem keyEq_ok {ρ : Rho} {h : H} (hb : h.bd.ok ρ.toEnv) {s : Bool} {d : TypeDesc} (h1 : s = false → ∃ k, d = .int k) (h2 : s = true → d = .string) {a b : V} {e : E} (he : keyEq s h a b = some e) :
    Instr.sameNow d (a.den ρ) (b.den ρ) = some (e.den ρ.toEnv != 0) ∧ ((e.den ρ.toEnv != 0) = true → a.den ρ = b.den ρ ∧ Instr.sameBits 10000 (b.den ρ) (a.den ρ) = true) := by
  unfold keyEq at he
  split at he
  · obtain ⟨k0, rfl⟩ := h1 rfl
    split at he
    · rename_i k x
      split at he
      · rename_i k' y
        split at he
        · rename_i hk
          have hk := eqK_eq hk
          subst hk
          cases he
          rw [den_mkEqz hb, b2i_bne]
          refine ⟨by simp [Instr.sameNow, V.den], fun ht => ?_⟩
          have : x.den ρ.toEnv = y.den ρ.toEnv := by simpa using ht
          simp [V.den, this, Instr.sameBits]
        · cases he
      · cases he
    · cases he
  · have := h2 rfl
    subst this
    split at he
    · rename_i x
      split at he
      · rename_i y
        have hq := eqBytes_ok ρ.toEnv he
        have h1 : ((lit 1).den ρ.toEnv != 0) = true := rfl
        rw [h1, Bool.true_and] at hq
        rw [hq]
        have hiff : ((ByteArray.mk (x.map (byteOf ρ.toEnv)).toArray) = ⟨(y.map (byteOf ρ.toEnv)).toArray⟩) ↔ x.map (byteOf ρ.toEnv) = y.map (byteOf ρ.toEnv) := by
          constructor
          · intro h; injection h with h; simpa using h
          · intro h; rw [h]
        refine ⟨?_, fun ht => ?_⟩
        · simp only [Instr.sameNow, V.den, strOf]
          congr 1
          rw [Bool.eq_iff_iff]
          rw [bytes_beq, decide_eq_true_eq]
          exact hiff
        · have ht := of_decide_eq_true ht
          simp only [V.den, strOf, ht, Instr.sameBits, bytes_beq, and_self]
      · cases he
    · cases he
theorem findM_ok {ρ : Rho} {h : H} (hb : h.bd.ok ρ.toEnv) {s : Bool} {d : TypeDesc} (h1 : s = false → ∃ k, d = .int k) (h2 : s = true → d = .string) {key : V} : ∀ {es : List (V × V)} {i j : Nat} {r : Option (Nat × V)}, findM s h key es i = some r →
    Instr.findNow d (key.den ρ) (entries ρ j es) i = some (r.map fun p => (p.1, p.2.den ρ)) ∧ ∀ m v, r = some (m, v) → ∃ u x, m = i + u ∧ es[u]? = some (x, v) ∧ key.den ρ = x.den ρ ∧ Instr.sameBits 10000 (x.den ρ) (key.den ρ) = true
  | [], i, j, r, hf => by
    cases hf
    exact ⟨rfl, fun m v h => by cases h⟩
  | (x, v) :: es, i, j, r, hf => by
    simp only [findM] at hf
    split at hf
    · rename_i e he
      obtain ⟨k1, k2⟩ := keyEq_ok hb h1 h2 he
      split at hf
      · rename_i n
        have hit : (n != 0) = true → some (some (i, v)) = some r → Instr.findNow d (key.den ρ) (entries ρ j ((x, v) :: es)) i = some (r.map fun p => (p.1, p.2.den ρ)) ∧ ∀ m v', r = some (m, v') → ∃ u y, m = i + u ∧ ((x, v) :: es)[u]? = some (y, v') ∧ key.den ρ = y.den ρ ∧ Instr.sameBits 10000 (y.den ρ) (key.den ρ) = true := fun hn hr => by
          cases hr
          have hn : ((E.lit n).den ρ.toEnv != 0) = true := hn
          rw [hn] at k1 k2
          refine ⟨by simp [entries, Instr.findNow, k1], fun m v' hh => ?_⟩
          cases hh
          exact ⟨0, x, rfl, rfl, (k2 rfl).1, (k2 rfl).2⟩
        split at hf
        · rename_i m
          cases m with
          | zero =>
            have hf : findM s h key es (i + 1) = some r := hf
            obtain ⟨g1, g2⟩ := findM_ok hb h1 h2 (j := j + 1) hf
            have hn : ((E.lit (Int.ofNat 0)).den ρ.toEnv != 0) = false := rfl
            rw [hn] at k1
            refine ⟨by simp only [entries, Instr.findNow, k1]; exact g1, fun m v' hh => ?_⟩
            obtain ⟨u, y, e1, e2, e3, e4⟩ := g2 m v' hh
            exact ⟨u + 1, y, by omega, by simpa using e2, e3, e4⟩
          | succ m => exact hit (by simp only [bne_iff_ne]; intro hh; cases hh) hf
        · exact hit (by simp only [bne_iff_ne]; intro hh; cases hh) hf
      · cases hf
    · cases hf
theorem run_findKey {P : Program} {t : TypeId} {d : TypeDesc} (hu : P.underlying t = some d) (w : World) {k : Value} {es : List MapEntry} {r : Option (Nat × Value)} (h : Instr.findNow d k es 0 = some r) : (Instr.findKey t k es).run P w = .ok r w := by
  simp [Instr.findKey, run_underlying hu, h]
theorem lookup_bi {P : Program} {t kt e : TypeId} {s ok : Bool} {z : V} (hu : P.underlying t = some (.map kt e)) (hk : keyK P kt = some s) (hz : zeroT P e = some z) : Bi2 P (fun m x => Instr.lookup t m x ok) (lookupV s z ok) := by
  intro w0 ρ h w r m key v hv
  obtain ⟨d, hd, k1, k2⟩ := keyK_some hk
  unfold lookupV at hv
  split at hv
  · rename_i es hes
    have hget : ∃ c, m.den ρ = .map c ∧ (match c with | none => entries ρ 0 es = [] | some b => (getObj b).run P w = .ok (.map (entries ρ 0 es).toArray es.length) w) := by
      split at hes
      · cases hes
        exact ⟨none, rfl, rfl⟩
      · rename_i b
        split at hes
        · rename_i es' hg
          cases hes
          exact ⟨some (ρ.blk b), rfl, run_getObj (get_map r hg).1⟩
        · cases hes
      · cases hes
    have main : ∀ {q : Option (Nat × V)}, findM s h key es 0 = some q → (Instr.lookup t (m.den ρ) (key.den ρ) ok).run P w = .ok (match q with
        | some (_, v) => if ok then .tuple #[v.den ρ, .bool true] else v.den ρ
        | none => if ok then .tuple #[z.den ρ, .bool false] else z.den ρ) w := by
      intro q hq
      obtain ⟨f1, _⟩ := findM_ok r.bd k1 k2 (j := 0) hq
      obtain ⟨c, hc, hcase⟩ := hget
      have hck := run_checkKey (P := P) hd k1 k2 w
      rw [hc]
      cases c with
      | none =>
        simp only at hcase
        rw [hcase] at f1
        simp only [Instr.lookup, Sem.run_bind, run_underlying hu, Result.andThen_ok, Sem.run_pure, hck _ 9999, run_findKey hd w f1]
        cases q with
        | none => cases ok <;> simp [run_zeroT ρ w hz]
        | some p => cases ok <;> simp
      | some b =>
        simp only at hcase
        simp only [Instr.lookup, Sem.run_bind, run_underlying hu, Result.andThen_ok, Sem.run_pure, hcase, hck _ 9999, run_findKey hd w f1]
        cases q with
        | none => cases ok <;> simp [run_zeroT ρ w hz]
        | some p => cases ok <;> simp
    split at hv
    · rename_i i u hq
      rw [main hq]
      cases ok <;> cases hv <;> simp [V.den, V.denL, lit, E.den]
    · rename_i hq
      rw [main hq]
      cases ok <;> cases hv <;> simp [V.den, V.denL, lit, E.den]
    · cases hv
  · cases hv
theorem lookup_ok {P : Program} {n : Nat} {o : Oper} {t kt e : TypeId} {x i : Operand} {s ok : Bool} {z : V} (ho : o.op = .lookup t x i ok) (hx : okOd n x = true) (hi : okOd n i = true) (hu : P.underlying t = some (.map kt e)) (hk : keyK P kt = some s) (hz : zeroT P e = some z) :
    (calm2 x i (lookupV s z ok)).Calm P n o :=
  calm2_ok (S := fun m x => Instr.lookup t m x ok) (fun ev => by simp only [execOp, ho]) (lookup_bi hu hk hz) hx hi
theorem makeMap_ok {P : Program} {n : Nat} {o : Oper} {t : TypeId} (ho : o.op = .makeMap t none) : PO.Ok P n o ⟨fun _ k _ h => h.new (.map []) fun b h => k (.map b) h⟩ := by
  intro w0 cx _ k F h l hr ρ a w rh rf
  have hr : h.new (.map []) (fun b h => k (.map b) h) = some l := hr
  obtain ⟨ρ1, hb, hk, h1, h2, h3, h4, h5⟩ := new_post (ob := .map []) (obj := .map #[] 0) rh hr rfl fun ρ' hl => rfl
  refine goes_run (x := .map (some w.heap.size)) (w1 := w.alloc (.map #[] 0)) ?_ ⟨_, _, ρ1, l, hk, fun _ hy => hy, h1, h2, h3, fun ρ' hl => by simp [V.den, hl.blk h.nb h5, hb], h4⟩
  simp [execOp, ho, Instr.makeMap, newObj, Sem.run]

end Go.Gx

/- Maps written to. -/
namespace Go.Gx
open Go Go.Sx

theorem setM_len (v : V) : ∀ (es : List (V × V)) (u : Nat), (setM u v es).length = es.length
  | [], u => by cases u <;> rfl
  | (x, y) :: r, 0 => rfl
  | (x, y) :: r, u + 1 => by simp [setM, setM_len v r u]
theorem entries_set {ρ : Rho} {v : V} {x : V} {f : MapEntry → MapEntry} (hf : ∀ e, f e = { e with key := x.den ρ, val := v.den ρ }) : ∀ {es : List (V × V)} {u i : Nat} {y : V}, es[u]? = some (x, y) → entries ρ i (setM u v es) = (entries ρ i es).modify u f
  | [], u, i, y, h => by simp at h
  | (a, b) :: r, 0, i, y, h => by
    simp at h
    obtain ⟨rfl, rfl⟩ := h
    simp [setM, entries, hf]
  | (a, b) :: r, u + 1, i, y, h => by
    simp at h
    simp only [setM, entries, List.modify_succ_cons]
    rw [entries_set hf h]
theorem entries_get (ρ : Rho) : ∀ (es : List (V × V)) (i u : Nat), ((entries ρ i es)[u]?).map (·.key) = (es[u]?).map fun p => p.1.den ρ
  | [], _, _ => rfl
  | _ :: _, _, 0 => rfl
  | _ :: r, i, u + 1 => by simpa [entries] using entries_get ρ r (i + 1) u
theorem entries_app (ρ : Rho) (x v : V) : ∀ (es : List (V × V)) (i : Nat), entries ρ i (es ++ [(x, v)]) = entries ρ i es ++ [{ key := x.den ρ, val := v.den ρ, born := i + es.length }]
  | [], i => rfl
  | _ :: r, i => by simp only [List.cons_append, entries, entries_app ρ x v r (i + 1), List.length_cons]; congr 4; omega
theorem run_setMap {P : Program} {w : World} {b : Nat} {es : Array MapEntry} {c : Nat} (h : w.heap[b]? = some (.map es c)) (o : Obj) : (setObj b o).run P w = .ok () (World.putO w b o) := by
  simp [setObj, Sem.run, h, World.putO]
theorem mapUpdate_ok {P : Program} {n : Nat} {o : Oper} {t kt e : TypeId} {m x y : Operand} {s : Bool} (ho : o.op = .mapUpdate t m x y) (hm : okOd n m = true) (hx : okOd n x = true) (hy : okOd n y = true) (hu : P.underlying t = some (.map kt e)) (hk : keyK P kt = some s) :
    PO.Ok P n o ⟨fun _ k F h => updateV s h ((od m).g F) ((od x).g F) ((od y).g F) k⟩ := by
  intro w0 cx _ k F h l hr ρ a w rh rf
  replace hr : updateV s h ((od m).g F) ((od x).g F) ((od y).g F) k = some l := hr
  obtain ⟨d, hd, k1, k2⟩ := keyK_some hk
  have em := den_od rf.to hm
  have dx := Den.od rf hx
  have dy := Den.od rf hy
  unfold updateV at hr
  split at hr
  · rename_i b hmv
    rw [hmv] at em
    split at hr
    · rename_i es hg
      obtain ⟨hget, hb⟩ := get_map rh.to hg
      have hgo := run_getObj (P := P) hget
      have hown : (h.get b).own = true := by rw [hg]; rfl
      have hst : ∀ ρ', Le h ρ ρ' → entries ρ' 0 es = entries ρ 0 es := fun ρ' hl => by
        have h1 := (get_map (rh ρ' hl) hg).1
        rw [hl.blk b hb, hget] at h1
        injection h1 with h1
        injection h1 with h1
        simpa using h1.symm
      have hck := run_checkKey (P := P) hd k1 k2 w
      have exec : ∀ {w'}, (Instr.mapUpdate t (a.eval m) (a.eval x) (a.eval y)).run P w = .ok () w' → (execOp a.eval o).run P w = .ok .skip w' := fun {w'} he => by
        simp only [execOp, ho, Sem.run_bind, he, Result.andThen_ok, Sem.run_pure]
      have fin : ∀ {es' : List (V × V)}, k undefV (h.put b (.map es')) = some l → (Instr.mapUpdate t (a.eval m) (a.eval x) (a.eval y)).run P w = .ok () (World.putO w (ρ.blk b) (.map (entries ρ 0 es').toArray es'.length)) → (∀ ρ', Le h ρ ρ' → entries ρ' 0 es' = entries ρ 0 es') → Goes P o a w (Post w0 ρ h w k l) := fun {es'} hk he hs =>
        ⟨_, _, exec he, _, _, ρ, l, hk, fun _ hy => hy, Le.refl _ _, gr_put _ _ _, relH_put rh hown (.map es') _ rfl fun ρ' hl => by show _ = _; rw [hs ρ' hl], fun ρ' _ => den_undef ρ', fra_put rh hown _ _⟩
      split at hr
      · rename_i i v0 hq
        obtain ⟨f1, f2⟩ := findM_ok rh.to.bd k1 k2 (j := 0) hq
        obtain ⟨u, x0, e1, e2, e3, e4⟩ := f2 _ _ rfl
        have e1 : i = u := by omega
        subst e1
        have hfm : ∀ ρ', Le h ρ ρ' → entries ρ' 0 (setM i ((od y).g F) es) = (entries ρ 0 es).modify i fun e => { e with key := a.eval x, val := a.eval y } := fun ρ' hl => by
          obtain ⟨_, g2⟩ := findM_ok (rh ρ' hl).bd k1 k2 (j := 0) hq
          obtain ⟨u', x1, e1', e2', e3', _⟩ := g2 _ _ rfl
          have e1' : i = u' := by omega
          subst e1'
          rw [← hst ρ' hl]
          refine entries_set (fun e => ?_) e2'
          rw [← e3', dx ρ' hl, dy ρ' hl]
        refine fin hr ?_ fun ρ' hl => by rw [hfm ρ' hl, hfm ρ (Le.refl _ _)]
        have ex : a.eval x = ((od x).g F).den ρ := dx.to.symm
        rw [← ex] at f1 e4
        have hold : (((entries ρ 0 es).toArray[i]?).map (·.key)).getD (a.eval x) = x0.den ρ := by
          have := entries_get ρ es 0 i
          rw [e2] at this
          simp only [List.getElem?_toArray, this]
          rfl
        have hks : (Instr.keyThatStays (x0.den ρ) (a.eval x)).run P w = .ok (a.eval x) w := by
          unfold Instr.keyThatStays
          rw [if_pos e4]
          rfl
        rw [hfm ρ (Le.refl _ _), setM_len, em]
        simp only [V.den, Instr.mapUpdate, Sem.run_bind, run_underlying hu, Result.andThen_ok, hgo, hck _ 9999, run_findKey hd w f1, Option.map_some, hold, hks, run_setMap hget]
        congr 3
        simp
      · rename_i hq
        obtain ⟨f1, _⟩ := findM_ok rh.to.bd k1 k2 (j := 0) hq
        have ex : a.eval x = ((od x).g F).den ρ := dx.to.symm
        rw [← ex] at f1
        have happ : ∀ ρ', Le h ρ ρ' → entries ρ' 0 (es ++ [((od x).g F, (od y).g F)]) = entries ρ 0 es ++ [{ key := a.eval x, val := a.eval y, born := es.length }] := fun ρ' hl => by
          rw [entries_app, hst ρ' hl, dx ρ' hl, dy ρ' hl, Nat.zero_add]
        refine fin hr ?_ fun ρ' hl => by rw [happ ρ' hl, happ ρ (Le.refl _ _)]
        rw [happ ρ (Le.refl _ _), em]
        simp only [V.den, Instr.mapUpdate, Sem.run_bind, run_underlying hu, Result.andThen_ok, hgo, hck _ 9999, run_findKey hd w f1, Option.map_none, run_setMap hget]
        simp
      · cases hr
    · cases hr
  · cases hr

end Go.Gx

/- Addresses without a type; bytes read as a text in place. -/
namespace Go.Gx
open Go Go.Sx

theorem toRaw_some {h : H} {v r : V} (hv : toRaw h v = some r) : ∃ b o ro el sz vs p, v = .ptr b o ∧ r = v ∧ h.get b = .row ro el sz vs ∧ o = .lit (p : Nat) ∧ p < vs.length := by
  unfold toRaw at hv
  split at hv
  · rename_i b o
    split at hv
    · rename_i ro el sz vs hg
      split at hv
      · rename_i p hp
        split at hv
        · rename_i hl
          cases hv
          have hl := Nat.le_of_ble_eq_true hl
          rw [lenL_eq] at hl
          exact ⟨_, _, ro, el, sz, vs, p, rfl, rfl, hg, litN_some hp, by omega⟩
        · cases hv
      · cases hv
    · cases hv
  · cases hv
theorem ofRaw_some {P : Program} {h : H} {u n : Nat} {v r : V} (hv : ofRaw P u n h v = some r) : ∃ b o ro el sz vs, v = .ptr b o ∧ r = v ∧ h.get b = .row ro el sz vs ∧ o = .lit (0 : Nat) ∧ headT P u n el vs.length = true := by
  unfold ofRaw at hv
  split at hv
  · rename_i b o
    split at hv
    · rename_i ro el sz vs hg
      split at hv
      · rename_i hp
        split at hv
        · rename_i he
          cases hv
          rw [lenL_eq] at he
          exact ⟨_, _, ro, el, sz, vs, rfl, rfl, hg, litN_some hp, he⟩
        · cases hv
      · cases hv
    · cases hv
  · cases hv
theorem shape_row {w0 : Base} {ρ : Rho} {h : H} {w : World} (r : Rel0 w0 ρ h w) {b : Nat} {ro : Bool} {el : TypeId} {sz : Option E} {vs : List V} (hg : h.get b = .row ro el sz vs) : ∃ m, w.shape? (ρ.blk b) = some (el, m) ∧ vs.length ≤ m := by
  obtain ⟨_, _, rest, hh, _⟩ := get_row r hg
  refine ⟨_, by simp [World.shape?, hh]; rfl, by simp [denL_len]⟩
theorem toRaw_un {P : Program} {s d t : TypeId} {n : Nat} (hs : P.underlying s = some (.pointer t)) (hd : P.underlying d = some .unsafePointer) (hn : sizeT P t = some (n + 1)) : Un1 P (convert s d) toRaw := by
  intro w0 ρ h w r v x hv
  obtain ⟨b, o, ro, el, sz, vs, p, rfl, rfl, hg, ho, hp⟩ := toRaw_some hv
  subst ho
  obtain ⟨m, hm, hvm⟩ := shape_row r hg
  obtain ⟨i, hi, hsz⟩ : ∃ i, P.info? t = some i ∧ i.size = n + 1 := by
    unfold sizeT at hn
    split at hn
    · rename_i i hi; exact ⟨i, hi, Option.some.inj hn⟩
    · cases hn
  have := Lib.run_to_unsafe (P := P) w ⟨ρ.blk b, p, none⟩ hs hd hi (by omega) hm (by show p < m; omega)
  simpa [V.den, E.den] using this
theorem cellsOf_size {P : Program} {t : TypeId} {n : Nat} (h : sizeT P t = some n) : P.cellsOf t = n := by
  unfold sizeT at h
  unfold Program.cellsOf
  split at h
  · rename_i i hi; cases h; simp [hi]
  · cases h
theorem liesAt_head {P : Program} {e : TypeId} {n count : Nat} (hc : P.cellsOf e = n + 1) (h : n + 1 ≤ count) : liesAt P P.depth e (count / P.cellsOf e) 0 e 1 = true := by
  have hd : P.depth = (2 * (P.types.size + Made.depth) + 1) + 1 := rfl
  rw [hd]
  simp only [liesAt, Bool.or_eq_true]
  left
  rw [hd]
  have : 1 ≤ count / (n + 1) := (Nat.le_div_iff_mul_le (by omega)).2 (by omega)
  simp [rowAt, hc, sameLayout, this]
theorem liesAt_in {P : Program} {e u : TypeId} {n m count : Nat} {fs : Array Field} {f : Field} {r : List Field} (hu : P.underlying e = some (.struct fs)) (hs : P.stoodInHeld e = false) (hf : fs.toList = f :: r) (ht : f.type = u) (h0 : f.offset = 0) (hc : P.cellsOf u = n + 1) (he : P.cellsOf e = m + 1) (h : m + 1 ≤ count) :
    liesAt P P.depth e (count / P.cellsOf e) 0 u 1 = true := by
  have hd : P.depth = (2 * (P.types.size + Made.depth)) + 1 + 1 := rfl
  rw [hd]
  simp only [liesAt, Bool.or_eq_true]
  left
  rw [hd]
  have h1 : 0 < count / (m + 1) := Nat.div_pos h (by omega)
  have hin : rowAt P (sameLayout P (2 * (P.types.size + Made.depth) + 1 + 1) · u) (2 * (P.types.size + Made.depth) + 1) u 1 0 1 = true := by
    simp [rowAt, hc, sameLayout]
  rw [rowAt]
  simp only [he, hu, hs]
  rw [if_neg (by omega)]
  simp only [Nat.zero_div, Nat.zero_mod, h1, decide_true, Bool.not_false, Bool.true_and, Bool.or_eq_true]
  right
  rw [← Array.any_toList, hf, List.any_cons, ht, h0, hc, Nat.sub_self, hin]
  simp
theorem ofRaw_un {P : Program} {s d u : TypeId} {n : Nat} (hs : P.underlying s = some .unsafePointer) (hd : P.underlying d = some (.pointer u)) (hn : sizeT P u = some (n + 1)) : Un1 P (convert s d) (ofRaw P u (n + 1)) := by
  intro w0 ρ h w r v x hv
  obtain ⟨b, o, ro, el, sz, vs, rfl, rfl, hg, ho, hp⟩ := ofRaw_some hv
  subst ho
  obtain ⟨m, hm, hvm⟩ := shape_row r hg
  obtain ⟨i, hi, hsz⟩ : ∃ i, P.info? u = some i ∧ i.size = n + 1 := by
    unfold sizeT at hn
    split at hn
    · rename_i i hi; exact ⟨i, hi, Option.some.inj hn⟩
    · cases hn
  have hlie : liesAt P P.depth el (m / P.cellsOf el) 0 u 1 = true := by
    unfold headT at hp
    split at hp
    · rename_i he
      have he := Nat.eq_of_beq_eq_true he
      have hp := Nat.le_of_ble_eq_true hp
      subst he
      exact liesAt_head (cellsOf_size hn) (by omega)
    · split at hp
      · rename_i fs q hu hq hsi
        split at hp
        · rename_i f fr hfs
          simp only [Bool.and_eq_true] at hp
          obtain ⟨⟨p1, p2⟩, p3⟩ := hp
          have p3 := Nat.le_of_ble_eq_true p3
          exact liesAt_in hu hsi hfs (Nat.eq_of_beq_eq_true p1) (Nat.eq_of_beq_eq_true p2) (cellsOf_size hn) (cellsOf_size hq) (by omega)
        · cases hp
      · cases hp
  have := Lib.run_from_unsafe (P := P) w ⟨ρ.blk b, 0, none⟩ hs hd hi hm hlie
  simpa [V.den, E.den] using this
theorem freeze_putO {w : World} {b n : Nat} {cs : Array Value} {el : TypeId} (hh : w.heap[b]? = some (.cells cs el (0, 0))) (hn : n ≠ 0) : w.freeze ⟨b, 0, none⟩ n = World.putO w b (.cells cs el (0, 0 + n)) := by
  unfold World.freeze World.putO
  rw [if_neg hn]
  congr 1
  apply Array.ext_getElem?
  intro i
  by_cases hi : i = b
  · subst hi
    have hlt : i < w.heap.size := by
      rcases Nat.lt_or_ge i w.heap.size with h | h
      · exact h
      · rw [Array.getElem?_eq_none h] at hh; cases hh
    have hel : w.heap[i] = .cells cs el (0, 0) := by rw [Array.getElem?_eq_getElem hlt] at hh; exact Option.some.inj hh
    rw [Array.getElem?_modify, if_pos rfl, hh]
    simp [hlt]
  · rw [Array.getElem?_setIfInBounds_ne (Ne.symm hi), Array.getElem?_modify, if_neg (Ne.symm hi)]
theorem ustr_ok {P : Program} {n : Nat} {o : Oper} {c : Call} {pt it e : TypeId} {x y : Operand} (ho : o.op = .call c) (hcal : c.callee = .builtin .unsafeString) (hts : c.argTypes.toList = [pt, it]) (hargs : c.args.toList = [x, y]) (hu : P.underlying pt = some (.pointer e)) (hs : sizeT P e = some 1)
    (hx : okOd n x = true) (hy : okOd n y = true) : PO.Ok P n o ⟨fun _ k F h => ustrV e h ((od x).g F) ((od y).g F) k⟩ := by
  intro w0 cx _ k F h l hr ρ a w rh rf
  dsimp only [ustrV] at hr
  have ex := den_od rf.to hx
  have ey := den_od rf.to hy
  have hexec : ∀ {r w1}, (Builtin.unsafeString_ #[pt, it] o.type #[a.eval x, a.eval y]).run P w = .ok r w1 → (execOp a.eval o).run P w = .ok (.value r) w1 := fun {r w1} he => by
    rw [run_builtin ho hcal, hargs, two_args hts]
    simp only [List.map_cons, List.map_nil, builtin, Sem.run_bind, he, Result.andThen_ok, Sem.run_pure]
  generalize hyv : (od y).g F = yv at hr ey
  generalize hxv : (od x).g F = xv at hr ex
  split at hr
  · rename_i ne
    have hne : ∀ {m}, litN ne = some m → a.eval y = .int .i64 (m : Int) := fun {m} hm => by rw [ey, litN_some hm]; rfl
    split at hr
    · rename_i hm
      have hy0 := hne hm
      have fin : ∀ {p : Option Addr}, a.eval x = .pointer p → k (.str []) h = some l → Goes P o a w (Post w0 ρ h w k l) := fun {p} hp hk => by
        refine goes_run (x := .string .empty) (hexec (by rw [hp, hy0]; exact Lib.run_unsafeString_none w pt it o.type p)) (post_same rh hk fun ρ' _ => rfl)
      split at hr
      · exact fin ex hr
      · exact fin ex hr
      · cases hr
    · rename_i m hnz hm
      have hy0 := hne hm
      split at hr
      · rename_i b off
        split at hr
        · rename_i hoff
          have hoff := litN_some hoff
          split at hr
          · rename_i el sz vs hg
            split at hr
            · rename_i hc
              simp only [Bool.and_eq_true] at hc
              obtain ⟨hel, hm6⟩ := hc
              have hel := Nat.eq_of_beq_eq_true hel
              have hm6 := Nat.le_of_ble_eq_true hm6
              subst hel
              split at hr
              · rename_i cs hcs
                split at hr
                · rename_i bs hbs
                  obtain ⟨e1, e2⟩ := takeL_some hcs
                  obtain ⟨hb, _, rest, hh, _⟩ := get_row rh.to hg
                  have hden := bytesE_cells rh.to.bd hbs
                  have hlen : bs.length = m := by
                    have h1 := congrArg List.length hden
                    rw [denL_len, e1] at h1
                    simp only [List.length_take, List.length_map] at h1
                    omega
                  have hm0 : m ≠ 0 := fun hh => hnz hh
                  have hown : (h.get b).own = true := by rw [hg]; rfl
                  have hstab : ∀ ρ', Le h ρ ρ' → bs.map (byteOf ρ'.toEnv) = bs.map (byteOf ρ.toEnv) := fun ρ' hl => by
                    have hr1 := row_stable rh hg
                    have h1 := bytesE_cells (ρ := ρ') (rh ρ' hl).bd hbs
                    have h2 : V.denL ρ' cs = V.denL ρ cs := by rw [e1, ← denL_take, ← denL_take, hr1 ρ' hl]
                    rw [h2, hden] at h1
                    have h3 := congrArg (List.map fun v => match v with
                      | Value.int _ n => UInt8.ofNat n.toNat
                      | _ => 0) h1
                    simp only [List.map_map] at h3
                    have h4 : ∀ ρ : Env, ((fun v => match v with
                      | Value.int _ n => UInt8.ofNat n.toNat
                      | _ => 0) ∘ fun e => Value.int .u8 ((byteOf ρ e).toNat : Int)) = byteOf ρ := fun ρ => by funext e; simp
                    rw [h4, h4] at h3
                    exact h3.symm
                  have hrun := Lib.run_unsafeString_row (P := P) w pt it o.type el hu (cellsOf_size hs) (ρ.blk b) _ (by simp [World.shape?, hh]; rfl) (bs.map (byteOf ρ.toEnv)) (by intro h0; have := congrArg List.length h0; rw [List.length_map, hlen] at this; exact hm0 this)
                    (by simp [denL_len, hlen]; omega) (by simp [hlen]; omega) (fun j x hj => by
                      rw [add_addr, cell_row hh, Nat.zero_add]
                      have hjm : j < m := by
                        rcases Nat.lt_or_ge j m with h' | h'
                        · exact h'
                        · rw [List.getElem?_eq_none (by simp [hlen]; exact h')] at hj; cases hj
                      have h1 : (V.denL ρ cs)[j]? = _ := congrArg (fun l : List Value => l[j]?) hden
                      rw [e1, ← denL_take, List.getElem?_take_of_lt hjm] at h1
                      rw [List.getElem?_append_left (by rw [denL_len]; omega), h1]
                      rw [List.getElem?_map] at hj
                      rw [List.getElem?_map]
                      cases hbj : bs[j]? with
                      | none => rw [hbj] at hj; cases hj
                      | some e => rw [hbj] at hj; cases hj; rfl)
                  rw [List.length_map, hlen] at hrun
                  rw [freeze_putO hh hm0] at hrun
                  refine goes_run (hexec (by rw [ex, hy0]; simp only [V.den, hoff, E.den]; exact hrun)) ⟨_, _, ρ, l, hr, fun _ hy => hy, Le.refl _ _, gr_put _ _ _, relH_put rh hown .none _ rfl (fun _ _ => trivial), fun ρ' hl => ?_, fra_put rh hown _ _⟩
                  simp only [V.den, strOf, hstab ρ' (le_put.1 hl)]
                · cases hr
              · cases hr
            · cases hr
          · cases hr
        · cases hr
      · cases hr
    · cases hr
  · cases hr

end Go.Gx

/- append of noughts: append(x, make([]E, n)...). -/

namespace Go.Gx
open Go Go.Sx

theorem run_append_zeros {P : Program} (w : World) (t tx ty e : TypeId) (kk kd : IntKind) (i : TypeInfo) (z : Value) (ht : P.underlying t = some (.slice e)) (hk : P.underlying tx = some (.int kk)) (hi : P.info? e = some i) (hz : i.zero = some z) (base : Option Addr) (sLen sCap : Nat) (olds : List Value)
    (hold : (Builtin.firstCells i.size sLen (.slice base sLen sCap)).run P w.drew = .ok olds.toArray w.drew) (n : Nat) (hn0 : n * i.size ≠ 0) (hb : sLen + n ≤ 1000000) (hby : i.bytes ≤ 65536)
    (hg : sCap < sLen + n) (hfit : Builtin.nextslicecap (sLen + n) sCap * i.bytes ≤ 281474976710656) :
    (Builtin.append_ #[t, tx] ty #[.slice base sLen sCap, .int kd n]).run P w =
      .ok (.slice (some ⟨w.heap.size, 0, none⟩) (sLen + n) (grownCap w (sLen + n) sCap e))
        (w.drew.alloc (.cells ((olds ++ (Builtin.zeroCells z.cells n).toList).toArray ++ Builtin.zeroCells z.cells (grownCap w (sLen + n) sCap e - (sLen + n))) e)) := by
  have hn : ¬ (sLen + n ≤ sCap) := by omega
  have h63' : ¬ (9223372036854775807 < ((sLen : Int) + (n : Int))) := by omega
  have h48' : ¬ (281474976710656 < Builtin.nextslicecap (sLen + n) sCap * i.bytes) := by omega
  have hw : IntKind.i64.wrap (n : Int) = n := by rw [IntKind.wrap_i64]; omega
  have hneg : ¬ (n : Int) < 0 := by omega
  have hbytes : ¬ (281474976710656 < (n : Int) * (i.bytes : Int)) := by
    have h1 : n * i.bytes ≤ 1000000 * 65536 := Nat.mul_le_mul (by omega) hby
    have h2 : ((n * i.bytes : Nat) : Int) ≤ 65536000000 := by omega
    rw [Int.natCast_mul] at h2
    omega
  have hn1 : ¬ n = 0 := fun h => hn0 (by rw [h, Nat.zero_mul])
  have hs1 : ¬ i.size = 0 := fun h => hn0 (by rw [h, Nat.mul_zero])
  simp [Builtin.append_, run_underlying ht, run_underlying hk, sizeOf, typeInfo, zeroValue, hi, hz, asInt, asIntOf, hw, hbytes, hn, h63', h48', hn1, hs1, Question.forced, hold, newRow, grownCap]
  rw [if_neg hneg, if_neg hn0]
  congr 3
  apply Array.ext'
  simp [List.append_assoc]
theorem run_append_zeros0 {P : Program} (w : World) (t tx ty e : TypeId) (kk kd : IntKind) (i : TypeInfo) (ht : P.underlying t = some (.slice e)) (hk : P.underlying tx = some (.int kk)) (hi : P.info? e = some i) (base : Option Addr) (sLen sCap : Nat) (hle : sLen ≤ sCap) :
    (Builtin.append_ #[t, tx] ty #[.slice base sLen sCap, .int kd (0 : Nat)]).run P w = .ok (.slice base sLen sCap) w := by
  have hw : IntKind.i64.wrap (0 : Int) = 0 := by rw [IntKind.wrap_i64]; omega
  cases base <;> simp [Builtin.append_, run_underlying ht, run_underlying hk, sizeOf, typeInfo, hi, asInt, asIntOf, hw, hle, storeCells]
theorem run_append_zeros_room {P : Program} (w : World) (t tx ty e : TypeId) (kk kd : IntKind) (i : TypeInfo) (z : Value) (ht : P.underlying t = some (.slice e)) (hk : P.underlying tx = some (.int kk)) (hi : P.info? e = some i) (hz : i.zero = some z) (b off sLen sCap : Nat) (n : Nat) (hn0 : n * i.size ≠ 0) (hb : sLen + n ≤ 1000000) (hby : i.bytes ≤ 65536) (hroom : sLen + n ≤ sCap)
    {news : List Value} (hnews : (Builtin.zeroCells z.cells n).toList = news) (hone : ∀ u ∈ news, u.oneCell' = true) (hc : ∀ j, j < news.length → (w.cell? ⟨b, off + sLen * i.size + j, none⟩).isSome = true) (hf : ∀ j, j < news.length → w.frozen? ⟨b, off + sLen * i.size + j, none⟩ = false) :
    (Builtin.append_ #[t, tx] ty #[.slice (some ⟨b, off, none⟩) sLen sCap, .int kd n]).run P w = .ok (.slice (some ⟨b, off, none⟩) (sLen + n) sCap) (w.setCells b (off + sLen * i.size) news) := by
  have hst := run_storeCells_cells (P := P) b (off + sLen * i.size) news 0 w (by simpa using hc) (by simpa using hf) hone
  simp only [Nat.add_zero] at hst
  rw [← hnews] at hst
  have hw : IntKind.i64.wrap (n : Int) = n := by rw [IntKind.wrap_i64]; omega
  have hneg : ¬ (n : Int) < 0 := by omega
  have hbytes : ¬ (281474976710656 < (n : Int) * (i.bytes : Int)) := by
    have h1 : n * i.bytes ≤ 1000000 * 65536 := Nat.mul_le_mul (by omega) hby
    have h2 : ((n * i.bytes : Nat) : Int) ≤ 65536000000 := by omega
    rw [Int.natCast_mul] at h2
    omega
  have hs1 : ¬ i.size = 0 := fun h => hn0 (by rw [h, Nat.mul_zero])
  have hn1 : ¬ n = 0 := fun h => hn0 (by rw [h, Nat.zero_mul])
  rw [← hnews]
  simp [Builtin.append_, run_underlying ht, run_underlying hk, sizeOf, typeInfo, zeroValue, hi, hz, asInt, asIntOf, hw, hbytes, hroom, hs1, hn1, Addr.add_lit, hst]
  try rw [if_neg hneg, if_neg hn0]
  try simp [hst]
theorem Fed.ofZeros {P : Program} {t tx ty e : TypeId} {size : Nat} {ie : TypeInfo} {kk kd : IntKind} {zv : Value} {w : World} (hu : P.underlying t = some (.slice e)) (hk : P.underlying tx = some (.int kk)) (hie : P.info? e = some ie) (hzv : ie.zero = some zv) (hsz : ie.size = size) (hpos : 0 < size) (hzl : zv.cells.size = size) (hby : ie.bytes ≤ 65536) {m : Nat} {news : List Value} (hnews : (Builtin.zeroCells zv.cells m).toList = news) (hone : ∀ u ∈ news, u.oneCell' = true) :
    Fed P t tx ty e size zv (.int kd (m : Int)) m news w := by
  subst hsz
  refine ⟨by rw [← hnews]; simp [Builtin.zeroCells, hzl], hone, fun h0 base sLen sCap hle => by subst h0; exact run_append_zeros0 (P := P) w t tx ty e kk kd ie hu hk hie base sLen sCap hle,
    fun b off sLen sCap hm hb hr h1 h2 => run_append_zeros_room (P := P) w t tx ty e kk kd ie zv hu hk hie hzv b off sLen sCap m (Nat.mul_ne_zero (by omega) (by omega)) hb hby hr hnews hone h1 h2,
    fun base sLen sCap olds hm hf hg hb => ?_⟩
  rw [← hnews]
  exact run_append_zeros (P := P) w t tx ty e kk kd ie zv hu hk hie hzv base sLen sCap olds hf m (Nat.mul_ne_zero (by omega) (by omega)) hb hby hg (next_small hg hb hby)
theorem appendZ_ok {P : Program} {n : Nat} {o : Oper} {c : Call} {t tx e : TypeId} {kk : IntKind} {x y : Operand} {size : Nat} {z : List V} {ie : TypeInfo} (ho : o.op = .call c) (hcal : c.callee = .builtin .append) (hts : c.argTypes.toList = [t, tx]) (hargs : c.args.toList = [x, y]) (hu : P.underlying t = some (.slice e)) (hz : zerosN P e = some (z, size)) (hie : P.info? e = some ie) (hby : ie.bytes ≤ 65536) (hk : P.underlying tx = some (.int kk))
    (hx : okOd n x = true) (hy : okOd n y = true) : PO.Ok P n o ⟨fun _ k F h => appendZ e size z h ((od x).g F) ((od y).g F) k⟩ := by
  obtain ⟨zv, ie', hzv, rfl, hraw, hie', hsz, hzl, hpos⟩ := zerosN_some hz
  rw [hie] at hie'
  cases hie'
  intro w0 cx _ k F h l hr ρ a w rh rf
  dsimp only [appendZ] at hr
  obtain ⟨zi, hzi1, hzi2⟩ := zeroT_some ρ hzv
  rw [hie] at hzi1
  cases hzi1
  have hexec : ∀ {r w1}, (Builtin.append_ #[t, tx] o.type #[a.eval x, a.eval y]).run P w = .ok r w1 → (execOp a.eval o).run P w = .ok (.value r) w1 := fun {r w1} he => by
    rw [run_builtin ho hcal, hargs, two_args hts]
    simp only [List.map_cons, List.map_nil, builtin, Sem.run_bind, he, Result.andThen_ok, Sem.run_pure]
  have ey := den_od rf.to hy
  generalize hyv : (od y).g F = yv at hr ey
  split at hr
  · rename_i kd ne
    split at hr
    · rename_i m hm
      have eyv : a.eval y = .int kd (m : Int) := by rw [ey, litN_some hm]; rfl
      have dz := repL_stable (h := h) (ρ := ρ) hzv hraw (by omega) m
      have hnews : (Builtin.zeroCells (zv.den ρ).cells m).toList = V.denL ρ (repL zv.cells m) := (dz ρ (Le.refl _ _)).symm
      have dcs : DenL h ρ (repL zv.cells m) (V.denL ρ (repL zv.cells m)) := by rw [hnews] at dz; exact dz
      obtain ⟨v, w1, g1, g2⟩ := appendV_ok (P := P) (t := t) (tx := tx) (ty := o.type) (zv := zv) (y := a.eval y) hraw hzl rh (Den.od rf hx) dcs (fun h1 => by
        rw [eyv]
        refine Fed.ofZeros hu hk hie hzi2 hsz hpos (by rw [den_cells _ _ hraw]; simp [denL_len, hzl]) hby hnews fun u hu => ?_
        rw [denL_eq] at hu
        obtain ⟨v, hv, rfl⟩ := List.mem_map.1 hu
        exact one_den ρ (h1 v hv)) (fun h0 => by subst h0; rfl) hr
      exact goes_run (hexec g1) g2
    · cases hr
  · cases hr

end Go.Gx

/- Every operation that the engine tells is told truly. -/
namespace Go.Gx
open Go Go.Sx

section
variable {P : Program} {n : Nat} {o : Oper}
def Both (P : Program) (n : Nat) (o : Oper) (p : PO) : Prop := PO.Ok P n o p ∧ (isCalm (kindOf o) = true → PO.Calm P n o p)
theorem Both.calm {p : PO} (h : PO.Calm P n o p) : Both P n o p := ⟨h.ok, fun _ => h⟩
theorem Both.eff {p : PO} (hk : isCalm (kindOf o) = false) (h : PO.Ok P n o p) : Both P n o p := ⟨h, fun e => by rw [hk] at e; cases e⟩
theorem Both.fail : Both P n o failO := .calm (failO_calm P n o)
theorem all1 {x : Operand} (h : (#[x] : Array Operand).toList.all (okOd n) = true) : okOd n x = true := by simpa using h
theorem all2 {x y : Operand} (h : (#[x, y] : Array Operand).toList.all (okOd n) = true) : okOd n x = true ∧ okOd n y = true := by simpa using h
theorem all3 {x y z : Operand} (h : (#[x, y, z] : Array Operand).toList.all (okOd n) = true) : okOd n x = true ∧ okOd n y = true ∧ okOd n z = true := by simpa [and_assoc] using h
theorem convert_ok {s d : TypeId} {x : Operand} (ho : o.op = .convert s d x) (hx : okOd n x = true) : (dConvert P s d x).Calm P n o := by
  have go : ∀ {f : H → V → Option V}, Un1 P (convert s d) f → (calm1 x f).Calm P n o := fun hf => calm1_ok (S := convert s d) (fun ev => by simp only [execOp, ho]) hf hx
  unfold dConvert
  split
  · rename_i hs hd; exact go (conv_int_un hs hd)
  · rename_i hs hd
    split
    · rename_i he; exact go (un_text hs he hd)
    · exact failO_calm P n o
  · rename_i hs hd; exact go (conv_str hs hd)
  · rename_i hs hd
    split
    · rename_i hn; exact go (toRaw_un hs hd hn)
    · exact failO_calm P n o
  · rename_i hs hd
    split
    · rename_i hn; exact go (ofRaw_un hs hd hn)
    · exact failO_calm P n o
  · exact failO_calm P n o
theorem builtin_both {c : Call} {b : Builtin} (ho : o.op = .call c) (hc : c.callee = .builtin b) (ha : c.args.toList.all (okOd n) = true) : Both P n o (dBuiltin P b c.argTypes.toList c.args.toList) := by
  have eff : (match b with | .len | .cap | .min | .max | .unsafeSliceData => False | _ => True) → isCalm (kindOf o) = false := fun h => by
    cases b <;> first | exact h.elim | simp only [kindOf, ho, hc, isCalm]
  unfold dBuiltin
  split
  · split
    · rename_i t tr x hts hxs
      have hx : okOd n x = true := by rw [hxs] at ha; simpa using ha
      split
      · rename_i hu; exact .calm (calmB_ok ho hc hxs hx fun _ _ _ _ r _ _ hv => lenStr_run r hts hu hv)
      · rename_i hu; exact .calm (calmB_ok ho hc hxs hx fun _ _ _ _ r _ _ hv => lenSl_run r hts hu hv)
      · rename_i hu; exact .calm (calmB_ok ho hc hxs hx fun _ _ _ _ r _ _ hv => lenMap_run r hts hu hv)
      · exact .fail
    · exact .fail
  · split
    · rename_i t tr x hts hxs
      have hx : okOd n x = true := by rw [hxs] at ha; simpa using ha
      split
      · rename_i hu; exact .calm (calmB_ok ho hc hxs hx fun _ _ _ _ r _ _ hv => capSl_run r hts hu hv)
      · exact .fail
    · exact .fail
  · exact .calm (minmax_ok (less := true) ho hc ha)
  · exact .calm (minmax_ok (less := false) ho hc ha)
  · split
    · rename_i t tx x y hts hxs
      have hxy : okOd n x = true ∧ okOd n y = true := by rw [hxs] at ha; simpa using ha
      split
      · rename_i e hu
        split
        · rename_i z size ie hz hie
          split
          · rename_i hby hk
            split
            · rename_i kk hkt
              exact .eff (eff trivial) (appendZ_ok ho hc hts hxs hu hz hie (Nat.le_of_ble_eq_true hby) hkt hxy.1 hxy.2)
            · exact .fail
          · rename_i hby hk
            exact .eff (eff trivial) (append_ok ho hc hts hxs hu hz hie (Nat.le_of_ble_eq_true hby) hk hxy.1 hxy.2)
          · exact .fail
        · exact .fail
      · exact .fail
    · exact .fail
  · split
    · rename_i t tx x y hts hxs
      have hxy : okOd n x = true ∧ okOd n y = true := by rw [hxs] at ha; simpa using ha
      split
      · rename_i e hu
        split
        · rename_i size hz
          exact .eff (eff trivial) (copy_ok ho hc hts hxs hu hz hxy.1 hxy.2)
        · exact .fail
      · exact .fail
    · exact .fail
  · split
    · rename_i t x hts hxs
      have hx : okOd n x = true := by rw [hxs] at ha; simpa using ha
      split
      · rename_i e hu
        split
        · rename_i z size hz
          exact .eff (eff trivial) (clear_ok ho hc hts hxs hu hz hx)
        · exact .fail
      · exact .fail
    · exact .fail
  · split
    · rename_i x hxs
      have hx : okOd n x = true := by rw [hxs] at ha; simpa using ha
      exact .calm (calmB_ok ho hc hxs hx fun _ _ _ _ r _ _ hv => sdata_run r hv)
    · exact .fail
  · split
    · rename_i pt it x y hts hxs
      have hxy : okOd n x = true ∧ okOd n y = true := by rw [hxs] at ha; simpa using ha
      split
      · rename_i e hu
        split
        · rename_i hz
          exact .eff (eff trivial) (ustr_ok ho hc hts hxs hu hz hxy.1 hxy.2)
        · exact .fail
      · exact .fail
    · exact .fail
  · exact .fail
theorem invoke_ok {c : Call} {x : Operand} {name : String} (ho : o.op = .call c) (hc : c.callee = .invoke x name) (hx : okOd n x = true) (ha : c.args.toList.all (okOd n) = true) :
    PO.Ok P n o ⟨fun cx k F h => callV P cx (.mth name [(od x).g F]) ((ods c.args.toList).g F) k h⟩ := by
  intro w0 cx hcx k F h l hr ρ a w rh rf
  refine callV_ok hcx rh (fx := .func (.method name) #[a.eval x] #[]) (fun ρ' hl => by simp [V.den, V.denL, Den.od rf hx ρ' hl]) (DenL.ods rf ha) hr fun first caps fn hfx => ?_
  injection hfx with e1 e2 e3
  subst e1 e2 e3
  simp only [execOp, ho, resolve, hc, Sem.run_bind, Sem.run_pure, Result.andThen_ok, arr_map]
theorem call_both {c : Call} (ho : o.op = .call c) (ha : c.operands.toList.all (okOd n) = true) : Both P n o (dCall P c) := by
  unfold dCall
  split
  · rename_i b hc
    refine builtin_both ho hc ?_
    simpa [Call.operands, hc] using ha
  · rename_i f hc
    have h := ha
    simp only [Call.operands, hc, Array.toList_append, List.all_append, Bool.and_eq_true] at h
    exact .eff (by simp only [kindOf, ho, hc, isCalm]) (callFn_ok ho hc h.2)
  · rename_i x _ hc
    have h := ha
    simp only [Call.operands, hc, Array.toList_append, List.all_append, Bool.and_eq_true] at h
    exact .eff (by simp only [kindOf, ho, hc, isCalm]) (callVal_ok ho hc (by simpa using h.1) h.2)
  · rename_i x name hc
    have h := ha
    simp only [Call.operands, hc, Array.toList_append, List.all_append, Bool.and_eq_true] at h
    exact .eff (by simp only [kindOf, ho, hc, isCalm]) (invoke_ok ho hc (by simpa using h.1) h.2)
theorem op_both (ha : o.op.operands.toList.all (okOd n) = true) : Both P n o (dOp P o.op) := by
  have nocalm : (match o.op with | .store .. | .buildSlice .. | .alloc _ | .box .. | .makeSlice .. | .makeMap .. | .mapUpdate .. | .assign _ => True | _ => False) → isCalm (kindOf o) = false := fun h => by
    cases ho : o.op <;> rw [ho] at h <;> first | exact h.elim | skip
    all_goals simp only [kindOf, ho] <;> first | rfl | (split <;> rfl)
  cases ho : o.op <;> rw [ho] at ha nocalm <;> simp only [Op.operands] at ha <;> dsimp only [dOp] <;> try exact .fail
  case move x => exact .calm (move_ok (.inl ho) (all1 ha))
  case assign x => exact .calm (move_ok (.inr ho) (all1 ha))
  case pick c x y => have h := all3 ha; exact .calm (pick_ok ho h.1 h.2.1 h.2.2)
  case binOp op t x y yt => have h := all2 ha; exact .calm (binOp_ok ho h.1 h.2)
  case unOp op t x => exact .calm (unOp_ok ho (all1 ha))
  case convert s d x => exact .calm (convert_ok ho (all1 ha))
  case field t x f =>
    split
    · rename_i off m agg hf; exact .calm (calm1_ok (S := fun x => Instr.field t x f) (fun ev => by simp only [execOp, ho]) (un_field hf) (all1 ha))
    · exact .fail
  case fieldAddr t x f =>
    split
    · rename_i off m agg hf; exact .calm (calm1_ok (S := fun x => Instr.fieldAt t x f) (fun ev => by simp only [execOp, ho]) (un_fieldAt hf) (all1 ha))
    · exact .fail
  case index t x i =>
    have h := all2 ha
    split
    · rename_i hu; exact .calm (calm2_ok (S := fun x i => Instr.index t x i) (fun ev => by simp only [execOp, ho]) (bi_indexStr hu) h.1 h.2)
    · rename_i m e hu
      split
      · rename_i size agg hs hg; exact .calm (calm2_ok (S := fun x i => Instr.index t x i) (fun ev => by simp only [execOp, ho]) (bi_indexArr hu hs hg) h.1 h.2)
      · exact .fail
    · exact .fail
  case indexAddr t x i =>
    have h := all2 ha
    split
    · rename_i m e hu
      split
      · rename_i size hs; exact .calm (indexAt_ok ho (bi_indexAtA hu hs) h.1 h.2)
      · exact .fail
    · rename_i e hu
      split
      · rename_i size hs; exact .calm (indexAt_ok ho (bi_indexAtS hu hs) h.1 h.2)
      · exact .fail
    · exact .fail
  case extract x i => exact .calm (extract_ok ho (all1 ha))
  case load t x =>
    split
    · rename_i agg m hg hs; exact .calm (calm1_ok (S := Instr.loadAt t) (fun ev => by simp only [execOp, ho]) (un_load hg hs) (all1 ha))
    · exact .fail
  case store t x y =>
    have h := all2 ha
    split
    · rename_i m hs; exact .eff (nocalm trivial) (store_ok ho hs h.1 h.2)
    · exact .fail
  case build t ps => exact .calm (build_ok ho (by simpa using ha))
  case buildSlice t m ps => exact .eff (nocalm trivial) (buildSlice_ok ho (by simpa using ha))
  case alloc e => exact .eff (nocalm trivial) (alloc_ok ho)
  case box e x => exact .eff (nocalm trivial) (box_ok ho (all1 ha))
  case makeSlice t x y => have h := all2 ha; exact .eff (nocalm trivial) (makeSlice_ok ho h.1 h.2)
  case slice t x lo hi mx =>
    have h : okOd n x = true ∧ (∀ y, lo = some y → okOd n y = true) ∧ (∀ y, hi = some y → okOd n y = true) ∧ (∀ y, mx = some y → okOd n y = true) := by
      cases lo <;> cases hi <;> cases mx <;> simp_all
    exact .calm (slice_ok ho h.1 h.2.1 h.2.2.1 h.2.2.2)
  case nilCheck x => exact .calm (nil_ok P ho (all1 ha))
  case makeInterface t x =>
    split
    · exact .fail
    · rename_i d hd hu; exact .calm (iface_ok ho (all1 ha) (fun m hm => by rw [hm] at hu; cases hu; exact hd m rfl) (by rw [hu]; rfl))
    · exact .fail
  case makeFunc fn first caps =>
    have h : first.toList.all (okOd n) = true ∧ caps.toList.all (okOd n) = true := by
      rw [Array.toList_append, List.all_append, Bool.and_eq_true] at ha
      exact ha
    split
    · exact .calm (makeFunc_ok ho h.1 h.2)
    · split
      · rename_i hc; exact .calm (makeMeth_ok ho h.1 hc)
      · exact .fail
    · exact .fail
  case makeMap t r =>
    cases r with
    | none =>
      dsimp only
      split
      · exact .eff (nocalm trivial) (makeMap_ok ho)
      · exact .fail
    | some r => exact .fail
  case lookup t x i ok =>
    have h := all2 ha
    split
    · rename_i kt e hu
      split
      · rename_i s z hk hz; exact .calm (lookup_ok ho h.1 h.2 hu hk hz)
      · exact .fail
    · exact .fail
  case mapUpdate t m i v =>
    have h := all3 ha
    split
    · rename_i kt e hu
      split
      · rename_i s hk; exact .eff (nocalm trivial) (mapUpdate_ok ho h.1 h.2.1 h.2.2 hu hk)
      · exact .fail
    · exact .fail
  case call c => exact call_both ho ha
end
theorem oper_both (P : Program) (n : Nat) (o : Oper) : Both P n o (dOper P n o) := by
  unfold dOper
  split
  · rename_i h
    simp only [Bool.and_eq_true] at h
    exact op_both h.2
  · exact .fail
theorem sound (P : Program) (n : Nat) : Sound P n := fun o _ => (oper_both P n o).1
theorem soundC (P : Program) (n : Nat) : SoundC P n := fun o => (oper_both P n o).2

end Go.Gx

/- A loop over a function. -/
namespace Go.Gx
open Go Go.Sx

/-! ### from one anchor to another -/
/-- a later anchor -/
def Base.at (w0 : Base) (h : H) (ρ : Rho) : Base := { w0 with h := h, ρ := ρ }
theorem RelH.at {w0 : Base} {ρ : Rho} {h : H} {w : World} (r : RelH w0 ρ h w) : RelH (w0.at h ρ) ρ h w := fun ρ' hl =>
  let r0 := r ρ' hl; ⟨r0.ext, r0.fn, r0.top, r0.hp, r0.inj, r0.bd, r0.pc, hl, Gr.refl _⟩
theorem RelH.from {w0 : Base} {ρ ρ1 : Rho} {h h1 : H} {w w1 : World} (r : RelH w0 ρ h w) (r1 : RelH (w0.at h ρ) ρ1 h1 w1) : RelH w0 ρ1 h1 w1 := fun ρ' hl =>
  let r0 := r1 ρ' hl
  have ha : Le h ρ ρ' ∧ Gr h h1 := r0.anc
  let rb := (r ρ' ha.1).anc
  ⟨r0.ext, r0.fn, r0.top, r0.hp, r0.inj, r0.bd, r0.pc, rb.1, rb.2.trans ha.2⟩
theorem RelH.anchor {w0 : Base} {ρ ρ1 : Rho} {h h1 : H} {w1 : World} (r1 : RelH (w0.at h ρ) ρ1 h1 w1) : Le h ρ ρ1 ∧ Gr h h1 := r1.to.anc
theorem RelH.again {w0 : Base} {ρ ρ1 ρ2 : Rho} {h h1 h2 : H} {w1 w2 : World} (r1 : RelH (w0.at h ρ) ρ1 h1 w1) (hl : Le h1 ρ1 ρ2) (hg : Gr h1 h2) (r2 : RelH w0 ρ2 h2 w2) : RelH (w0.at h ρ) ρ2 h2 w2 := fun ρ' hl' =>
  let r0 := r2 ρ' hl'
  let ra := (r1 ρ' (hl.trans hg hl')).anc
  ⟨r0.ext, r0.fn, r0.top, r0.hp, r0.inj, r0.bd, r0.pc, ra.1, ra.2.trans hg⟩
theorem Post.from {w0 : Base} {ρa ρ : Rho} {ha h : H} {wa w : World} (r : RelH w0 ρa ha wa) {k : KV} {l : List (V × H)} {x : Value} {w' : World} (p : Post (w0.at ha ρa) ρ h w k l x w') : Post w0 ρ h w k l x w' := by
  obtain ⟨v, h', ρ', l', e1, e2, e3, e4, e5, e6, e7⟩ := p
  exact ⟨v, h', ρ', l', e1, e2, e3, e4, r.from e5, e6, e7⟩
theorem Post.again {w0 : Base} {ρa ρ : Rho} {ha h : H} {w : World} (r1 : RelH (w0.at ha ρa) ρ h w) {k : KV} {l : List (V × H)} {x : Value} {w' : World} (p : Post w0 ρ h w k l x w') : Post (w0.at ha ρa) ρ h w k l x w' := by
  obtain ⟨v, h', ρ', l', e1, e2, e3, e4, e5, e6, e7⟩ := p
  exact ⟨v, h', ρ', l', e1, e2, e3, e4, r1.again e3 e4 e5, e6, e7⟩
theorem YieldOk.at {P : Program} {w0 : Base} {yl : YL} (y : YieldOk P w0 yl) {h : H} {ρ : Rho} {w : World} (r : RelH w0 ρ h w) : YieldOk P (w0.at h ρ) yl := by
  intro b f hb args k h1 l hr ρ1 w1 r1 xs dx
  obtain ⟨lo, fn, tmps, as, body, w2, e1, e2⟩ := y b f hb args k h1 l hr ρ1 w1 (r.from r1) xs dx
  exact ⟨lo, fn, tmps, as, body, w2, e1, RoundIn.mono e2 fun e w' ⟨x, he, hp⟩ => ⟨x, he, hp.again r1⟩⟩

/-! ### the record -/
theorem get_loop {w0 : Base} {ρ : Rho} {h : H} {w : World} (r : RelH w0 ρ h w) {b : Nat} {st : LoopState} {p : Option X} {i : Nat} (hg : h.get b = .loop st p i) :
    b < h.nb ∧ w.heap[ρ.blk b]? = some (.loop { ρ.lp b with state := st, pending := p.map X.code }) := by
  obtain ⟨h1, h2, h3, obj, h4, h5⟩ := r.to.hp b (by rw [hg]; intro h; cases h)
  rw [hg] at h5
  exact ⟨h1, by rw [h4]; exact congrArg some h5⟩
theorem isReady_some {o : O} (h : isReady o = true) : ∃ i, o = .loop .ready none i := by
  unfold isReady at h
  split at h
  · split at h
    · exact ⟨_, rfl⟩
    · cases h
  · cases h
theorem setLoop_ok {w0 : Base} {ρ : Rho} {h : H} {w : World} (r : RelH w0 ρ h w) {b : Nat} {st : LoopState} {p : Option X} {k : H → Res} {l : List (V × H)} (hr : setLoop b st p h k = some l) :
    ∃ s0 p0 i, h.get b = .loop s0 p0 i ∧ k (h.put b (.loop st p i)) = some l ∧ b < h.nb ∧ w.heap[ρ.blk b]? = some (.loop { ρ.lp b with state := s0, pending := p0.map X.code }) ∧
      RelH w0 ρ (h.put b (.loop st p i)) (w.putObj (ρ.blk b) (.loop { ρ.lp b with state := st, pending := p.map X.code })) ∧
      Fra h ρ w (h.put b (.loop st p i)) ρ (w.putObj (ρ.blk b) (.loop { ρ.lp b with state := st, pending := p.map X.code })) := by
  unfold setLoop at hr
  split at hr
  · rename_i s0 p0 i hg
    obtain ⟨h1, h2⟩ := get_loop r hg
    have ho : (h.get b).own = true := by rw [hg]; rfl
    refine ⟨s0, p0, i, hg, hr, h1, h2, relH_put r ho (.loop st p i) _ rfl fun ρ' hl => ?_, fra_put r ho (.loop st p i) _⟩
    show _ = _
    rw [hl.lp b h1]
  · cases hr

theorem putParams_ok {n : Nat} {ρ : Rho} {h : H} : ∀ {ps : List Tmp} {args : List V} {xs : List Value} {F F1 : Fr} {a : Act}, putParams ps args F = some F1 → ps.all (fun t => Nat.ble (t + 1) n) = true → DenL h ρ args xs → RelF n ρ F h a →
    xs.length = ps.length ∧ RelF n ρ F1 h { a with tmps := (ps.zip xs).foldl (fun t (p, v) => t.setIfInBounds p v) a.tmps }
  | [], [], xs, F, F1, a, hp, _, dx, rf => by
    cases hp
    have := (dx ρ (Le.refl _ _)).symm
    subst this
    exact ⟨rfl, rf⟩
  | t :: ps, v :: args, xs, F, F1, a, hp, hok, dx, rf => by
    simp only [List.all_cons, Bool.and_eq_true] at hok
    have hx := (dx ρ (Le.refl _ _)).symm
    simp only [V.denL] at hx
    subst hx
    have dv : Den h ρ v (v.den ρ) := fun ρ' hl => by
      have := dx ρ' hl
      simp only [V.denL, List.cons.injEq] at this
      exact this.1
    have dr : DenL h ρ args (V.denL ρ args) := fun ρ' hl => by
      have := dx ρ' hl
      simp only [V.denL, List.cons.injEq] at this
      exact this.2
    have := putParams_ok (ps := ps) (args := args) hp hok.2 dr (relF_set rf (d := some t) hok.1 dv)
    exact ⟨by simp [this.1], this.2⟩
  | [], _ :: _, xs, F, F1, a, hp, _, dx, rf => by cases hp
  | _ :: _, [], xs, F, F1, a, hp, _, dx, rf => by cases hp
theorem relF_plain {n : Nat} {ρ : Rho} {F : Fr} {h : H} {a : Act} (r : RelF n ρ F h a) : RelF n ρ ⟨F.t, []⟩ h { a with defers := [] } := fun ρ' hl =>
  let r0 := r ρ' hl; ⟨r0.le, r0.size, r0.tm, rfl⟩

/-! ### one round -/
theorem round_ok {P : Program} {n : Nat} {as body : Code} (ha : CodeOk P n true as) (hb : CodeOk P n true body) {ps : List Tmp} (hps : ps.all (fun t => Nat.ble (t + 1) n) = true)
    {w0 : Base} {cx : Cx} (hcx : CxOk P w0 cx) {b : Nat} {t : N2 V} {args : List V} {k : KV} {h : H} {l : List (V × H)} (hr : roundF b ps (dCode P n true as) (dCode P n true body) cx t args k h = some l)
    {ρ : Rho} {w : World} (rh : RelH w0 ρ h w) {xs : List Value} (dx : DenL h ρ args xs) {a : Act} {df : List Df} (rf : RelF n ρ ⟨t, df⟩ h a) (hlt : (ρ.lp b).tmps = a.tmps) (hlp : (ρ.lp b).params = ps.toArray) :
    (Instr.yield (ρ.blk b) xs.toArray).run P w = .ok (.round (ρ.blk b) (ρ.lp b).fn ((ps.toArray.zip xs.toArray).foldl (fun tmps (t, a) => tmps.setIfInBounds t a) a.tmps) (ρ.lp b).assign (ρ.lp b).body) w ∧
      ((ρ.lp b).assign = as → (ρ.lp b).body = body → RoundIn Fence.wide 0 P (ρ.blk b) (ρ.lp b).fn ((ps.toArray.zip xs.toArray).foldl (fun tmps (t, a) => tmps.setIfInBounds t a) a.tmps) (ρ.lp b).assign (ρ.lp b).body w
        fun e w' => ∃ x, e = .returned x ∧ Post w0 ρ h w k l x w') := by
  unfold roundF at hr
  split at hr
  · rename_i F1 hrd hpp
    obtain ⟨i, hg⟩ := isReady_some hrd
    obtain ⟨hbn, hobj⟩ := get_loop rh hg
    obtain ⟨hlen, rf1⟩ := putParams_ok hpp hps dx (relF_plain rf)
    refine ⟨?_, fun has hbo => ?_⟩
    · have := run_yield (P := P) (args := xs.toArray) hobj (by simp only [hlp]; simp [hlen])
      simp only [hlp, hlt] at this
      exact this
    · refine roundIn_of_wpIn trivial ?_
      rw [has, hbo]
      have e0 : (ps.toArray.zip xs.toArray).foldl (fun tmps (t, a) => tmps.setIfInBounds t a) a.tmps = (ps.zip xs).foldl (fun t (p, v) => t.setIfInBounds p v) a.tmps := by
        rw [← Array.foldl_toList]
        simp
      rw [e0]
      refine ha w0 cx hcx _ F1 h l hr ρ _ w rh rf1 (some (ρ.blk b)) (by simp) _ ?_
      intro x F2 h2 ρ2 l2 a2 w2 e1 s1 le1 g1 r1 f1 fra1
      cases x with
      | exit id => cases e1
      | ret => cases e1
      | normal =>
        simp only at e1
        split at e1
        · rename_i hrd2
          obtain ⟨i2, hg2⟩ := isReady_some hrd2
          obtain ⟨s0, p0, i3, q1, q2, q3, q4, q5, q6⟩ := setLoop_ok r1 e1
          rw [hg2] at q1
          cases q1
          have hblk : ρ2.blk b = ρ.blk b := le1.blk b hbn
          refine ⟨_, by rw [← hblk]; exact run_beginRound q4 rfl, ?_⟩
          have fr2 := Fra.trans rh le1 fra1 r1 (Le.refl _ _) q6
          refine hb w0 cx hcx _ F2 _ l2 q2 ρ2 a2 _ q5 (f1.more (Le.refl _ _) (gr_put _ _ _)) (some (ρ.blk b)) (by simp) _ ?_
          intro x F3 h3 ρ3 l3 a3 w3 e3 s3 le3 g3 r3 f3 fra3
          have le13 : Le h ρ ρ3 := le1.trans g1 (le_put.1 le3)
          have hblk3 : ρ3.blk b = ρ.blk b := le13.blk b hbn
          have fr3 := Fra.trans rh le1 fr2 q5 le3 fra3
          have g13 : Gr h h3 := (g1.trans (gr_put _ _ _)).trans g3
          have fin : ∀ (st : LoopState) (p : Option X) (v : V), setLoop b st p h3 (fun h => k v h) = some l3 → (∀ ρ', v.den ρ' = .bool p.isNone) → st = (if p.isNone then .ready else .done) →
              ∃ v' w', (Instr.endRound (ρ.blk b) (p.map X.code)).run P w3 = .ok v' w' ∧ ∃ x, Ending.returned v' = .returned x ∧ Post w0 ρ h w k l x w' := by
            intro st p v hs hv hst
            obtain ⟨s0, p0, i4, q1, q2, q3, q4, q5', q6'⟩ := setLoop_ok r3 hs
            refine ⟨_, _, by rw [← hblk3]; exact run_endRound _ q4, _, rfl, ?_⟩
            have hin : (p.map X.code).isNone = p.isNone := by cases p <;> rfl
            rw [hin, ← hst]
            refine ⟨v, _, ρ3, l3, q2, fun y hy => s1 y (s3 y hy), le13, g13.trans (gr_put _ _ _), q5', fun ρ' _ => hv ρ', Fra.trans rh le13 fr3 r3 (Le.refl _ _) q6'⟩
          cases x with
          | normal => exact fin .ready none (.bool (lit 1)) e3 (fun _ => rfl) rfl
          | exit id => exact fin .done (some (.exit id)) (.bool (lit 0)) e3 (fun _ => rfl) rfl
          | ret => exact fin .done (some .ret) (.bool (lit 0)) e3 (fun _ => rfl) rfl
        · cases e1
  · cases hr

/-! ### the loop -/
theorem rangeF_some {n : Nat} {f : Operand} {ps : List Tmp} {as body : PC} {cx : Cx} {k : X → Fr → H → Res} {F : Fr} {h : H} {l : List (V × H)} (hr : rangeF n f ps as body cx k F h = some l) :
    ∃ g first caps, (od f).g F = .fn g first caps ∧ cx.bod g = true ∧ h.nb ≤ 64999 ∧ cx.call ((h.nb + 1, roundF (h.nb + 1) ps as body cx F.t) :: cx.yl) g (appL first (appL [.yld (h.nb + 1)] caps)) (fun _ h' => match h'.get (h.nb + 1) with
        | .loop st p _ => match st with
          | .busy => none
          | _ => match p with
            | none => k .normal ⟨F.t, .mark h.nb :: F.df⟩ (h'.put (h.nb + 1) .none)
            | some x => k x ⟨F.t, .mark h.nb :: F.df⟩ (h'.put (h.nb + 1) .none)
        | _ => none) ((h.add .dfr).add (.loop .ready none 0)) = some l := by
  unfold rangeF at hr
  obtain ⟨h1, hr⟩ := H.new_eq hr
  obtain ⟨h2, hr⟩ := H.new_eq hr
  split at hr
  · rename_i g first caps hf
    split at hr
    · rename_i hb
      have e : (h.add .dfr).nb = h.nb + 1 := rfl
      rw [e] at h2
      exact ⟨g, first, caps, hf, hb, by omega, hr⟩
    · cases hr
  · cases hr
theorem range_ok {P : Program} {n : Nat} {f : Operand} {ps : Array Tmp} {as body : Code} (ha : CodeOk P n true as) (hb : CodeOk P n true body) : CodeOk P n false (.rangeFunc f ps as body) := by
  intro w0 cx hcx k F h l hr ρ a w rh rf fr hfr Q hQ
  have hfr : fr = none := hfr.2 rfl
  subst hfr
  have hr : (bif okOd n f && ps.toList.all (fun t => Nat.ble (t + 1) n) then
      (⟨fun cx k F h => rangeF n f ps.toList (dCode P n true as) (dCode P n true body) cx k F h⟩ : PC)
    else ⟨fun _ _ _ _ => none⟩).run cx k F h = some l := by
    refine Eq.trans ?_ hr
    simp only [dCode]
    cases okOd n f && ps.toList.all (fun t => Nat.ble (t + 1) n) <;> rfl
  cases hok : okOd n f && ps.toList.all (fun t => Nat.ble (t + 1) n) with
  | false => rw [hok] at hr; cases hr
  | true =>
    rw [hok] at hr
    replace hr : rangeF n f ps.toList (dCode P n true as) (dCode P n true body) cx k F h = some l := hr
    rw [Bool.and_eq_true] at hok
    obtain ⟨hof, hps⟩ := hok
    obtain ⟨g, first, caps, hf, hbod, hnb, hcall⟩ := rangeF_some hr
    have dfv := Den.od rf hof
    rw [hf] at dfv
    refine wpIn_rangeFunc fun fn _ => ?_
    -- the two objects
    let L : Loop := { state := .ready, pending := none, fn, tmps := a.tmps, params := ps, assign := as, body, defers := w.heap.size }
    let ρ1 := ρ.setBlk h.nb w.heap.size
    let ρ2 := (ρ1.setBlk (h.nb + 1) (w.heap.size + 1)).setLp (h.nb + 1) L
    let h1 := h.add .dfr
    let h2 := h1.add (.loop .ready none 0)
    let w1 := w.alloc (.deferred (some []))
    let w2 := w1.alloc (.loop L)
    have b1 : ρ1.blk h.nb = w.heap.size := by simp [ρ1, Rho.setBlk]
    have l1 : Le h ρ ρ1 := le_setBlk h ρ _
    have r1 : RelH w0 ρ1 h1 w1 := relH_add rh .dfr (.deferred (some [])) (by omega) rfl l1 b1 fun ρ' _ => rfl
    have b2 : ρ2.blk (h.nb + 1) = w1.heap.size := by simp [ρ2, Rho.setLp, Rho.setBlk, w1]
    have l2 : Le h1 ρ1 ρ2 := (le_setBlk h1 ρ1 (w.heap.size + 1)).trans (Gr.refl h1) (le_setLp h1 _ L)
    have lp2 : ρ2.lp (h.nb + 1) = L := by simp [ρ2, Rho.setLp]
    have r2 : RelH w0 ρ2 h2 w2 := by
      refine relH_add r1 (.loop .ready none 0) (.loop L) (by show h.nb + 1 ≤ _; omega) rfl l2 b2 fun ρ' hl => ?_
      have e : ρ'.lp (h.nb + 1) = L := (hl.lp (h.nb + 1) (Nat.lt_succ_self _)).trans lp2
      show _ = Obj.loop { ρ'.lp (h.nb + 1) with state := .ready, pending := none }
      rw [e]
    have f1 : Fra h ρ w h1 ρ1 w1 := fra_add rh .dfr _ (by omega) l1 b1
    have f2 : Fra h1 ρ1 w1 h2 ρ2 w2 := fra_add r1 (.loop .ready none 0) _ (by show h.nb + 1 ≤ _; omega) l2 b2
    have l02 : Le h ρ ρ2 := l1.trans (gr_add h _) l2
    have g02 : Gr h h2 := (gr_add h _).trans (gr_add h1 _)
    have f02 : Fra h ρ w h2 ρ2 w2 := Fra.trans rh l1 f1 r1 l2 f2
    have d2 := dfv.more l02 g02
    have hfx := d2.to
    -- what it hands over
    have dxs : DenL h2 ρ2 (appL first (appL [.yld (h.nb + 1)] caps)) (V.denL ρ2 first ++ ([Value.func (.yield (w.heap.size + 1)) #[] #[]] ++ V.denL ρ2 caps)) := by
      intro ρ' hl
      have q1 := d2 ρ' hl
      rw [← hfx] at q1
      simp only [V.den] at q1
      injection q1 with _ q1 q2
      have q1 := congrArg Array.toList q1
      have q2 := congrArg Array.toList q2
      simp only at q1 q2
      have q3 : ρ'.blk (h.nb + 1) = w.heap.size + 1 := (hl.blk (h.nb + 1) (Nat.lt_succ_self _)).trans (b2.trans (alloc_size _ _))
      rw [appL_eq, appL_eq, denL_app, denL_app, q1, q2]
      simp [V.denL, V.den, q3]
    have hyl : YieldOk P (w0.at h2 ρ2) ((h.nb + 1, roundF (h.nb + 1) ps.toList (dCode P n true as) (dCode P n true body) cx F.t) :: cx.yl) := by
      intro b fy hb' args k' h' l' hr' ρ' w' r' xs dx
      simp only [lookY] at hb'
      split at hb'
      · rename_i hbe
        have hbe := Nat.eq_of_beq_eq_true hbe
        cases hb'
        subst hbe
        have han := r'.anchor
        have lp' : ρ'.lp (h.nb + 1) = L := (han.1.lp (h.nb + 1) (Nat.lt_succ_self _)).trans lp2
        have hcx' : CxOk P (w0.at h2 ρ2) cx := ⟨hcx.calls, hcx.yl.at r2, hcx.bod⟩
        have rf' : RelF n ρ' ⟨F.t, F.df⟩ h' a := (rf.more l02 g02).more han.1 han.2
        obtain ⟨q1, q2⟩ := round_ok ha hb hps hcx' hr' r' dx rf' (by rw [lp']) (by rw [lp'])
        exact ⟨_, _, _, _, _, _, q1, q2 (by rw [lp']) (by rw [lp'])⟩
      · exact hcx.yl.at r2 b fy hb' args k' h' l' hr' ρ' w' r' xs dx
    rcases hcx.calls (w0.at h2 ρ2) _ hyl g _ _ _ _ hcall ρ2 w2 r2.at _ dxs with ⟨hent, hcalls⟩ | ⟨x, wv, hv, _⟩
    · refine ⟨w.heap.size + 1, [{ target := .collected w.heap.size, args := #[] }], w2, { target := .fn (.func g) (V.denL ρ2 caps).toArray, args := (V.denL ρ2 first).toArray ++ #[.func (.yield (w.heap.size + 1)) #[] #[]] }, w2, g,
        (V.denL ρ2 first ++ ([Value.func (.yield (w.heap.size + 1)) #[] #[]] ++ V.denL ρ2 caps)).toArray, w2, run_enterLoop_outer _ _ _ _ _, ?_, fun _ _ => trivial, ?_, fun hn => (by cases hn), ?_⟩
      · simp only [rangeCall, resolve, ← hfx, V.den]
        simp [go_sem, Act.eval]
      · simp [invoke, hent]
      · refine CallsIn.mono (callsIn_wide.2 hcalls) ?_
        rintro e w3 ⟨x, rfl, v, h3, ρ3, l3, hk3, s3, le3, g3, r3, d3, fra3⟩
        have r3' : RelH w0 ρ3 h3 w3 := RelH.from r2 r3
        simp only at hk3
        split at hk3
        · rename_i st p i hg
          obtain ⟨hbn, hobj⟩ := get_loop r3' hg
          have hblk : ρ3.blk (h.nb + 1) = w.heap.size + 1 := (le3.blk (h.nb + 1) (Nat.lt_succ_self _)).trans (b2.trans (alloc_size _ _))
          have hlp : ρ3.lp (h.nb + 1) = L := (le3.lp (h.nb + 1) (Nat.lt_succ_self _)).trans lp2
          have hnb : st ≠ .busy := by rintro rfl; simp at hk3
          have hk4 : k (p.getD .normal) ⟨F.t, .mark h.nb :: F.df⟩ (h3.put (h.nb + 1) .none) = some l3 := by
            cases st <;> first | exact absurd rfl hnb | (cases p <;> exact hk3)
          have hend := run_endLoop (P := P) hobj hnb
          rw [hblk] at hend
          have ho : (h3.get (h.nb + 1)).own = true := by rw [hg]; rfl
          have r4 : RelH w0 ρ3 (h3.put (h.nb + 1) .none) (w3.putObj (w.heap.size + 1) (.loop { ρ3.lp (h.nb + 1) with state := .exhausted, pending := p.map X.code })) := by
            rw [← hblk]
            exact relH_put r3' ho .none _ rfl fun _ _ => trivial
          have f4 : Fra h3 ρ3 w3 (h3.put (h.nb + 1) .none) ρ3 (w3.putObj (w.heap.size + 1) (.loop { ρ3.lp (h.nb + 1) with state := .exhausted, pending := p.map X.code })) := by
            rw [← hblk]
            exact fra_put r3' ho .none _
          have le03 : Le h ρ ρ3 := l02.trans g02 le3
          have g04 : Gr h (h3.put (h.nb + 1) .none) := (g02.trans g3).trans (gr_put _ _ _)
          have f04 := Fra.trans rh le03 (Fra.trans rh l02 f02 r2 le3 fra3) r3' (Le.refl _ _) f4
          have rf4 : RelF n ρ3 ⟨F.t, .mark h.nb :: F.df⟩ (h3.put (h.nb + 1) .none) { a with defers := [{ target := .collected w.heap.size, args := #[] }] ++ a.defers } := by
            intro ρ' hl
            have q := (rf.more le03 g04) ρ' hl
            refine ⟨q.le, q.size, q.tm, ?_⟩
            have q2 : ρ'.blk h.nb = w.heap.size := ((le_put.1 hl).blk h.nb (by have := g3.1; have e : h2.nb = h.nb + 2 := rfl; omega)).trans ((le3.blk h.nb (by show h.nb < h.nb + 2; omega)).trans ((l2.blk h.nb (Nat.lt_succ_self _)).trans b1))
            show _ = _ :: _
            rw [← q.df]
            simp [Df.is, q2]
          refine ⟨_, _, hend, ?_⟩
          cases p with
          | none => exact hQ .normal _ _ ρ3 l3 _ _ hk4 s3 le03 g04 r4 rf4 f04
          | some x =>
            have := hQ x _ _ ρ3 l3 _ _ hk4 s3 le03 g04 r4 rf4 f04
            cases x with
            | normal => exact wpIn_skip this
            | exit id => exact wpIn_exit this
            | ret => exact wpIn_ret this
        · cases hk3
    · rw [hcx.bod g hbod] at hv
      cases hv

end Go.Gx

/- Functions; what may be called. -/
namespace Go.Gx
open Go Go.Sx

/-! ### what a function is entered with -/
theorem enterF_get : ∀ (args : List V) (i : Nat) (t : N2 V) (u : Nat), i + args.length ≤ 256 → u < 256 → (enterF args i t).get u = if h : i ≤ u ∧ u < i + args.length then args[u - i]'(by omega) else t.get u
  | [], i, t, u, _, _ => by
    rw [dif_neg (by simp; try omega)]; rfl
  | v :: r, i, t, u, hi, hu => by
    simp only [List.length_cons] at hi ⊢
    simp only [enterF]
    rw [enterF_get r (i + 1) _ u (by omega) hu, N2.get_set t v (by omega) hu]
    by_cases h1 : i + 1 ≤ u ∧ u < i + 1 + r.length
    · rw [dif_pos h1, dif_pos (by omega)]
      have : u - i = (u - (i + 1)) + 1 := by omega
      simp only [this, List.getElem_cons_succ]
    · rw [dif_neg h1]
      by_cases h2 : u = i
      · subst h2
        rw [if_pos rfl, dif_pos (by omega)]
        simp
      · rw [if_neg h2, dif_neg (by omega)]
theorem enterF_ok {n : Nat} {ρ : Rho} {h : H} {args : List V} {xs : List Value} (d : DenL h ρ args xs) (hn : n ≤ 250) (hl : args.length ≤ n) :
    RelF n ρ ⟨enterF args 0 F0, []⟩ h { tmps := xs.toArray ++ Array.replicate (n - xs.toArray.size) undef, defers := [] } := by
  intro ρ' hle
  have hx := d ρ' hle
  subst hx
  have hlen : (V.denL ρ' args).length = args.length := denL_len _ _
  refine ⟨hn, by simp [hlen]; omega, fun t ht => ?_, rfl⟩
  show _ = some (((enterF args 0 F0).get t).den ρ')
  rw [enterF_get args 0 F0 t (by omega) (by omega)]
  by_cases h1 : t < args.length
  · rw [dif_pos (by omega)]
    rw [Array.getElem?_append_left (by simp [hlen, h1])]
    simp [denL_get, h1]
  · rw [dif_neg (by omega)]
    rw [Array.getElem?_append_right (by simp [hlen]; omega)]
    have : F0.get t = undefV := N2.get_rep undefV t
    rw [this, den_undef]
    simp only [List.size_toArray, hlen]
    rw [Array.getElem?_replicate, if_pos (by omega)]

/-! ### results -/
theorem load_addr {P : Program} {t : TypeId} {v : Value} {x : Value} {w : World} (h : (Instr.loadAt t v).run P w = .ok x w) (hv : ∃ a, v = .pointer (some a)) : (do loadVar t (← asAddr v) : Sem Value).run P w = .ok x w := by
  obtain ⟨a, rfl⟩ := hv
  simpa [Instr.loadAt, Instr.sureAddr, asAddr, Sem.run_bind] using h
theorem resF_ok {P : Program} {n : Nat} {w0 : Base} {ρ : Rho} {F : Fr} {h : H} {a : Act} {w : World} (rf : RelF n ρ F h a) (rh : RelH w0 ρ h w) {r : ResultVar} {v : V} (hv : (resF P n r).g F h = some v) :
    ∃ x, Den h ρ v x ∧ ((match r with
      | .tmp t => pure (a.tmps.getD t undef)
      | .cell b t => do loadVar t (← asAddr (a.tmps.getD b undef))) : Sem Value).run P w = .ok x w := by
  cases r with
  | tmp t =>
    simp only [resF] at hv
    split at hv
    · rename_i ht
      cases hv
      have hok : okOd n (.tmp t) = true := ht
      exact ⟨_, Den.od rf hok, rfl⟩
    · cases hv
  | cell b t =>
    simp only [resF] at hv
    split at hv
    · rename_i ht
      have hok : okOd n (.tmp b) = true := ht
      split at hv
      · rename_i agg m ha hm
        have d := Den.od rf hok
        simp only at hv
        have hp : ∃ c, a.tmps.getD b undef = .pointer (some c) := by
          have e := d.to
          simp only [Act.eval] at e
          rw [← e]
          generalize (od (.tmp b)).g F = q at hv
          unfold loadV at hv
          split at hv <;> first | exact ⟨_, rfl⟩ | cases hv
        refine ⟨v.den ρ, ?_, ?_⟩
        · intro ρ' hl
          have h1 := un_load ha hm w0 ρ' h w (rh ρ' hl) _ v hv
          have h2 := un_load ha hm w0 ρ h w rh.to _ v hv
          rw [d ρ' hl] at h1
          rw [d.to] at h2
          rw [h1] at h2
          injection h2
        · have h2 := un_load ha hm w0 ρ h w rh.to _ v hv
          rw [d.to] at h2
          exact load_addr h2 hp
      · cases hv
    · cases hv
theorem resL_ok {P : Program} {n : Nat} {w0 : Base} {ρ : Rho} {F : Fr} {h : H} {a : Act} {w : World} (rf : RelF n ρ F h a) (rh : RelH w0 ρ h w) : ∀ {rs : List ResultVar} {vs : List V}, (resL P n rs).g F h = some vs →
    ∃ xs, DenL h ρ vs xs ∧ (rs.mapM (m := Sem) fun
      | .tmp t => pure (a.tmps.getD t undef)
      | .cell b t => do loadVar t (← asAddr (a.tmps.getD b undef))).run P w = .ok xs w
  | [], vs, hr => by cases hr; exact ⟨[], fun _ _ => rfl, rfl⟩
  | r :: rs, vs, hr => by
    simp only [resL] at hr
    split at hr
    · rename_i v hv
      split at hr
      · rename_i us hus
        cases hr
        obtain ⟨x, d, hx⟩ := resF_ok (P := P) rf rh hv
        obtain ⟨xs, ds, hxs⟩ := resL_ok rf rh hus
        refine ⟨x :: xs, fun ρ' hl => by simp only [V.denL, d ρ' hl, ds ρ' hl], ?_⟩
        rw [List.mapM_cons]
        cases r <;> simp only [Sem.run_bind] at hx ⊢ <;> rw [hx] <;> simp only [Result.andThen_ok, Sem.run_bind, hxs, Sem.run_pure]
      · cases hr
    · cases hr
theorem results_ok {P : Program} {fn : Func} {n : Nat} {w0 : Base} {ρ : Rho} {F : Fr} {h : H} {a : Act} {w : World} (rf : RelF n ρ F h a) (rh : RelH w0 ρ h w) {vs : List V} (hr : (resL P n fn.results.toList).g F h = some vs) :
    ∃ x, Den h ρ (resOne vs) x ∧ (results fn a.tmps).run P w = .ok x w := by
  obtain ⟨xs, ds, hx⟩ := resL_ok rf rh hr
  refine ⟨if hs : xs.length = 1 then xs[0] else .tuple xs.toArray, fun ρ' hl => ?_, ?_⟩
  · have := ds ρ' hl
    subst this
    cases vs with
    | nil => simp [resOne, V.denL, V.den]
    | cons v r =>
      cases r with
      | nil => simp [resOne, V.denL]
      | cons u r => simp [resOne, V.denL, V.den]
  · simp only [results, Array.mapM_eq_mapM_toList, Sem.run_bind, map_eq_pure_bind]
    erw [hx]
    simp only [Result.andThen_ok, Sem.run_pure, List.size_toArray]
    by_cases hs : xs.length = 1 <;> simp [hs]

/-! ### deferred calls that do nothing -/
def Quiet (P : Program) (f : Nat) : Prop := (∀ ys w, (callFunc f ys).run P w = .ok (.enter f ys) w) ∧
  ∀ ys w, CallsDIn Fence.wide 0 P f ys .returning w fun e u w' => (∃ x, e = .returned x) ∧ u = .returning ∧ w' = w
theorem leaveF_ok {P : Program} {fn : Func} {tmps : Array Value} {quiet : List Nat} (hq : ∀ f ∈ quiet, Quiet P f) {w0 : Base} {R : Ending → World → Prop} : ∀ {df : List Df} {h : H} {k : H → Res} {l : List (V × H)}, leaveF quiet df h k = some l →
    ∀ {ρ : Rho} {w : World}, RelH w0 ρ h w →
    (∀ h' w', k h' = some l → Gr h h' → (∀ ρ1 ρ2, Le h' ρ1 ρ2 ↔ Le h ρ1 ρ2) → RelH w0 ρ h' w' → Fra h ρ w h' ρ w' → ∃ v, (results fn tmps).run P w' = .ok v w' ∧ R (.returned v) w') →
    LeavesInM Fence.wide 0 P fn tmps R (df.map (Df.is ρ)) .returning w
  | [], h, k, l, hr, ρ, w, rh, hk => hk h w hr (Gr.refl _) (fun _ _ => Iff.rfl) rh (Fra.refl _ _ _)
  | .mark b :: df, h, k, l, hr, ρ, w, rh, hk => by
    simp only [leaveF] at hr
    split at hr
    · rename_i hg
      obtain ⟨h1, h2, h3, obj, h4, h5⟩ := rh.to.hp b (by rw [hg]; intro h; cases h)
      rw [hg] at h5
      have h5 : obj = .deferred (some []) := h5
      subst h5
      have ho : (h.get b).own = true := by rw [hg]; rfl
      have r2 : RelH w0 ρ (h.put b .none) (w.putObj (ρ.blk b) (.deferred none)) := relH_put rh ho .none _ rfl fun _ _ => trivial
      have f2 : Fra h ρ w (h.put b .none) ρ (w.putObj (ρ.blk b) (.deferred none)) := fra_put rh ho .none _
      refine ⟨by simp, .inl ⟨ρ.blk b, _, rfl, run_takeDeferred h4, ?_⟩⟩
      refine leaveF_ok hq hr r2 fun h' w' hk' g' l' r' f' => ?_
      exact hk h' w' hk' ((gr_put _ _ _).trans g') (fun _ _ => (l' _ _).trans le_put) r' (Fra.trans rh (Le.refl _ _) f2 r2 (Le.refl _ _) f')
    · cases hr
  | .fn f caps :: df, h, k, l, hr, ρ, w, rh, hk => by
    simp only [leaveF] at hr
    split at hr
    · rename_i hc
      obtain ⟨q1, q2⟩ := hq f (by simpa using hc)
      refine ⟨by simp, .inr ⟨fun hn => (by cases hn), .func f, (V.denL ρ caps).toArray, f, (V.denL ρ caps).toArray, rfl, ?_, fun _ _ => trivial, ?_⟩⟩
      · simp [Df.is, invoke, q1]
      · refine CallsDIn.mono (q2 _ w) ?_
        rintro e u w' ⟨⟨x, rfl⟩, rfl, rfl⟩
        exact leaveF_ok hq hr rh hk
    · cases hr

/-! ### a function -/
def FncOk (P : Program) (f : Nat) (p : Fnc) : Prop :=
  ∀ w0 cx, CxOk P w0 cx → ∀ args k h l, p.run cx args k h = some l → ∀ ρ w, RelH w0 ρ h w → ∀ xs, DenL h ρ args xs →
    ((∀ ys w', (callFunc f ys).run P w' = .ok (.enter f ys) w') ∧ Calls P f xs.toArray w fun e w' => ∃ x, e = .returned x ∧ Post w0 ρ h w k l x w') ∨
    ∃ x w1, (callFunc f xs.toArray).run P w = .ok (.value x) w1 ∧ Post w0 ρ h w k l x w1
theorem func_ok {P : Program} {f : Nat} {fn : Func} {c : Code} {quiet : List Nat} (hf : P.funcs[f]? = some fn) (hb : fn.body = some c) (he : ∀ ys w', (callFunc f ys).run P w' = .ok (.enter f ys) w') (hc : CodeOk P fn.ntmps false c)
    (hq : ∀ f ∈ quiet, Quiet P f) : FncOk P f (dFunc P quiet fn) := by
  intro w0 cx hcx args k h l hr ρ w rh xs dx
  refine .inl ⟨he, ?_⟩
  simp only [dFunc, hb] at hr
  split at hr
  · rename_i hn
    have hn := Nat.le_of_ble_eq_true hn
    simp only at hr
    split at hr
    · rename_i hl
      have hl := Nat.le_of_ble_eq_true hl
      rw [lenL_eq] at hl
      suffices hs : CallsIn Fence.wide 0 P f xs.toArray w (fun e w' => ∃ x, e = .returned x ∧ Post w0 ρ h w k l x w') from callsIn_wide.1 hs
      refine callsIn_of_wp_marks hf hb trivial ?_
      refine hc w0 cx hcx _ _ h l hr ρ _ w rh (enterF_ok dx hn (by omega)) none (by simp) _ ?_
      intro x F' h' ρ' l' a' w' e1 s1 le1 g1 r1 f1 fra1
      have key : leaveF quiet F'.df h' (fun h => match (resL P fn.ntmps fn.results.toList).g F' h with
            | some vs => k (resOne vs) h
            | none => none) = some l' → LeavesInM Fence.wide 0 P fn a'.tmps (fun e w' => ∃ x, e = .returned x ∧ Post w0 ρ h w k l x w') a'.defers .returning w' := by
        intro hlv
        rw [f1.to.df]
        refine leaveF_ok hq hlv r1 fun h2 w2 hk2 g2 le2 r2 fra2 => ?_
        split at hk2
        · rename_i vs hvs
          have f2 : RelF fn.ntmps ρ' F' h2 a' := fun ρ2 hl2 => f1 ρ2 ((le2 _ _).1 hl2)
          obtain ⟨x, dx, hx⟩ := results_ok f2 r2 hvs
          exact ⟨x, hx, x, rfl, resOne vs, h2, ρ', l', hk2, s1, le1, g1.trans g2, r2, dx, Fra.trans rh le1 fra1 r1 (Le.refl _ _) fra2⟩
        · cases hk2
      cases x with
      | normal => exact key e1
      | ret => exact key e1
      | exit id => cases e1
    · cases hr
  · cases hr
theorem callN_ok {P : Program} {tb : Table} (hf : ∀ f p, tb.fn f = some p → FncOk P f p) (hb : ∀ f, tb.bod f = true → ∀ ys w', (callFunc f ys).run P w' = .ok (.enter f ys) w') (fuel : Nat) : ∀ (d : Nat) (w1 : Base) (yl : YL), YieldOk P w1 yl → CallAt P w1 (callN tb fuel d yl)
  | 0, w1, yl, _ => fun f args k h l hr => by simp [callN] at hr
  | d + 1, w1, yl, hy => fun f args k h l hr ρ w rh xs dx => by
    simp only [callN] at hr
    split at hr
    · rename_i p hp
      exact hf f p hp w1 ⟨callN tb fuel d, yl, fuel, tb.bod⟩ ⟨callN_ok hf hb fuel d, hy, hb⟩ args k h l hr ρ w rh xs dx
    · cases hr

end Go.Gx

/- All code; functions; tables of them. -/
namespace Go.Gx
open Go Go.Sx

theorem fail_code {P : Program} {n : Nat} {rd : Bool} {c : Code} (h : ∀ cx k F h, (dCode P n rd c).run cx k F h = none) : CodeOk P n rd c := by
  intro w0 cx hcx k F hh l hr
  rw [h] at hr
  cases hr
theorem code_ok {P : Program} (hm : P.follows .mixedOrders) (n : Nat) : ∀ (c : Code) (rd : Bool), CodeOk P n rd c := by
  intro c
  induction c with
  | skip => intro rd; exact skip_ok
  | label => intro rd; exact label_ok
  | ret => intro rd; exact ret_ok
  | exit => intro rd; exact exit_ok
  | scope b ih => intro rd; exact scope_ok (ih rd)
  | seq a b iha ihb => intro rd; exact seq_ok (iha rd) (ihb rd)
  | cond c a b iha ihb => intro rd; exact cond_ok (iha rd) (ihb rd)
  | block id b ih => intro rd; exact block_ok (ih rd)
  | loop b ih => intro rd; exact loop_ok (ih rd)
  | region id ops draw =>
    intro rd
    cases draw with
    | false => exact region_ok (sound P n)
    | true => exact drawn_ok hm (sound P n) (soundC P n)
  | rangeFunc f ps as b iha ihb =>
    intro rd
    cases rd with
    | false => exact range_ok (iha true) (ihb true)
    | true => exact fail_code fun cx k F h => by simp only [dCode]
  | _ => intro rd; exact fail_code fun cx k F h => by simp only [dCode]
theorem fnc_ok {P : Program} (hm : P.follows .mixedOrders) {f : Nat} {fn : Func} {c : Code} {quiet : List Nat} (hf : P.funcs[f]? = some fn) (hb : fn.body = some c) (he : ∀ ys w', (callFunc f ys).run P w' = .ok (.enter f ys) w')
    (hq : ∀ f ∈ quiet, Quiet P f) : FncOk P f (dFunc P quiet fn) := func_ok hf hb he (code_ok hm fn.ntmps c false) hq
/-- internal/abi.NoEscape: its argument -/
def sameF : Fnc := ⟨fun _ args k h => match args with
  | [v] => k v h
  | _ => none⟩
theorem same_ok {P : Program} {f : Nat} (hf : ∀ x w, (callFunc f #[x]).run P w = .ok (.value x) w) : FncOk P f sameF := by
  intro w0 cx hcx args k h l hr ρ w rh xs dx
  simp only [sameF] at hr
  split at hr
  · rename_i v
    have h1 : xs = [v.den ρ] := (dx ρ (Le.refl _ _)).symm
    subst h1
    refine .inr ⟨v.den ρ, w, hf _ _, post_same rh hr fun ρ' hl => ?_⟩
    have := dx ρ' hl
    simp only [V.denL] at this
    injection this
  · cases hr
/-- internal/bytealg.MakeNoZero: a row of which nothing is known -/
def noZeroF (e : TypeId) : Fnc := ⟨fun _ args k h => match args with
  | [v] => match v with
    | .int .i64 n => match litN n with
      | some m => match Nat.ble m 1000000 with
        | true => growN e 1 [] m h k
        | false => none
      | none => none
    | _ => none
  | _ => none⟩
theorem noZero_ok {P : Program} {f : Nat} {e : TypeId} (hf : ∀ (m : Nat) (w : World), m ≤ 1000000 → ∃ cs : Array Value, (callFunc f #[.int .i64 m]).run P w = .ok (.value (.slice (some ⟨w.heap.size, 0, none⟩) m cs.size)) (w.drew.drew.alloc (.cells cs e)) ∧ m ≤ cs.size ∧ cs.size ≤ 9223372036854775807) : FncOk P f (noZeroF e) := by
  intro w0 cx hcx args k h l hr ρ w rh xs dx
  simp only [noZeroF] at hr
  split at hr
  · split at hr
    · rename_i n
      split at hr
      · rename_i m hm
        split at hr
        · rename_i hb
          have h1 : xs = [.int .i64 (m : Int)] := by rw [← dx ρ (Le.refl _ _), litN_some hm]; rfl
          subst h1
          obtain ⟨cs, c1, c2, c3⟩ := hf m w (Nat.le_of_ble_eq_true hb)
          have rd : RelH w0 ρ h w.drew := relH_drawn rh
          obtain ⟨v, h', ρ', l', g1, g2, g3, g4, g5, g6, g7⟩ := grow_ok rd hr c2 c3 (news := []) (rest := cs.toList) (fun ρ' _ => rfl) (by simp)
          refine .inr ⟨_, _, c1, v, h', ρ', l', g1, g2, g3, g4, ?_, g6, ?_⟩
          · simpa using g5
          · have g7 : Fra h ρ w.drew h' ρ' (w.drew.drew.alloc (.cells cs e)) := by simpa using g7
            exact ⟨g7.size, g7.old, g7.new, g7.kn⟩
        · cases hr
      · cases hr
    · cases hr
  · cases hr

end Go.Gx

/- Contracts by templates: what a function does from a template it does wherever the template fits. -/
namespace Go.Gx
open Go Go.Sx


def Rho.via (ρ : Rho) (τ : Ren) : Rho := { v := fun i => (τ.e i).den ρ.toEnv, fn := ρ.fn, blk := fun b => ρ.blk (τ.b b), raw := ρ.raw, lp := fun b => ρ.lp (τ.b b) }
theorem den_iteS (ρ : Env) (c a b : E) : (iteS c a b).den ρ = if c.den ρ ≠ 0 then a.den ρ else b.den ρ := by
  unfold iteS
  split
  · rename_i n
    split
    · rename_i m
      cases m with
      | zero =>
        have : ¬ (E.lit (Int.ofNat 0)).den ρ ≠ 0 := fun h => h rfl
        rw [if_neg this]
        rfl
      | succ m =>
        have : (E.lit (Int.ofNat (m + 1))).den ρ ≠ 0 := by simp only [E.den]; intro h; cases h
        rw [if_pos this]
        try rfl
    · rename_i m
      have : (E.lit (Int.negSucc m)).den ρ ≠ 0 := by simp only [E.den]; intro h; cases h
      rw [if_pos this]
  · rfl
theorem E.den_ren (ρ : Rho) (τ : Ren) : ∀ e : E, (E.ren τ e).den ρ.toEnv = e.den (ρ.via τ).toEnv := by
  intro e
  induction e with
  | lit n => rfl
  | var i => rfl
  | un o a ih => simp only [E.ren, den_mkUn, E.den, ih]
  | bin o a b iha ihb => simp only [E.ren, den_mkBin, E.den, iha, ihb]
  | ite c a b ihc iha ihb => simp only [E.ren, den_iteS, E.den, ihc, iha, ihb]
  | fn f a b c iha ihb ihc => simp only [E.ren, E.den, iha, ihb, ihc]; rfl
theorem E.below_den {n : Nat} {ρ ρ' : Env} (hv : ∀ i, i < n → ρ'.v i = ρ.v i) (hf : ρ'.fn = ρ.fn) : ∀ e : E, E.below n e = true → e.den ρ' = e.den ρ := by
  intro e
  induction e with
  | lit n => intro _; rfl
  | var i => intro h; exact hv i (Nat.le_of_ble_eq_true h)
  | un o a ih => intro h; simp only [E.den, ih h]
  | bin o a b iha ihb => intro h; simp only [E.below, Bool.and_eq_true] at h; simp only [E.den, iha h.1, ihb h.2]
  | ite c a b ihc iha ihb => intro h; simp only [E.below, Bool.and_eq_true] at h; simp only [E.den, ihc h.1, iha h.2.1, ihb h.2.2]
  | fn f a b c iha ihb ihc => intro h; simp only [E.below, Bool.and_eq_true] at h; simp only [E.den, iha h.1, ihb h.2.1, ihc h.2.2, hf]
theorem D.at_ren (ρ : Rho) (τ : Ren) (d : D) (j : Int) : (D.ren τ d).at ρ.toEnv j = d.at (ρ.via τ).toEnv j := by
  cases d with
  | con e => exact E.den_ren ρ τ e
  | lst l sh =>
    simp only [D.ren, D.at, E.den_ren, List.getD_eq_getElem?_getD, List.getElem?_map]
    cases l[(j + sh.den (ρ.via τ).toEnv).toNat]? with
    | none => rfl
    | some e => exact E.den_ren ρ τ e
  | fn f sh => simp only [D.ren, D.at, E.den_ren]; rfl
theorem readW_ren (ρ : Rho) (τ : Ren) (d : D) : ∀ (ws : List (E × E × D)) (j : Int), readW ρ.toEnv (D.ren τ d) (renW τ ws) j = readW (ρ.via τ).toEnv d ws j
  | [], j => D.at_ren ρ τ d j
  | (a, b, v) :: r, j => by simp only [renW, readW, E.den_ren, D.at_ren, readW_ren ρ τ d r j]
theorem Arr.row_ren (ρ : Rho) (τ : Ren) (A : Arr) : (A.ren τ).row ρ.toEnv = A.row (ρ.via τ).toEnv := by
  simp only [Arr.row, Arr.ren, E.den_ren, readW_ren]
theorem Arr.den_ren (ρ : Rho) (τ : Ren) (A : Arr) : (A.ren τ).den ρ.toEnv = A.den (ρ.via τ).toEnv := by
  simp only [Arr.den, Arr.row_ren]; rfl
theorem byteOf_ren (ρ : Rho) (τ : Ren) (l : List E) : (l.map (E.ren τ)).map (byteOf ρ.toEnv) = l.map (byteOf (ρ.via τ).toEnv) := by
  rw [List.map_map]
  apply List.map_congr_left
  intro e _
  simp only [Function.comp, byteOf, E.den_ren]
mutual
theorem V.den_ren (ρ : Rho) (τ : Ren) : ∀ v : V, (V.ren τ v).den ρ = v.den (ρ.via τ)
  | .int k e => by simp only [V.ren, forceE_eq, V.den, E.den_ren]
  | .bool e => by simp only [V.ren, forceE_eq, V.den, E.den_ren]
  | .ptr b o => by simp only [V.ren, V.den, E.den_ren]; rfl
  | .sl b o l c => by simp only [V.ren, V.den, E.den_ren]; rfl
  | .agg vs => by simp only [V.ren, V.den, V.denL_ren ρ τ vs]
  | .tup vs => by simp only [V.ren, V.den, V.denL_ren ρ τ vs]
  | .str l => by simp only [V.ren, V.den, byteOf_ren]
  | .astr A => by simp only [V.ren, V.den, Arr.bytes, Arr.row_ren]
  | .fn f a b => by simp only [V.ren, V.den, V.denL_ren ρ τ a, V.denL_ren ρ τ b]
  | .mth n r => by simp only [V.ren, V.den, V.denL_ren ρ τ r]
  | .yld b => by simp only [V.ren, V.den]; rfl
  | .map b => by simp only [V.ren, V.den]; rfl
  | .iface t v => by simp only [V.ren, V.den, V.den_ren ρ τ v]
  | .gp g o => by simp only [V.ren, V.den, E.den_ren]
  | .flt k e => by simp only [V.ren, V.den, E.den_ren]
  | .nilp => rfl
  | .nils => rfl
  | .nilf => rfl
  | .nili => rfl
  | .nilm => rfl
  | .raw i => rfl
theorem V.denL_ren (ρ : Rho) (τ : Ren) : ∀ vs : List V, V.denL ρ (V.renL τ vs) = V.denL (ρ.via τ) vs
  | [] => rfl
  | v :: r => by simp only [V.renL, V.denL, V.den_ren ρ τ v, V.denL_ren ρ τ r]
end
theorem entries_ren (ρ : Rho) (τ : Ren) : ∀ (i : Nat) (es : List (V × V)), entries ρ i (renM τ es) = entries (ρ.via τ) i es
  | _, [] => rfl
  | i, (a, b) :: r => by simp only [renM, entries, V.den_ren, entries_ren ρ τ (i + 1) r]
theorem renM_len (τ : Ren) : ∀ es : List (V × V), (renM τ es).length = es.length
  | [] => rfl
  | (a, b) :: r => by simp only [renM, List.length_cons, renM_len τ r]
theorem renL_len (τ : Ren) : ∀ vs : List V, (V.renL τ vs).length = vs.length
  | [] => rfl
  | v :: r => by simp only [V.renL, List.length_cons, renL_len τ r]
theorem O.is_ren {ρ : Rho} {τ : Ren} {o : O} {b c : Nat} {obj : Obj} (h : o.is (ρ.via τ) b obj) : (O.ren τ o).is ρ c obj := by
  cases o with
  | none => trivial
  | row ro el sz vs =>
    obtain ⟨rest, h1, h2⟩ := h
    refine ⟨rest, by rw [V.denL_ren]; exact h1, ?_⟩
    cases sz with
    | none => exact h2
    | some e => simp only [renZ, renL_len]; rw [h2, E.den_ren]
  | arr ro el A => simp only [O.ren, O.is] at h ⊢; rw [Arr.den_ren]; exact h
  | map es => simp only [O.ren, O.is] at h ⊢; rw [entries_ren, renM_len]; exact h
  | loop st p r => trivial
  | dfr => trivial
theorem objs_get : ∀ (l : List O) (n : Nat) (t : N4 O) (c : Nat), n + l.length ≤ 65536 → c < 65536 → (objs l n t).get c = if h : n ≤ c ∧ c < n + l.length then l[c - n]'(by omega) else t.get c
  | [], n, t, c, _, _ => by rw [dif_neg (by simp; try omega)]; rfl
  | o :: r, n, t, c, hn, hc => by
    simp only [List.length_cons] at hn ⊢
    simp only [objs, forceN_eq]
    rw [objs_get r (n + 1) _ c (by omega) hc, N4.get_set t o (by omega) hc]
    by_cases h1 : n + 1 ≤ c ∧ c < n + 1 + r.length
    · rw [dif_pos h1, dif_pos (by omega)]
      have : c - n = (c - (n + 1)) + 1 := by omega
      simp only [this, List.getElem_cons_succ]
    · rw [dif_neg h1]
      by_cases h2 : c = n
      · subst h2
        rw [if_pos rfl, dif_pos (by omega)]
        simp
      · rw [if_neg h2, dif_neg (by omega)]
theorem ok_ivs {ρ : Env} : ∀ {l : List Iv} {n : Nat} {b : Bd}, b.ok ρ → (∀ (j : Nat) (i : Iv), l[j]? = some i → i.has (ρ.v (n + j))) → (ivs l n b).ok ρ
  | [], _, _, h, _ => h
  | i :: r, n, b, h, hi => by
    simp only [ivs, forceN_eq]
    refine ok_ivs (Bd.ok_addV h (by simpa using hi 0 i rfl)) fun j k hk => ?_
    have := hi (j + 1) k (by simpa using hk)
    rw [show n + 1 + j = n + (j + 1) by omega]
    exact this
theorem Tm.get (T : Tm) (hn : T.hp.length ≤ 65000) (b : Nat) : T.toH.get b = (T.hp[b]?).getD .none := by
  unfold H.get
  split
  · rename_i h
    have hb := Nat.le_of_ble_eq_true h
    show N4.get (objs T.hp 0 (N4.rep .none)) b = _
    rw [objs_get _ _ _ _ (by omega) (by omega)]
    by_cases h1 : b < T.hp.length
    · rw [dif_pos ⟨Nat.zero_le _, by omega⟩]; simp [h1]
    · rw [dif_neg (by omega), N4.get_rep]; simp [h1]
  · rename_i h
    have hb := Nat.not_le_of_not_ble_eq_true (n := b) (m := 65535) (by rw [h]; decide)
    have : ¬ b < T.hp.length := by omega
    simp [this]
structure Ren.Ok (τ : Ren) (h : H) : Prop where
  nb : τ.nb = τ.bs.length
  nv : τ.nv = τ.es.length
  hb : τ.hb = h.nb
  hv : τ.hv = h.nv
  lt : ∀ c ∈ τ.bs, c < h.nb
  below : ∀ e ∈ τ.es, E.below h.nv e = true
theorem Ren.b_lt {τ : Ren} {h : H} (hk : τ.Ok h) {b : Nat} (hb : b < τ.nb) : τ.b b < h.nb := by
  unfold Ren.b
  rw [nthL_eq]
  have : b < τ.bs.length := by rw [← hk.nb]; exact hb
  simp only [List.getElem?_eq_getElem this]
  exact hk.lt _ (List.getElem_mem _)
theorem Ren.b_ge {τ : Ren} {h : H} (hk : τ.Ok h) {b : Nat} (hb : τ.nb ≤ b) : τ.b b = h.nb + (b - τ.nb) := by
  unfold Ren.b
  rw [nthL_eq]
  have : τ.bs.length ≤ b := by rw [← hk.nb]; exact hb
  simp only [List.getElem?_eq_none this, forceN_eq, hk.hb]
theorem Ren.e_lt {τ : Ren} {h : H} (hk : τ.Ok h) {i : Nat} (hi : i < τ.nv) : E.below h.nv (τ.e i) = true := by
  unfold Ren.e
  rw [nthL_eq]
  have : i < τ.es.length := by rw [← hk.nv]; exact hi
  simp only [List.getElem?_eq_getElem this]
  exact hk.below _ (List.getElem_mem _)
theorem Ren.e_ge {τ : Ren} {h : H} (hk : τ.Ok h) {i : Nat} (hi : τ.nv ≤ i) : τ.e i = .var (h.nv + (i - τ.nv)) := by
  unfold Ren.e
  rw [nthL_eq]
  have : τ.es.length ≤ i := by rw [← hk.nv]; exact hi
  simp only [List.getElem?_eq_none this, forceN_eq, hk.hv]
/-- whatever the further names of the template stand for -/
theorem Ren.up {τ : Ren} {h : H} (hk : τ.Ok h) {ρ ρ' : Rho} {g : H} (hb : g.nb = τ.nb) (hv : g.nv = τ.nv) (hl : Le g (ρ.via τ) ρ') : ∃ ρ2, Le h ρ ρ2 ∧ ρ2.via τ = ρ' := by
  refine ⟨{ v := fun j => if j < h.nv then ρ.v j else ρ'.v (τ.nv + (j - h.nv)), fn := ρ.fn, blk := fun j => if j < h.nb then ρ.blk j else ρ'.blk (τ.nb + (j - h.nb)), raw := ρ.raw, lp := fun j => if j < h.nb then ρ.lp j else ρ'.lp (τ.nb + (j - h.nb)) }, ⟨fun i hi => if_pos hi, fun i hi => if_pos hi, rfl, rfl, fun i hi => if_pos hi⟩, ?_⟩
  have e1 : ρ'.fn = ρ.fn := hl.fn
  have e2 : ρ'.raw = ρ.raw := hl.raw
  obtain ⟨⟨v, fn⟩, blk, raw, lp⟩ := ρ'
  simp only at e1 e2
  subst e1; subst e2
  simp only [Rho.via]
  congr 1
  · congr 1
    funext i
    by_cases hi : i < τ.nv
    · refine (E.below_den (ρ := ρ.toEnv) (ρ' := ⟨fun j => if j < h.nv then ρ.v j else v (τ.nv + (j - h.nv)), ρ.fn⟩) (fun j hj => if_pos hj) rfl _ (Ren.e_lt hk hi)).trans ?_
      exact (hl.v i (by omega)).symm
    · rw [Ren.e_ge hk (by omega)]
      simp only [E.den]
      rw [if_neg (by omega)]
      congr 1; omega
  · funext b
    by_cases hi : b < τ.nb
    · rw [if_pos (Ren.b_lt hk hi)]
      exact (hl.blk b (by omega)).symm
    · rw [Ren.b_ge hk (by omega), if_neg (by omega)]
      congr 1; omega
  · funext b
    by_cases hi : b < τ.nb
    · rw [if_pos (Ren.b_lt hk hi)]
      exact (hl.lp b (by omega)).symm
    · rw [Ren.b_ge hk (by omega), if_neg (by omega)]
      congr 1; omega
theorem memN_of {b : Nat} : ∀ {l : List Nat}, b ∈ l → memN b l = true
  | [], h => by cases h
  | c :: r, h => by
    simp only [memN]
    cases h with
    | head => simp
    | tail _ h => split <;> first | rfl | exact memN_of h
theorem nodup_inj : ∀ {l : List Nat}, nodup l = true → ∀ (i j x : Nat), l[i]? = some x → l[j]? = some x → i = j
  | [], _, i, j, x, h, _ => by simp at h
  | b :: r, hn, i, j, x, hi, hj => by
    simp only [nodup, Bool.and_eq_true] at hn
    have hm : ∀ k, r[k]? ≠ some b := fun k hk => by
      have := memN_of (List.mem_of_getElem? hk)
      rw [this] at hn
      exact absurd hn.1 (by decide)
    cases i with
    | zero =>
      simp at hi; subst hi
      cases j with
      | zero => rfl
      | succ j => exact absurd (by simpa using hj) (hm j)
    | succ i =>
      cases j with
      | zero => simp at hj; subst hj; exact absurd (by simpa using hi) (hm i)
      | succ j => rw [nodup_inj hn.2 i j x (by simpa using hi) (by simpa using hj)]
theorem fitOs_get {τ : Ren} {h : H} : ∀ {os : List O} {bs : List Nat}, fitOs τ h os bs = true → os.length = bs.length ∧ ∀ (i : Nat) (o : O), os[i]? = some o → ∃ c, bs[i]? = some c ∧ c < h.nb ∧ fitO τ o (h.get c) = true
  | [], [], _ => ⟨rfl, fun i o h => by simp at h⟩
  | [], _ :: _, h => by simp [fitOs] at h
  | _ :: _, [], h => by simp [fitOs] at h
  | o :: r, b :: s, hf => by
    simp only [fitOs, Bool.and_eq_true] at hf
    obtain ⟨h1, h2⟩ := fitOs_get hf.2.2
    refine ⟨by simp [h1], fun i q hq => ?_⟩
    cases i with
    | zero => simp at hq; subst hq; exact ⟨b, rfl, Nat.le_of_ble_eq_true hf.1, hf.2.1⟩
    | succ i => simpa using h2 i q (by simpa using hq)
theorem fitEs_get {h : H} : ∀ {os : List Iv} {bs : List E}, fitEs h os bs = true → os.length = bs.length ∧ (∀ e ∈ bs, E.below h.nv e = true) ∧ ∀ (i : Nat) (o : Iv), os[i]? = some o → ∃ c, bs[i]? = some c ∧ ivFit h o c = true
  | [], [], _ => ⟨rfl, (fun _ h => nomatch h), fun i o h => by simp at h⟩
  | [], _ :: _, h => by simp [fitEs] at h
  | _ :: _, [], h => by simp [fitEs] at h
  | o :: r, b :: s, hf => by
    simp only [fitEs, Bool.and_eq_true] at hf
    obtain ⟨h1, h3, h2⟩ := fitEs_get hf.2.2
    refine ⟨by simp [h1], fun e he => ?_, fun i q hq => ?_⟩
    · cases he with
      | head => exact hf.1
      | tail _ he => exact h3 e he
    · cases i with
      | zero => simp at hq; subst hq; exact ⟨b, rfl, hf.2.1⟩
      | succ i => simpa using h2 i q (by simpa using hq)
theorem within_has {i j : Iv} {n : Int} (h : within i j = true) (hi : i.has n) : j.has n := by
  obtain ⟨a, b⟩ := i
  obtain ⟨c, d⟩ := j
  cases a <;> cases b <;> cases c <;> cases d <;> simp [within] at h
  have h1 := hi.1 _ rfl
  have h2 := hi.2 _ rfl
  exact ⟨fun l hl => by cases hl; omega, fun l hl => by cases hl; omega⟩
theorem ivFit_has {h : H} {i : Iv} {e : E} (hf : ivFit h i e = true) {ρ : Env} (hb : h.bd.ok ρ) : i.has (e.den ρ) := by
  unfold ivFit at hf
  split at hf
  · exact Iv.has_all _
  · exact within_has hf (has_itv hb e)
  · cases hf
theorem memE_of {e : E} : ∀ {l : List E}, memE e l = true → e ∈ l
  | [], h => by cases h
  | f :: r, h => by
    simp only [memE] at h
    split at h
    · rename_i hh; rw [E.eq_of_beq hh]; exact List.mem_cons_self
    · exact List.mem_cons_of_mem _ (memE_of h)
theorem fitPs_of {τ : Ren} {pc : List E} : ∀ {l : List E}, fitPs τ pc l = true → ∀ e ∈ l, E.ren τ e ∈ pc
  | [], _, e, he => by cases he
  | f :: r, h, e, he => by
    simp only [fitPs, Bool.and_eq_true] at h
    cases he with
    | head => exact memE_of h.1
    | tail _ he => exact fitPs_of h.2 e he
theorem mapFit_eq {τ : Ren} : ∀ {es es' : List (V × V)}, mapFit τ es es' = true → es' = renM τ es
  | [], [], _ => rfl
  | [], _ :: _, h => by simp [mapFit] at h
  | _ :: _, [], h => by simp [mapFit] at h
  | (a, b) :: r, (c, d) :: s, h => by
    simp only [mapFit] at h
    split at h
    · rename_i h1
      split at h
      · rename_i h2; simp only [renM]; rw [← V.same_eq h1, ← V.same_eq h2, mapFit_eq h]
      · cases h
    · cases h
theorem fitO_is {ρ : Rho} {τ : Ren} {t o : O} {b c : Nat} {obj : Obj} (hf : fitO τ t o = true) (h : o.is ρ c obj) : t.is (ρ.via τ) b obj := by
  cases t with
  | none => trivial
  | row ro el sz vs =>
    cases o <;> simp only [fitO] at hf <;> try (cases hf; done)
    rename_i ro' el' sz' vs'
    simp only [Bool.and_eq_true] at hf
    obtain ⟨_, h2, h3, h4⟩ := hf
    obtain ⟨rest, e1, e2⟩ := h
    have h3 := V.sameL_eq h3
    subst h3
    have h2 := Nat.eq_of_beq_eq_true h2
    subst h2
    refine ⟨rest, by rw [← V.denL_ren]; exact e1, ?_⟩
    rw [renL_len] at e2
    cases sz with
    | none =>
      cases sz' with
      | none => exact e2
      | some e => simp [szFit] at h4
    | some e =>
      cases sz' with
      | none =>
        simp only [szFit] at h4
        have h4 := E.eq_of_beq h4
        show ((vs.length + rest.length : Nat) : Int) = e.den (ρ.via τ).toEnv
        rw [← E.den_ren, h4, e2, den_lit, lenL_eq, renL_len]; simp
      | some e' =>
        simp only [szFit] at h4
        have h4 := E.eq_of_beq h4
        subst h4
        show ((vs.length + rest.length : Nat) : Int) = e.den (ρ.via τ).toEnv
        rw [← E.den_ren]; exact e2
  | arr ro el A =>
    cases o <;> simp only [fitO] at hf <;> try (cases hf; done)
    rename_i ro' el' A'
    simp only [Bool.and_eq_true] at hf
    obtain ⟨_, h2, h3⟩ := hf
    have h2 := Nat.eq_of_beq_eq_true h2
    subst h2
    have h3 := Arr.eq_of_beq h3
    subst h3
    simp only [O.is] at h ⊢
    rw [← Arr.den_ren]; exact h
  | map es =>
    cases o <;> simp only [fitO] at hf <;> try (cases hf; done)
    rename_i es'
    have := mapFit_eq hf
    subst this
    simp only [O.is] at h ⊢
    rw [entries_ren, renM_len] at h; exact h
  | loop st p r => simp [fitO] at hf
  | dfr => simp [fitO] at hf
theorem fitO_known {τ : Ren} {t o : O} (hf : fitO τ t o = true) (hk : known t) : known o := by
  rintro rfl
  cases t <;> simp [fitO] at hf
  exact hk rfl
theorem fitO_own {τ : Ren} {t o : O} (hf : fitO τ t o = true) (ho : t.own = true) : o.own = true := by
  cases t <;> cases o <;> simp [fitO, O.own, O.ro] at hf ho ⊢ <;> simp_all
/-- what is known of a world by a template that fits -/
structure Fit (w0 : Base) (ρ : Rho) (h : H) (w : World) (τ : Ren) (T : Tm) (vs : List V) : Prop where
  ok : τ.Ok h
  nb : T.hp.length = τ.nb
  nv : T.iv.length = τ.nv
  top : τ.nb ≤ 65000
  rel : RelH ⟨w0.w, w0.fn, T.toH, ρ.via τ⟩ (ρ.via τ) T.toH w
  den : ∀ xs, DenL h ρ vs xs → DenL T.toH (ρ.via τ) T.vs xs
  get : ∀ b, known (T.toH.get b) → b < τ.nb ∧ known (h.get (τ.b b)) ∧ ((T.toH.get b).own = true → (h.get (τ.b b)).own = true)
theorem toH_nb (T : Tm) : T.toH.nb = T.hp.length := by show lenL T.hp 0 = _; rw [lenL_eq]; rfl
theorem toH_nv (T : Tm) : T.toH.nv = T.iv.length := by show lenL T.iv 0 = _; rw [lenL_eq]; rfl
theorem fits_ok {w0 : Base} {ρ : Rho} {h : H} {w : World} (r : RelH w0 ρ h w) {τ : Ren} {T : Tm} {vs : List V} (hf : fits τ T vs h = true) : Fit w0 ρ h w τ T vs := by
  simp only [fits, Bool.and_eq_true, lenL_eq] at hf
  obtain ⟨f1, f2, f3, f4, f5, f6, f7, f8, f9, fp⟩ := hf
  have f1 := Nat.eq_of_beq_eq_true f1
  have f2 := Nat.eq_of_beq_eq_true f2
  have f3 := Nat.eq_of_beq_eq_true f3
  have f4 := Nat.eq_of_beq_eq_true f4
  have f5 := Nat.le_of_ble_eq_true f5
  have f6 := V.sameL_eq f6
  obtain ⟨g1, g2⟩ := fitOs_get f7
  obtain ⟨g3, g4, g5⟩ := fitEs_get f8
  have hlt : ∀ c ∈ τ.bs, c < h.nb := by
    intro c hc
    obtain ⟨i, hi, rfl⟩ := List.mem_iff_getElem.1 hc
    obtain ⟨d, e1, e2, _⟩ := g2 i T.hp[i] (List.getElem?_eq_getElem (by omega))
    rw [List.getElem?_eq_getElem hi] at e1
    injection e1 with e1
    omega
  have hok : τ.Ok h := ⟨by omega, by omega, f3, f4, hlt, g4⟩
  have hnb : T.toH.nb = τ.nb := by rw [toH_nb]; omega
  have hnv : T.toH.nv = τ.nv := by rw [toH_nv]; omega
  have hget : ∀ b, known (T.toH.get b) → b < τ.nb ∧ τ.bs[b]? = some (τ.b b) ∧ τ.b b < h.nb ∧ fitO τ (T.toH.get b) (h.get (τ.b b)) = true := by
    intro b hk
    rw [T.get (by omega)] at hk ⊢
    cases hT : T.hp[b]? with
    | none => rw [hT] at hk; exact absurd rfl hk
    | some o =>
      obtain ⟨c, e1, e2, e3⟩ := g2 b o hT
      have hc : τ.b b = c := by unfold Ren.b; rw [nthL_eq, e1]
      rw [hc]
      have hb := (List.getElem?_eq_some_iff.1 hT).1
      exact ⟨by omega, e1, e2, e3⟩
  refine ⟨hok, by omega, by omega, f5, fun ρ' hl => ?_, fun xs hd ρ' hl => ?_, fun b hk => ?_⟩
  · obtain ⟨ρ2, l2, rfl⟩ := Ren.up hok hnb hnv hl
    have h0 := r ρ2 l2
    refine ⟨h0.ext, h0.fn, by omega, fun b hk => ?_, fun b c kb kc e => ?_, ?_, fun e he => ?_, hl, Gr.refl _⟩
    · obtain ⟨b1, b2, b3, b4⟩ := hget b hk
      obtain ⟨c1, c2, c3, obj, c4, c5⟩ := h0.hp (τ.b b) (fitO_known b4 hk)
      exact ⟨by omega, c2, fun ho => c3 (fitO_own b4 ho), obj, c4, fitO_is b4 c5⟩
    · obtain ⟨b1, b2, b3, b4⟩ := hget b kb
      obtain ⟨c1, c2, c3, c4⟩ := hget c kc
      have := h0.inj _ _ (fitO_known b4 kb) (fitO_known c4 kc) e
      rw [this] at b2
      exact nodup_inj f9 b c _ b2 c2
    · refine ok_ivs (Bd.ok_none _) fun j i hj => ?_
      obtain ⟨e, e1, e2⟩ := g5 j i hj
      have := ivFit_has e2 h0.bd
      rw [Nat.zero_add]
      show i.has ((τ.e j).den ρ2.toEnv)
      have he : τ.e j = e := by unfold Ren.e; rw [nthL_eq, e1]
      rw [he]; exact this
    · have := h0.pc _ (fitPs_of fp e he)
      rw [E.den_ren] at this
      exact this
  · obtain ⟨ρ2, l2, rfl⟩ := Ren.up hok hnb hnv hl
    rw [← V.denL_ren, f6]
    exact hd ρ2 l2
  · obtain ⟨b1, b2, b3, b4⟩ := hget b hk
    exact ⟨b1, fitO_known b4 hk, fitO_own b4⟩
theorem addI_eq : ∀ (l : List Iv) (h : H), (H.addI l h).hp = h.hp ∧ (H.addI l h).nb = h.nb ∧ (H.addI l h).nv = h.nv + l.length ∧ (H.addI l h).pc = h.pc
  | [], h => ⟨rfl, rfl, rfl, rfl⟩
  | i :: r, ⟨hp, nb, nv, bd, pc⟩ => by
    simp only [H.addI, forceN_eq, List.length_cons]
    obtain ⟨h1, h2, h3, h4⟩ := addI_eq r ⟨hp, nb, nv + 1, bd.addV nv i, pc⟩
    exact ⟨h1, h2, by rw [h3]; show nv + 1 + r.length = nv + _; omega, h4⟩
theorem addI_bd {ρ : Env} : ∀ {l : List Iv} {h : H}, h.bd.ok ρ → (∀ (j : Nat) (i : Iv), l[j]? = some i → i.has (ρ.v (h.nv + j))) → (H.addI l h).bd.ok ρ
  | [], _, h, _ => h
  | i :: r, ⟨hp, nb, nv, bd, pc⟩, h, hi => by
    simp only [H.addI, forceN_eq]
    refine addI_bd (h := ⟨hp, nb, nv + 1, bd.addV nv i, pc⟩) (Bd.ok_addV h (by simpa using hi 0 i rfl)) fun j k hk => ?_
    have := hi (j + 1) k (by simpa using hk)
    show k.has (ρ.v (nv + 1 + j))
    rw [show nv + 1 + j = nv + (j + 1) by omega]
    exact this
theorem addO_eq (τ : Ren) : ∀ (l : List O) (h : H), (H.addO τ l h).nb = h.nb + l.length ∧ (H.addO τ l h).nv = h.nv ∧ (H.addO τ l h).bd = h.bd ∧ (H.addO τ l h).pc = h.pc
  | [], h => ⟨rfl, rfl, rfl, rfl⟩
  | o :: r, ⟨hp, nb, nv, bd, pc⟩ => by
    simp only [H.addO, forceN_eq, List.length_cons]
    obtain ⟨h1, h2, h3, h4⟩ := addO_eq τ r ⟨N4.set hp nb (O.ren τ o), nb + 1, nv, bd, pc⟩
    exact ⟨by rw [h1]; show nb + 1 + r.length = nb + _; omega, h2, h3, h4⟩
theorem addO_get (τ : Ren) : ∀ (l : List O) (h : H) (c : Nat), h.nb + l.length ≤ 65000 → (H.addO τ l h).get c = if hc : h.nb ≤ c ∧ c < h.nb + l.length then O.ren τ (l[c - h.nb]'(by omega)) else h.get c
  | [], h, c, _ => by rw [dif_neg (by simp; try omega)]; rfl
  | o :: r, ⟨hp, nb, nv, bd, pc⟩, c, hn => by
    simp only [List.length_cons] at hn ⊢
    simp only [H.addO, forceN_eq]
    rw [addO_get τ r ⟨N4.set hp nb (O.ren τ o), nb + 1, nv, bd, pc⟩ c (by show nb + 1 + r.length ≤ _; omega)]
    have hg : H.get ⟨N4.set hp nb (O.ren τ o), nb + 1, nv, bd, pc⟩ c = if c = nb then O.ren τ o else H.get ⟨hp, nb, nv, bd, pc⟩ c := H.get_add ⟨hp, nb, nv, bd, pc⟩ (O.ren τ o) (by show nb ≤ _; omega) c
    by_cases h1 : nb + 1 ≤ c ∧ c < nb + 1 + r.length
    · rw [dif_pos h1, dif_pos (by omega)]
      have : c - nb = (c - (nb + 1)) + 1 := by omega
      simp only [this, List.getElem_cons_succ]
    · rw [dif_neg h1, hg]
      by_cases h2 : c = nb
      · subst h2
        rw [if_pos rfl, dif_pos (by omega)]
        simp
      · rw [if_neg h2, dif_neg (by omega)]
theorem asm_ok {w0 : Base} {ρ : Rho} {w : World} {k : H → Res} : ∀ {ps : List E} {h : H} {l : List (V × H)}, RelH w0 ρ h w → (∀ e ∈ ps, ∀ ρ', Le h ρ ρ' → e.den ρ'.toEnv ≠ 0) → asm ps h k = some l →
    ∃ h' l', k h' = some l' ∧ (∀ y ∈ l', y ∈ l) ∧ Sup w0 ρ h h' w
  | [], h, l, r, _, hr => ⟨h, l, hr, fun _ hy => hy, Sup.refl r⟩
  | e :: ps, h, l, r, hp, hr => by
    simp only [asm] at hr
    have he : ∀ ρ', Le h ρ ρ' → (e.den ρ'.toEnv != 0) = true := fun ρ' hl => bne_iff_ne.2 (hp e List.mem_cons_self ρ' hl)
    obtain ⟨h1, l1, g1, g2, g3⟩ := brE_ok r (fun ρ' hl => by rw [he ρ' hl, he ρ (Le.refl _ _)]) hr
    rw [if_pos (he ρ (Le.refl _ _))] at g3
    obtain ⟨h2, l2, e1, e2, e3⟩ := asm_ok g2.rel (fun e' he' ρ' hl => hp e' (List.mem_cons_of_mem _ he') ρ' ((g2.le _ _).1 hl)) g3
    exact ⟨h2, l2, e1, fun y hy => g1 y (e2 y hy), g2.trans e3⟩
theorem ivs_get : ∀ (l : List Iv) (n : Nat) (b : Bd) (c : Nat), n + l.length ≤ 65536 → c < 65536 → (ivs l n b).vs.get c = if h : n ≤ c ∧ c < n + l.length then l[c - n]'(by omega) else b.vs.get c
  | [], n, t, c, _, _ => by rw [dif_neg (by simp; try omega)]; rfl
  | o :: r, n, t, c, hn, hc => by
    simp only [List.length_cons] at hn ⊢
    simp only [ivs, forceN_eq]
    rw [ivs_get r (n + 1) _ c (by omega) hc]
    have hadd : (t.addV n o).vs.get c = if c = n then o else t.vs.get c := by
      unfold Bd.addV
      rw [show Nat.ble n 65535 = true from Nat.ble_eq_true_of_le (by omega)]
      exact N4.get_set t.vs o (by omega) hc
    by_cases h1 : n + 1 ≤ c ∧ c < n + 1 + r.length
    · rw [dif_pos h1, dif_pos (by omega)]
      have : c - n = (c - (n + 1)) + 1 := by omega
      simp only [this, List.getElem_cons_succ]
    · rw [dif_neg h1, hadd]
      by_cases h2 : c = n
      · subst h2
        rw [if_pos rfl, dif_pos (by omega)]
        simp
      · rw [if_neg h2, dif_neg (by omega)]
theorem addI_get (l : List Iv) (h : H) (b : Nat) : (H.addI l h).get b = h.get b := by
  unfold H.get; rw [(addI_eq l h).1]
theorem ren_known {τ : Ren} {o : O} (h : known (O.ren τ o)) : known o := by rintro rfl; exact h rfl
theorem retL_ok {w0 : Base} {ρ : Rho} {h : H} {w w' : World} (r : RelH w0 ρ h w) {τ : Ren} (hk : τ.Ok h) (same : Ext w w') {bL : Base} (hw : bL.w = w0.w) {L : Tm} {ρL : Rho} (rL : RelH bL ρL L.toH w')
    (hb : τ.nb ≤ L.hp.length) (hv : τ.nv ≤ L.iv.length) (eb : ∀ b, b < τ.nb → ρL.blk b = (ρ.via τ).blk b) (ev : ∀ i, i < τ.nv → ρL.v i = (ρ.via τ).v i) (ef : ρL.fn = ρ.fn) (er : ρL.raw = ρ.raw)
    (el : ∀ b, b < τ.nb → ρL.lp b = (ρ.via τ).lp b) (hn : ∀ b, τ.nb ≤ b → known (L.toH.get b) → (L.toH.get b).own = true ∧ w.heap.size ≤ ρL.blk b)
    {x : Value} {v : V} (hvs : L.vs = [v]) (dx : Den L.toH ρL v x) {k : KV} {l : List (V × H)} (hr : retL τ L k h = some l) : Post w0 ρ h w k l x w' := by
  unfold retL at hr
  rw [hvs] at hr
  simp only at hr
  split at hr
  case h_2 => cases hr
  rename_i hg
  simp only [Bool.and_eq_true, lenL_eq] at hg
  have g1 := Nat.le_of_ble_eq_true hg.1
  have g2 := Nat.le_of_ble_eq_true hg.2
  rw [dropL_eq, dropL_eq] at hr
  obtain ⟨i1, i2, i3, i4⟩ := addI_eq (L.iv.drop τ.nv) h
  obtain ⟨o1, o2, o3, o4⟩ := addO_eq τ (L.hp.drop τ.nb) (H.addI (L.iv.drop τ.nv) h)
  have hget := fun c => addO_get τ (L.hp.drop τ.nb) (H.addI (L.iv.drop τ.nv) h) c (by rw [i2, List.length_drop]; omega)
  generalize hh2 : H.addO τ (L.hp.drop τ.nb) (H.addI (L.iv.drop τ.nv) h) = h2 at hr o1 o2 o3 o4 hget
  simp only [i2, i3, i4, addI_get, List.length_drop] at o1 o2 o3 o4 hget
  have hgr : Gr h h2 := ⟨by omega, by omega⟩
  have hLnb := toH_nb L
  have hLnv := toH_nv L
  let ρ2 : Rho := { v := fun j => if j < h.nv then ρ.v j else ρL.v (τ.nv + (j - h.nv)), fn := ρ.fn, blk := fun j => if j < h.nb then ρ.blk j else ρL.blk (τ.nb + (j - h.nb)), raw := ρ.raw, lp := fun j => if j < h.nb then ρ.lp j else ρL.lp (τ.nb + (j - h.nb)) }
  have le2 : Le h ρ ρ2 := ⟨fun i hi => if_pos hi, fun i hi => if_pos hi, rfl, rfl, fun i hi => if_pos hi⟩
  have leL : ∀ ρ', Le h2 ρ2 ρ' → Le h ρ ρ' ∧ Le L.toH ρL (ρ'.via τ) := by
    intro ρ' hl
    have hl0 : Le h ρ ρ' := le2.trans hgr hl
    refine ⟨hl0, ⟨fun b hb' => ?_, fun i hi' => ?_, ?_, ?_, fun b hb' => ?_⟩⟩
    · show ρ'.blk (τ.b b) = _
      by_cases c : b < τ.nb
      · rw [hl0.blk _ (Ren.b_lt hk c), eb b c]; rfl
      · rw [Ren.b_ge hk (by omega), hl.blk _ (by omega)]
        show (if _ then _ else _) = _
        rw [if_neg (by omega)]
        congr 1; omega
    · show (τ.e i).den ρ'.toEnv = _
      by_cases c : i < τ.nv
      · rw [E.below_den (ρ := ρ.toEnv) (fun j hj => hl0.v j hj) hl0.fn _ (Ren.e_lt hk c), ev i c]; rfl
      · rw [Ren.e_ge hk (by omega)]
        simp only [E.den]
        rw [hl.v _ (by omega)]
        show (if _ then _ else _) = _
        rw [if_neg (by omega)]
        congr 1; omega
    · exact hl0.fn.trans ef.symm
    · exact hl0.raw.trans er.symm
    · show ρ'.lp (τ.b b) = _
      by_cases c : b < τ.nb
      · rw [hl0.lp _ (Ren.b_lt hk c), el b c]; rfl
      · rw [Ren.b_ge hk (by omega), hl.lp _ (by omega)]
        show (if _ then _ else _) = _
        rw [if_neg (by omega)]
        congr 1; omega
  -- a new object
  have newO : ∀ c, h.nb ≤ c ∧ c < h.nb + (L.hp.length - τ.nb) → known (h2.get c) → ∃ b, τ.nb ≤ b ∧ b < L.hp.length ∧ τ.b b = c ∧ known (L.toH.get b) ∧ h2.get c = O.ren τ (L.toH.get b) ∧ b = τ.nb + (c - h.nb) := by
    intro c hc hkn
    have e1 := hget c
    rw [dif_pos hc] at e1
    have hb1 : τ.nb + (c - h.nb) < L.hp.length := by omega
    have e2 : (L.hp.drop τ.nb)[c - h.nb]'(by rw [List.length_drop]; omega) = L.toH.get (τ.nb + (c - h.nb)) := by
      rw [L.get (by omega), List.getElem_drop]
      simp [hb1]
    rw [e2] at e1
    refine ⟨τ.nb + (c - h.nb), by omega, hb1, ?_, ?_, e1, rfl⟩
    · rw [Ren.b_ge hk (by omega)]; omega
    · rw [e1] at hkn; exact ren_known hkn
  have oldO : ∀ c, ¬ (h.nb ≤ c ∧ c < h.nb + (L.hp.length - τ.nb)) → h2.get c = h.get c := fun c hc => by have := hget c; rw [dif_neg hc] at this; exact this
  have blk2 : ∀ ρ', Le h2 ρ2 ρ' → ∀ b, τ.nb ≤ b → b < L.hp.length → known (L.toH.get b) → w.heap.size ≤ ρ'.blk (τ.b b) := by
    intro ρ' hl b h1 h3 h4
    have h5 := (leL ρ' hl).2.blk b (by omega)
    have h5 : ρ'.blk (τ.b b) = ρL.blk b := h5
    rw [h5]
    exact (hn b h1 h4).2
  have rel2 : RelH w0 ρ2 h2 w' := by
    intro ρ' hl
    obtain ⟨l0, lL⟩ := leL ρ' hl
    have h0 := r ρ' l0
    have hL := rL (ρ'.via τ) lL
    refine ⟨hw ▸ hL.ext, h0.fn, by omega, fun c hc => ?_, fun b c kb kc e => ?_, ?_, ?_, h0.anc.1, h0.anc.2.trans hgr⟩
    · by_cases hnew : h.nb ≤ c ∧ c < h.nb + (L.hp.length - τ.nb)
      · obtain ⟨b, b1, b2, b3, b4, b5, b6⟩ := newO c hnew hc
        obtain ⟨c1, c2, c3, obj, c4, c5⟩ := hL.hp b b4
        have hbl : (ρ'.via τ).blk b = ρ'.blk c := by show ρ'.blk (τ.b b) = _; rw [b3]
        rw [hbl] at c2 c4
        refine ⟨by omega, c2, fun _ => ?_, obj, c4, ?_⟩
        · have := blk2 ρ' hl b b1 b2 b4
          rw [b3] at this
          exact Nat.le_trans h0.ext.size this
        · rw [b5]; exact O.is_ren c5
      · rw [oldO c hnew] at hc ⊢
        obtain ⟨c1, c2, c3, obj, c4, c5⟩ := h0.hp c hc
        exact ⟨by omega, Nat.lt_of_lt_of_le c2 same.size, c3, obj, by rw [same.old _ c2]; exact c4, c5⟩
    · by_cases nb : h.nb ≤ b ∧ b < h.nb + (L.hp.length - τ.nb)
      · obtain ⟨b', b1, b2, b3, b4, b5, b6⟩ := newO b nb kb
        have s1 := blk2 ρ' hl b' b1 b2 b4
        rw [b3] at s1
        by_cases nc : h.nb ≤ c ∧ c < h.nb + (L.hp.length - τ.nb)
        · obtain ⟨c', c1, c2, c3, c4, c5, c6⟩ := newO c nc kc
          have hL2 := hL.inj b' c' b4 c4 (by show ρ'.blk (τ.b b') = ρ'.blk (τ.b c'); rw [b3, c3]; exact e)
          omega
        · rw [oldO c nc] at kc
          have := (h0.hp c kc).2.1
          omega
      · rw [oldO b nb] at kb
        by_cases nc : h.nb ≤ c ∧ c < h.nb + (L.hp.length - τ.nb)
        · obtain ⟨c', c1, c2, c3, c4, c5, c6⟩ := newO c nc kc
          have s1 := blk2 ρ' hl c' c1 c2 c4
          rw [c3] at s1
          have := (h0.hp b kb).2.1
          omega
        · rw [oldO c nc] at kc
          exact h0.inj b c kb kc e
    · rw [o3]
      refine addI_bd h0.bd fun j i hj => ?_
      have h1 : L.iv[τ.nv + j]? = some i := by simpa using hj
      have h2' := (List.getElem?_eq_some_iff.1 h1)
      obtain ⟨h2', h3⟩ := h2'
      have h4 := hL.bd.1 (τ.nv + j) (by omega)
      have h5 : L.toH.bd.vs.get (τ.nv + j) = i := by
        show (ivs L.iv 0 Bd.none).vs.get _ = _
        rw [ivs_get _ _ _ _ (by omega) (by omega), dif_pos ⟨Nat.zero_le _, by omega⟩]
        simpa using h3
      rw [h5] at h4
      have h6 : (ρ'.via τ).v (τ.nv + j) = ρ'.v (h.nv + j) := by
        show (τ.e _).den _ = _
        rw [Ren.e_ge hk (by omega)]
        simp only [E.den]
        congr 1; omega
      rw [h6] at h4
      exact h4
    · rw [o4]; exact h0.pc
  have fra2 : Fra h ρ w h2 ρ2 w' := by
    refine ⟨same.size, fun i hi _ => same.old i hi, fun b hb' => ?_, fun b hb' => ?_⟩
    · by_cases nb : h.nb ≤ b ∧ b < h.nb + (L.hp.length - τ.nb)
      · obtain ⟨b', b1, b2, b3, b4, b5, b6⟩ := newO b nb (own_known hb')
        have s1 := blk2 ρ2 (Le.refl _ _) b' b1 b2 b4
        rw [b3] at s1
        exact .inr s1
      · rw [oldO b nb] at hb'
        exact .inl ⟨b, hb', (le2.blk b (r.to.hp b (own_known hb')).1).symm⟩
    · by_cases nb : h.nb ≤ b ∧ b < h.nb + (L.hp.length - τ.nb)
      · obtain ⟨b', b1, b2, b3, b4, b5, b6⟩ := newO b nb hb'
        have s1 := blk2 ρ2 (Le.refl _ _) b' b1 b2 b4
        rw [b3] at s1
        exact .inr s1
      · rw [oldO b nb] at hb'
        exact .inl ⟨b, hb', (le2.blk b (r.to.hp b hb').1).symm⟩
  obtain ⟨h3, l', e1, e2, e3⟩ := asm_ok rel2 (fun e he ρ' hl => by
    obtain ⟨e', he', rfl⟩ := List.mem_map.1 he
    rw [E.den_ren]
    exact (rL _ (leL ρ' hl).2).pc e' he') hr
  refine ⟨V.ren τ v, h3, ρ2, l', e1, e2, le2, hgr.trans e3.gr, e3.rel, fun ρ' hl => ?_, ?_⟩
  · rw [V.den_ren]
    exact dx _ (leL ρ' ((e3.le _ _).1 hl)).2
  · exact ⟨fra2.size, fra2.old, fun b hb' => fra2.new b (by rw [e3.get b] at hb'; exact hb'), fun b hb' => fra2.kn b (by rw [e3.get b] at hb'; exact hb')⟩
theorem idB_get : ∀ {n i : Nat} {l : List Nat}, idB n i l = true → n ≤ l.length ∧ ∀ j, j < n → l[j]? = some (i + j)
  | 0, _, _, _ => ⟨Nat.zero_le _, fun j h => by omega⟩
  | n + 1, i, [], h => by simp [idB] at h
  | n + 1, i, b :: r, h => by
    simp only [idB, forceN_eq, Bool.and_eq_true] at h
    obtain ⟨h1, h2⟩ := idB_get h.2
    refine ⟨by simp; omega, fun j hj => ?_⟩
    cases j with
    | zero => simp [Nat.eq_of_beq_eq_true h.1]
    | succ j =>
      have := h2 j (by omega)
      simp only [List.getElem?_cons_succ, this]
      congr 1; omega
theorem idE_get : ∀ {n i : Nat} {l : List E}, idE n i l = true → n ≤ l.length ∧ ∀ j, j < n → l[j]? = some (.var (i + j))
  | 0, _, _, _ => ⟨Nat.zero_le _, fun j h => by omega⟩
  | n + 1, i, [], h => by simp [idE] at h
  | n + 1, i, e :: r, h => by
    cases e <;> simp only [idE] at h <;> try (cases h; done)
    simp only [forceN_eq, Bool.and_eq_true] at h
    obtain ⟨h1, h2⟩ := idE_get h.2
    refine ⟨by simp; omega, fun j hj => ?_⟩
    cases j with
    | zero => simp [Nat.eq_of_beq_eq_true h.1]
    | succ j =>
      have := h2 j (by omega)
      simp only [List.getElem?_cons_succ, this]
      congr 2; omega
theorem ownQ_eq (o : O) : ownQ o = o.own := by cases o <;> rfl
theorem ownO_get : ∀ {l : List O}, ownO l = true → ∀ (i : Nat) (o : O), l[i]? = some o → known o → o.own = true
  | [], _, i, o, h, _ => by simp at h
  | q :: r, hf, i, o, h, hk => by
    have key : ownO r = true ∧ (known q → q.own = true) := by
      cases q <;> simp only [ownO, Bool.and_eq_true, ownQ_eq] at hf <;> first | exact ⟨hf, fun hk => absurd rfl hk⟩ | exact ⟨hf.2, fun _ => hf.1⟩
    cases i with
    | zero => simp at h; subst h; exact key.2 hk
    | succ i => exact ownO_get key.1 i o (by simpa using h) hk
theorem roO_get : ∀ {l : List O}, roO l = true → ∀ (i : Nat), ((l[i]?).getD .none).own = false
  | [], _, i => by simp; rfl
  | q :: r, hf, i => by
    simp only [roO, Bool.and_eq_true, Bool.not_eq_true', ownQ_eq] at hf
    cases i with
    | zero => simpa using hf.1
    | succ i => simpa using roO_get hf.2 i
theorem retA_mem {τ : Ren} {k : KV} {h : H} : ∀ {ls : List Tm} {l : List (V × H)} {L : Tm}, retA τ k h ls = some l → L ∈ ls → ∃ l1, retL τ L k h = some l1 ∧ ∀ y ∈ l1, y ∈ l
  | [], l, L, _, hm => by cases hm
  | M :: r, l, L, hr, hm => by
    cases r with
    | nil =>
      cases hm with
      | head => exact ⟨l, hr, fun _ h => h⟩
      | tail _ hm => cases hm
    | cons q r =>
      have hr : app (retL τ M k h) (retA τ k h (q :: r)) = some l := hr
      obtain ⟨a, b, ha, hb, rfl⟩ := app_some hr
      cases hm with
      | head => exact ⟨a, ha, fun y hy => List.mem_append_left _ hy⟩
      | tail _ hm =>
        obtain ⟨l1, h1, h2⟩ := retA_mem (ls := q :: r) hb hm
        exact ⟨l1, h1, fun y hy => List.mem_append_right _ (h2 y hy)⟩
/-- one of the ways told is the way that was gone -/
theorem fitL_mem {nb nv : Nat} {ls : List Tm} : ∀ {ms : List (Nat × List Nat × List E)} {la : List (V × H)}, fitL nb nv ls ms la = true → ∀ v g, (v, g) ∈ la →
    ∃ L bs es, L ∈ ls ∧ fits ⟨lenL bs 0, lenL es 0, bs, es, g.nb, g.nv⟩ L [v] g = true ∧ idB nb 0 bs = true ∧ idE nv 0 es = true ∧ ownO (dropL L.hp nb) = true
  | [], [], _, v, g, hm => by cases hm
  | [], _ :: _, hf, v, g, hm => by simp [fitL] at hf
  | (j, bs, es) :: r, [], hf, v, g, hm => by cases hm
  | (j, bs, es) :: r, (v', g') :: s, hf, v, g, hm => by
    simp only [fitL] at hf
    split at hf
    · rename_i L hL
      simp only [Bool.and_eq_true] at hf
      obtain ⟨f1, f2, f3, f4, f5⟩ := hf
      cases hm with
      | head =>
        rw [nthL_eq] at hL
        exact ⟨L, bs, es, List.mem_of_getElem? hL, f1, f2, f3, f4⟩
      | tail _ hm => exact fitL_mem f5 v g hm
    · cases hf
theorem con_ok {P : Program} {tb : Table} {fuel d f : Nat} {guess : Tm → List V → H → Option Ren} {c : Con} {orig : Fnc} (hf : ∀ f p, tb.fn f = some p → FncOk P f p) (hb : ∀ f, tb.bod f = true → ∀ ys w', (callFunc f ys).run P w' = .ok (.enter f ys) w')
    (hc : c.holds tb fuel d f = true) (ho : FncOk P f orig) : FncOk P f (conF guess c orig) := by
  intro w0 cx hcx args k h l hr ρ w rh xs dx
  simp only [conF] at hr
  split at hr
  case h_2 => exact ho w0 cx hcx args k h l hr ρ w rh xs dx
  rename_i τ _
  split at hr
  case h_2 => exact ho w0 cx hcx args k h l hr ρ w rh xs dx
  rename_i hfit
  simp only [Bool.and_eq_true, lenL_eq] at hfit
  obtain ⟨hfit, hn1, hn2⟩ := hfit
  have F := fits_ok rh hfit
  simp only [Con.holds, Bool.and_eq_true] at hc
  obtain ⟨hro, hc⟩ := hc
  split at hc
  case h_2 => cases hc
  rename_i la hla
  rw [lenL_eq, lenL_eq] at hc
  have noOwn : ∀ b, (c.T.toH.get b).own = false := fun b => by rw [c.T.get (by have := F.nb; have := F.top; omega)]; exact roO_get hro b
  have post : ∀ x w', Post ⟨w0.w, w0.fn, c.T.toH, ρ.via τ⟩ (ρ.via τ) c.T.toH w (fun v h => some [(v, h)]) la x w' → Post w0 ρ h w k l x w' := by
    rintro x w' ⟨v, hT, ρT, l', hk1, hs, le, gr, rel, den, fra⟩
    cases hk1
    obtain ⟨L, bs, es, hLm, e1, e2, e3, e4⟩ := fitL_mem hc v hT (hs _ List.mem_cons_self)
    obtain ⟨l1, e5, e6⟩ := retA_mem hr hLm
    have G := fits_ok rel e1
    obtain ⟨ib1, ib2⟩ := idB_get e2
    obtain ⟨ie1, ie2⟩ := idE_get e3
    have hTnb := toH_nb c.T
    have hTnv := toH_nv c.T
    have Fnb := F.nb
    have Fnv := F.nv
    have Gnb := G.nb
    have Gnv := G.nv
    simp only [lenL_eq] at Gnb Gnv
    have hvs : ∃ v', L.vs = [v'] := by
      unfold retL at e5
      split at e5
      · rename_i v' hv'; exact ⟨v', hv'⟩
      · cases e5
    obtain ⟨v', hvs⟩ := hvs
    have same : Ext w w' := by
      have x1 := rel.to.ext
      have x2 := rh.to.ext
      exact ⟨x1.os.trans x2.os.symm, x1.output.trans x2.output.symm, fra.size, fun i hi => fra.old i hi fun b hb => by rw [noOwn b] at hb; cases hb⟩
    have bEq : ∀ b, b < τ.nb → (⟨lenL bs 0, lenL es 0, bs, es, hT.nb, hT.nv⟩ : Ren).b b = b := fun b hb => by
      unfold Ren.b; rw [nthL_eq, ib2 b (by omega)]; simp
    have eEq : ∀ b, b < τ.nv → (⟨lenL bs 0, lenL es 0, bs, es, hT.nb, hT.nv⟩ : Ren).e b = .var b := fun b hb => by
      unfold Ren.e; rw [nthL_eq, ie2 b (by omega)]; simp
    have post := retL_ok (k := k) (l := l1) (x := x) rh F.ok same (bL := ⟨w0.w, w0.fn, L.toH, _⟩) rfl G.rel (by omega) (by omega) (fun b hb => ?_) (fun i hi => ?_) le.fn le.raw (fun b hb => ?_) (fun b hb hk => ?_) hvs (fun ρ' hl => ?_) e5
    · obtain ⟨q1, q2, q3, q4, q5, q6, q7, q8, q9, q10, q11⟩ := post
      exact ⟨q1, q2, q3, q4, q5, fun y hy => e6 y (q6 y hy), q7, q8, q9, q10, q11⟩
    · show ρT.blk (Ren.b _ b) = _
      rw [bEq b hb]; exact le.blk b (by omega)
    · show (Ren.e _ i).den ρT.toEnv = _
      rw [eEq i hi]; exact le.v i (by omega)
    · show ρT.lp (Ren.b _ b) = _
      rw [bEq b hb]; exact le.lp b (by omega)
    · obtain ⟨g1, g2, g3⟩ := G.get b hk
      have ho : (L.toH.get b).own = true := by
        rw [L.get (by have := G.top; simp only [lenL_eq] at this; omega)] at hk ⊢
        cases hq : L.hp[b]? with
        | none => rw [hq] at hk; exact absurd rfl hk
        | some o =>
          rw [hq] at hk
          rw [dropL_eq] at e4
          exact ownO_get e4 (b - τ.nb) o (by
            have hcn : c.T.hp.length = τ.nb := Fnb
            rw [List.getElem?_drop, hcn, show τ.nb + 0 + (b - τ.nb) = b by omega]; exact hq) hk
      refine ⟨ho, ?_⟩
      rcases fra.new _ (g3 ho) with ⟨c', h1, _⟩ | h1
      · rw [noOwn c'] at h1; cases h1
      · exact h1
    · have := G.den [x] (fun ρ' hl => by simp only [V.denL, den ρ' hl]) ρ' hl
      rw [hvs] at this
      simp only [V.denL] at this
      injection this
  have hcall := callN_ok hf hb fuel d ⟨w0.w, w0.fn, c.T.toH, ρ.via τ⟩ [] (fun b f hl => by simp [lookY] at hl) f c.T.vs _ c.T.toH la hla (ρ.via τ) w F.rel xs (F.den xs dx)
  rcases hcall with ⟨h1, h2⟩ | ⟨x, w1, h1, h2⟩
  · exact .inl ⟨h1, Calls.mono h2 fun e w' ⟨x, he, hp⟩ => ⟨x, he, post x w' hp⟩⟩
  · exact .inr ⟨x, w1, h1, post x w1 h2⟩

end Go.Gx

/- Tables of functions and contracts; laws of numbers and truths. -/
namespace Go.Gx
open Go Go.Sx

structure TabOk (P : Program) (tb : Table) : Prop where
  fn : ∀ f p, tb.fn f = some p → FncOk P f p
  bod : ∀ f, tb.bod f = true → ∀ ys w', (callFunc f ys).run P w' = .ok (.enter f ys) w'
def findF : List (Nat × Func) → Nat → Option Func
  | [], _ => none
  | (g, fn) :: r, f => match Nat.beq f g with
    | true => some fn
    | false => findF r f
def Known (P : Program) : List (Nat × Func) → Prop
  | [] => True
  | (f, fn) :: r => (P.funcs[f]? = some fn ∧ fn.body.isSome = true ∧ ∀ ys w', (callFunc f ys).run P w' = .ok (.enter f ys) w') ∧ Known P r
theorem Known.get {P : Program} : ∀ {fs : List (Nat × Func)} {f : Nat} {fn : Func}, Known P fs → findF fs f = some fn → P.funcs[f]? = some fn ∧ fn.body.isSome = true ∧ ∀ ys w', (callFunc f ys).run P w' = .ok (.enter f ys) w'
  | [], f, fn, _, h => by cases h
  | (g, gn) :: r, f, fn, hk, h => by
    simp only [findF] at h
    split at h
    · rename_i hg
      cases h
      rw [Nat.eq_of_beq_eq_true hg]
      exact hk.1
    · exact Known.get hk.2 h
/-- the functions that have bodies; internal/abi.NoEscape; internal/bytealg.MakeNoZero -/
def tab0 (P : Program) (quiet : List Nat) (fs : List (Nat × Func)) (same nz : Nat) (e : TypeId) : Table := ⟨fun f => match findF fs f with
  | some fn => some (dFunc P quiet fn)
  | none => match Nat.beq f same with
    | true => some sameF
    | false => match Nat.beq f nz with
      | true => some (noZeroF e)
      | false => none, fun f => match findF fs f with
  | some _ => true
  | none => false⟩
theorem tab0_ok {P : Program} (hm : P.follows .mixedOrders) {quiet : List Nat} {fs : List (Nat × Func)} {same nz : Nat} {e : TypeId} (hk : Known P fs) (hq : ∀ f ∈ quiet, Quiet P f) (hs : FncOk P same sameF) (hz : FncOk P nz (noZeroF e)) : TabOk P (tab0 P quiet fs same nz e) := by
  refine ⟨fun f p hp => ?_, fun f hf => ?_⟩
  · simp only [tab0] at hp
    split at hp
    · rename_i fn hfn
      cases hp
      obtain ⟨h1, h2, h3⟩ := hk.get hfn
      obtain ⟨c, hc⟩ := Option.isSome_iff_exists.1 h2
      exact fnc_ok hm h1 hc h3 hq
    · split at hp
      · rename_i hb
        cases hp
        rw [Nat.eq_of_beq_eq_true hb]; exact hs
      · split at hp
        · rename_i hb
          cases hp
          rw [Nat.eq_of_beq_eq_true hb]; exact hz
        · cases hp
  · simp only [tab0] at hf
    split at hf
    · rename_i fn hfn
      exact (hk.get hfn).2.2
    · cases hf
/-- a table in which a function goes by a contract, where it fits -/
def Table.con (tb : Table) (f : Nat) (c : Con) : Table := ⟨fun g => match Nat.beq g f with
  | true => match tb.fn g with
    | some o => some (conF guessT c o)
    | none => none
  | false => tb.fn g, tb.bod⟩
theorem TabOk.con {P : Program} {tb tb' : Table} (h : TabOk P tb) (h' : TabOk P tb') {fuel d f : Nat} {c : Con} (hc : c.holds tb' fuel d f = true) : TabOk P (tb.con f c) := by
  refine ⟨fun g p hp => ?_, h.bod⟩
  simp only [Table.con] at hp
  split at hp
  · rename_i hb
    have hb := Nat.eq_of_beq_eq_true hb
    subst hb
    split at hp
    · rename_i o ho
      cases hp
      exact con_ok h'.fn h'.bod hc (h.fn _ _ ho)
    · cases hp
  · exact h.fn _ _ hp

/-! ### laws -/
/-- the ways of a law that do not end on what is plainly true -/
def badL : List (V × H) → Option (List (List E × E))
  | [] => some []
  | (v, h) :: r => match v with
    | .bool e => match e with
      | .lit n => match n with
        | .ofNat m => Nat.casesOn m (match badL r with
          | some l => some ((h.pc, e) :: l)
          | none => none) fun _ => badL r
        | .negSucc _ => badL r
      | e => match badL r with
        | some l => some ((h.pc, e) :: l)
        | none => none
    | _ => none
def esBeq : List E → List E → Bool
  | [], [] => true
  | a :: r, b :: s => match a.beq b with
    | true => esBeq r s
    | false => false
  | _, _ => false
def badBeq : List (List E × E) → List (List E × E) → Bool
  | [], [] => true
  | (p, e) :: r, (q, f) :: s => match e.beq f with
    | true => match esBeq p q with
      | true => badBeq r s
      | false => false
    | false => false
  | _, _ => false
theorem esBeq_eq : ∀ {a b : List E}, esBeq a b = true → a = b
  | [], [], _ => rfl
  | [], _ :: _, h => by simp [esBeq] at h
  | _ :: _, [], h => by simp [esBeq] at h
  | a :: r, b :: s, h => by
    simp only [esBeq] at h
    split at h
    · rename_i h1; rw [E.eq_of_beq h1, esBeq_eq h]
    · cases h
theorem badBeq_eq : ∀ {a b : List (List E × E)}, badBeq a b = true → a = b
  | [], [], _ => rfl
  | [], _ :: _, h => by simp [badBeq] at h
  | _ :: _, [], h => by simp [badBeq] at h
  | (p, e) :: r, (q, f) :: s, h => by
    simp only [badBeq] at h
    split at h
    · rename_i h1
      split at h
      · rename_i h2; rw [E.eq_of_beq h1, esBeq_eq h2, badBeq_eq h]
      · cases h
    · cases h
/-- the law's run ends, and its ways that are not plainly true are those -/
def lawRun (tb : Table) (fuel d f : Nat) (T : Tm) (bad : List (List E × E)) : Bool := match callN tb fuel d [] f T.vs (fun v h => some [(v, h)]) T.toH with
  | some l => match badL l with
    | some b => badBeq b bad
    | none => false
  | none => false
theorem badL_mem : ∀ {l : List (V × H)} {b : List (List E × E)}, badL l = some b → ∀ v h, (v, h) ∈ l → ∃ e, v = .bool e ∧ ((∃ n : Int, n ≠ 0 ∧ e = .lit n) ∨ (h.pc, e) ∈ b)
  | [], b, _, v, h, hm => by cases hm
  | (u, g) :: r, b, hb, v, h, hm => by
    have key : ∃ e, u = .bool e ∧ ∃ b', badL r = some b' ∧ ((∃ n : Int, n ≠ 0 ∧ e = .lit n) ∧ b = b' ∨ b = (g.pc, e) :: b') := by
      simp only [badL] at hb
      split at hb
      · rename_i e
        refine ⟨e, rfl, ?_⟩
        split at hb
        · rename_i n
          split at hb
          · rename_i m
            cases m with
            | zero =>
              replace hb : (match badL r with
                | some l => some ((g.pc, E.lit (.ofNat 0)) :: l)
                | none => none) = some b := hb
              split at hb
              · rename_i l hl; cases hb; exact ⟨l, hl, .inr rfl⟩
              · cases hb
            | succ m => exact ⟨b, hb, .inl ⟨⟨_, by simp; omega, rfl⟩, rfl⟩⟩
          · rename_i m; exact ⟨b, hb, .inl ⟨⟨_, by simp, rfl⟩, rfl⟩⟩
        · split at hb
          · rename_i l hl; cases hb; exact ⟨l, hl, .inr rfl⟩
          · cases hb
      · cases hb
    obtain ⟨e, h1, b', h2, h3⟩ := key
    cases hm with
    | head =>
      refine ⟨e, h1, ?_⟩
      rcases h3 with ⟨h3, _⟩ | h3
      · exact .inl h3
      · subst h3; exact .inr List.mem_cons_self
    | tail _ hm =>
      obtain ⟨e', g1, g2⟩ := badL_mem h2 v h hm
      refine ⟨e', g1, g2.imp id fun g2 => ?_⟩
      rcases h3 with ⟨_, h3⟩ | h3
      · subst h3; exact g2
      · subst h3; exact List.mem_cons_of_mem _ g2
def rhoOf (v : Nat → Int) : Rho := { v := v, fn := fun _ _ _ _ => 0, blk := fun _ => 0, raw := fun _ => undef, lp := fun _ => default }
/-- A law: from its run, and from the plain law about the ways that are not plainly true. -/
theorem law_ok {P : Program} {tb : Table} (h : TabOk P tb) {fuel d f : Nat} {T : Tm} {bad : List (List E × E)} (hrun : lawRun tb fuel d f T bad = true) (he : ∀ ys w', (callFunc f ys).run P w' = .ok (.enter f ys) w') (hT : T.hp = [])
    (v : Nat → Int) (xs : List Value) (hx : ∀ ρ : Rho, (∀ i, i < T.iv.length → ρ.v i = v i) → V.denL ρ T.vs = xs) (hv : ∀ (i : Nat) (iv : Iv), T.iv[i]? = some iv → iv.has (v i)) (hp : ∀ ρ : Rho, (∀ i, i < T.iv.length → ρ.v i = v i) → pcOk ρ.toEnv T.pc)
    (plain : ∀ ρ : Env, (∀ i, i < T.iv.length → ρ.v i = v i) → ∀ p ∈ bad, pcOk ρ p.1 → p.2.den ρ ≠ 0) (w : World) : Calls P f xs.toArray w fun e w' => e = .returned (.bool true) ∧ Ext w w' := by
  unfold lawRun at hrun
  split at hrun
  case h_2 => cases hrun
  rename_i l hl
  split at hrun
  case h_2 => cases hrun
  rename_i b hb
  have hb2 := badBeq_eq hrun
  subst hb2
  have hnv := toH_nv T
  have hnb := toH_nb T
  have hget : ∀ c, T.toH.get c = .none := fun c => by rw [T.get (by rw [hT]; decide)]; rw [hT]; simp
  have ag : ∀ {ρ' : Rho}, Le T.toH (rhoOf v) ρ' → ∀ i, i < T.iv.length → ρ'.v i = v i := fun hle i hi => hle.v i (by omega)
  have rel : RelH ⟨w, fun _ _ _ _ => 0, T.toH, rhoOf v⟩ (rhoOf v) T.toH w := by
    intro ρ' hle
    refine ⟨Ext.refl w, hle.fn, by rw [hnb, hT]; decide, fun c hc => absurd (hget c) hc, fun c _ hc => absurd (hget c) hc, ?_, hp ρ' (ag hle), hle, Gr.refl _⟩
    refine ok_ivs (Bd.ok_none _) fun j i hj => ?_
    have hjl := (List.getElem?_eq_some_iff.1 hj).1
    rw [Nat.zero_add, ag hle j hjl]
    exact hv j i hj
  have hc := callN_ok h.fn h.bod fuel d ⟨w, fun _ _ _ _ => 0, T.toH, rhoOf v⟩ [] (fun b f hl => by simp [lookY] at hl) f T.vs _ T.toH l hl (rhoOf v) w rel xs (fun ρ' hle => hx ρ' (ag hle))
  rcases hc with ⟨_, hc⟩ | ⟨x, w1, hc, _⟩
  case inr => rw [he] at hc; cases hc
  refine Calls.mono hc ?_
  rintro e w' ⟨x, rfl, u, h', ρ', l', hk, hs, hle, _, hrel, hden, _⟩
  cases hk
  obtain ⟨be, rfl, hbe⟩ := badL_mem hb _ _ (hs _ List.mem_cons_self)
  have h0 := hrel.to
  refine ⟨?_, h0.ext⟩
  have hd := hden ρ' (Le.refl _ _)
  simp only [V.den] at hd
  rw [← hd]
  have hne : be.den ρ'.toEnv ≠ 0 := by
    rcases hbe with ⟨n, hn, rfl⟩ | hbe
    · exact hn
    · exact plain ρ'.toEnv (ag hle) _ hbe h0.pc
  simp [bne_iff_ne.2 hne]
theorem Ext.kept {w w' : World} (h : Ext w w') (S : MemPlace → Prop) : w.keptBut w' S := by
  refine ⟨h.os, h.output, fun i hi => ?_⟩
  rw [h.old i hi]
  cases w.heap[i]? with
  | none => rfl
  | some o => cases o <;> simp

end Go.Gx

