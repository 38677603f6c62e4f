/- The engine, part Gc: runs of the code over expressions, and that they tell the truth. No condition. -/
import Derived.Test.YtenebabkanehpaaGreatDoorGb
import Derived.Laws.BytesString
import Derived.Laws.Slices
import Derived.OrdersIn
import Derived.Deep.AppendSrc
import Derived.Deep.Upon
set_option linter.unusedVariables false
set_option linter.unusedSimpArgs false
/- Built-ins, texts, slices, new rows. -/
namespace Go.Gx
open Go Go.Sx

/-! ### binary operations -/
theorem bin_bin (P : Program) (op : BinOp) (t : TypeId) (x y : Operand) : Bin2g P op t x y (binV P op t (isConst x || isConst y)) := by
  cases op
  case shl => exact bin2g_of (sh_bin P .shl t) (by simp) (by simp)
  case shr => exact bin2g_of (sh_bin P .shr t) (by simp) (by simp)
  case eql => exact eql_bin P t x y false
  case neq => exact eql_bin P t x y true
  case add => exact bin2g_of (add_bin P t) (by simp) (by simp)
  all_goals exact bin2g_of (ints_bin P _ t) (by simp) (by simp)
theorem binOp_ok {P : Program} {n : Nat} {o : Oper} {op : BinOp} {t : TypeId} {x y : Operand} {c : _} (ho : o.op = .binOp op t x y c) (hx : okOd n x = true) (hy : okOd n y = true) :
    (calm2 x y (binV P op t (isConst x || isConst y))).Calm P n o :=
  calm2_ok (S := fun a b => do eqGuard op t x y a b; binOp op t a b) (fun ev => by simp only [execOp, ho]) (bin_bin P op t x y) hx hy
theorem unOp_ok {P : Program} {n : Nat} {o : Oper} {op : UnOp} {t : TypeId} {x : Operand} (ho : o.op = .unOp op t x) (hx : okOd n x = true) : (calm1 x (unV op)).Calm P n o :=
  calm1_ok (fun ev => by simp only [execOp, ho]) (un_un P op) hx

/-! ### built-ins -/
theorem run_builtin {P : Program} {o : Oper} {c : Call} {b : Builtin} (ho : o.op = .call c) (hc : c.callee = .builtin b) (ev : Operand → Value) (w : World) :
    (execOp ev o).run P w = (builtin b c.argTypes o.type (c.args.map fun | .const _ => true | _ => false) (c.args.toList.map ev).toArray).run P w := by
  rw [← arr_map]
  simp only [execOp, ho, resolve, hc, Sem.run_bind, Sem.run_pure, Result.andThen_ok, invoke]
  rfl
theorem calmB_ok {P : Program} {n : Nat} {o : Oper} {c : Call} {b : Builtin} {x : Operand} {f : H → V → Option V} (ho : o.op = .call c) (hc : c.callee = .builtin b) (hargs : c.args.toList = [x]) (hx : okOd n x = true)
    (hf : ∀ w0 ρ h w, Rel0 w0 ρ h w → ∀ v r, f h v = some r → (builtin b c.argTypes o.type (c.args.map fun | .const _ => true | _ => false) #[v.den ρ]).run P w = .ok (.value (r.den ρ)) w) : (calm1 x f).Calm P n o := by
  intro w0 cx _ k F h l hr ρ a w rh rf
  obtain ⟨v, hv, hk⟩ := optV_some hr
  refine goes_calm rh hk fun ρ' hl => ?_
  rw [run_builtin ho hc, hargs]
  simp only [List.map_cons, List.map_nil]
  rw [den_od (rf ρ' hl) hx]
  exact hf w0 ρ' h w (rh ρ' hl) _ _ hv
theorem at0 {α : Type} {xs : Array α} {t : α} {r : List α} (h : xs.toList = t :: r) : xs[0]? = some t := by
  have : xs.toList[0]? = some t := by rw [h]; rfl
  simpa using this
theorem at1 {α : Type} {xs : Array α} {t u : α} {r : List α} (h : xs.toList = t :: u :: r) : xs[1]? = some u := by
  have : xs.toList[1]? = some u := by rw [h]; rfl
  simpa using this
theorem posI {ρ : Env} {h : H} (hb : h.bd.ok ρ) {e : E} {v : V} (he : intE h e = some v) : v = .int .i64 e ∧ 0 ≤ e.den ρ := by
  unfold intE at he
  split at he
  · rename_i hp; cases he; exact ⟨rfl, posE_ok hb hp⟩
  · cases he
theorem size_str (l : List UInt8) : (ByteArray.mk l.toArray).size = l.length := by show l.toArray.size = _; simp
theorem lenStr_run {P : Program} {w0 : Base} {ρ : Rho} {h : H} {w : World} (r : Rel0 w0 ρ h w) {ts : Array TypeId} {t ty : TypeId} {cs : Array Bool} {tr : List TypeId} (ht : ts.toList = t :: tr) (hu : P.underlying t = some .string) {v x : V} (hv : lenStr h v = some x) :
    (builtin .len ts ty cs #[v.den ρ]).run P w = .ok (.value (x.den ρ)) w := by
  unfold lenStr at hv
  split at hv
  · rename_i l
    cases hv
    simp [builtin, Builtin.len_, at0 ht, run_underlying hu, V.den, strOf, goInt, lenL_eq, lit, E.den, size_str]
  · rename_i A
    obtain ⟨rfl, hp⟩ := posI r.bd hv
    have hlen : (A.bytes ρ.toEnv).length = (A.size.den ρ.toEnv).toNat := by simp [Arr.bytes, row_len]
    simp [builtin, Builtin.len_, at0 ht, run_underlying hu, V.den, strOf, goInt, hlen, size_str]
    omega
  · cases hv
theorem lenSl_run {P : Program} {w0 : Base} {ρ : Rho} {h : H} {w : World} (r : Rel0 w0 ρ h w) {ts : Array TypeId} {t ty e : TypeId} {cs : Array Bool} {tr : List TypeId} (ht : ts.toList = t :: tr) (hu : P.underlying t = some (.slice e)) {v x : V} (hv : lenSl h v = some x) :
    (builtin .len ts ty cs #[v.den ρ]).run P w = .ok (.value (x.den ρ)) w := by
  unfold lenSl at hv
  split at hv
  · cases hv
    simp [builtin, Builtin.len_, at0 ht, run_underlying hu, V.den, goInt, lit, E.den]
  · obtain ⟨rfl, hp⟩ := posI r.bd hv
    simp [builtin, Builtin.len_, at0 ht, run_underlying hu, V.den, goInt]
    omega
  · cases hv
theorem capSl_run {P : Program} {w0 : Base} {ρ : Rho} {h : H} {w : World} (r : Rel0 w0 ρ h w) {ts : Array TypeId} {t ty e : TypeId} {cs : Array Bool} {tr : List TypeId} (ht : ts.toList = t :: tr) (hu : P.underlying t = some (.slice e)) {v x : V} (hv : capSl h v = some x) :
    (builtin .cap ts ty cs #[v.den ρ]).run P w = .ok (.value (x.den ρ)) w := by
  unfold capSl at hv
  split at hv
  · cases hv
    simp [builtin, Builtin.cap_, at0 ht, run_underlying hu, V.den, goInt, lit, E.den]
  · obtain ⟨rfl, hp⟩ := posI r.bd hv
    simp [builtin, Builtin.cap_, at0 ht, run_underlying hu, V.den, goInt]
    omega
  · cases hv
theorem entries_len (ρ : Rho) : ∀ (es : List (V × V)) (i : Nat), (entries ρ i es).length = es.length
  | [], _ => rfl
  | _ :: r, i => by simp [entries, entries_len ρ r]
theorem get_map {w0 : Base} {ρ : Rho} {h : H} {w : World} (r : Rel0 w0 ρ h w) {b : Nat} {es : List (V × V)} (hg : h.get b = .map es) : w.heap[ρ.blk b]? = some (.map (entries ρ 0 es).toArray es.length) ∧ b < h.nb := by
  obtain ⟨h1, h2, _, obj, h4, h5⟩ := r.hp b (by rw [hg]; intro hh; cases hh)
  rw [hg] at h5
  have h5 : obj = .map (entries ρ 0 es).toArray es.length := h5
  rw [h5] at h4
  exact ⟨h4, h1⟩
theorem run_getObj {P : Program} {w : World} {b : Nat} {es : Array MapEntry} {c : Nat} (h : w.heap[b]? = some (.map es c)) : (getObj b).run P w = .ok (.map es c) w := by
  simp [getObj, Sem.run, h]
theorem lenMap_run {P : Program} {w0 : Base} {ρ : Rho} {h : H} {w : World} (r : Rel0 w0 ρ h w) {ts : Array TypeId} {t ty a b : TypeId} {cs : Array Bool} {tr : List TypeId} (ht : ts.toList = t :: tr) (hu : P.underlying t = some (.map a b)) {v x : V} (hv : lenMap h v = some x) :
    (builtin .len ts ty cs #[v.den ρ]).run P w = .ok (.value (x.den ρ)) w := by
  unfold lenMap at hv
  split at hv
  · cases hv
    simp [builtin, Builtin.len_, at0 ht, run_underlying hu, V.den, goInt, lit, E.den]
  · split at hv
    · rename_i es hg
      cases hv
      have := (get_map r hg).1
      simp [builtin, Builtin.len_, at0 ht, run_underlying hu, V.den, goInt, lit, E.den, run_getObj this, entries_len, lenL_eq]
    · cases hv
  · cases hv
theorem sdata_none (ts : Array TypeId) (ty : TypeId) (n c : Nat) : Builtin.unsafeSliceData_ ts ty #[.slice none n c] = pure (.pointer none) := rfl
theorem sdata_some (ts : Array TypeId) (ty : TypeId) (a : Addr) (n c : Nat) (h : c ≠ 0) : Builtin.unsafeSliceData_ ts ty #[.slice (some a) n c] = pure (.pointer (some a)) := by
  show (if c ≠ 0 then (pure (Value.pointer (some a)) : Sem Value) else _) = _
  rw [if_pos h]
theorem sdata_run {P : Program} {w0 : Base} {ρ : Rho} {h : H} {w : World} (r : Rel0 w0 ρ h w) {ts : Array TypeId} {ty : TypeId} {cs : Array Bool} {v x : V} (hv : (match v with
      | .nils => some .nilp
      | .sl b o _ cap => match decLe h (lit 1) cap with
        | some true => some (.ptr b o)
        | _ => none
      | _ => none) = some x) : (builtin .unsafeSliceData ts ty cs #[v.den ρ]).run P w = .ok (.value (x.den ρ)) w := by
  split at hv
  · cases hv
    simp only [builtin, V.den, sdata_none, Sem.run_bind, Sem.run_pure, Result.andThen_ok]
  · rename_i b o len cap
    split at hv
    · rename_i hd
      cases hv
      have hcap : 1 ≤ cap.den ρ.toEnv := by
        unfold decLe at hd
        simp only [lit, litN] at hd
        split at hd
        · rename_i n hn
          have := litN_some hn
          subst this
          cases hd' : Nat.ble 1 n with
          | true => have := Nat.le_of_ble_eq_true hd'; simp only [E.den]; omega
          | false => rw [hd'] at hd; cases hd
        · have := decB_true r.bd r.pc hd
          rw [den_mkBin] at this
          have := (E.prop_iff ρ.toEnv (.bin .le (.lit (Int.ofNat 1)) cap)).2 this
          exact this
      have hne : ¬ (cap.den ρ.toEnv).toNat = 0 := by omega
      simp only [builtin, V.den, sdata_some _ _ _ _ _ hne, Sem.run_bind, Sem.run_pure, Result.andThen_ok]
    · cases hv
  · cases hv

end Go.Gx

/- Texts out of bytes; conversions; parts of texts and of slices. -/
namespace Go.Gx
open Go Go.Sx

theorem byteQ_ok {ρ : Env} {h : H} (hb : h.bd.ok ρ) {e : E} (hq : byteQ h e = true) : UInt8.ofNat (e.den ρ).toNat = byteOf ρ e := by
  unfold byteQ at hq
  have key : 0 ≤ e.den ρ → UInt8.ofNat (e.den ρ).toNat = byteOf ρ e := fun h0 => by
    unfold byteOf
    have h1 : IntKind.u8.wrap (e.den ρ) = e.den ρ % 256 := by simp [IntKind.wrap, IntKind.bits, IntKind.signed]
    rw [h1]
    apply UInt8.toNat_inj.1
    simp only [UInt8.toNat_ofNat']
    omega
  split at hq
  · rename_i n hn
    rw [litN_some hn] at key ⊢
    exact key (by simp only [E.den]; omega)
  · have hi := has_itv hb e
    generalize itv h.bd e = i at hq hi
    obtain ⟨l, u⟩ := i
    cases l <;> cases u <;> simp [within] at hq
    have := hi.1 _ rfl
    exact key (by omega)
theorem byteQ_val {ρ : Env} {h : H} (hb : h.bd.ok ρ) {e : E} (hq : byteQ h e = true) : e.den ρ = ((byteOf ρ e).toNat : Int) := by
  rw [byteOf_toNat]
  have h1 : IntKind.u8.wrap (e.den ρ) = e.den ρ % 256 := by simp [IntKind.wrap, IntKind.bits, IntKind.signed]
  rw [h1]
  unfold byteQ at hq
  split at hq
  · rename_i n hn
    rw [litN_some hn]
    have := Nat.le_of_ble_eq_true hq
    simp only [E.den]
    omega
  · have hi := has_itv hb e
    generalize itv h.bd e = i at hq hi
    obtain ⟨l, u⟩ := i
    cases l <;> cases u <;> simp [within] at hq
    have h1 := hi.1 _ rfl
    have h2 := hi.2 _ rfl
    omega
theorem bytesE_cells {ρ : Rho} {h : H} (hb : h.bd.ok ρ.toEnv) : ∀ {cs : List V} {l : List E}, bytesE h cs = some l → V.denL ρ cs = l.map fun e => Value.int .u8 ((byteOf ρ.toEnv e).toNat : Int)
  | [], l, h => by cases h; rfl
  | v :: r, l, h => by
    simp only [bytesE] at h
    split at h
    · split at h
      · rename_i hq
        split at h
        · rename_i m hm
          cases h
          simp only [V.denL, V.den, List.map_cons, bytesE_cells hb hm, byteQ_val hb hq]
        · cases h
      · cases h
    · cases h
theorem bytesE_den {ρ : Rho} {h : H} (hb : h.bd.ok ρ.toEnv) : ∀ {cs : List V} {l : List E}, bytesE h cs = some l → V.denL ρ cs = (l.map fun e => e.den ρ.toEnv).map (Value.int .u8) ∧ (l.map fun e => e.den ρ.toEnv).map (fun n => UInt8.ofNat n.toNat) = l.map (byteOf ρ.toEnv)
  | [], l, h => by cases h; exact ⟨rfl, rfl⟩
  | v :: r, l, h => by
    simp only [bytesE] at h
    split at h
    · split at h
      · rename_i hq
        split at h
        · rename_i m hm
          cases h
          obtain ⟨h1, h2⟩ := bytesE_den hb hm
          refine ⟨by simp only [V.denL, V.den, List.map_cons, h1], ?_⟩
          simp only [List.map_cons, byteQ_ok hb hq]
          congr 1
        · cases h
      · cases h
    · cases h
theorem fold_push : ∀ (ns : List Int) (s : ByteArray), ns.foldl (fun r n => r.push (UInt8.ofNat n.toNat)) s = ⟨s.data ++ (ns.map fun n => UInt8.ofNat n.toNat).toArray⟩
  | [], s => by simp
  | n :: r, s => by
    simp only [List.foldl_cons, fold_push r, List.map_cons]
    congr 1
    apply Array.ext'
    simp [ByteArray.push]
theorem un_text {P : Program} {s d e : TypeId} (hs : P.underlying s = some (.slice e)) (he : P.underlying e = some (.int .u8)) (hd : P.underlying d = some .string) : Un1 P (convert s d) textV := by
  intro w0 ρ h w r a v hv
  unfold textV at hv
  split at hv
  · cases hv
    simp [convert, run_underlying hs, run_underlying hd, run_underlying he, V.den, Conv.bytesToString, strOf]
    rfl
  · rename_i b o len cap
    have conv : ∀ (ad : Addr) (n c : Nat), (convert s d (.slice (some ad) n c)).run P w = (Conv.bytesToString (.slice (some ad) n c)).run P w := fun ad n c => by
      simp only [convert, Sem.run_bind, run_underlying hs, run_underlying hd, run_underlying he, Result.andThen_ok]
    simp only [V.den, conv]
    have text : ∀ (ad : Addr) (n c : Nat) (ns : List Int), (loadCells ad n).run P w = .ok (ns.map (Value.int .u8)).toArray w → (Conv.bytesToString (.slice (some ad) n c)).run P w = .ok (strOf (ns.map fun n => UInt8.ofNat n.toNat)) w := fun ad n c ns hl => by
      rw [run_bytesToString w ad n c ns hl, fold_push]
      have h0 : ByteArray.empty.data = #[] := rfl
      rw [h0]
      simp [strOf]
    split at hv
    · rename_i ro el A hg
      split at hv
      · rename_i ho
        split at hv
        · rename_i hb hk
          cases hv
          have ho := litN_some ho
          subst ho
          obtain ⟨_, _, hh⟩ := get_arr r hg
          have hlen : A.size.den ρ.toEnv = len.den ρ.toEnv := by rw [E.eq_of_beq hb]
          have hkind := eqK_eq hk
          have hrow : A.den ρ.toEnv = (A.row ρ.toEnv).map (Value.int .u8) := by rw [← hkind]; rfl
          have hl := run_loadCells_list (P := P) w ⟨ρ.blk b, 0, none⟩ (A.den ρ.toEnv) (fun j v hj => by
            rw [add_addr, Nat.zero_add, cell_row hh]; exact hj)
          rw [arr_len, hlen, hrow] at hl
          exact text _ _ _ _ hl
        · cases hv
      · cases hv
    · split at hv
      · rename_i cs hcs
        split at hv
        · rename_i l hl
          cases hv
          obtain ⟨n, h1, h2, h3⟩ := cellsOf_ok (P := P) r hcs
          simp only [V.den, Builtin.lenOf, Sem.run_pure] at h1
          injection h1 with h1 _
          have h3 := h3 n (Nat.le_refl _)
          obtain ⟨g1, g2⟩ := bytesE_den r.bd hl
          rw [List.take_of_length_le (by rw [denL_len]; omega), g1] at h3
          simp only [V.den, Builtin.firstCells, Nat.mul_one] at h3
          rw [← h1] at h3
          rw [text _ _ _ _ h3, g2]
          simp only [V.den]
        · cases hv
      · cases hv
  · cases hv

theorem conv_str {P : Program} {s d : TypeId} (hs : P.underlying s = some .string) (hd : P.underlying d = some .string) : Un1 P (convert s d) (fun _ v => match v with
    | .str l => some (.str l)
    | .astr A => some (.astr A)
    | _ => none) := by
  intro w0 ρ h w r a v hv
  dsimp only at hv
  split at hv <;> first | (cases hv; done) | skip
  all_goals
    cases hv
    simp [convert, run_underlying hs, run_underlying hd, V.den, strOf]
/-- parts of texts and of slices: the bounds -/
theorem bnd {P : Program} (w : World) {k : IntKind} {e : Int} {y : Nat} {c : BoundsCode} (h0 : 0 ≤ e) (h1 : e ≤ y) : (Instr.sliceBound (.int k e) y c).run P w = .ok e.toNat w := run_sliceBound (P := P) w k e y c h0 h1
end Go.Gx

/- Parts of slices and of texts. -/
namespace Go.Gx
open Go Go.Sx

theorem optE_some {F : Fr} {x : Option Operand} {k : Option E → Res} {l : List (V × H)} (hr : optE F (optOd x) k = some l) : (x = none ∧ k none = some l) ∨ ∃ y kd e, x = some y ∧ (od y).g F = .int kd e ∧ k (some e) = some l := by
  cases x with
  | none => exact .inl ⟨rfl, hr⟩
  | some y =>
    simp only [optE, optOd] at hr
    split at hr
    · rename_i kd e he; exact .inr ⟨y, kd, e, rfl, he, hr⟩
    · cases hr
def optI (ρ : Env) (x : Option E) (d : Int) : Int := match x with
  | some e => e.den ρ
  | none => d
theorem den_optEl (ρ : Env) (x : Option E) (d : E) : (optEl x d).den ρ = optI ρ x (d.den ρ) := by cases x <;> rfl
/-- a bound, as it is told and as it stands -/
def Mt (ρ : Env) : Option E → Option Value → Prop
  | none, none => True
  | some e, some u => ∃ k, u = .int k (e.den ρ)
  | _, _ => False
theorem decLe_ok {ρ : Env} {h : H} (hb : h.bd.ok ρ) (hp : pcOk ρ h.pc) {a b : E} {t : Bool} (hd : decLe h a b = some t) : if t then a.den ρ ≤ b.den ρ else b.den ρ < a.den ρ := by
  have slow : decB h.bd h.pc (mkBin .le a b) = some t → if t then a.den ρ ≤ b.den ρ else b.den ρ < a.den ρ := fun hd => by
    have := decB_some hb hp _ _ hd
    rw [den_mkBin] at this
    have this : (E.den ρ (.bin .le a b) != 0) = t := this
    have h2 := E.prop_iff ρ (.bin .le a b)
    cases t with
    | true =>
      simp only [if_true]
      exact h2.2 (bne_iff_ne.1 this)
    | false =>
      have h3 : ¬ (a.den ρ ≤ b.den ρ) := fun h4 => absurd (bne_iff_ne.2 (h2.1 h4)) (by rw [this]; simp)
      simp only [Bool.false_eq_true, if_false]
      omega
  unfold decLe at hd
  split at hd
  · rename_i m hm
    split at hd
    · rename_i n hn
      cases hd
      rw [litN_some hm, litN_some hn]
      simp only [E.den]
      cases hbl : Nat.ble m n with
      | true => have := Nat.le_of_ble_eq_true hbl; simp only [if_true]; omega
      | false =>
        have : ¬ m ≤ n := Nat.not_le_of_not_ble_eq_true (by simp [hbl])
        simp only [Bool.false_eq_true, if_false]; omega
    · exact slow hd
  · exact slow hd
theorem bounds_run {P : Program} {ρ : Env} {isS : Bool} {len cap : Nat} {lo hi mx : Option E} {vlo vhi vmx : Option Value} (hlo : Mt ρ lo vlo) (hhi : Mt ρ hi vhi) (hmx : Mt ρ mx vmx) (hno : hi = none → mx = none) {L H M : Int}
    (eL : L = optI ρ lo 0) (eH : H = optI ρ hi len) (eM : M = optI ρ mx cap) (h0 : 0 ≤ L) (h1 : L ≤ H) (h2 : H ≤ M) (h3 : M ≤ cap) (w : World) :
    (Instr.sliceBounds isS len cap vlo vhi vmx).run P w = .ok (L.toNat, H.toNat, M.toNat) w := by
  cases mx with
  | none =>
    cases vmx with
    | some _ => exact hmx.elim
    | none =>
      simp only [optI] at eM
      cases hi with
      | none =>
        cases vhi with
        | some _ => exact hhi.elim
        | none =>
          simp only [optI] at eH
          cases lo with
          | none =>
            cases vlo with
            | some _ => exact hlo.elim
            | none =>
              simp only [optI] at eL
              subst eL eH eM
              simp [Instr.sliceBounds]
          | some e =>
            cases vlo with
            | none => exact hlo.elim
            | some u =>
              obtain ⟨k, rfl⟩ := hlo
              simp only [optI] at eL
              subst eL eH eM
              simp [Instr.sliceBounds, bnd (P := P) w h0 h1]
      | some eh =>
        cases vhi with
        | none => exact hhi.elim
        | some uh =>
          obtain ⟨kh, rfl⟩ := hhi
          simp only [optI] at eH
          have hb : ∀ c, (Instr.sliceBound (.int kh (eh.den ρ)) cap c).run P w = .ok H.toNat w := fun c => by rw [eH]; exact bnd w (by omega) (by omega)
          cases lo with
          | none =>
            cases vlo with
            | some _ => exact hlo.elim
            | none =>
              simp only [optI] at eL
              subst eL eM
              simp [Instr.sliceBounds, hb]
          | some e =>
            cases vlo with
            | none => exact hlo.elim
            | some u =>
              obtain ⟨k, rfl⟩ := hlo
              simp only [optI] at eL
              have hl : ∀ c, (Instr.sliceBound (.int k (e.den ρ)) H.toNat c).run P w = .ok L.toNat w := fun c => by rw [eL]; exact bnd w (by omega) (by omega)
              subst eM
              simp [Instr.sliceBounds, hb, hl]
  | some em =>
    cases vmx with
    | none => exact hmx.elim
    | some um =>
      obtain ⟨km, rfl⟩ := hmx
      simp only [optI] at eM
      have hm : ∀ c, (Instr.sliceBound (.int km (em.den ρ)) cap c).run P w = .ok M.toNat w := fun c => by rw [eM]; exact bnd w (by omega) (by omega)
      cases hi with
      | none => cases hno rfl
      | some eh =>
        cases vhi with
        | none => exact hhi.elim
        | some uh =>
          obtain ⟨kh, rfl⟩ := hhi
          simp only [optI] at eH
          have hb : ∀ c, (Instr.sliceBound (.int kh (eh.den ρ)) M.toNat c).run P w = .ok H.toNat w := fun c => by rw [eH]; exact bnd w (by omega) (by omega)
          cases lo with
          | none =>
            cases vlo with
            | some _ => exact hlo.elim
            | none =>
              simp only [optI] at eL
              subst eL
              simp [Instr.sliceBounds, hm, hb]
          | some e =>
            cases vlo with
            | none => exact hlo.elim
            | some u =>
              obtain ⟨k, rfl⟩ := hlo
              simp only [optI] at eL
              have hl : ∀ c, (Instr.sliceBound (.int k (e.den ρ)) H.toNat c).run P w = .ok L.toNat w := fun c => by rw [eL]; exact bnd w (by omega) (by omega)
              simp [Instr.sliceBounds, hm, hb, hl]
/-- what a part of a slice is -/
theorem sliceS_ok {ρ : Rho} {w0 : Base} {h : H} {w : World} (r : Rel0 w0 ρ h w) {size b : Nat} {o len cap : E} {lo hi mx : Option E} {v : V} (hv : sliceS size h (.sl b o len cap) lo hi mx = some v) :
    ∃ L H M : Int, L = optI ρ.toEnv lo 0 ∧ H = optI ρ.toEnv hi (len.den ρ.toEnv) ∧ M = optI ρ.toEnv mx (cap.den ρ.toEnv) ∧ 0 ≤ L ∧ L ≤ H ∧ H ≤ M ∧ M ≤ cap.den ρ.toEnv ∧
      v.den ρ = .slice (some (if M.toNat = L.toNat then ⟨ρ.blk b, (o.den ρ.toEnv).toNat, none⟩ else (⟨ρ.blk b, (o.den ρ.toEnv).toNat, none⟩ : Addr).add (L.toNat * size))) (H.toNat - L.toNat) (M.toNat - L.toNat) := by
  have dL := den_optEl ρ.toEnv lo (lit 0)
  have dH := den_optEl ρ.toEnv hi len
  have dM := den_optEl ρ.toEnv mx cap
  simp only [sliceS] at hv
  generalize optEl lo (lit 0) = l at dL hv
  generalize optEl hi len = hh at dH hv
  generalize hmm : optEl mx cap = m at dM hv
  split at hv
  · rename_i q1 q2 q3 q4
    have g1 := decLe_ok r.bd r.pc q1
    have g2 := decLe_ok r.bd r.pc q2
    have g3 := decLe_ok r.bd r.pc q3
    have g4 : m.den ρ.toEnv ≤ cap.den ρ.toEnv := by
      cases mx with
      | none => simp only [optEl] at hmm; subst hmm; exact Int.le_refl _
      | some e => simp only [optEl] at hmm q4; subst hmm; simpa using decLe_ok r.bd r.pc q4
    simp only [if_true, den_lit] at g1 g2 g3
    refine ⟨l.den ρ.toEnv, hh.den ρ.toEnv, m.den ρ.toEnv, dL, dH, dM, g1, g2, g3, g4, ?_⟩
    split at hv
    · rename_i hl0
      cases hv
      have := litN_some hl0
      subst this
      have hadd : ∀ A : Addr, A.add 0 = A := fun A => by simp [Addr.add]
      simp [V.den, E.den, hadd]
    · split at hv
      · rename_i hd
        split at hv
        · rename_i hpo
          cases hv
          have h0 := posE_ok r.bd hpo
          have := decB_true r.bd r.pc hd
          rw [den_mkBin] at this
          have hlt : l.den ρ.toEnv < m.den ρ.toEnv := (E.prop_iff ρ.toEnv (.bin .lt l m)).2 this
          simp only [V.den, den_addE, den_mulO, den_subE]
          rw [if_neg (by omega), add_addr]
          congr 1
          · congr 2
            rw [Int.toNat_add h0 (Int.mul_nonneg g1 (by omega)), Int.toNat_mul g1 (by omega)]
            rfl
          · omega
          · omega
        · cases hv
      · rename_i hd
        cases hv
        have := decB_some r.bd r.pc _ _ hd
        rw [den_mkBin] at this
        have this : (E.den ρ.toEnv (.bin .lt l m) != 0) = false := this
        have hlt : ¬ l.den ρ.toEnv < m.den ρ.toEnv := fun h4 => absurd (bne_iff_ne.2 ((E.prop_iff ρ.toEnv (.bin .lt l m)).1 h4)) (by rw [this]; simp)
        simp only [V.den, den_subE]
        rw [if_pos (by omega)]
        congr 1
        · omega
        · omega
      · split at hv
        · rename_i hpo
          cases hv
          have h0 := posE_ok r.bd hpo
          simp only [V.den, den_subE, E.den]
          by_cases hlt : l.den ρ.toEnv < m.den ρ.toEnv
          · have hne : (mkBin .lt l m).den ρ.toEnv ≠ 0 := by rw [den_mkBin]; exact (E.prop_iff ρ.toEnv (.bin .lt l m)).1 hlt
            rw [if_pos hne, if_neg (by omega), add_addr, den_addE, den_mulO]
            congr 1
            · congr 2
              rw [Int.toNat_add h0 (Int.mul_nonneg g1 (by omega)), Int.toNat_mul g1 (by omega)]
              rfl
            · omega
            · omega
          · have hne : ¬ (mkBin .lt l m).den ρ.toEnv ≠ 0 := by rw [den_mkBin]; exact fun h4 => hlt ((E.prop_iff ρ.toEnv (.bin .lt l m)).2 h4)
            rw [if_neg hne, if_pos (by omega)]
            congr 1
            · omega
            · omega
        · cases hv
  · cases hv
/-- the bounds of a part, as operands -/
theorem mt_of {n : Nat} {ρ' : Rho} {F : Fr} {a : Act} (rf : RelF0 n ρ' F a) {x : Option Operand} {e : Option E} (hx : (x = none ∧ e = none) ∨ ∃ y kd e', x = some y ∧ (od y).g F = .int kd e' ∧ e = some e') (hok : ∀ y, x = some y → okOd n y = true) : Mt ρ'.toEnv e (x.map a.eval) := by
  rcases hx with ⟨rfl, rfl⟩ | ⟨y, kd, e', rfl, he, rfl⟩
  · trivial
  · refine ⟨kd, ?_⟩
    rw [den_od rf (hok y rfl), he]
    rfl
theorem optE3 {F : Fr} {x : Option Operand} {k : Option E → Res} {l : List (V × H)} (hr : optE F (optOd x) k = some l) : ∃ e, ((x = none ∧ e = none) ∨ ∃ y kd e', x = some y ∧ (od y).g F = .int kd e' ∧ e = some e') ∧ k e = some l := by
  rcases optE_some hr with ⟨h1, h2⟩ | ⟨y, kd, e, h1, h2, h3⟩
  · exact ⟨none, .inl ⟨h1, rfl⟩, h2⟩
  · exact ⟨some e, .inr ⟨y, kd, e, h1, h2, rfl⟩, h3⟩
theorem toNat_cast {x : Int} (h : 0 ≤ x) : ((x.toNat : Nat) : Int) = x := by omega
theorem litB {ρ : Env} {x : Option E} {n d : Nat} (h : optN x d = some n) : optI ρ x d = n := by
  cases x with
  | none => simp only [optN] at h; cases h; rfl
  | some e => simp only [optN] at h; simp only [optI, litN_some h, E.den]
theorem extract_str (A : Array UInt8) (l h : Nat) : (ByteArray.mk A).extract l h = ⟨A.extract l h⟩ := by
  apply ByteArray.ext
  simp
theorem slice_ok {P : Program} {n : Nat} {o : Oper} {t : TypeId} {x : Operand} {lo hi mx : Option Operand} (ho : o.op = .slice t x lo hi mx) (hx : okOd n x = true) (hlo : ∀ y, lo = some y → okOd n y = true) (hhi : ∀ y, hi = some y → okOd n y = true) (hmx : ∀ y, mx = some y → okOd n y = true) :
    (dSlice P t x lo hi mx).Calm P n o := by
  unfold dSlice
  split
  · exact failO_calm P n o
  · rename_i hno
    have hno : ∀ e1 e2 : Option E, ∀ (_ : (hi = none ∧ e1 = none) ∨ ∃ y, hi = some y ∧ ∃ e, e1 = some e) (_ : (mx = none ∧ e2 = none) ∨ ∃ y, mx = some y ∧ ∃ e, e2 = some e), e1 = none → e2 = none := by
      intro e1 e2 h1 h2 he
      rcases h1 with ⟨h1, _⟩ | ⟨_, _, e, h1⟩
      · rcases h2 with ⟨_, h2⟩ | ⟨y, h2, _⟩
        · exact h2
        · rw [h1, h2] at hno; cases hno
      · rw [h1] at he; cases he
    split
    · -- an array, by its address
      rename_i m e hu
      split
      · rename_i size hs
        intro w0 cx _ k F h l hr ρ a w rh rf
        dsimp only at hr
        obtain ⟨elo, m1, hr⟩ := optE3 hr
        obtain ⟨ehi, m2, hr⟩ := optE3 hr
        obtain ⟨emx, m3, hr⟩ := optE3 hr
        split at hr
        · rename_i b off hxv
          obtain ⟨v, hv, hk⟩ := optV_some hr
          refine goes_calm rh hk fun ρ' hl => ?_
          have r0 := rh ρ' hl
          obtain ⟨L, H, M, eL, eH, eM, h0, h1, h2, h3, hden⟩ := sliceS_ok r0 hv
          simp only [den_lit] at eH eM h3
          have hb := bounds_run (P := P) (isS := false) (len := m) (cap := m) (mt_of (rf ρ' hl) m1 hlo) (mt_of (rf ρ' hl) m2 hhi) (mt_of (rf ρ' hl) m3 hmx) (hno _ _ (by rcases m2 with h | ⟨y, _, e, h, _, h'⟩; exact .inl h; exact .inr ⟨y, h, e, h'⟩) (by rcases m3 with h | ⟨y, _, e, h, _, h'⟩; exact .inl h; exact .inr ⟨y, h, e, h'⟩)) eL eH eM h0 h1 h2 h3 w
          have hx' := den_od (rf ρ' hl) hx
          rw [hxv] at hx'
          simp only [execOp, ho, Instr.sliceAt, Sem.run_bind, run_underlying hu, Result.andThen_ok, hx', V.den, Instr.sureAddr, Sem.run_pure, hb, run_sizeT w hs, hden]
        · cases hr
      · exact failO_calm P n o
    · rename_i e hu
      split
      · rename_i size hs
        intro w0 cx _ k F h l hr ρ a w rh rf
        dsimp only at hr
        obtain ⟨elo, m1, hr⟩ := optE3 hr
        obtain ⟨ehi, m2, hr⟩ := optE3 hr
        obtain ⟨emx, m3, hr⟩ := optE3 hr
        obtain ⟨v, hv, hk⟩ := optV_some hr
        refine goes_calm rh hk fun ρ' hl => ?_
        have r0 := rh ρ' hl
        have hx' := den_od (rf ρ' hl) hx
        have hnn := hno _ _ (by rcases m2 with h | ⟨y, _, e, h, _, h'⟩; exact .inl h; exact .inr ⟨y, h, e, h'⟩) (by rcases m3 with h | ⟨y, _, e, h, _, h'⟩; exact .inl h; exact .inr ⟨y, h, e, h'⟩)
        generalize hxv : (od x).g F = xv at hv hx'
        cases xv
        case nils =>
          simp only [sliceS] at hv
          split at hv
          · rename_i z1 z2 z3
            cases hv
            have hb := bounds_run (P := P) (isS := true) (len := 0) (cap := 0) (mt_of (rf ρ' hl) m1 hlo) (mt_of (rf ρ' hl) m2 hhi) (mt_of (rf ρ' hl) m3 hmx) hnn (litB (d := 0) z1).symm (litB (d := 0) z2).symm (litB (d := 0) z3).symm (by omega) (by omega) (by omega) (by omega) w
            simp only [execOp, ho, Instr.sliceAt, Sem.run_bind, run_underlying hu, Result.andThen_ok, hx', V.den, Instr.slice, Sem.run_pure, hb, run_sizeT w hs]
            simp
          · cases hv
        case sl b off len cap =>
          obtain ⟨L, H, M, eL, eH, eM, h0, h1, h2, h3, hden⟩ := sliceS_ok r0 hv
          have hb := bounds_run (P := P) (isS := true) (len := (len.den ρ'.toEnv).toNat) (cap := (cap.den ρ'.toEnv).toNat) (mt_of (rf ρ' hl) m1 hlo) (mt_of (rf ρ' hl) m2 hhi) (mt_of (rf ρ' hl) m3 hmx) hnn eL (by
            cases ehi with
            | some _ => exact eH
            | none => simp only [optI] at eH ⊢; omega) (by
            cases emx with
            | some _ => exact eM
            | none => simp only [optI] at eM ⊢; omega) h0 h1 h2 (by omega) w
          simp only [execOp, ho, Instr.sliceAt, Sem.run_bind, run_underlying hu, Result.andThen_ok, hx', V.den, Instr.slice, Sem.run_pure, hb, run_sizeT w hs, hden, Option.map_some]
          congr 4
          split <;> rfl
        all_goals (simp [sliceS] at hv)
      · exact failO_calm P n o
    · rename_i hu
      split
      · intro w0 cx _ k F h l hr ρ a w rh rf
        dsimp only at hr
        obtain ⟨elo, m1, hr⟩ := optE3 hr
        obtain ⟨ehi, m2, hr⟩ := optE3 hr
        obtain ⟨v, hv, hk⟩ := optV_some hr
        refine goes_calm rh hk fun ρ' hl => ?_
        have hx' := den_od (rf ρ' hl) hx
        generalize hxv : (od x).g F = xv at hv hx'
        cases xv
        case str s =>
          simp only [sliceT] at hv
          split at hv
          · rename_i nl nh z1 z2
            split at hv
            · rename_i hle
              simp only [Bool.and_eq_true] at hle
              have hle2 := Nat.le_of_ble_eq_true hle.2
              have hle := Nat.le_of_ble_eq_true hle.1
              rw [lenL_eq, Nat.add_zero] at z2 hle2
              split at hv
              · rename_i r hr2
                cases hv
                obtain ⟨e1, e2⟩ := takeL_some hr2
                rw [dropL_eq] at e1 e2
                have hb := bounds_run (P := P) (isS := false) (len := s.length) (cap := s.length) (mt_of (rf ρ' hl) m1 hlo) (mt_of (rf ρ' hl) m2 hhi) (mx := none) (vmx := none) trivial (fun _ => rfl) (L := (nl : Int)) (H := (nh : Int)) (M := (s.length : Int)) (litB (d := 0) z1).symm (litB (d := s.length) z2).symm rfl (by omega) (by omega) (by omega) (by omega) w
                have hsz : (ByteArray.mk (List.map (byteOf ρ'.toEnv) s).toArray).size = s.length := by rw [size_str]; simp
                simp only [execOp, ho, Instr.sliceAt, Sem.run_bind, run_underlying hu, Result.andThen_ok, hx', V.den, strOf, Instr.slice, Option.map_none, Option.isSome_none, Bool.false_eq_true, if_false, Sem.run_pure, hsz, hb, extract_str]
                congr 5
                apply Array.ext'
                simp [e1, List.extract_eq_take_drop, List.map_take, List.map_drop]
              · cases hv
            · cases hv
          · cases hv
        all_goals (simp [sliceT] at hv)
      · exact failO_calm P n o
    · exact failO_calm P n o
end Go.Gx

/- Regions that draw: bits, rows, what an operation looks at, what is reckoned, what comes late. -/
namespace Go.Gx
open Go Go.Sx

/-! ### bits -/
theorem has_eq (m j : Nat) : has m j = m.testBit j := by
  have h1 : Nat.land (Nat.shiftRight m j) 1 = (m >>> j) % 2 := Nat.and_one_is_mod _
  have h2 : m.testBit j = ((m >>> j) % 2 != 0) := by unfold Nat.testBit; rw [Nat.one_and_eq_mod_two]
  unfold has
  rw [h1, h2]
  have : (m >>> j) % 2 = 0 ∨ (m >>> j) % 2 = 1 := by omega
  rcases this with h | h <;> rw [h] <;> rfl
theorem bit_eq (i j : Nat) : (bit i).testBit j = decide (i = j) := by
  have : bit i = 2 ^ i := by show 1 <<< i = 2 ^ i; rw [Nat.one_shiftLeft]
  rw [this, Nat.testBit_two_pow]
theorem lor_bit (D i j : Nat) : (Nat.lor D (bit i)).testBit j = (D.testBit j || decide (i = j)) := by
  show (D ||| bit i).testBit j = _
  rw [Nat.testBit_or, bit_eq]
theorem sub_spec {a b : Nat} (h : sub a b = true) {j : Nat} (hj : a.testBit j = true) : b.testBit j = true := by
  have h1 : a ||| b = b := Nat.eq_of_beq_eq_true h
  rw [← h1, Nat.testBit_or, hj]; rfl
theorem any_beq {l : List Nat} {t : Nat} : (l.any (Nat.beq t)) = true ↔ t ∈ l := by
  rw [List.any_eq_true]
  constructor
  · rintro ⟨x, hx, h⟩; rw [Nat.eq_of_beq_eq_true h]; exact hx
  · intro h; exact ⟨t, h, Nat.beq_refl t⟩

/-! ### rows -/
theorem rowsGo_len : ∀ (l : List Oper) (i : Nat) (ms : List Nat), (rowsGo l i ms).length = l.length
  | [], _, _ => rfl
  | o :: r, i, ms => by simp only [rowsGo, forceN_eq, List.length_cons, rowsGo_len r]
theorem rowsGo_get : ∀ (l : List Oper) (i : Nat) (ms : List Nat) (k : Nat) (r : Row), (rowsGo l i ms)[k]? = some r → r.i = i + k ∧ l[k]? = some r.o
  | [], _, _, k, r, h => by simp [rowsGo] at h
  | o :: l, i, ms, 0, r, h => by
    simp only [rowsGo, forceN_eq, List.getElem?_cons_zero, Option.some.injEq] at h
    subst h
    exact ⟨rfl, rfl⟩
  | o :: l, i, ms, k + 1, r, h => by
    simp only [rowsGo, forceN_eq, List.getElem?_cons_succ] at h
    obtain ⟨h1, h2⟩ := rowsGo_get l _ _ k r h
    exact ⟨by rw [h1]; omega, by simpa using h2⟩
theorem lates_get (all : List Row) : ∀ (rs : List Row) (k : Nat), ((lates all rs)[k]?).map (fun r => (r.i, r.o)) = (rs[k]?).map (fun r => (r.i, r.o))
  | [], k => by simp [lates]
  | r :: rs, 0 => by simp only [lates, List.getElem?_cons_zero, Option.map_some]; split <;> rfl
  | r :: rs, k + 1 => by simp only [lates, List.getElem?_cons_succ]; exact lates_get all rs k
theorem deps_get (all : List Row) : ∀ (rs : List Row) (k : Nat), ((deps all rs)[k]?).map (fun r => (r.i, r.o)) = (rs[k]?).map (fun r => (r.i, r.o))
  | [], k => by simp [deps]
  | r :: rs, 0 => by simp only [deps, List.getElem?_cons_zero, Option.map_some]; split <;> rfl
  | r :: rs, k + 1 => by simp only [deps, List.getElem?_cons_succ]; exact deps_get all rs k
theorem effs_get (all : List Row) : ∀ (rs : List Row) (k : Nat), ((effs all rs)[k]?).map (fun r => (r.i, r.o)) = (rs[k]?).map (fun r => (r.i, r.o))
  | [], k => by simp [effs]
  | r :: rs, 0 => by simp only [effs, List.getElem?_cons_zero, Option.map_some]; split <;> rfl
  | r :: rs, k + 1 => by simp only [effs, List.getElem?_cons_succ]; exact effs_get all rs k
theorem effs_len (all : List Row) : ∀ (rs : List Row), (effs all rs).length = rs.length
  | [] => rfl
  | r :: rs => by simp only [effs, List.length_cons, effs_len all rs]
theorem lates_len (all : List Row) : ∀ (rs : List Row), (lates all rs).length = rs.length
  | [] => rfl
  | r :: rs => by simp only [lates, List.length_cons, lates_len all rs]
theorem deps_len (all : List Row) : ∀ (rs : List Row), (deps all rs).length = rs.length
  | [] => rfl
  | r :: rs => by simp only [deps, List.length_cons, deps_len all rs]
theorem rows_len (ops : List Oper) : (rowsOf ops).length = ops.length := by
  show (deps _ (lates _ (effs _ (rowsGo ops 0 [])))).length = _
  rw [deps_len, lates_len, effs_len, rowsGo_len]
theorem rows_get {ops : List Oper} {k : Nat} {r : Row} (h : (rowsOf ops)[k]? = some r) : r.i = k ∧ ops[k]? = some r.o := by
  have h1 := deps_get (lates (effs (rowsGo ops 0 []) (rowsGo ops 0 [])) (effs (rowsGo ops 0 []) (rowsGo ops 0 []))) (lates (effs (rowsGo ops 0 []) (rowsGo ops 0 [])) (effs (rowsGo ops 0 []) (rowsGo ops 0 []))) k
  rw [lates_get, effs_get] at h1
  have h2 : ((rowsOf ops)[k]?).map (fun r => (r.i, r.o)) = ((rowsGo ops 0 [])[k]?).map (fun r => (r.i, r.o)) := h1
  rw [h, Option.map_some] at h2
  cases hq : (rowsGo ops 0 [])[k]? with
  | none => rw [hq] at h2; cases h2
  | some q =>
    rw [hq, Option.map_some, Option.some.injEq, Prod.mk.injEq] at h2
    obtain ⟨g1, g2⟩ := rowsGo_get ops 0 [] k q hq
    rw [h2.1, h2.2]
    exact ⟨by omega, g2⟩

/-- a region whose plan has passed the check -/
structure Planned (P : Program) (ops : Array Oper) (rs : List Row) : Prop where
  len : rs.length = ops.size
  get : ∀ (k : Nat) (r : Row), rs[k]? = some r → r.i = k ∧ ops[k]? = some r.o
  ok : ∀ (k : Nat) (r : Row), rs[k]? = some r → rowOk P ops.toList rs r = true
section
variable {P : Program} {ops : Array Oper} {rs : List Row}
theorem Planned.ex (g : Planned P ops rs) {k : Nat} {o : Oper} (h : ops[k]? = some o) : ∃ r, rs[k]? = some r ∧ r.o = o := by
  have hlt : k < ops.size := (Array.getElem?_eq_some_iff.1 h).1
  have hlt2 : k < rs.length := by rw [g.len]; exact hlt
  have : rs[k]? = some rs[k] := List.getElem?_eq_getElem hlt2
  refine ⟨_, this, ?_⟩
  have := (g.get _ _ this).2
  rw [h] at this
  exact (Option.some.inj this).symm
theorem Planned.parts (g : Planned P ops rs) {k : Nat} {r : Row} (h : rs[k]? = some r) : kindFine P r = true ∧ selfOk ops.toList r = true ∧ r.mask = maskOf rs (edges r.o) ∧ (∀ j ∈ edges r.o, j < k) ∧ ∀ (m : Nat) (q : Row), rs[m]? = some q → pairOk ops.toList r q = true := by
  have h1 := g.ok k r h
  simp only [rowOk, Bool.and_eq_true] at h1
  obtain ⟨⟨⟨⟨a1, a2⟩, a3⟩, a4⟩, a5⟩ := h1
  refine ⟨a1, a2, Nat.eq_of_beq_eq_true a3, fun j hj => ?_, fun m q hq => List.all_eq_true.1 a5 q (List.mem_of_getElem? hq)⟩
  have := Nat.le_of_ble_eq_true (List.all_eq_true.1 a4 j hj)
  rw [(g.get _ _ h).1] at this
  omega
theorem maskOf_bit {rs : List Row} (m : Nat) : ∀ {l : List Nat}, (∀ j ∈ l, j < rs.length) → ((maskOf rs l).testBit m = true ↔ ∃ j ∈ l, m = j ∨ ∃ q, rs[j]? = some q ∧ q.mask.testBit m = true)
  | [], _ => by simp [maskOf]
  | j :: r, h => by
    have hj : rs[j]? = some (rs[j]'(h j List.mem_cons_self)) := List.getElem?_eq_getElem (h j List.mem_cons_self)
    have ih := maskOf_bit m (l := r) fun x hx => h x (List.mem_cons_of_mem _ hx)
    have e : maskOf rs (j :: r) = (bit j ||| (rs[j]'(h j List.mem_cons_self)).mask) ||| maskOf rs r := by
      simp only [maskOf, nthL_eq, hj]; rfl
    rw [e, Nat.testBit_or, Nat.testBit_or, bit_eq, Bool.or_eq_true, Bool.or_eq_true, ih]
    constructor
    · rintro ((h1 | h1) | ⟨x, hx, h1⟩)
      · exact ⟨j, List.mem_cons_self, .inl (of_decide_eq_true h1).symm⟩
      · exact ⟨j, List.mem_cons_self, .inr ⟨_, hj, h1⟩⟩
      · exact ⟨x, List.mem_cons_of_mem _ hx, h1⟩
    · rintro ⟨x, hx, h1⟩
      cases hx with
      | head =>
        rcases h1 with h1 | ⟨q, hq, h1⟩
        · exact .inl (.inl (decide_eq_true h1.symm))
        · rw [hj] at hq; cases hq; exact .inl (.inr h1)
      | tail _ hx => exact .inr ⟨x, hx, h1⟩
theorem Planned.mask (g : Planned P ops rs) {k : Nat} {r : Row} (h : rs[k]? = some r) (m : Nat) : r.mask.testBit m = true ↔ ∃ j ∈ edges r.o, m = j ∨ ∃ q, rs[j]? = some q ∧ q.mask.testBit m = true := by
  obtain ⟨_, _, h3, h4, _⟩ := g.parts h
  rw [h3]
  refine maskOf_bit m fun j hj => ?_
  have := h4 j hj
  have hk : k < rs.length := (List.getElem?_eq_some_iff.1 h).1
  omega
theorem Planned.edge (g : Planned P ops rs) {k j : Nat} {r : Row} (h : rs[k]? = some r) (hj : j ∈ edges r.o) : r.mask.testBit j = true := (g.mask h j).2 ⟨j, hj, .inl rfl⟩
/-- who writes what another looks at -/
theorem Planned.reads (g : Planned P ops rs) {k m : Nat} {r q : Row} (hr : rs[k]? = some r) (hq : rs[m]? = some q) (hne : m ≠ k) {t : Nat} (hd : q.o.dst = some t) (ht : t ∈ readsOf ops.toList r.o) :
    m ∈ edges r.o ∨ (isEff q.kind = true ∧ (r.mask.testBit m = true ∨ q.mask.testBit k = true)) := by
  have h1 := (g.parts hq).2.2.2.2 k r hr
  have e1 := (g.get _ _ hr).1
  have e2 := (g.get _ _ hq).1
  unfold pairOk at h1
  split at h1
  · rename_i hb
    have := Nat.eq_of_beq_eq_true hb
    omega
  · rw [hd] at h1
    simp only [any_beq.2 ht, Bool.and_eq_true] at h1
    have h1 := h1.1
    rw [Bool.or_eq_true, any_beq, Bool.and_eq_true, Bool.or_eq_true, has_eq, has_eq, e1, e2] at h1
    exact h1
theorem Planned.dsts (g : Planned P ops rs) {k m : Nat} {r q : Row} (hr : rs[k]? = some r) (hq : rs[m]? = some q) (hne : m ≠ k) {t : Nat} (hd : q.o.dst = some t) (ht : r.o.dst = some t) : isEff q.kind = true ∧ isEff r.kind = true := by
  have h1 := (g.parts hq).2.2.2.2 k r hr
  have e1 := (g.get _ _ hr).1
  have e2 := (g.get _ _ hq).1
  unfold pairOk at h1
  split at h1
  · rename_i hb
    have := Nat.eq_of_beq_eq_true hb
    omega
  · rw [hd, ht] at h1
    simp only [Bool.and_eq_true] at h1
    have h1 := h1.2
    rw [Bool.or_eq_true, Bool.not_eq_true'] at h1
    rcases h1 with h1 | h1
    · exact absurd rfl (Nat.ne_of_beq_eq_false h1)
    · simpa using h1
theorem Planned.self (g : Planned P ops rs) {k : Nat} {r : Row} (hr : rs[k]? = some r) (hk : isEff r.kind = false) {t : Nat} (hd : r.o.dst = some t) : t ∉ readsOf ops.toList r.o := by
  have h1 := (g.parts hr).2.1
  unfold selfOk at h1
  rw [hk, hd, Bool.false_or, Bool.not_eq_true'] at h1
  intro h
  rw [any_beq.2 h] at h1
  cases h1
end

/-! ### what an operation looks at -/
def Agr (ops : Array Oper) (o : Oper) (a b : Act) : Prop := ∀ t ∈ readsOf ops.toList o, a.tmps[t]? = b.tmps[t]?
theorem Agr.symm {ops : Array Oper} {o : Oper} {a b : Act} (h : Agr ops o a b) : Agr ops o b a := fun t ht => (h t ht).symm
theorem Agr.exec {ops : Array Oper} {o : Oper} {a b : Act} (h : Agr ops o a b) (hs : opSelect o.op = false) : execOp a.eval o = execOp b.eval o := by
  refine execOp_congr o (fun cs bl e => by rw [e] at hs; cases hs) fun x hx => ?_
  cases x with
  | tmp t =>
    have := h t (List.mem_append_right _ (List.mem_filterMap.2 ⟨.tmp t, by simpa using hx, rfl⟩))
    simp only [Act.eval, Array.getD_eq_getD_getElem?, this]
  | _ => rfl
theorem Agr.wanted {ops : Array Oper} {o : Oper} {a b : Act} (h : Agr ops o a b) : Region.wanted o (yielded ops a.tmps) = Region.wanted o (yielded ops b.tmps) := by
  unfold Region.wanted
  cases hg : o.guard with
  | none => rfl
  | some gw =>
    obtain ⟨g, want⟩ := gw
    have hy : yielded ops a.tmps g = yielded ops b.tmps g := by
      unfold yielded
      cases ht : (ops[g]?).bind (·.dst) with
      | none => rfl
      | some t =>
        have : t ∈ readsOf ops.toList o := by
          refine List.mem_append_left _ ?_
          unfold guardReads
          rw [hg]
          simp only [nthL_eq]
          cases hq : ops[g]? with
          | none => rw [hq] at ht; cases ht
          | some q =>
            have hq' : ops.toList[g]? = some q := by simpa using hq
            rw [hq] at ht
            have ht : q.dst = some t := ht
            rw [hq']
            simp [ht]
        have := h t this
        simp only [Option.bind_some, this]
    simp only [hy]
def YieldsAt (P : Program) (ops : Array Oper) (o : Oper) (a : Act) (w : World) (x : Value) : Prop :=
  (Region.wanted o (yielded ops a.tmps) = true ∧ (execOp a.eval o).run P w = .ok (.value x) w) ∨ (Region.wanted o (yielded ops a.tmps) = false ∧ x = undef)
theorem YieldsAt.agr {P : Program} {ops : Array Oper} {o : Oper} {a b : Act} {w : World} {x : Value} (h : YieldsAt P ops o a w x) (ag : Agr ops o a b) (hs : opSelect o.op = false) : YieldsAt P ops o b w x := by
  unfold YieldsAt at *
  rw [← ag.exec hs, ← ag.wanted]
  exact h
theorem tmps_put {a : Act} {d t : Nat} {x : Value} (h : d ≠ t) : (a.put (some d) x).tmps[t]? = a.tmps[t]? := by
  simp [Act.put, Array.getElem?_setIfInBounds_ne h]
theorem tmps_put_ne {a : Act} {d : Option Nat} {t : Nat} {x : Value} (h : d ≠ some t) : (a.put d x).tmps[t]? = a.tmps[t]? := by
  cases d with
  | none => rfl
  | some d => exact tmps_put fun e => h (by rw [e])
theorem tmps_put_eq {a : Act} {t : Nat} {x : Value} (h : t < a.tmps.size) : (a.put (some t) x).tmps[t]? = some x := by
  simp [Act.put, h]
theorem size_put (a : Act) (d : Option Nat) (x : Value) : (a.put d x).tmps.size = a.tmps.size := by cases d <;> simp [Act.put]
theorem defers_put (a : Act) (d : Option Nat) (x : Value) : (a.put d x).defers = a.defers := by cases d <;> rfl
theorem agr_put {ops : Array Oper} {o : Oper} {a : Act} {d : Option Nat} {x : Value} (h : ∀ t, d = some t → t ∉ readsOf ops.toList o) : Agr ops o (a.put d x) a := fun t ht => tmps_put_ne fun e => h t e ht

/-! ### worlds that grow -/
theorem relH_ext {w0 : Base} {ρ : Rho} {h : H} {w w' : World} (r : RelH w0 ρ h w) (e : Ext w w') : RelH w0 ρ h w' := fun ρ' hl =>
  let r0 := r ρ' hl
  ⟨r0.ext.trans e, r0.fn, r0.top, fun b hb => by
    obtain ⟨h1, h2, h3, obj, h4, h5⟩ := r0.hp b hb
    exact ⟨h1, Nat.lt_of_lt_of_le h2 e.size, h3, obj, by rw [e.old _ h2]; exact h4, h5⟩, r0.inj, r0.bd, r0.pc, r0.anc⟩
theorem Sup.to {w0 : Base} {ρ : Rho} {h h1 : H} {w w' : World} (s : Sup w0 ρ h h1 w) (r : RelH w0 ρ h w') : Sup w0 ρ h h1 w' := by
  refine ⟨s.le, s.gr, fun ρ' hl => ?_, s.get⟩
  have r0 := r ρ' ((s.le _ _).1 hl)
  have s0 := s.rel ρ' hl
  exact ⟨r0.ext, r0.fn, s0.top, fun b hb => by
    rw [s.get] at hb ⊢
    obtain ⟨g1, g2⟩ := r0.hp b hb
    exact ⟨Nat.lt_of_lt_of_le g1 s.gr.1, g2⟩, fun b c hb hc => by rw [s.get] at hb hc; exact r0.inj b c hb hc, s0.bd, s0.pc, s0.anc⟩
theorem relH_reveal {w0 : Base} {w : World} {ρ ρ1 : Rho} {h : H} (r : RelH w0 ρ h w) (o : O) (obj : Obj) {B : Nat} (hn : h.nb ≤ 65000) (hl : Le h ρ ρ1) (hb : ρ1.blk h.nb = B) (hB : B < w.heap.size) (hlo : w0.w.heap.size ≤ B)
    (hobj : w.heap[B]? = some obj) (hun : ∀ b, known (h.get b) → ρ.blk b ≠ B) (hc : ∀ ρ', Le (h.add o) ρ1 ρ' → o.is ρ' h.nb obj) : RelH w0 ρ1 (h.add o) w := by
  intro ρ' hle
  have hle0 : Le h ρ ρ' := hl.trans (gr_add h o) hle
  have hb' : ρ'.blk h.nb = B := (hle.blk h.nb (Nat.lt_succ_self _)).trans hb
  have h0 := r ρ' hle0
  have hr := r.to
  have ne : ∀ b, known (h.get b) → ρ'.blk b ≠ B := fun b hk => by
    have hb := (hr.hp b hk).1
    rw [hle0.blk b hb]; exact hun b hk
  refine ⟨h0.ext, h0.fn, by show h.nb + 1 ≤ _; omega, ?_, ?_, h0.bd, h0.pc, h0.anc.1, h0.anc.2.trans (gr_add h o)⟩
  · intro b hk
    rw [H.get_add h o hn] at hk ⊢
    split at hk
    · rename_i e
      subst e
      rw [if_pos rfl]
      exact ⟨Nat.lt_succ_self _, by omega, fun _ => by omega, obj, by rw [hb']; exact hobj, hc ρ' hle⟩
    · rename_i e
      rw [if_neg e]
      obtain ⟨h1, h2⟩ := h0.hp b hk
      exact ⟨Nat.lt_succ_of_lt h1, h2⟩
  · intro b c kb kc e
    rw [H.get_add h o hn] at kb kc
    split at kb
    · rename_i eb
      split at kc
      · rename_i ec; omega
      · exact absurd (by rw [← e, eb, hb']) (ne c kc)
    · split at kc
      · rename_i ec; exact absurd (by rw [e, ec, hb']) (ne b kb)
      · exact h0.inj b c kb kc e
theorem fra_reveal {w0 : Base} {hs h : H} {ρs ρ ρ1 : Rho} {ws w : World} {B : Nat} (r : RelH w0 ρ h w) (f : Fra hs ρs ws h ρ w) (o : O) (hn : h.nb ≤ 65000) (hl : Le h ρ ρ1) (hb : ρ1.blk h.nb = B) (hlo : ws.heap.size ≤ B) : Fra hs ρs ws (h.add o) ρ1 w := by
  refine ⟨f.size, f.old, fun b hb' => ?_, fun b hb' => ?_⟩
  · rw [H.get_add h o hn] at hb'
    split at hb'
    · rename_i e; subst e; exact .inr (by omega)
    · rw [hl.blk b (r.to.hp b (own_known hb')).1]
      exact f.new b hb'
  · rw [H.get_add h o hn] at hb'
    split at hb'
    · rename_i e; subst e; exact .inr (by omega)
    · rw [hl.blk b (r.to.hp b hb').1]
      exact f.kn b hb'
theorem fra_alloc {hs h : H} {ρs ρ : Rho} {ws w : World} (f : Fra hs ρs ws h ρ w) (obj : Obj) : Fra hs ρs ws h ρ (w.alloc obj) :=
  ⟨by rw [alloc_size]; exact Nat.le_succ_of_le f.size, fun i hi hn => by rw [heap_alloc_old w obj (Nat.lt_of_lt_of_le hi f.size)]; exact f.old i hi hn, f.new, f.kn⟩
theorem fra_to {w0 : Base} {hs h h' : H} {ρs ρ : Rho} {ws w : World} (f : Fra hs ρs ws h ρ w) (s : Sup w0 ρ h h' w) : Fra hs ρs ws h' ρ w :=
  ⟨f.size, f.old, fun b hb => f.new b (by rw [s.get] at hb; exact hb), fun b hb => f.kn b (by rw [s.get] at hb; exact hb)⟩

/-! ### what is reckoned -/
def SoundC (P : Program) (n : Nat) : Prop := ∀ o : Oper, isCalm (kindOf o) = true → PO.Calm P n o (dOper P n o)
theorem solo_ok {P : Program} {n : Nat} {o : Oper} {p : PO} (hp : PO.Calm P n o p) {w0 : Base} {cx : Cx} (hcx : CxOk P w0 cx) {k : V → H → Res} {F : Fr} {h : H} {l : List (V × H)} (hr : soloO p cx F h k = some l) {ρ : Rho} {a : Act} {w : World}
    (rh : RelH w0 ρ h w) (rf : RelF n ρ F h a) : ∃ v h' x, k v h' = some l ∧ Sup w0 ρ h h' w ∧ Den h' ρ v x ∧ ∀ w', RelH w0 ρ h w' → (execOp a.eval o).run P w' = .ok (.value x) w' := by
  unfold soloO at hr
  split at hr
  · rename_i l0 hl0
    split at hr
    · rename_i x0
      have key : ∀ w', RelH w0 ρ h w' → (execOp a.eval o).run P w' = .ok (.value (x0.1.den ρ)) w' ∧ Sup w0 ρ h x0.2 w' ∧ Den x0.2 ρ x0.1 (x0.1.den ρ) := by
        intro w' rw'
        obtain ⟨x, v, h', l', e1, e2, e3, e4, e5⟩ := hp w0 cx hcx _ F h _ hl0 ρ a w' rw' rf
        cases e2
        have := e3 (v, h') (List.mem_singleton.2 rfl)
        simp only [List.mem_singleton] at this
        subst this
        have hx := e5.to
        rw [hx]
        exact ⟨e1, e4, e5⟩
      obtain ⟨_, k2, k3⟩ := key w rh
      exact ⟨x0.1, x0.2, _, hr, k2, k3, fun w' rw' => (key w' rw').1⟩
    · cases hr
  · cases hr
theorem guardT_some {n : Nat} {ops : Array Oper} {g : Nat × Bool} {t : Nat} (ht : guardT n ops.toList g = some t) : ∃ o', ops[g.1]? = some o' ∧ o'.dst = some t ∧ t < n := by
  unfold guardT at ht
  split at ht
  · rename_i o' ho'
    rw [nthL_eq] at ho'
    split at ht
    · rename_i t' ht'
      split at ht
      · rename_i hb
        cases ht
        exact ⟨o', by simpa using ho', ht', by have := Nat.le_of_ble_eq_true hb; omega⟩
      · cases ht
    · cases ht
  · cases ht
/-- a test that an operation stands under, told -/
theorem guardR_ok {n : Nat} {ops : Array Oper} {o : Oper} {g : Nat × Bool} (hg : o.guard = some g) {t : Nat} (ht : guardT n ops.toList g = some t) {w0 : Base} {F : Fr} {h : H} {kt kf : H → Res} {l : List (V × H)}
    (hr : guardR F t g.2 h kt kf = some l) {ρ : Rho} {a : Act} {w : World} (rh : RelH w0 ρ h w) (rf : RelF n ρ F h a) :
    ∃ h' l', (∀ y ∈ l', y ∈ l) ∧ Sup w0 ρ h h' w ∧ ((Region.wanted o (yielded ops a.tmps) = true ∧ kt h' = some l') ∨ (Region.wanted o (yielded ops a.tmps) = false ∧ kf h' = some l')) := by
  obtain ⟨o', ho', hdst', htn⟩ := guardT_some ht
  obtain ⟨j, want⟩ := g
  simp only at ho' hr
  have hwant : Region.wanted o (yielded ops a.tmps) = (yielded ops a.tmps j == some want) := by simp [Region.wanted, hg]
  have hok : okOd n (.tmp t) = true := by simp only [okOd, ble_dec]; exact decide_eq_true (by omega)
  have dt := Den.od rf hok
  have htm := (rf.to).tm t htn
  have hF : ((od (.tmp t)).g F) = F.t.get t := rfl
  simp only [guardR] at hr
  split at hr
  · rename_i e he
    rw [he] at dt
    have hst := bool_stable dt
    have hy : yielded ops a.tmps j = some (e.den ρ.toEnv != 0) := by
      simp [yielded, ho', hdst', htm, ← hF, he, V.den]
    rw [hwant, hy]
    cases want with
    | true =>
      obtain ⟨h', l', g1, g2, g3⟩ := brE_ok rh hst hr
      refine ⟨h', l', g1, g2, ?_⟩
      cases hb : (e.den ρ.toEnv != 0)
      · rw [hb] at g3
        exact .inr ⟨rfl, by simpa using g3⟩
      · rw [hb] at g3
        exact .inl ⟨rfl, by simpa using g3⟩
    | false =>
      obtain ⟨h', l', g1, g2, g3⟩ := brE_ok rh hst hr
      refine ⟨h', l', g1, g2, ?_⟩
      cases hb : (e.den ρ.toEnv != 0)
      · rw [hb] at g3
        exact .inl ⟨rfl, by simpa using g3⟩
      · rw [hb] at g3
        exact .inr ⟨rfl, by simpa using g3⟩
  · rename_i he
    have hy : yielded ops a.tmps j = none := by
      simp [yielded, ho', hdst', htm, ← hF, he, V.den, V.denL]
    rw [hwant, hy]
    exact ⟨h, l, fun _ hy => hy, Sup.refl rh, .inr ⟨by cases want <;> rfl, hr⟩⟩
  · cases hr
theorem reckon_ok {P : Program} {n : Nat} {ops : Array Oper} {o : Oper} (hp : PO.Calm P n o (dOper P n o)) {w0 : Base} {cx : Cx} (hcx : CxOk P w0 cx) {k : V → H → Res} {F : Fr} {h : H} {l : List (V × H)}
    (hr : (reckon P n ops.toList o).run cx k F h = some l) {ρ : Rho} {a : Act} {w : World} (rh : RelH w0 ρ h w) (rf : RelF n ρ F h a) :
    okTmp n o.dst = true ∧ ∃ v h' x l', k v h' = some l' ∧ (∀ y ∈ l', y ∈ l) ∧ Sup w0 ρ h h' w ∧ Den h' ρ v x ∧ ∀ w', RelH w0 ρ h w' → YieldsAt P ops o a w' x := by
  unfold reckon at hr
  split at hr
  · cases hr
  · rename_i hd
    refine ⟨hd, ?_⟩
    dsimp only at hr
    split at hr
    · rename_i hg
      have hw : Region.wanted o (yielded ops a.tmps) = true := by simp [Region.wanted, hg]
      obtain ⟨v, h', x, e1, e2, e3, e4⟩ := solo_ok hp hcx hr rh rf
      exact ⟨v, h', x, l, e1, fun _ hy => hy, e2, e3, fun w' rw' => .inl ⟨hw, e4 w' rw'⟩⟩
    · rename_i g hg
      split at hr
      · rename_i t ht
        obtain ⟨h1, l1, g1, g2, g3⟩ := guardR_ok hg ht hr rh rf
        rcases g3 with ⟨g3, g4⟩ | ⟨g3, g4⟩
        · obtain ⟨v, h', x, e1, e2, e3, e4⟩ := solo_ok hp hcx g4 g2.rel (g2.relF rf)
          exact ⟨v, h', x, l1, e1, g1, g2.trans e2, e3, fun w' rw' => .inl ⟨g3, e4 w' (g2.to rw').rel⟩⟩
        · exact ⟨undefV, h1, undef, l1, g4, g1, g2, fun ρ' _ => den_undef ρ', fun w' _ => .inr ⟨g3, rfl⟩⟩
      · cases hr

/-! ### what comes late -/
def LateV (P : Program) (o : Oper) (ev : Operand → Value) (obj : Obj) (mk : Nat → Value) : Prop := ∀ w : World, (execOp ev o).run P w = .ok (.value (mk w.heap.size)) (w.alloc obj)
theorem LateV.same {P : Program} {o : Oper} {e1 e2 : Operand → Value} {obj obj' : Obj} {mk mk' : Nat → Value} (h1 : LateV P o e1 obj mk) (h2 : LateV P o e2 obj' mk') (he : execOp e1 o = execOp e2 o) (w : World) : obj = obj' ∧ ∀ B, mk B = mk' B := by
  have key : ∀ w : World, obj = obj' ∧ mk w.heap.size = mk' w.heap.size := fun w => by
    have g1 := h1 w
    rw [he, h2 w] at g1
    injection g1 with g1 g2
    injection g1 with g1
    have := World.alloc_heap_new w obj
    rw [← g2, World.alloc_heap_new] at this
    exact ⟨(Option.some.inj this).symm, g1.symm⟩
  refine ⟨(key w).1, fun B => ?_⟩
  have := (key { w with heap := Array.replicate B obj }).2
  simpa using this
theorem alloc_late {P : Program} {n : Nat} {o : Oper} {e : TypeId} (ho : o.op = .alloc e) (hf : operFine P n o = true) (ρ : Rho) (ev : Operand → Value) : ∃ obj mk, LateV P o ev obj mk := by
  simp only [operFine, ho, Bool.and_eq_true] at hf
  have hf := hf.2
  split at hf
  · rename_i z hz
    obtain ⟨v, hv, rfl, hraw⟩ := zerosT_some hz
    refine ⟨.cells (v.den ρ).cells e, fun B => .pointer (some ⟨B, 0, none⟩), fun w => ?_⟩
    simp only [execOp, ho, Sem.run_bind, Instr.alloc, run_zeroT ρ w hv, Result.andThen_ok]
    simp [newVar, newRow, newObj, Sem.run]
  · cases hf
theorem stepO_late {P : Program} {n : Nat} {rd : Bool} {l : List Oper} {o : Oper} (hf : lateFine o = true) {cx : Cx} {k : Fr → H → Res} {F : Fr} {h : H} {r : List (V × H)} (hr : (stepO P n rd l o).run cx k F h = some r) :
    (dOper P n o).run cx (fun v h => k ((wd o.dst).s v F) h) F h = some r ∧ o.guard = none ∧ (∃ t, o.dst = some t ∧ okTmp n (some t) = true) := by
  unfold lateFine at hf
  have hsome : o.guard = none ∧ ∃ t, o.dst = some t := by
    split at hf
    · rename_i _ t h1 h2 h3; exact ⟨h2, t, h3⟩
    · rename_i _ _ _ t h1 h2 h3; exact ⟨h2, t, h3⟩
    · cases hf
  obtain ⟨hg, t, ht⟩ := hsome
  have hnd : ∀ c, o.op ≠ .defer c := by
    intro c hc
    rw [hc] at hf
    cases hf
  unfold stepO at hr
  split at hr
  · rename_i c hc; exact absurd hc (hnd c)
  · split at hr
    · cases hr
    · rename_i hd
      have hF : dOperF P n o = dOper P n o := by
        have : isAnd o = false := by
          unfold isAnd
          split at hf <;> first | (cases hf; done) | (rename_i h1 _ _; rw [h1]) | (rename_i h1 _ _ _; rw [h1])
        unfold dOperF
        rw [this]
      rw [hF] at hr
      dsimp only at hr
      rw [hg] at hr
      exact ⟨hr, hg, t, ht, by rw [← ht]; exact hd⟩
theorem late_tell {P : Program} {n : Nat} {o : Oper} (hf : lateFine o = true) {w0 : Base} {cx : Cx} {k : KV} {F : Fr} {h : H} {l : List (V × H)} (hr : (dOper P n o).run cx k F h = some l) {ρ : Rho} {a : Act} {w : World} (rh : RelH w0 ρ h w) (rf : RelF n ρ F h a) :
    ∃ ob v obj mk, h.nb ≤ 65000 ∧ k v (h.add ob) = some l ∧ LateV P o a.eval obj mk ∧ (∀ ρ' B, Le h ρ ρ' → ρ'.blk h.nb = B → ob.is ρ' h.nb obj ∧ v.den ρ' = mk B) ∧ (isAlloc o = false → ∃ len, ∀ B, mk B = .slice (some ⟨B, 0, none⟩) len len) ∧ ∃ c t, obj = .cells c t := by
  unfold dOper at hr
  split at hr
  · rename_i hok
    simp only [Bool.and_eq_true] at hok
    unfold lateFine at hf
    split at hf
    · rename_i e t ho hg hd
      rw [ho] at hr
      have hr : (dAlloc P e).run cx k F h = some l := hr
      unfold dAlloc at hr
      split at hr
      · rename_i z hz
        obtain ⟨v, hv, rfl, hraw⟩ := zerosT_some hz
        have hcell : ∀ ρ', Le h ρ ρ' → (V.denL ρ' v.cells).toArray = (v.den ρ).cells := fun ρ' hl => by
          rw [← den_cells _ _ hraw]
          have e1 := run_zeroT (P := P) ρ w hv
          have e2 := run_zeroT (P := P) ρ' w hv
          rw [e1] at e2
          injection e2 with e2
          rw [e2]
        have hr : h.new (.row false e none v.cells) (fun b h => k (.ptr b (lit 0)) h) = some l := hr
        obtain ⟨hn, hk⟩ := H.new_eq hr
        refine ⟨.row false e none v.cells, .ptr h.nb (lit 0), .cells (v.den ρ).cells e, fun B => .pointer (some ⟨B, 0, none⟩), hn, hk, fun w => ?_, fun ρ' B hl hB => ⟨⟨[], by rw [← hcell ρ' hl]; simp, rfl⟩, by simp [V.den, lit, E.den, hB]⟩, fun hna => by simp [isAlloc, ho] at hna, _, _, rfl⟩
        simp only [execOp, ho, Sem.run_bind, Instr.alloc, run_zeroT ρ w hv, Result.andThen_ok]
        simp [newVar, newRow, newObj, Sem.run]
      · cases hr
    · rename_i tt len ps t ho hg hd
      rw [ho] at hr hok
      have hok : (ps.toList.map (·.2)).all (okOd n) = true := by
        have := hok.2
        simpa [Op.operands] using this
      have hr : (dBuildSlice P tt len ps.toList).run cx k F h = some l := hr
      unfold dBuildSlice at hr
      split at hr
      · rename_i e hu
        split at hr
        · rename_i z size hz
          split at hr
          · rename_i fl hl hsm
            have hsm := Nat.le_of_ble_eq_true hsm
            obtain ⟨v, ie, hv, rfl, hraw, hie, rfl, hlen, hpos⟩ := zerosN_some hz
            dsimp only at hr
            split at hr
            · rename_i vs hvs
              have hrun : ∀ w ρ', Le h ρ ρ' → (Instr.buildSlice tt len (ps.map fun (i, x) => (i, a.eval x))).run P w = .ok (.slice (some ⟨w.heap.size, 0, none⟩) len len) (w.alloc (.cells (V.denL ρ' vs).toArray e)) := by
                intro w ρ' hle
                obtain ⟨i, hi, hzi⟩ := zeroT_some ρ' hv
                rw [hie] at hi
                cases hi
                have hf := run_fill ρ' (rf ρ' hle) hl hok hvs
                have hps : (ps.map fun (i, x) => (i, a.eval x)).toList = ps.toList.map fun p => (p.1, a.eval p.2) := by simp
                by_cases h0 : len * ie.size = 0
                · have hl0 : len = 0 := by
                    rcases Nat.mul_eq_zero.1 h0 with h | h
                    · exact h
                    · omega
                  subst hl0
                  simp only [repL, V.denL] at hf
                  simp [Instr.buildSlice, run_underlying hu, sizeOf, typeInfo, hie, newRow]
                  rw [show (Array.map (fun _ => default) (Array.range 0) : Array Value) = #[] by simp, hf]
                  simp [newObj, Sem.run]
                · refine run_buildSlice w tt e len _ _ ie _ hu hie hzi (by omega) h0 ?_
                  rw [hps, den_cells _ _ hraw]
                  have := repL_den ρ' v.cells len (by omega)
                  rw [hlen] at this
                  rw [this]
                  exact hf
              have hr : h.new (.row false e none vs) (fun b h => k (.sl b (lit 0) (lit len) (lit len)) h) = some l := hr
              have hcell : ∀ ρ', Le h ρ ρ' → V.denL ρ' vs = V.denL ρ vs := fun ρ' hl => by
                have h0 := hrun w ρ (Le.refl _ _)
                have h1 := hrun w ρ' hl
                rw [h0] at h1
                injection h1 with _ h1
                have := World.alloc_heap_new w (.cells (V.denL ρ vs).toArray e)
                rw [h1, World.alloc_heap_new] at this
                injection this with this
                injection this with this
                exact (congrArg Array.toList this)
              obtain ⟨hn, hk⟩ := H.new_eq hr
              refine ⟨.row false e none vs, .sl h.nb (lit 0) (lit len) (lit len), .cells (V.denL ρ vs).toArray e, fun B => .slice (some ⟨B, 0, none⟩) len len, hn, hk, fun w => ?_, fun ρ' B hl hB => ⟨⟨[], by rw [hcell ρ' hl]; simp, rfl⟩, by simp [V.den, lit, E.den, hB]⟩, fun _ => ⟨len, fun _ => rfl⟩, _, _, rfl⟩
              simp only [execOp, ho, Sem.run_bind, hrun w ρ (Le.refl _ _), Result.andThen_ok, Sem.run_pure]
            · cases hr
          · cases hr
        · cases hr
      · cases hr
    · cases hf
  · cases hr

end Go.Gx

/- Regions that draw: what holds between the plan and an order of evaluation, kept at every step. -/
namespace Go.Gx
open Go Go.Sx

/-! ### what was carried out -/
theorem mem_edges {o : Oper} {j : Nat} : j ∈ edges o ↔ ∃ e ∈ o.after, Region.binds .any e = true ∧ e.on = j := by
  simp only [edges, List.mem_map, List.mem_filter]
  constructor
  · rintro ⟨e, ⟨h1, h2⟩, h3⟩; exact ⟨e, by simpa using h1, h2, h3⟩
  · rintro ⟨e, h1, h2, h3⟩; exact ⟨e, ⟨by simpa using h1, h2⟩, h3⟩
def unl (l : Array Bool) : Nat := l.toList.countP (fun b => !b)
theorem unl_list : ∀ (l : List Bool) (j : Nat), l[j]? = some false → (l.set j true).countP (fun b => !b) + 1 = l.countP (fun b => !b)
  | [], j, h => by simp at h
  | b :: r, 0, h => by simp at h; subst h; simp
  | b :: r, j + 1, h => by
    have := unl_list r j (by simpa using h)
    cases b <;> simp [List.set] at this ⊢ <;> omega
theorem unl_set {l : Array Bool} {j : Nat} (h : l[j]? = some false) : unl (l.setIfInBounds j true) + 1 = unl l := by
  unfold unl
  rw [Array.toList_setIfInBounds]
  exact unl_list _ _ (by simpa using h)
theorem unl_none {l : Array Bool} (h : unl l = 0) {j : Nat} (hj : j < l.size) : l[j]? = some true := by
  have h1 : ∀ b ∈ l.toList, ¬ ((!b) = true) := List.countP_eq_zero.1 h
  have h2 : l[j]? = some l[j] := Array.getElem?_eq_getElem hj
  have := h1 l[j] (by simp)
  rw [h2]
  cases hb : l[j] with
  | true => rfl
  | false => rw [hb] at this; simp at this
theorem set_same {l : Array Bool} {j : Nat} (h : j < l.size) : (l.setIfInBounds j true)[j]? = some true := by simp [h]
theorem set_ne {l : Array Bool} {j m : Nat} (h : m ≠ j) : (l.setIfInBounds j true)[m]? = l[m]? := by simp [Array.getElem?_setIfInBounds_ne (Ne.symm h)]
theorem set_mono {l : Array Bool} {j m : Nat} (h : l[m]? = some true) : (l.setIfInBounds j true)[m]? = some true := by
  by_cases e : m = j
  · subst e; exact set_same (Array.getElem?_eq_some_iff.1 h).1
  · rw [set_ne e]; exact h
theorem ready_iff {ops : Array Oper} {l : Array Bool} {j : Nat} : j ∈ Region.ready .any ops l ↔ l[j]? = some false ∧ ∃ o, ops[j]? = some o ∧ ∀ e ∈ edges o, l[e]? = some true := by
  have g1 : ∀ j, l.getD j true = false ↔ l[j]? = some false := fun j => by
    rw [Array.getD_eq_getD_getElem?]
    cases l[j]? with
    | none => simp
    | some b => simp
  have g2 : ∀ j, l.getD j false = true ↔ l[j]? = some true := fun j => by
    rw [Array.getD_eq_getD_getElem?]
    cases l[j]? with
    | none => simp
    | some b => simp
  rw [mem_ready, g1]
  constructor
  · rintro ⟨h1, o, h2, h3⟩
    exact ⟨h1, o, h2, fun e he => by
      obtain ⟨x, hx, hb, rfl⟩ := mem_edges.1 he
      exact (g2 _).1 (h3 x hx hb)⟩
  · rintro ⟨h1, o, h2, h3⟩
    exact ⟨h1, o, h2, fun x hx hb => (g2 _).2 (h3 _ (mem_edges.2 ⟨x, hx, hb, rfl⟩))⟩
section
variable {F : Fence} {m : Nat} {P : Program} {ops : Array Oper} {rs : List Row} {Q : Exit → Act → World → Prop}
theorem wpAny_of (hg : Planned P ops rs) {fuel : Nat} {listed : Array Bool} {a : Act} {w : World} (lsz : listed.size = ops.size) (hc : unl listed ≤ fuel) (hn : (∀ j, j < ops.size → listed[j]? = some true) → Q .normal a w)
    (hst : ∀ f, fuel = f + 1 → ∀ (j : Nat) (o : Oper), ops[j]? = some o → listed[j]? = some false → (∀ e ∈ edges o, listed[e]? = some true) → wpOpIn F m P ops Q j (wpAnyIn F m P .any ops Q f (listed.setIfInBounds j true)) a w) :
    wpAnyIn F m P .any ops Q fuel listed a w := by
  have hall : Region.ready .any ops listed = [] → ∀ j, j < ops.size → listed[j]? = some true := by
    intro hr j
    induction j using Nat.strongRecOn with
    | _ j ih =>
      intro hj
      obtain ⟨o, ho⟩ : ∃ o, ops[j]? = some o := ⟨_, Array.getElem?_eq_getElem hj⟩
      have hb : listed[j]? = some listed[j] := Array.getElem?_eq_getElem (by omega)
      cases hv : listed[j]'(by omega) with
      | true => rw [hb, hv]
      | false =>
        rw [hv] at hb
        obtain ⟨r, hrr, rfl⟩ := hg.ex ho
        have : j ∈ Region.ready .any ops listed := ready_iff.2 ⟨hb, r.o, ho, fun e he => by
          have := (hg.parts hrr).2.2.2.1 e he
          exact ih e this (by omega)⟩
        rw [hr] at this
        cases this
  cases fuel with
  | zero =>
    have all : ∀ j, j < ops.size → listed[j]? = some true := fun j hj => unl_none (by omega) (by omega)
    refine ⟨List.eq_nil_iff_forall_not_mem.2 fun j hj => ?_, hn all⟩
    obtain ⟨h1, o, h2, _⟩ := ready_iff.1 hj
    have := all j (Array.getElem?_eq_some_iff.1 h2).1
    rw [h1] at this
    cases this
  | succ f => exact ⟨fun hr => hn (hall hr), fun j hj => by
      obtain ⟨h1, o, h2, h3⟩ := ready_iff.1 hj
      exact hst f rfl j o h2 h1 h3⟩
theorem no_defer {o : Oper} (h : opDefer o.op = false) : ∀ c, o.op ≠ .defer c := fun c hc => by rw [hc] at h; cases h
theorem wpOp_goes {fr : Option Nat} {j : Nat} {o : Oper} {a : Act} {w : World} {R : Value → World → Prop} {K : Act → World → Prop} (hi : ops[j]? = some o) (hd : opDefer o.op = false) (hw : Region.wanted o (yielded ops a.tmps) = true) (hgo : Goes P o a w R)
    (hk : ∀ x w', R x w' → K (a.put o.dst x) w') : wpOpIn (fen fr) 0 P ops Q j K a w := by
  unfold wpOpIn
  simp only [hi]
  rw [if_pos hw]
  exact goes_wp hgo (no_defer hd) hk
theorem wpOp_skip {fr : Option Nat} {j : Nat} {o : Oper} {a : Act} {w : World} {K : Act → World → Prop} (hi : ops[j]? = some o) (hw : Region.wanted o (yielded ops a.tmps) = false) (hk : K (a.put o.dst undef) w) : wpOpIn (fen fr) 0 P ops Q j K a w := by
  unfold wpOpIn
  simp only [hi]
  rw [if_neg (by rw [hw]; simp)]
  exact ⟨fun _ _ => trivial, hk⟩
theorem wpOp_yields {fr : Option Nat} {j : Nat} {o : Oper} {a : Act} {w : World} {x : Value} {K : Act → World → Prop} (hi : ops[j]? = some o) (hd : opDefer o.op = false) (hy : YieldsAt P ops o a w x) (hk : K (a.put o.dst x) w) : wpOpIn (fen fr) 0 P ops Q j K a w := by
  rcases hy with ⟨hw, he⟩ | ⟨hw, rfl⟩
  · exact wpOp_goes hi hd hw (goes_value (R := fun y w' => y = x ∧ w' = w) he ⟨rfl, rfl⟩) fun y w' h => by obtain ⟨rfl, rfl⟩ := h; exact hk
  · exact wpOp_skip hi hw hk
end

/-! ### what holds between the plan and an order -/
structure EarlyL (P : Program) (o : Oper) (ws w : World) (h : H) (ρ : Rho) (a : Act) (B : Nat) : Prop where
  ex : ∃ obj mk t, o.dst = some t ∧ a.tmps[t]? = some (mk B) ∧ w.heap[B]? = some obj ∧ LateV P o a.eval obj mk
  lt : B < w.heap.size
  lo : ws.heap.size ≤ B
  un : ∀ b, known (h.get b) → ρ.blk b ≠ B
def EarlyD (P : Program) (o : Oper) (w : World) (a : Act) (B : Nat) : Prop :=
  B < w.heap.size ∧ ∃ x t, o.dst = some t ∧ a.tmps[t]? = some x ∧ ∀ w' : World, w'.heap[B]? = w.heap[B]? → (execOp a.eval o).run P w' = .ok (.value x) w'
/-- D: told; listed: carried out; a: the frame as it is; a': the frame as it is told; Bl: where the early ones lie -/
structure Sim (P : Program) (n : Nat) (ops : Array Oper) (rs : List Row) (w0 : Base) (hs : H) (ρs : Rho) (ws : World) (D : Nat) (listed : Array Bool) (Bl : Nat → Nat) (F : Fr) (h : H) (ρ : Rho) (a a' : Act) (w : World) : Prop where
  rel : RelH w0 ρ h w
  frm : RelF n ρ F h a'
  le : Le hs ρs ρ
  gr : Gr hs h
  fra : Fra hs ρs ws h ρ w
  df : a.defers = a'.defers
  sz : a.tmps.size = n
  lsz : listed.size = ops.size
  agr : ∀ t, (∀ (j : Nat) (o : Oper), ops[j]? = some o → o.dst = some t → (D.testBit j = true ↔ listed[j]? = some true)) → a.tmps[t]? = a'.tmps[t]?
  cl : ∀ (j : Nat) (r : Row), rs[j]? = some r → listed[j]? = some true → ∀ e ∈ edges r.o, listed[e]? = some true
  tm : ∀ (j : Nat) (r : Row), rs[j]? = some r → D.testBit j = true → ∀ m, r.mask.testBit m = true → D.testBit m = true
  eff : ∀ (j : Nat) (r : Row), rs[j]? = some r → isEff r.kind = true → (D.testBit j = true ↔ listed[j]? = some true)
  late : ∀ (j : Nat) (r : Row), rs[j]? = some r → isLate r.kind = true → D.testBit j = true → listed[j]? = some true
  calm : ∀ (j : Nat) (r : Row), rs[j]? = some r → r.kind = .calm → listed[j]? = some true → D.testBit j = true
  held : ∀ (j : Nat) (r : Row), rs[j]? = some r → isCalm r.kind = true → D.testBit j = true → listed[j]? = some false → ∀ w', Ext w w' → ∃ x, YieldsAt P ops r.o a' w' x ∧ ∀ t, r.o.dst = some t → a'.tmps[t]? = some x
  early : ∀ (j : Nat) (r : Row), rs[j]? = some r → isLate r.kind = true → D.testBit j = false → listed[j]? = some true → EarlyL P r.o ws w h ρ a (Bl j)
  earlyD : ∀ (j : Nat) (r : Row), rs[j]? = some r → r.kind = .dep → D.testBit j = false → listed[j]? = some true → ∃ B, EarlyD P r.o w a B ∧ ∀ (j1 : Nat) (r1 : Row), rs[j1]? = some r1 → isLate r1.kind = true → isAlloc r1.o = false → D.testBit j1 = false → r.mask.testBit j1 = true → B = Bl j1
  inj : ∀ (j m : Nat) (r q : Row), rs[j]? = some r → rs[m]? = some q → isLate r.kind = true → isLate q.kind = true → D.testBit j = false → D.testBit m = false → listed[j]? = some true → listed[m]? = some true → Bl j = Bl m → j = m
section
variable {P : Program} {n : Nat} {ops : Array Oper} {rs : List Row} {w0 : Base} {hs h : H} {ρs ρ : Rho} {ws w : World} {D : Nat} {listed : Array Bool} {Bl : Nat → Nat} {F : Fr} {a a' : Act}
theorem mask_listed (hg : Planned P ops rs) (cl : ∀ (j : Nat) (r : Row), rs[j]? = some r → listed[j]? = some true → ∀ e ∈ edges r.o, listed[e]? = some true) : ∀ (j : Nat) (r : Row), rs[j]? = some r → (∀ e ∈ edges r.o, listed[e]? = some true) → ∀ m, r.mask.testBit m = true → listed[m]? = some true := by
  intro j
  induction j using Nat.strongRecOn with
  | _ j ih =>
    intro r hr he m hm
    obtain ⟨e, he1, hm1⟩ := (hg.mask hr m).1 hm
    rcases hm1 with rfl | ⟨q, hq, hm1⟩
    · exact he _ he1
    · exact ih e ((hg.parts hr).2.2.2.1 e he1) q hq (cl e q hq (he e he1)) m hm1
theorem not_eff {k : Kind} (h : isCalm k = true) : isEff k = false := by cases k <;> simp_all [isCalm, isEff]
theorem not_late {k : Kind} (h : isCalm k = true) : isLate k = false := by cases k <;> simp_all [isCalm, isLate]
theorem late_not {k : Kind} (h : isLate k = true) : isEff k = false ∧ isCalm k = false ∧ k ≠ .calm ∧ k ≠ .dep := by cases k <;> simp_all [isCalm, isLate, isEff]
theorem eff_not {k : Kind} (h : isEff k = true) : isLate k = false ∧ isCalm k = false ∧ k ≠ .calm ∧ k ≠ .dep := by cases k <;> simp_all [isCalm, isLate, isEff]
theorem other_calm {k : Kind} (h1 : isEff k = false) (h2 : isLate k = false) : isCalm k = true := by cases k <;> simp_all [isCalm, isLate, isEff]
theorem calm_of {k : Kind} (h1 : isCalm k = true) (h2 : k ≠ .dep) : k = .calm := by cases k <;> simp_all [isCalm]
theorem Sim.agree (hg : Planned P ops rs) (s : Sim P n ops rs w0 hs ρs ws D listed Bl F h ρ a a' w) {j : Nat} {r : Row} (hr : rs[j]? = some r) (hE : ∀ e ∈ edges r.o, D.testBit e = true ∧ listed[e]? = some true) : Agr ops r.o a a' := by
  intro t ht
  refine s.agr t fun m o ho hd => ?_
  obtain ⟨q, hq, rfl⟩ := hg.ex ho
  by_cases e : m = j
  · subst e
    rw [hr] at hq
    cases hq
    cases hk : isEff r.kind with
    | true => exact s.eff m r hr hk
    | false => exact absurd ht (hg.self hr hk hd)
  · rcases hg.reads hr hq e hd ht with h1 | ⟨h1, _⟩
    · exact ⟨fun _ => (hE m h1).2, fun _ => (hE m h1).1⟩
    · exact s.eff m q hq h1
theorem put_agree {d : Option Nat} {listed' : Array Bool} {D' i : Nat} (agr : ∀ t, (∀ (j : Nat) (o : Oper), ops[j]? = some o → o.dst = some t → (D.testBit j = true ↔ listed[j]? = some true)) → a.tmps[t]? = a'.tmps[t]?)
    (hD : ∀ m, m ≠ i → (D'.testBit m = true ↔ D.testBit m = true)) (hL : ∀ m, m ≠ i → listed'[m]? = listed[m]?) {oi : Oper} (hoi : ops[i]? = some oi) (hd : oi.dst = d) {t : Nat} (hne : d ≠ some t)
    (hc : ∀ (j : Nat) (o : Oper), ops[j]? = some o → o.dst = some t → (D'.testBit j = true ↔ listed'[j]? = some true)) : a.tmps[t]? = a'.tmps[t]? := by
  refine agr t fun j o ho hd' => ?_
  have hji : j ≠ i := fun e => by
    subst e
    rw [hoi] at ho
    cases ho
    exact hne (hd ▸ hd')
  rw [← hD j hji, ← hL j hji]
  exact hc j o ho hd'
theorem no_op (hfine : ∀ o ∈ ops, operFine P n o = true) {j : Nat} {o : Oper} (ho : ops[j]? = some o) : opDefer o.op = false ∧ opSelect o.op = false ∧ okTmp n o.dst = true := by
  have := hfine o (Array.mem_of_getElem? ho)
  simp only [operFine, Bool.and_eq_true] at this
  obtain ⟨⟨⟨h1, h2⟩, h3⟩, _⟩ := this
  exact ⟨by simpa using h1, by simpa using h2, h3⟩
theorem tmp_lt {n : Nat} {d : Option Nat} {t : Nat} (h : okTmp n d = true) (hd : d = some t) : t < n := by
  subst hd
  simp only [okTmp, ble_dec, decide_eq_true_eq] at h
  omega

/-- a held one is carried out -/
theorem sim_held (hg : Planned P ops rs) (hfine : ∀ o ∈ ops, operFine P n o = true) (s : Sim P n ops rs w0 hs ρs ws D listed Bl F h ρ a a' w) {j : Nat} {r : Row} (hr : rs[j]? = some r) (hD : D.testBit j = true) (hl : listed[j]? = some false)
    (he : ∀ e ∈ edges r.o, listed[e]? = some true) : ∃ x, YieldsAt P ops r.o a w x ∧ Sim P n ops rs w0 hs ρs ws D (listed.setIfInBounds j true) Bl F h ρ (a.put r.o.dst x) a' w := by
  have hro := (hg.get _ _ hr).2
  obtain ⟨_, hsel, hok⟩ := no_op hfine hro
  have hk : isCalm r.kind = true := by
    cases h1 : isEff r.kind with
    | true => have := (s.eff j r hr h1).1 hD; rw [hl] at this; cases this
    | false => cases h2 : isLate r.kind with
      | true => have := s.late j r hr h2 hD; rw [hl] at this; cases this
      | false => exact other_calm h1 h2
  have hne := not_eff hk
  obtain ⟨x, hy, hx⟩ := s.held j r hr hk hD hl w (Ext.refl w)
  have ag : Agr ops r.o a a' := s.agree hg hr fun e he' => ⟨s.tm j r hr hD e (hg.edge hr he'), he e he'⟩
  have jlt : j < listed.size := (Array.getElem?_eq_some_iff.1 hl).1
  refine ⟨x, hy.agr ag.symm hsel, ?_⟩
  have ne : ∀ m, D.testBit m = false → m ≠ j := fun m hm e => by rw [e, hD] at hm; cases hm
  have hex : ∀ (m : Nat) (q : Row), rs[m]? = some q → m ≠ j → listed[m]? = some true → Agr ops q.o (a.put r.o.dst x) a := fun m q hq hmj hlm => agr_put fun t hd ht => by
    rcases hg.reads hq hr (Ne.symm hmj) hd ht with h1 | ⟨h1, _⟩
    · have := s.cl m q hq hlm j h1
      rw [hl] at this; cases this
    · rw [hne] at h1; cases h1
  have hdst : ∀ (m : Nat) (q : Row) (t : Nat), rs[m]? = some q → m ≠ j → q.o.dst = some t → r.o.dst ≠ some t := fun m q t hq hmj hd hd2 => by
    have := (hg.dsts hq hr (Ne.symm hmj) hd2 hd).1
    rw [hne] at this; cases this
  refine ⟨s.rel, s.frm, s.le, s.gr, s.fra, by rw [defers_put]; exact s.df, by rw [size_put]; exact s.sz, by simpa using s.lsz, fun t hc => ?_, fun m q hq hlm e he' => ?_, s.tm, fun m q hq hk' => ?_, fun m q hq hk' hD' => set_mono (s.late m q hq hk' hD'), fun m q hq hk' hlm => ?_,
    fun m q hq hk' hD' hlm w' hw' => ?_, fun m q hq hk' hD' hlm => ?_, fun m q hq hk' hD' hlm => ?_, fun m1 m2 q1 q2 g1 g2 g3 g4 g5 g6 g7 g8 g9 => ?_⟩
  · by_cases hd : r.o.dst = some t
    · rw [hd, tmps_put_eq (by rw [s.sz]; exact tmp_lt hok hd), hx t hd]
    · rw [tmps_put_ne hd]
      exact put_agree s.agr (fun _ _ => Iff.rfl) (fun m hm => set_ne hm) hro rfl hd hc
  · by_cases e1 : m = j
    · subst e1; rw [hr] at hq; cases hq; exact set_mono (he e he')
    · rw [set_ne e1] at hlm; exact set_mono (s.cl m q hq hlm e he')
  · have e1 : m ≠ j := fun e => by subst e; rw [hr] at hq; cases hq; rw [hne] at hk'; cases hk'
    rw [set_ne e1]; exact s.eff m q hq hk'
  · by_cases e1 : m = j
    · subst e1; exact hD
    · rw [set_ne e1] at hlm; exact s.calm m q hq hk' hlm
  · have e1 : m ≠ j := fun e => by subst e; rw [set_same jlt] at hlm; cases hlm
    rw [set_ne e1] at hlm
    exact s.held m q hq hk' hD' hlm w' hw'
  · have e1 := ne m hD'
    rw [set_ne e1] at hlm
    obtain ⟨⟨obj, mk, t, f1, f2, f3, f4⟩, f5, f6, f7⟩ := s.early m q hq hk' hD' hlm
    obtain ⟨_, hsel', _⟩ := no_op hfine (hg.get _ _ hq).2
    refine ⟨⟨obj, mk, t, f1, by rw [tmps_put_ne (hdst m q t hq e1 f1)]; exact f2, f3, fun w => ?_⟩, f5, f6, f7⟩
    rw [(hex m q hq e1 hlm).exec hsel']; exact f4 w
  · have e1 := ne m hD'
    rw [set_ne e1] at hlm
    obtain ⟨B, ⟨f1, x', t, f2, f3, f4⟩, f5⟩ := s.earlyD m q hq hk' hD' hlm
    obtain ⟨_, hsel', _⟩ := no_op hfine (hg.get _ _ hq).2
    refine ⟨B, ⟨f1, x', t, f2, by rw [tmps_put_ne (hdst m q t hq e1 f2)]; exact f3, fun w' hw' => ?_⟩, f5⟩
    rw [(hex m q hq e1 hlm).exec hsel']; exact f4 w' hw'
  · rw [set_ne (ne m1 g5)] at g7
    rw [set_ne (ne m2 g6)] at g8
    exact s.inj m1 m2 q1 q2 g1 g2 g3 g4 g5 g6 g7 g8 g9

theorem bit_ne {D i m : Nat} (h : m ≠ i) : ((Nat.lor D (bit i)).testBit m = true ↔ D.testBit m = true) := by
  rw [lor_bit, decide_eq_false (Ne.symm h), Bool.or_false]
theorem bit_same (D i : Nat) : (Nat.lor D (bit i)).testBit i = true := by rw [lor_bit, decide_eq_true rfl, Bool.or_true]
theorem bit_old {D i m : Nat} (h : D.testBit m = true) : (Nat.lor D (bit i)).testBit m = true := by rw [lor_bit, h]; rfl
theorem bit_not {D i m : Nat} (h : (Nat.lor D (bit i)).testBit m = false) : D.testBit m = false ∧ m ≠ i := by
  rw [lor_bit, Bool.or_eq_false_iff] at h
  exact ⟨h.1, fun e => of_decide_eq_false h.2 e.symm⟩
theorem dep_guard {q : Row} (hk : kindFine P q = true) (hd : q.kind = .dep) : q.o.guard = none ∧ depFine P q.o = true ∧ isCalm (kindOf q.o) = true := by
  unfold kindFine at hk
  rw [hd] at hk
  simp only [Bool.and_eq_true] at hk
  refine ⟨?_, hk.2, hk.1⟩
  have h2 := hk.2
  unfold depFine at h2
  split at h2
  · assumption
  · assumption
  · cases h2
theorem wanted_none {o : Oper} (h : o.guard = none) (y : Nat → Option Bool) : Region.wanted o y = true := by simp [Region.wanted, h]

/-- one that only reckons is told -/
theorem sim_calm (hg : Planned P ops rs) (hfine : ∀ o ∈ ops, operFine P n o = true) (s : Sim P n ops rs w0 hs ρs ws D listed Bl F h ρ a a' w) {i : Nat} {r : Row} (hr : rs[i]? = some r) (hk : isCalm r.kind = true) (hD : D.testBit i = false)
    (hm : ∀ m, r.mask.testBit m = true → D.testBit m = true) {v : V} {h' : H} {x : Value} (hsup : Sup w0 ρ h h' w) (hden : Den h' ρ v x) (hy : ∀ w', RelH w0 ρ h w' → YieldsAt P ops r.o a' w' x) :
    Sim P n ops rs w0 hs ρs ws (Nat.lor D (bit i)) listed Bl ((wd r.o.dst).s v F) h' ρ a (a'.put r.o.dst x) w := by
  have hro := (hg.get _ _ hr).2
  obtain ⟨_, hsel, hok⟩ := no_op hfine hro
  have hne := not_eff hk
  have hnl := not_late hk
  have sz' : a'.tmps.size = n := s.frm.to.size
  have hag : ∀ (m : Nat) (q : Row), rs[m]? = some q → m ≠ i → D.testBit m = true → Agr ops q.o (a'.put r.o.dst x) a' := fun m q hq hmi hDm => agr_put fun t hd ht => by
    rcases hg.reads hq hr (Ne.symm hmi) hd ht with h1 | ⟨h1, _⟩
    · have := s.tm m q hq hDm i (hg.edge hq h1)
      rw [hD] at this; cases this
    · rw [hne] at h1; cases h1
  refine ⟨hsup.rel, relF_set (hsup.relF s.frm) hok hden, s.le, s.gr.trans hsup.gr, fra_to s.fra hsup, by rw [defers_put]; exact s.df, s.sz, s.lsz, fun t hc => ?_, s.cl, fun m q hq hDm m1 hm1 => ?_, fun m q hq hk' => ?_, fun m q hq hk' hDm => ?_, fun m q hq hk' hlm => bit_old (s.calm m q hq hk' hlm),
    fun m q hq hk' hDm hlm w' hw' => ?_, fun m q hq hk' hDm hlm => ?_, fun m q hq hk' hDm hlm => ?_, fun m1 m2 q1 q2 g1 g2 g3 g4 g5 g6 g7 g8 g9 => s.inj m1 m2 q1 q2 g1 g2 g3 g4 (bit_not g5).1 (bit_not g6).1 g7 g8 g9⟩
  · by_cases hd : r.o.dst = some t
    · have hli : listed[i]? = some true := (hc i r.o hro hd).1 (bit_same D i)
      have hkd : r.kind = .dep := by
        by_cases e : r.kind = .dep
        · exact e
        · have := s.calm i r hr (calm_of hk e) hli
          rw [hD] at this; cases this
      obtain ⟨hgd, _, _⟩ := dep_guard (hg.parts hr).1 hkd
      obtain ⟨B, ⟨_, x', t', f1, f2, f3⟩, _⟩ := s.earlyD i r hr hkd hD hli
      rw [hd] at f1
      cases f1
      have ag : Agr ops r.o a a' := s.agree hg hr fun e he => ⟨hm e (hg.edge hr he), s.cl i r hr hli e he⟩
      have h1 := f3 w rfl
      rw [ag.exec hsel] at h1
      have hyw := hy w s.rel
      unfold YieldsAt at hyw
      rw [wanted_none hgd] at hyw
      rcases hyw with ⟨_, h2⟩ | ⟨h2, _⟩
      · rw [h1] at h2
        injection h2 with h2
        injection h2 with h2
        rw [hd, tmps_put_eq (by rw [sz']; exact tmp_lt hok hd), f2, h2]
      · cases h2
    · rw [tmps_put_ne hd]
      exact put_agree s.agr (fun m hm => bit_ne hm) (fun m _ => rfl) hro rfl hd hc
  · by_cases e : m = i
    · subst e; rw [hr] at hq; cases hq; exact bit_old (hm m1 hm1)
    · exact bit_old (s.tm m q hq ((bit_ne e).1 hDm) m1 hm1)
  · have e : m ≠ i := fun e => by subst e; rw [hr] at hq; cases hq; rw [hne] at hk'; cases hk'
    rw [bit_ne e]; exact s.eff m q hq hk'
  · have e : m ≠ i := fun e => by subst e; rw [hr] at hq; cases hq; rw [hnl] at hk'; cases hk'
    exact s.late m q hq hk' ((bit_ne e).1 hDm)
  · by_cases e : m = i
    · subst e
      rw [hr] at hq
      cases hq
      refine ⟨x, (hy w' (relH_ext s.rel hw')).agr (Agr.symm (agr_put fun t hd => hg.self hr hne hd)) hsel, fun t hd => ?_⟩
      rw [hd, tmps_put_eq (by rw [sz']; exact tmp_lt hok hd)]
    · have hDm := (bit_ne e).1 hDm
      obtain ⟨x', h1, h2⟩ := s.held m q hq hk' hDm hlm w' hw'
      obtain ⟨_, hsel', _⟩ := no_op hfine (hg.get _ _ hq).2
      refine ⟨x', h1.agr (hag m q hq e hDm).symm hsel', fun t hd => ?_⟩
      rw [tmps_put_ne fun hd2 => ?_]
      · exact h2 t hd
      · have := (hg.dsts hq hr (Ne.symm e) hd2 hd).1
        rw [hne] at this; cases this
  · obtain ⟨h1, _⟩ := bit_not hDm
    have f := s.early m q hq hk' h1 hlm
    exact ⟨f.ex, f.lt, f.lo, fun b hb => f.un b (by rw [hsup.get] at hb; exact hb)⟩
  · obtain ⟨h1, _⟩ := bit_not hDm
    obtain ⟨B, f1, f2⟩ := s.earlyD m q hq hk' h1 hlm
    exact ⟨B, f1, fun j1 r1 g1 g2 g3 g4 g5 => f2 j1 r1 g1 g2 g3 (bit_not g4).1 g5⟩

/-- a late one that lies there already is told -/
theorem sim_late (hg : Planned P ops rs) (hfine : ∀ o ∈ ops, operFine P n o = true) (hs0 : RelH w0 ρs hs ws) (s : Sim P n ops rs w0 hs ρs ws D listed Bl F h ρ a a' w) {i : Nat} {r : Row} (hr : rs[i]? = some r) (hk : isLate r.kind = true) (hD : D.testBit i = false) (hl : listed[i]? = some true)
    (hm : ∀ m, r.mask.testBit m = true → D.testBit m = true) {ob : O} {v : V} {obj : Obj} {mk : Nat → Value} (hn : h.nb ≤ 65000) (hv : LateV P r.o a'.eval obj mk) (his : ∀ ρ' B, Le h ρ ρ' → ρ'.blk h.nb = B → ob.is ρ' h.nb obj ∧ v.den ρ' = mk B) :
    Sim P n ops rs w0 hs ρs ws (Nat.lor D (bit i)) listed Bl ((wd r.o.dst).s v F) (h.add ob) (ρ.setBlk h.nb (Bl i)) a (a'.put r.o.dst (mk (Bl i))) w := by
  have hro := (hg.get _ _ hr).2
  obtain ⟨_, hsel, hok⟩ := no_op hfine hro
  obtain ⟨hne, hnc, _, hnd⟩ := late_not hk
  have sz' : a'.tmps.size = n := s.frm.to.size
  obtain ⟨⟨obj0, mk0, t0, f1, f2, f3, f4⟩, f5, f6, f7⟩ := s.early i r hr hk hD hl
  have ag : Agr ops r.o a a' := s.agree hg hr fun e he => ⟨hm e (hg.edge hr he), s.cl i r hr hl e he⟩
  obtain ⟨rfl, hmk⟩ := LateV.same f4 hv (ag.exec hsel) w
  have hle1 : Le h ρ (ρ.setBlk h.nb (Bl i)) := le_setBlk h ρ _
  have hb1 : (ρ.setBlk h.nb (Bl i)).blk h.nb = Bl i := by simp [Rho.setBlk]
  have hlt : h.nb < (h.add ob).nb := Nat.lt_succ_self _
  have hrel := relH_reveal s.rel ob obj0 hn hle1 hb1 f5 (Nat.le_trans hs0.to.ext.size f6) f3 f7 fun ρ' hl' => (his ρ' (Bl i) (hle1.trans (gr_add h ob) hl') ((hl'.blk h.nb hlt).trans hb1)).1
  have hden : Den (h.add ob) (ρ.setBlk h.nb (Bl i)) v (mk (Bl i)) := fun ρ' hl' => (his ρ' (Bl i) (hle1.trans (gr_add h ob) hl') ((hl'.blk h.nb hlt).trans hb1)).2
  have hag : ∀ (m : Nat) (q : Row), rs[m]? = some q → m ≠ i → D.testBit m = true → Agr ops q.o (a'.put r.o.dst (mk (Bl i))) a' := fun m q hq hmi hDm => agr_put fun t hd ht => by
    rcases hg.reads hq hr (Ne.symm hmi) hd ht with h1 | ⟨h1, _⟩
    · have := s.tm m q hq hDm i (hg.edge hq h1)
      rw [hD] at this; cases this
    · rw [hne] at h1; cases h1
  refine ⟨hrel, relF_set (s.frm.more hle1 (gr_add h ob)) hok hden, s.le.trans s.gr hle1, s.gr.trans (gr_add h ob), fra_reveal s.rel s.fra ob hn hle1 hb1 f6, by rw [defers_put]; exact s.df, s.sz, s.lsz, fun t hc => ?_, s.cl, fun m q hq hDm m1 hm1 => ?_, fun m q hq hk' => ?_, fun m q hq hk' hDm => ?_, fun m q hq hk' hlm => bit_old (s.calm m q hq hk' hlm),
    fun m q hq hk' hDm hlm w' hw' => ?_, fun m q hq hk' hDm hlm => ?_, fun m q hq hk' hDm hlm => ?_, fun m1 m2 q1 q2 g1 g2 g3 g4 g5 g6 g7 g8 g9 => s.inj m1 m2 q1 q2 g1 g2 g3 g4 (bit_not g5).1 (bit_not g6).1 g7 g8 g9⟩
  · by_cases hd : r.o.dst = some t
    · rw [f1] at hd
      cases hd
      rw [f1, tmps_put_eq (by rw [sz']; exact tmp_lt hok f1), f2, hmk]
    · rw [tmps_put_ne hd]
      exact put_agree s.agr (fun m hm => bit_ne hm) (fun m _ => rfl) hro rfl hd hc
  · by_cases e : m = i
    · subst e; rw [hr] at hq; cases hq; exact bit_old (hm m1 hm1)
    · exact bit_old (s.tm m q hq ((bit_ne e).1 hDm) m1 hm1)
  · have e : m ≠ i := fun e => by subst e; rw [hr] at hq; cases hq; rw [hne] at hk'; cases hk'
    rw [bit_ne e]; exact s.eff m q hq hk'
  · by_cases e : m = i
    · subst e; exact hl
    · exact s.late m q hq hk' ((bit_ne e).1 hDm)
  · have e : m ≠ i := fun e => by subst e; rw [hl] at hlm; cases hlm
    have hDm := (bit_ne e).1 hDm
    obtain ⟨x', h1, h2⟩ := s.held m q hq hk' hDm hlm w' hw'
    obtain ⟨_, hsel', _⟩ := no_op hfine (hg.get _ _ hq).2
    refine ⟨x', h1.agr (hag m q hq e hDm).symm hsel', fun t hd => ?_⟩
    rw [tmps_put_ne fun hd2 => ?_]
    · exact h2 t hd
    · have := (hg.dsts hq hr (Ne.symm e) hd2 hd).1
      rw [hne] at this; cases this
  · obtain ⟨h1, h2⟩ := bit_not hDm
    have f := s.early m q hq hk' h1 hlm
    refine ⟨f.ex, f.lt, f.lo, fun b hb => ?_⟩
    rw [H.get_add h ob hn] at hb
    split at hb
    · rename_i e
      subst e
      rw [hb1]
      exact fun e => h2 (s.inj i m r q hr hq hk hk' hD h1 hl hlm e).symm
    · rw [hle1.blk b (s.rel.to.hp b hb).1]
      exact f.un b hb
  · obtain ⟨h1, _⟩ := bit_not hDm
    obtain ⟨B, f1, f2⟩ := s.earlyD m q hq hk' h1 hlm
    exact ⟨B, f1, fun j1 r1 g1 g2 g3 g4 g5 => f2 j1 r1 g1 g2 g3 (bit_not g4).1 g5⟩

/-- a late one comes early -/
theorem sim_early (hg : Planned P ops rs) (hfine : ∀ o ∈ ops, operFine P n o = true) (s : Sim P n ops rs w0 hs ρs ws D listed Bl F h ρ a a' w) {j : Nat} {r : Row} (hr : rs[j]? = some r) (hk : isLate r.kind = true) (hD : D.testBit j = false) (hl : listed[j]? = some false)
    (he : ∀ e ∈ edges r.o, listed[e]? = some true) {t : Nat} (hd : r.o.dst = some t) {obj : Obj} {mk : Nat → Value} (hv : LateV P r.o a.eval obj mk) :
    Sim P n ops rs w0 hs ρs ws D (listed.setIfInBounds j true) (fun m => if m = j then w.heap.size else Bl m) F h ρ (a.put r.o.dst (mk w.heap.size)) a' (w.alloc obj) := by
  have hro := (hg.get _ _ hr).2
  obtain ⟨_, hsel, hok⟩ := no_op hfine hro
  obtain ⟨hne, hnc, hncalm, hnd⟩ := late_not hk
  have jlt : j < listed.size := (Array.getElem?_eq_some_iff.1 hl).1
  have hself : Agr ops r.o (a.put r.o.dst (mk w.heap.size)) a := agr_put fun t hd => hg.self hr hne hd
  have hex : ∀ (m : Nat) (q : Row), rs[m]? = some q → m ≠ j → listed[m]? = some true → Agr ops q.o (a.put r.o.dst (mk w.heap.size)) a := fun m q hq hmj hlm => agr_put fun t hd ht => by
    rcases hg.reads hq hr (Ne.symm hmj) hd ht with h1 | ⟨h1, _⟩
    · have := s.cl m q hq hlm j h1
      rw [hl] at this; cases this
    · rw [hne] at h1; cases h1
  have hdst : ∀ (m : Nat) (q : Row) (t : Nat), rs[m]? = some q → m ≠ j → q.o.dst = some t → r.o.dst ≠ some t := fun m q t hq hmj hd hd2 => by
    have := (hg.dsts hq hr (Ne.symm hmj) hd2 hd).1
    rw [hne] at this; cases this
  have hext := Ext.alloc w obj
  refine ⟨relH_ext s.rel hext, s.frm, s.le, s.gr, fra_alloc s.fra obj, by rw [defers_put]; exact s.df, by rw [size_put]; exact s.sz, by simpa using s.lsz, fun t' hc => ?_, fun m q hq hlm e he' => ?_, s.tm, fun m q hq hk' => ?_, fun m q hq hk' hD' => set_mono (s.late m q hq hk' hD'), fun m q hq hk' hlm => ?_,
    fun m q hq hk' hD' hlm w' hw' => ?_, fun m q hq hk' hD' hlm => ?_, fun m q hq hk' hD' hlm => ?_, fun m1 m2 q1 q2 g1 g2 g3 g4 g5 g6 g7 g8 g9 => ?_⟩
  · by_cases hd' : r.o.dst = some t'
    · have := (hc j r.o hro hd').2 (set_same jlt)
      rw [hD] at this; cases this
    · rw [tmps_put_ne hd']
      exact put_agree s.agr (fun _ _ => Iff.rfl) (fun m hm => set_ne hm) hro rfl hd' hc
  · by_cases e1 : m = j
    · subst e1; rw [hr] at hq; cases hq; exact set_mono (he e he')
    · rw [set_ne e1] at hlm; exact set_mono (s.cl m q hq hlm e he')
  · have e1 : m ≠ j := fun e => by subst e; rw [hr] at hq; cases hq; rw [hne] at hk'; cases hk'
    rw [set_ne e1]; exact s.eff m q hq hk'
  · have e1 : m ≠ j := fun e => by subst e; rw [hr] at hq; cases hq; exact hncalm hk'
    rw [set_ne e1] at hlm; exact s.calm m q hq hk' hlm
  · have e1 : m ≠ j := fun e => by subst e; rw [set_same jlt] at hlm; cases hlm
    rw [set_ne e1] at hlm
    exact s.held m q hq hk' hD' hlm w' (hext.trans hw')
  · by_cases e1 : m = j
    · subst e1
      rw [hr] at hq
      cases hq
      simp only [if_true]
      refine ⟨⟨obj, mk, t, hd, by rw [hd]; exact tmps_put_eq (by rw [s.sz]; exact tmp_lt hok hd), heap_alloc_new w obj, fun w' => ?_⟩, by rw [alloc_size]; omega, s.fra.size, fun b hb => ?_⟩
      · rw [hself.exec hsel]; exact hv w'
      · have := (s.rel.to.hp b hb).2.1
        omega
    · rw [set_ne e1] at hlm
      simp only [if_neg e1]
      obtain ⟨⟨obj', mk', t', f1, f2, f3, f4⟩, f5, f6, f7⟩ := s.early m q hq hk' hD' hlm
      obtain ⟨_, hsel', _⟩ := no_op hfine (hg.get _ _ hq).2
      refine ⟨⟨obj', mk', t', f1, by rw [tmps_put_ne (hdst m q t' hq e1 f1)]; exact f2, by rw [heap_alloc_old w obj f5]; exact f3, fun w => ?_⟩, by rw [alloc_size]; omega, f6, f7⟩
      rw [(hex m q hq e1 hlm).exec hsel']; exact f4 w
  · have e1 : m ≠ j := fun e => by subst e; rw [hr] at hq; cases hq; exact hnd hk'
    rw [set_ne e1] at hlm
    obtain ⟨B, ⟨f1, x', t', f2, f3, f4⟩, f5⟩ := s.earlyD m q hq hk' hD' hlm
    obtain ⟨_, hsel', _⟩ := no_op hfine (hg.get _ _ hq).2
    refine ⟨B, ⟨by rw [alloc_size]; omega, x', t', f2, by rw [tmps_put_ne (hdst m q t' hq e1 f2)]; exact f3, fun w' hw' => ?_⟩, fun j1 r1 k1 k2 k3 k4 k5 => ?_⟩
    · rw [(hex m q hq e1 hlm).exec hsel']
      exact f4 w' (by rw [hw', heap_alloc_old w obj f1])
    · have : j1 ≠ j := fun e => by
        subst e
        have := mask_listed hg s.cl m q hq (s.cl m q hq hlm) j1 k5
        rw [hl] at this; cases this
      rw [if_neg this]
      exact f5 j1 r1 k1 k2 k3 k4 k5
  · by_cases e1 : m1 = j
    · by_cases e2 : m2 = j
      · rw [e1, e2]
      · rw [set_ne e2] at g8
        have := (s.early m2 q2 g2 g4 g6 g8).lt
        simp only [e1, if_true, if_neg e2] at g9
        omega
    · by_cases e2 : m2 = j
      · rw [set_ne e1] at g7
        have := (s.early m1 q1 g1 g3 g5 g7).lt
        simp only [e2, if_true, if_neg e1] at g9
        omega
      · rw [set_ne e1] at g7
        rw [set_ne e2] at g8
        simp only [if_neg e1, if_neg e2] at g9
        exact s.inj m1 m2 q1 q2 g1 g2 g3 g4 g5 g6 g7 g8 g9

/-- what hangs on a late one comes early -/
theorem sim_dep (hg : Planned P ops rs) (hfine : ∀ o ∈ ops, operFine P n o = true) (s : Sim P n ops rs w0 hs ρs ws D listed Bl F h ρ a a' w) {j : Nat} {r : Row} (hr : rs[j]? = some r) (hk : r.kind = .dep) (hD : D.testBit j = false) (hl : listed[j]? = some false)
    (he : ∀ e ∈ edges r.o, listed[e]? = some true) {t : Nat} (hd : r.o.dst = some t) {x : Value} {B : Nat} (hB : B < w.heap.size) (hx : ∀ w' : World, w'.heap[B]? = w.heap[B]? → (execOp a.eval r.o).run P w' = .ok (.value x) w')
    (hj : ∀ (j1 : Nat) (r1 : Row), rs[j1]? = some r1 → isLate r1.kind = true → isAlloc r1.o = false → D.testBit j1 = false → r.mask.testBit j1 = true → B = Bl j1) :
    Sim P n ops rs w0 hs ρs ws D (listed.setIfInBounds j true) Bl F h ρ (a.put r.o.dst x) a' w := by
  have hro := (hg.get _ _ hr).2
  obtain ⟨_, hsel, hok⟩ := no_op hfine hro
  have hkc : isCalm r.kind = true := by rw [hk]; rfl
  have hne := not_eff hkc
  have hnl := not_late hkc
  have jlt : j < listed.size := (Array.getElem?_eq_some_iff.1 hl).1
  have hself : Agr ops r.o (a.put r.o.dst x) a := agr_put fun t hd => hg.self hr hne hd
  have hex : ∀ (m : Nat) (q : Row), rs[m]? = some q → m ≠ j → listed[m]? = some true → Agr ops q.o (a.put r.o.dst x) a := fun m q hq hmj hlm => agr_put fun t hd ht => by
    rcases hg.reads hq hr (Ne.symm hmj) hd ht with h1 | ⟨h1, _⟩
    · have := s.cl m q hq hlm j h1
      rw [hl] at this; cases this
    · rw [hne] at h1; cases h1
  have hdst : ∀ (m : Nat) (q : Row) (t : Nat), rs[m]? = some q → m ≠ j → q.o.dst = some t → r.o.dst ≠ some t := fun m q t hq hmj hd hd2 => by
    have := (hg.dsts hq hr (Ne.symm hmj) hd2 hd).1
    rw [hne] at this; cases this
  refine ⟨s.rel, s.frm, s.le, s.gr, s.fra, by rw [defers_put]; exact s.df, by rw [size_put]; exact s.sz, by simpa using s.lsz, fun t' hc => ?_, fun m q hq hlm e he' => ?_, s.tm, fun m q hq hk' => ?_, fun m q hq hk' hD' => set_mono (s.late m q hq hk' hD'), fun m q hq hk' hlm => ?_,
    fun m q hq hk' hD' hlm w' hw' => ?_, fun m q hq hk' hD' hlm => ?_, fun m q hq hk' hD' hlm => ?_, fun m1 m2 q1 q2 g1 g2 g3 g4 g5 g6 g7 g8 g9 => ?_⟩
  · by_cases hd' : r.o.dst = some t'
    · have := (hc j r.o hro hd').2 (set_same jlt)
      rw [hD] at this; cases this
    · rw [tmps_put_ne hd']
      exact put_agree s.agr (fun _ _ => Iff.rfl) (fun m hm => set_ne hm) hro rfl hd' hc
  · by_cases e1 : m = j
    · subst e1; rw [hr] at hq; cases hq; exact set_mono (he e he')
    · rw [set_ne e1] at hlm; exact set_mono (s.cl m q hq hlm e he')
  · have e1 : m ≠ j := fun e => by subst e; rw [hr] at hq; cases hq; rw [hne] at hk'; cases hk'
    rw [set_ne e1]; exact s.eff m q hq hk'
  · have e1 : m ≠ j := fun e => by subst e; rw [hr] at hq; cases hq; rw [hk] at hk'; cases hk'
    rw [set_ne e1] at hlm; exact s.calm m q hq hk' hlm
  · have e1 : m ≠ j := fun e => by subst e; rw [set_same jlt] at hlm; cases hlm
    rw [set_ne e1] at hlm
    exact s.held m q hq hk' hD' hlm w' hw'
  · have e1 : m ≠ j := fun e => by subst e; rw [hr] at hq; cases hq; rw [hnl] at hk'; cases hk'
    rw [set_ne e1] at hlm
    obtain ⟨⟨obj', mk', t', f1, f2, f3, f4⟩, f5, f6, f7⟩ := s.early m q hq hk' hD' hlm
    obtain ⟨_, hsel', _⟩ := no_op hfine (hg.get _ _ hq).2
    refine ⟨⟨obj', mk', t', f1, by rw [tmps_put_ne (hdst m q t' hq e1 f1)]; exact f2, f3, fun w => ?_⟩, f5, f6, f7⟩
    rw [(hex m q hq e1 hlm).exec hsel']; exact f4 w
  · by_cases e1 : m = j
    · subst e1
      rw [hr] at hq
      cases hq
      refine ⟨B, ⟨hB, x, t, hd, by rw [hd]; exact tmps_put_eq (by rw [s.sz]; exact tmp_lt hok hd), fun w' hw' => ?_⟩, hj⟩
      rw [hself.exec hsel]; exact hx w' hw'
    · rw [set_ne e1] at hlm
      obtain ⟨B', ⟨f1, x', t', f2, f3, f4⟩, f5⟩ := s.earlyD m q hq hk' hD' hlm
      obtain ⟨_, hsel', _⟩ := no_op hfine (hg.get _ _ hq).2
      refine ⟨B', ⟨f1, x', t', f2, by rw [tmps_put_ne (hdst m q t' hq e1 f2)]; exact f3, fun w' hw' => ?_⟩, f5⟩
      rw [(hex m q hq e1 hlm).exec hsel']; exact f4 w' hw'
  · have e1 : m1 ≠ j := fun e => by subst e; rw [hr] at g1; cases g1; rw [hnl] at g3; cases g3
    have e2 : m2 ≠ j := fun e => by subst e; rw [hr] at g2; cases g2; rw [hnl] at g4; cases g4
    rw [set_ne e1] at g7
    rw [set_ne e2] at g8
    exact s.inj m1 m2 q1 q2 g1 g2 g3 g4 g5 g6 g7 g8 g9

/-- an effect is carried out and told -/
theorem sim_eff (hg : Planned P ops rs) (hfine : ∀ o ∈ ops, operFine P n o = true) (s : Sim P n ops rs w0 hs ρs ws D listed Bl F h ρ a a' w) (hs0 : RelH w0 ρs hs ws) {i : Nat} {r : Row} (hr : rs[i]? = some r) (hk : isEff r.kind = true) (hD : D.testBit i = false) (hl : listed[i]? = some false)
    (he : ∀ e ∈ edges r.o, listed[e]? = some true) (hm : ∀ m, r.mask.testBit m = true → D.testBit m = true)
    (hdep : ∀ (j : Nat) (q : Row), rs[j]? = some q → q.kind = .dep → D.testBit j = false → listed[j]? = some true → ∃ (j1 : Nat) (r1 : Row), rs[j1]? = some r1 ∧ isLate r1.kind = true ∧ isAlloc r1.o = false ∧ D.testBit j1 = false ∧ q.mask.testBit j1 = true)
    {v : V} {h1 h2 : H} {ρ1 : Rho} {x : Value} {w1 : World} (hle : Le h ρ ρ1) (hgr : Gr h h1) (hrel : RelH w0 ρ1 h1 w1) (hden : Den h1 ρ1 v x) (hfra : Fra h ρ w h1 ρ1 w1) (hsup : Sup w0 ρ1 h1 h2 w1)
    (hre : ∀ (j : Nat) (q : Row), rs[j]? = some q → isCalm q.kind = true → D.testBit j = true → r.mask.testBit j = false → ∀ w', RelH w0 ρ1 h1 w' → ∃ y, YieldsAt P ops q.o (a'.put r.o.dst x) w' y ∧ ∀ t, q.o.dst = some t → (a'.put r.o.dst x).tmps[t]? = some y) :
    Sim P n ops rs w0 hs ρs ws (Nat.lor D (bit i)) (listed.setIfInBounds i true) Bl ((wd r.o.dst).s v F) h2 ρ1 (a.put r.o.dst x) (a'.put r.o.dst x) w1 := by
  have hro := (hg.get _ _ hr).2
  obtain ⟨_, hsel, hok⟩ := no_op hfine hro
  obtain ⟨hnl, hnc, hncalm, hnd⟩ := eff_not hk
  have sz' : a'.tmps.size = n := s.frm.to.size
  have ilt : i < listed.size := (Array.getElem?_eq_some_iff.1 hl).1
  have maskl := mask_listed hg s.cl
  have hex : ∀ (m : Nat) (q : Row), rs[m]? = some q → m ≠ i → listed[m]? = some true → D.testBit m = false → Agr ops q.o (a.put r.o.dst x) a := fun m q hq hmi hlm hDm => agr_put fun t hd ht => by
    rcases hg.reads hq hr (Ne.symm hmi) hd ht with h1 | ⟨_, h1 | h1⟩
    · have := s.cl m q hq hlm i h1
      rw [hl] at this; cases this
    · have := maskl m q hq (s.cl m q hq hlm) i h1
      rw [hl] at this; cases this
    · have := hm m h1
      rw [hDm] at this; cases this
  have hdst : ∀ (m : Nat) (q : Row) (t : Nat), rs[m]? = some q → isEff q.kind = false → m ≠ i → q.o.dst = some t → r.o.dst ≠ some t := fun m q t hq hqe hmi hd hd2 => by
    have := (hg.dsts hq hr (Ne.symm hmi) hd2 hd).2
    rw [hqe] at this; cases this
  have keep : ∀ B, B < w.heap.size → (∀ b, known (h.get b) → ρ.blk b ≠ B) → w1.heap[B]? = w.heap[B]? := fun B hB hu => hfra.old B hB fun b hb => hu b (own_known hb)
  refine ⟨hsup.rel, hsup.relF (relF_set (s.frm.more hle hgr) hok hden), s.le.trans s.gr hle, (s.gr.trans hgr).trans hsup.gr, fra_to (Fra.trans hs0 s.le s.fra s.rel hle hfra) hsup, by rw [defers_put, defers_put]; exact s.df, by rw [size_put]; exact s.sz, by simpa using s.lsz, fun t hc => ?_, fun m q hq hlm e he' => ?_, fun m q hq hDm m1 hm1 => ?_, fun m q hq hk' => ?_,
    fun m q hq hk' hDm => ?_, fun m q hq hk' hlm => ?_, fun m q hq hk' hDm hlm w' hw' => ?_, fun m q hq hk' hDm hlm => ?_, fun m q hq hk' hDm hlm => ?_, fun m1 m2 q1 q2 g1 g2 g3 g4 g5 g6 g7 g8 g9 => ?_⟩
  · by_cases hd : r.o.dst = some t
    · rw [hd, tmps_put_eq (by rw [s.sz]; exact tmp_lt hok hd), tmps_put_eq (by rw [sz']; exact tmp_lt hok hd)]
    · rw [tmps_put_ne hd, tmps_put_ne hd]
      exact put_agree s.agr (fun m hm => bit_ne hm) (fun m hm => set_ne hm) hro rfl hd hc
  · by_cases e1 : m = i
    · subst e1; rw [hr] at hq; cases hq; exact set_mono (he e he')
    · rw [set_ne e1] at hlm; exact set_mono (s.cl m q hq hlm e he')
  · by_cases e : m = i
    · subst e; rw [hr] at hq; cases hq; exact bit_old (hm m1 hm1)
    · exact bit_old (s.tm m q hq ((bit_ne e).1 hDm) m1 hm1)
  · by_cases e : m = i
    · subst e; exact ⟨fun _ => set_same ilt, fun _ => bit_same D m⟩
    · rw [bit_ne e, set_ne e]; exact s.eff m q hq hk'
  · have e : m ≠ i := fun e => by subst e; rw [hr] at hq; cases hq; rw [hnl] at hk'; cases hk'
    exact set_mono (s.late m q hq hk' ((bit_ne e).1 hDm))
  · have e : m ≠ i := fun e => by subst e; rw [hr] at hq; cases hq; exact hncalm hk'
    rw [set_ne e] at hlm
    exact bit_old (s.calm m q hq hk' hlm)
  · have e : m ≠ i := fun e => by subst e; rw [set_same ilt] at hlm; cases hlm
    rw [set_ne e] at hlm
    have hDm := (bit_ne e).1 hDm
    refine hre m q hq hk' hDm ?_ w' (relH_ext hrel hw')
    cases hmm : r.mask.testBit m with
    | false => rfl
    | true =>
      have := maskl i r hr he m hmm
      rw [hlm] at this; cases this
  · obtain ⟨hDm, e⟩ := bit_not hDm
    rw [set_ne e] at hlm
    obtain ⟨⟨obj', mk', t', f1, f2, f3, f4⟩, f5, f6, f7⟩ := s.early m q hq hk' hDm hlm
    obtain ⟨_, hsel', _⟩ := no_op hfine (hg.get _ _ hq).2
    refine ⟨⟨obj', mk', t', f1, by rw [tmps_put_ne (hdst m q t' hq (late_not hk').1 e f1)]; exact f2, by rw [keep _ f5 f7]; exact f3, fun w => ?_⟩, Nat.lt_of_lt_of_le f5 hfra.size, f6, fun b hb => ?_⟩
    · rw [(hex m q hq e hlm hDm).exec hsel']; exact f4 w
    · rw [hsup.get] at hb
      rcases hfra.kn b hb with ⟨c, h3, h4⟩ | h3
      · rw [← h4]; exact f7 c h3
      · omega
  · obtain ⟨hDm, e⟩ := bit_not hDm
    rw [set_ne e] at hlm
    obtain ⟨B, ⟨f1, x', t', f2, f3, f4⟩, f5⟩ := s.earlyD m q hq hk' hDm hlm
    obtain ⟨_, hsel', _⟩ := no_op hfine (hg.get _ _ hq).2
    obtain ⟨j1, r1, k1, k2, k3, k4, k5⟩ := hdep m q hq hk' hDm hlm
    have hB := f5 j1 r1 k1 k2 k3 k4 k5
    have hj1 := maskl m q hq (s.cl m q hq hlm) j1 k5
    have fe := s.early j1 r1 k1 k2 k4 hj1
    have hkeep : w1.heap[B]? = w.heap[B]? := by rw [hB]; exact keep _ fe.lt fe.un
    have hqe : isEff q.kind = false := by rw [hk']; rfl
    refine ⟨B, ⟨Nat.lt_of_lt_of_le f1 hfra.size, x', t', f2, by rw [tmps_put_ne (hdst m q t' hq hqe e f2)]; exact f3, fun w' hw' => ?_⟩, fun j1 r1 g1 g2 g3 g4 g5 => f5 j1 r1 g1 g2 g3 (bit_not g4).1 g5⟩
    rw [(hex m q hq e hlm hDm).exec hsel']
    exact f4 w' (by rw [hw', hkeep])
  · obtain ⟨g5, e1⟩ := bit_not g5
    obtain ⟨g6, e2⟩ := bit_not g6
    rw [set_ne e1] at g7
    rw [set_ne e2] at g8
    exact s.inj m1 m2 q1 q2 g1 g2 g3 g4 g5 g6 g7 g8 g9
end

end Go.Gx

/- Regions that draw: what an effect comes to, what is reckoned again, what hangs on a late one. -/
namespace Go.Gx
open Go Go.Sx

/-- what came of an operation -/
def Out (w0 : Base) (ρ : Rho) (h : H) (w : World) (k : Fr → H → Res) (l : List (V × H)) (o : Oper) (F : Fr) (x : Value) (w' : World) : Prop :=
  ∃ v h1 ρ1 l1, k ((wd o.dst).s v F) h1 = some l1 ∧ (∀ y ∈ l1, y ∈ l) ∧ Le h ρ ρ1 ∧ Gr h h1 ∧ RelH w0 ρ1 h1 w' ∧ Den h1 ρ1 v x ∧ Fra h ρ w h1 ρ1 w'
theorem stepO_out {P : Program} {n : Nat} {rd : Bool} {ops : Array Oper} {o : Oper} (hnd : opDefer o.op = false) (hp : PO.Ok P n o (dOper P n o)) {w0 : Base} {cx : Cx} (hcx : CxOk P w0 cx) {k : Fr → H → Res} {F : Fr} {h : H} {l : List (V × H)}
    (hr : (stepO P n rd ops.toList o).run cx k F h = some l) {ρ : Rho} {a : Act} {w : World} (rh : RelH w0 ρ h w) (rf : RelF n ρ F h a) :
    (Region.wanted o (yielded ops a.tmps) = true ∧ Goes P o a w (Out w0 ρ h w k l o F)) ∨ (Region.wanted o (yielded ops a.tmps) = false ∧ Out w0 ρ h w k l o F undef w) := by
  have hp := few_ok hp
  have hd := no_defer hnd
  have go : ∀ {h' : H} {l' : List (V × H)}, Sup w0 ρ h h' w → (∀ y ∈ l', y ∈ l) → (dOperF P n o).run cx (fun v h => k ((wd o.dst).s v F) h) F h' = some l' → Goes P o a w (Out w0 ρ h w k l o F) := by
    intro h' l' s hl hr
    refine (hp w0 cx hcx _ F h' l' hr ρ a w s.rel (s.relF rf)).mono fun x w' hpost => ?_
    obtain ⟨v, h1, ρ1, l1, hk1, hs, hle, hgr, hr1, hd1, hf⟩ := hpost
    exact ⟨v, h1, ρ1, l1, hk1, fun y hy => hl y (hs y hy), (s.le _ _).1 hle, s.gr.trans hgr, hr1, hd1, Fra.sup s hf⟩
  unfold stepO at hr
  split at hr
  · rename_i c hc; exact absurd hc (hd c)
  · split at hr
    · cases hr
    · dsimp only at hr
      split at hr
      · rename_i hg
        exact .inl ⟨wanted_none hg _, go (Sup.refl rh) (fun _ h => h) hr⟩
      · rename_i g hg
        split at hr
        · rename_i t ht
          obtain ⟨h1, l1, g1, g2, g3⟩ := guardR_ok hg ht hr rh rf
          rcases g3 with ⟨g3, g4⟩ | ⟨g3, g4⟩
          · exact .inl ⟨g3, go g2 g1 g4⟩
          · exact .inr ⟨g3, undefV, h1, ρ, l1, g4, g1, Le.refl _ _, g2.gr, g2.rel, fun ρ' _ => den_undef ρ', g2.fra⟩
        · cases hr

/-! ### the same, as it is written -/
mutual
theorem V.same_eq : ∀ {v u : V}, V.same v u = true → v = u
  | .int k a, u, h => by
    cases u <;> simp only [V.same] at h <;> first | (cases h; done) | skip
    split at h
    · rename_i hb; rw [eqK_eq hb, E.eq_of_beq h]
    · cases h
  | .bool a, u, h => by
    cases u <;> simp only [V.same] at h <;> first | (cases h; done) | rw [E.eq_of_beq h]
  | .ptr b o, u, h => by
    cases u <;> simp only [V.same] at h <;> first | (cases h; done) | skip
    split at h
    · rename_i hb; rw [Nat.eq_of_beq_eq_true hb, E.eq_of_beq h]
    · cases h
  | .gp b o, u, h => by
    cases u <;> simp only [V.same] at h <;> first | (cases h; done) | skip
    split at h
    · rename_i hb; rw [Nat.eq_of_beq_eq_true hb, E.eq_of_beq h]
    · cases h
  | .sl b o l c, u, h => by
    cases u <;> simp only [V.same] at h <;> first | (cases h; done) | skip
    split at h
    · rename_i hb
      split at h
      · rename_i ho
        split at h
        · rename_i hl; rw [Nat.eq_of_beq_eq_true hb, E.eq_of_beq ho, E.eq_of_beq hl, E.eq_of_beq h]
        · cases h
      · cases h
    · cases h
  | .agg vs, u, h => by
    cases u <;> simp only [V.same] at h <;> first | (cases h; done) | rw [V.sameL_eq h]
  | .tup vs, u, h => by
    cases u <;> simp only [V.same] at h <;> first | (cases h; done) | rw [V.sameL_eq h]
  | .str l, u, h => by
    cases u <;> simp only [V.same] at h <;> first | (cases h; done) | rw [D.eq_of_lBeq h]
  | .astr A, u, h => by
    cases u <;> simp only [V.same] at h <;> first | (cases h; done) | rw [Arr.eq_of_beq h]
  | .map b, u, h => by
    cases u <;> simp only [V.same] at h <;> first | (cases h; done) | rw [Nat.eq_of_beq_eq_true h]
  | .yld b, u, h => by
    cases u <;> simp only [V.same] at h <;> first | (cases h; done) | rw [Nat.eq_of_beq_eq_true h]
  | .iface t v, u, h => by
    cases u <;> simp only [V.same] at h <;> first | (cases h; done) | skip
    split at h
    · rename_i hb; rw [Nat.eq_of_beq_eq_true hb, V.same_eq h]
    · cases h
  | .fn f a b, u, h => by
    cases u <;> simp only [V.same] at h <;> first | (cases h; done) | skip
    split at h
    · rename_i hb
      split at h
      · rename_i hl; rw [Nat.eq_of_beq_eq_true hb, V.sameL_eq hl, V.sameL_eq h]
      · cases h
    · cases h
  | .raw i, u, h => by
    cases u <;> simp only [V.same] at h <;> first | (cases h; done) | rw [Nat.eq_of_beq_eq_true h]
  | .nilp, u, h => by cases u <;> simp only [V.same] at h <;> first | (cases h; done) | rfl
  | .nils, u, h => by cases u <;> simp only [V.same] at h <;> first | (cases h; done) | rfl
  | .nilf, u, h => by cases u <;> simp only [V.same] at h <;> first | (cases h; done) | rfl
  | .nili, u, h => by cases u <;> simp only [V.same] at h <;> first | (cases h; done) | rfl
  | .nilm, u, h => by cases u <;> simp only [V.same] at h <;> first | (cases h; done) | rfl
  | .mth _ _, u, h => by simp only [V.same] at h; cases h
  | .flt _ _, u, h => by simp only [V.same] at h; cases h
theorem V.sameL_eq : ∀ {v u : List V}, V.sameL v u = true → v = u
  | [], u, h => by
    cases u with
    | nil => rfl
    | cons a r => simp only [V.sameL] at h; cases h
  | v :: r, u, h => by
    cases u with
    | nil => simp only [V.sameL] at h; cases h
    | cons a s =>
      simp only [V.sameL] at h
      split at h
      · rename_i hb; rw [V.same_eq hb, V.sameL_eq h]
      · cases h
end
theorem again_ok {P : Program} {n : Nat} {ops : Array Oper} {o : Oper} (hp : PO.Calm P n o (dOper P n o)) {w0 : Base} {cx : Cx} (hcx : CxOk P w0 cx) {k : Fr → H → Res} {F : Fr} {h : H} {l : List (V × H)} (hr : (again P n ops.toList o).run cx k F h = some l)
    {ρ : Rho} {a : Act} {w : World} (rh : RelH w0 ρ h w) (rf : RelF n ρ F h a) :
    ∃ h' l', k F h' = some l' ∧ (∀ y ∈ l', y ∈ l) ∧ Sup w0 ρ h h' w ∧ ∀ w', RelH w0 ρ h w' → ∃ x, YieldsAt P ops o a w' x ∧ ∀ t, o.dst = some t → a.tmps[t]? = some x := by
  unfold again at hr
  split at hr
  · rename_i hd
    dsimp only at hr
    obtain ⟨_, v, h', x, l', e1, e2, e3, e4, e5⟩ := reckon_ok hp hcx hr rh rf
    exact ⟨h', l', e1, e2, e3, fun w' rw' => ⟨x, e5 w' rw', fun t ht => by rw [hd] at ht; cases ht⟩⟩
  · rename_i t hd
    dsimp only at hr
    obtain ⟨hok, v, h', x, l', e1, e2, e3, e4, e5⟩ := reckon_ok hp hcx hr rh rf
    split at e1
    · rename_i hs
      have hv := V.same_eq hs
      subst hv
      have hlt := tmp_lt hok hd
      have htm := rf.to.tm t hlt
      have hx : (F.t.get t).den ρ = x := e4.to
      exact ⟨h', l', e1, e2, e3, fun w' rw' => ⟨x, e5 w' rw', fun t' ht => by rw [hd] at ht; cases ht; rw [htm, hx]⟩⟩
    · cases e1
theorem agains_ok {P : Program} {n : Nat} {ops : Array Oper} (hsc : SoundC P n) {w0 : Base} {cx : Cx} (hcx : CxOk P w0 cx) {ρ : Rho} {a : Act} {w : World} : ∀ {re : List Nat}, (∀ j ∈ re, ∀ (o : Oper), ops[j]? = some o → isCalm (kindOf o) = true) →
    ∀ {k : Fr → H → Res} {F : Fr} {h : H} {l : List (V × H)}, (agains P n ops.toList re).run cx k F h = some l → RelH w0 ρ h w → RelF n ρ F h a →
    ∃ h' l', k F h' = some l' ∧ (∀ y ∈ l', y ∈ l) ∧ Sup w0 ρ h h' w ∧ ∀ j ∈ re, ∀ (o : Oper), ops[j]? = some o → ∀ w', RelH w0 ρ h w' → ∃ x, YieldsAt P ops o a w' x ∧ ∀ t, o.dst = some t → a.tmps[t]? = some x
  | [], _, k, F, h, l, hr, rh, rf => ⟨h, l, hr, fun _ hy => hy, Sup.refl rh, fun j hj => by cases hj⟩
  | i :: re, hc, k, F, h, l, hr, rh, rf => by
    unfold agains at hr
    rw [nthL_eq] at hr
    split at hr
    · rename_i o ho
      have ho : ops[i]? = some o := by simpa using ho
      dsimp only at hr
      obtain ⟨h1, l1, e1, e2, e3, e4⟩ := again_ok (hsc o (hc i List.mem_cons_self o ho)) hcx hr rh rf
      obtain ⟨h2, l2, f1, f2, f3, f4⟩ := agains_ok hsc hcx (fun j hj => hc j (List.mem_cons_of_mem _ hj)) e1 e3.rel (e3.relF rf)
      refine ⟨h2, l2, f1, fun y hy => e2 y (f2 y hy), e3.trans f3, fun j hj o' ho' w' rw' => ?_⟩
      cases hj with
      | head =>
        rw [ho] at ho'
        cases ho'
        exact e4 w' rw'
      | tail _ hj => exact f4 j hj o' ho' w' (e3.to rw').rel
    · cases hr

/-! ### what hangs on a late one yields the same in every world that keeps that one -/
theorem loadFrom_stable {P : Program} : ∀ (n i : Nat) (a : Addr) (acc cs : Array Value) (w w1 : World), (∃ c t, w.heap[a.block]? = some (.cells c t)) → (loadCellsFrom a i n acc).run P w = .ok cs w1 → w1 = w ∧ ∀ w' : World, w'.heap[a.block]? = w.heap[a.block]? → (loadCellsFrom a i n acc).run P w' = .ok cs w'
  | 0, i, a, acc, cs, w, w1, _, h => by
    simp only [loadCellsFrom, Sem.run_pure] at h
    injection h with h1 h2
    exact ⟨h2.symm, fun w' _ => by simp only [loadCellsFrom, Sem.run_pure, h1]⟩
  | n + 1, i, a, acc, cs, w, w1, hB, h => by
    have hblk : (a.add i).block = a.block := by unfold Addr.add; split <;> rfl
    have step : ∀ (w : World) (v : Value), w.cell? (a.add i) = some v → (loadCellsFrom a i (n + 1) acc).run P w = (loadCellsFrom a (i + 1) n (acc.push v)).run P w := by
      intro w v hc
      have hl : (load (a.add i)).run P w = .ok v w := by simp [load, Sem.run, hc]
      simp only [loadCellsFrom, Sem.run_bind, hl, Result.andThen_ok]
    have same : ∀ w' : World, w'.heap[a.block]? = w.heap[a.block]? → w'.cell? (a.add i) = w.cell? (a.add i) := fun w' hw => by
      unfold World.cell?
      rw [hblk, hw]
    cases hc : w.cell? (a.add i) with
    | none =>
      exfalso
      obtain ⟨c, t, hB⟩ := hB
      simp only [loadCellsFrom, Sem.run_bind, load, Sem.run, hc, World.farLoad, hblk, hB] at h
      cases h
    | some v =>
      rw [step w v hc] at h
      obtain ⟨e1, e2⟩ := loadFrom_stable n (i + 1) a (acc.push v) cs w w1 hB h
      refine ⟨e1, fun w' hw => ?_⟩
      rw [step w' v (by rw [same w' hw]; exact hc)]
      exact e2 w' hw
theorem forIn_stable {P : Program} {f : Value → ByteArray → Sem (ForInStep ByteArray)} (hf : ∀ c s r w w1, (f c s).run P w = .ok r w1 → ∀ w', (f c s).run P w' = .ok r w') : ∀ (cs : List Value) (s r : ByteArray) (w w1 : World), (forIn cs s f).run P w = .ok r w1 → ∀ w', (forIn cs s f).run P w' = .ok r w'
  | [], s, r, w, w1, h, w' => by
    simp only [List.forIn_nil, Sem.run_pure] at h ⊢
    injection h with h
    rw [h]
  | c :: cs, s, r, w, w1, h, w' => by
    simp only [List.forIn_cons, Sem.run_bind] at h ⊢
    cases hc : (f c s).run P w with
    | halt e w2 => rw [hc] at h; cases h
    | ok q w2 =>
      rw [hc] at h
      rw [hf c s q w w2 hc w']
      simp only [Result.andThen_ok] at h ⊢
      cases q with
      | done b =>
        simp only [Sem.run_pure] at h ⊢
        injection h with h
        rw [h]
      | yield b => exact forIn_stable hf cs b r w2 w1 h w'
theorem stable_bind {P : Program} {α : Type} {m : Sem α} {g : α → World → Result Value} {x : Value} {w w1 w' : World} (h : (m.run P w).andThen g = .ok x w1) (hm : ∀ r w2, m.run P w = .ok r w2 → m.run P w' = .ok r w') (hg : ∀ r w2, g r w2 = .ok x w1 → g r w' = .ok x w') : (m.run P w').andThen g = .ok x w' := by
  cases hr : m.run P w with
  | halt e w2 => rw [hr] at h; cases h
  | ok r w2 =>
    rw [hr] at h
    rw [hm r w2 hr]
    exact hg r w2 h
theorem bytes_stable {P : Program} {B len cap : Nat} {x : Value} {w w1 : World} (hB : ∃ c t, w.heap[B]? = some (.cells c t)) (h : (Conv.bytesToString (.slice (some ⟨B, 0, none⟩) len cap)).run P w = .ok x w1) : ∀ w' : World, w'.heap[B]? = w.heap[B]? → (Conv.bytesToString (.slice (some ⟨B, 0, none⟩) len cap)).run P w' = .ok x w' := by
  intro w' hw
  simp only [Conv.bytesToString, loadCells, Sem.run_bind] at h ⊢
  cases hl : (loadCellsFrom ⟨B, 0, none⟩ 0 len #[]).run P w with
  | halt e w2 => rw [hl] at h; cases h
  | ok cs w2 =>
    rw [hl] at h
    obtain ⟨e1, e2⟩ := loadFrom_stable len 0 _ _ _ _ _ hB hl
    subst e1
    rw [e2 w' hw]
    simp only [Result.andThen_ok] at h ⊢
    rw [← Array.forIn_toList] at h ⊢
    refine stable_bind h (fun r w2 hm => forIn_stable (fun c s r w w1 hc w' => ?_) _ _ _ _ _ hm w') (fun r w2 hg => ?_)
    · cases c
      case int k m =>
        cases k
        case u8 =>
          simp only [Sem.run_pure] at hc ⊢
          injection hc with hc
          rw [hc]
        all_goals (simp [stuck, Sem.run] at hc)
      all_goals (simp [stuck, Sem.run] at hc)
    · simp only [Sem.run_pure] at hg ⊢
      injection hg with hg
      rw [hg]
/-- the making of a struct hangs on no world -/
theorem build_any {P : Program} {n : Nat} {o : Oper} {t : TypeId} {ps : Array (Nat × Operand)} (ho : o.op = .build t ps) {cx : Cx} {k : KV} {F : Fr} {h : H} {l : List (V × H)} (hr : (dOper P n o).run cx k F h = some l) {ρ : Rho} {a : Act} (rf : RelF n ρ F h a) :
    ∃ x, ∀ w, (execOp a.eval o).run P w = .ok (.value x) w := by
  unfold dOper at hr
  split at hr
  · rename_i hok
    simp only [Bool.and_eq_true] at hok
    rw [ho] at hr hok
    have hok : (ps.toList.map (·.2)).all (okOd n) = true := by
      have := hok.2
      simpa [Op.operands] using this
    have hr : (dBuild P t ps.toList).run cx k F h = some l := hr
    unfold dBuild at hr
    split at hr
    · rename_i z hz
      split at hr
      · rename_i pl hpl
        split at hr
        · rename_i fl hl
          dsimp only at hr
          split at hr
          · rename_i vs hvs
            obtain ⟨v, hv, rfl, hraw⟩ := zerosT_some hz
            obtain ⟨i, hi, hzi⟩ := zeroT_some ρ hv
            have hf := run_fill ρ rf.to hl hok hvs
            rw [← show (v.den ρ).cells = (V.denL ρ v.cells).toArray from den_cells _ _ hraw] at hf
            have hps : (ps.map fun (i, x) => (i, a.eval x)).toList = ps.toList.map fun p => (p.1, a.eval p.2) := by simp
            have hb : P.built t (ps.map fun (i, x) => (i, a.eval x)).toList = some (V.denL ρ vs).toArray := by
              rw [hps]
              unfold placeOf at hpl
              split at hpl
              · rename_i fs hu
                split at hpl
                · rename_i pls hpls
                  cases hpl
                  simp only [Program.built, hi, hu, hzi, placesF_some hpls]
                  exact hf
                · cases hpl
              · rename_i m e hu
                split at hpl
                · rename_i ie hie
                  cases hpl
                  simp only [Program.built, hi, hu, hzi, hie]
                  exact hf
                · cases hpl
              · cases hpl
            exact ⟨.agg (V.denL ρ vs).toArray, fun w => by simp only [execOp, ho, Sem.run_bind, run_build w t _ _ hb, Result.andThen_ok, Sem.run_pure]⟩
          · cases hr
        · cases hr
      · cases hr
    · cases hr
  · cases hr
theorem text_stable {P : Program} {o : Oper} {s d e : TypeId} {y : Operand} (ho : o.op = .convert s d y) (hs : P.underlying s = some (.slice e)) (hd : P.underlying d = some .string) (he : P.underlying e = some (.int .u8)) {ev : Operand → Value} {B len cap : Nat} (hev : ev y = .slice (some ⟨B, 0, none⟩) len cap) {x : Value} {w : World} (hB : ∃ c t, w.heap[B]? = some (.cells c t))
    (h : (execOp ev o).run P w = .ok (.value x) w) : ∀ w' : World, w'.heap[B]? = w.heap[B]? → (execOp ev o).run P w' = .ok (.value x) w' := by
  have key : ∀ w : World, (execOp ev o).run P w = ((Conv.bytesToString (.slice (some ⟨B, 0, none⟩) len cap)).run P w).andThen fun v w => .ok (.value v) w := by
    intro w
    simp only [execOp, ho, Sem.run_bind, Sem.run_pure, convert, run_underlying hs, run_underlying hd, run_underlying he, Result.andThen_ok, hev]
  intro w' hw
  rw [key] at h ⊢
  cases hb : (Conv.bytesToString (.slice (some ⟨B, 0, none⟩) len cap)).run P w with
  | halt e w2 => rw [hb] at h; cases h
  | ok v w2 =>
    rw [hb] at h
    rw [bytes_stable hB hb w' hw]
    simp only [Result.andThen_ok] at h ⊢
    injection h with h _
    injection h with h
    rw [h]
end Go.Gx

/- Regions that draw: the theorem. -/
namespace Go.Gx
open Go Go.Sx

section
variable {P : Program} {n : Nat} {rd : Bool} {ops : Array Oper} {rs : List Row} {w0 : Base} {hs h : H} {ρs ρ : Rho} {ws w : World} {D : Nat} {listed : Array Bool} {Bl : Nat → Nat} {F : Fr} {a a' : Act}
theorem spOk_some {sp : List Nat} (h : spOk rs D sp = true) {j : Nat} (hj : j ∈ sp) : ∃ j1, lateAt rs D j1 = true ∧ ((sp = [j1] ∧ j = j1) ∨ ∃ d, sp = [j1, d] ∧ depAt rs D j1 d = true ∧ (j = j1 ∨ j = d)) := by
  unfold spOk at h
  split at h
  · cases hj
  · rename_i j1
    exact ⟨j1, h, .inl ⟨rfl, by simpa using hj⟩⟩
  · rename_i j1 d
    simp only [Bool.and_eq_true] at h
    exact ⟨j1, h.1, .inr ⟨d, rfl, h.2, by simpa using hj⟩⟩
  · cases h
theorem lateAt_some {j : Nat} (h : lateAt rs D j = true) : ∃ r, rs[j]? = some r ∧ isLate r.kind = true ∧ isAlloc r.o = false ∧ D.testBit j = false ∧ ∀ m, r.mask.testBit m = true → D.testBit m = true := by
  unfold lateAt at h
  rw [nthL_eq] at h
  split at h
  · rename_i r hr
    simp only [Bool.and_eq_true, has_eq] at h
    obtain ⟨⟨⟨h1, h2⟩, h3⟩, h4⟩ := h
    exact ⟨r, hr, h1, by simpa using h2, by simpa using h3, fun m hm => sub_spec h4 hm⟩
  · cases h
theorem depAt_some {j d : Nat} (h : depAt rs D j d = true) : ∃ q r, rs[j]? = some q ∧ rs[d]? = some r ∧ r.kind = .dep ∧ D.testBit d = false ∧ r.mask.testBit j = true ∧ (∀ m, r.mask.testBit m = true → D.testBit m = true ∨ m = j) ∧ turns q.o r.o = true := by
  unfold depAt at h
  rw [nthL_eq, nthL_eq] at h
  split at h
  · rename_i q r hq hr
    simp only [Bool.and_eq_true, has_eq] at h
    obtain ⟨⟨⟨⟨h1, h2⟩, h3⟩, h4⟩, h5⟩ := h
    refine ⟨q, r, hq, hr, by cases hk : r.kind <;> simp_all [isDep], by simpa using h2, h3, fun m hm => ?_, h5⟩
    have := sub_spec h4 hm
    rw [lor_bit, Bool.or_eq_true] at this
    rcases this with h | h
    · exact .inl h
    · exact .inr (of_decide_eq_true h).symm
  · cases h
theorem late_fine (hg : Planned P ops rs) {j : Nat} {r : Row} (hr : rs[j]? = some r) (hk : isLate r.kind = true) : lateFine r.o = true := by
  have h1 := (hg.parts hr).1
  unfold kindFine at h1
  cases hk' : r.kind <;> rw [hk'] at h1 hk <;> first | exact h1 | cases hk
theorem calm_fine (hg : Planned P ops rs) {j : Nat} {r : Row} (hr : rs[j]? = some r) (hk : isCalm r.kind = true) : isCalm (kindOf r.o) = true := by
  have h1 := (hg.parts hr).1
  unfold kindFine at h1
  cases hk' : r.kind <;> rw [hk'] at h1 hk <;> first | exact h1 | (cases hk; done) | (simp only [Bool.and_eq_true] at h1; exact h1.1)
theorem late_dst {o : Oper} (h : lateFine o = true) : o.guard = none ∧ ∃ t, o.dst = some t := by
  unfold lateFine at h
  split at h
  · rename_i _ t h1 h2 h3; exact ⟨h2, t, h3⟩
  · rename_i _ _ _ t h1 h2 h3; exact ⟨h2, t, h3⟩
  · cases h

/-- what the plan's step comes to for the early ones, where a late one may come early: it can -/
theorem early_late (hg : Planned P ops rs) (hfine : ∀ o ∈ ops, operFine P n o = true) (s : Sim P n ops rs w0 hs ρs ws D listed Bl F h ρ a a' w) {j : Nat} {r : Row} (hr : rs[j]? = some r) (hk : isLate r.kind = true) (he : ∀ e ∈ edges r.o, listed[e]? = some true)
    (hev : isAlloc r.o = true ∨ ((∀ m, r.mask.testBit m = true → D.testBit m = true) ∧ ∃ cx k l, (stepO P n rd ops.toList r.o).run cx k F h = some l)) : ∃ obj mk, LateV P r.o a.eval obj mk := by
  rcases hev with hal | ⟨hm, cx, k, l, hrun⟩
  · unfold isAlloc at hal
    split at hal
    · rename_i e ho
      exact alloc_late ho (hfine _ (Array.mem_of_getElem? (hg.get _ _ hr).2)) ρ _
    · cases hal
  · obtain ⟨h1, _⟩ := stepO_late (late_fine hg hr hk) hrun
    obtain ⟨ob, v, obj, mk, _, _, h2, _⟩ := late_tell (late_fine hg hr hk) h1 s.rel s.frm
    obtain ⟨_, hsel, _⟩ := no_op hfine (hg.get _ _ hr).2
    have ag : Agr ops r.o a a' := s.agree hg hr fun e he' => ⟨hm e (hg.edge hr he'), he e he'⟩
    exact ⟨obj, mk, fun w => by rw [ag.exec hsel]; exact h2 w⟩

theorem reckon_run {o : Oper} (hg : o.guard = none) {cx : Cx} {k : V → H → Res} {F : Fr} {h : H} {l : List (V × H)} (hr : (reckon P n ops.toList o).run cx k F h = some l) : ∃ l', (dOper P n o).run cx (fun v h => some [(v, h)]) F h = some l' := by
  unfold reckon at hr
  split at hr
  · cases hr
  · dsimp only at hr
    rw [hg] at hr
    simp only [soloO] at hr
    split at hr
    · rename_i l0 hl0; exact ⟨l0, hl0⟩
    · cases hr
theorem Goes.agr {o : Oper} {R : Value → World → Prop} (h : Goes P o a' w R) (ag : Agr ops o a a') (hs : opSelect o.op = false) : Goes P o a w R := by
  unfold Goes at *
  rw [ag.exec hs]
  exact h
theorem dep_not_alloc {r : Row} (h : depFine P r.o = true) : isAlloc r.o = false := by
  unfold depFine at h
  split at h
  · rename_i h1 _ _; simp [isAlloc, h1]
  · rename_i h1 _ _; simp [isAlloc, h1]
  · cases h
theorem dep_dst {o : Oper} (h : depFine P o = true) : ∃ t, o.dst = some t := by
  unfold depFine at h
  split at h
  · exact ⟨_, by assumption⟩
  · exact ⟨_, by assumption⟩
  · cases h

theorem specs_one {l : List Oper} {j : Nat} {o : Oper} (h1 : nthL l j = some o) : specs P n rd l [j] = stepO P n rd l o := by simp only [specs, h1]
theorem specs_two {l : List Oper} {j d : Nat} {o q : Oper} (h1 : nthL l j = some o) (h2 : nthL l d = some q) : specs P n rd l [j, d] = ⟨fun cx k F h => (stepO P n rd l o).run cx (fun F h => (stepC P n l q).run cx k F h) F h⟩ := by simp only [specs, h1, h2]
/-- what hangs on a late one that lies there already: it may come early -/
theorem early_dep (hsc : SoundC P n) (hg : Planned P ops rs) (hfine : ∀ o ∈ ops, operFine P n o = true) {cx : Cx} (hcx : CxOk P w0 cx) (hs0 : RelH w0 ρs hs ws) (s : Sim P n ops rs w0 hs ρs ws D listed Bl F h ρ a a' w) {j1 d : Nat} (h1 : lateAt rs D j1 = true) (h2 : depAt rs D j1 d = true) {r : Row} (hr : rs[d]? = some r)
    (he : ∀ e ∈ edges r.o, listed[e]? = some true) {l : List (V × H)} (hrun : (specs P n rd ops.toList [j1, d]).run cx (fun _ _ => some []) F h = some l) :
    ∃ x t B, r.o.dst = some t ∧ YieldsAt P ops r.o a w x ∧ B < w.heap.size ∧ (∀ w' : World, w'.heap[B]? = w.heap[B]? → (execOp a.eval r.o).run P w' = .ok (.value x) w') ∧
      ∀ (j2 : Nat) (r2 : Row), rs[j2]? = some r2 → isLate r2.kind = true → isAlloc r2.o = false → D.testBit j2 = false → r.mask.testBit j2 = true → B = Bl j2 := by
  obtain ⟨q1, hq1, hk1, hna1, hD1, hm1⟩ := lateAt_some h1
  obtain ⟨q1', r', hq1', hr', hkd, hDd, hmd, hsubd, hturn⟩ := depAt_some h2
  rw [hq1] at hq1'
  cases hq1'
  rw [hr] at hr'
  cases hr'
  have ho1 := (hg.get _ _ hq1).2
  have hod := (hg.get _ _ hr).2
  obtain ⟨hgd, hdf, hcd⟩ := dep_guard (hg.parts hr).1 hkd
  obtain ⟨_, hsel1, hok1⟩ := no_op hfine ho1
  obtain ⟨_, hseld, hokd⟩ := no_op hfine hod
  have hl1 : listed[j1]? = some true := mask_listed hg s.cl d r hr he j1 hmd
  rw [specs_two (show nthL ops.toList j1 = some q1.o by rw [nthL_eq]; simpa using ho1) (show nthL ops.toList d = some r.o by rw [nthL_eq]; simpa using hod)] at hrun
  obtain ⟨g1, _, t1, ht1, _⟩ := stepO_late (late_fine hg hq1 hk1) hrun
  obtain ⟨ob, v1, obj, mk, hn, hk2, hv, his, hsl, hcells⟩ := late_tell (late_fine hg hq1 hk1) g1 s.rel s.frm
  obtain ⟨⟨obj0, mk0, t0, f1, f2, f3, f4⟩, f5, f6, f7⟩ := s.early j1 q1 hq1 hk1 hD1 hl1
  rw [ht1] at f1
  cases f1
  have ag1 : Agr ops q1.o a a' := s.agree hg hq1 fun e he => ⟨hm1 e (hg.edge hq1 he), s.cl j1 q1 hq1 hl1 e he⟩
  obtain ⟨rfl, hmk⟩ := LateV.same f4 hv (ag1.exec hsel1) w
  have hle1 : Le h ρ (ρ.setBlk h.nb (Bl j1)) := le_setBlk h ρ _
  have hb1 : (ρ.setBlk h.nb (Bl j1)).blk h.nb = Bl j1 := by simp [Rho.setBlk]
  have hlt : h.nb < (h.add ob).nb := Nat.lt_succ_self _
  have hrel := relH_reveal s.rel ob obj0 hn hle1 hb1 f5 (Nat.le_trans hs0.to.ext.size f6) f3 f7 fun ρ' hl' => (his ρ' (Bl j1) (hle1.trans (gr_add h ob) hl') ((hl'.blk h.nb hlt).trans hb1)).1
  have hden : Den (h.add ob) (ρ.setBlk h.nb (Bl j1)) v1 (mk (Bl j1)) := fun ρ' hl' => (his ρ' (Bl j1) (hle1.trans (gr_add h ob) hl') ((hl'.blk h.nb hlt).trans hb1)).2
  have hfrm := relF_set (s.frm.more hle1 (gr_add h ob)) hok1 hden
  have hk2 : (reckon P n ops.toList r.o).run cx (fun _ _ => some []) ((wd q1.o.dst).s v1 F) (h.add ob) = some l := hk2
  obtain ⟨_, v, h', x, l', _, _, _, _, hy⟩ := reckon_ok (hsc r.o hcd) hcx hk2 hrel hfrm
  obtain ⟨lr, hrr⟩ := reckon_run hgd hk2
  obtain ⟨t, ht⟩ := dep_dst hdf
  have sz' : a'.tmps.size = n := s.frm.to.size
  have ag : Agr ops r.o a (a'.put q1.o.dst (mk (Bl j1))) := by
    intro t' ht'
    by_cases e : t' = t1
    · subst e
      rw [ht1, tmps_put_eq (by rw [sz']; exact tmp_lt hok1 ht1), f2, hmk]
    · rw [tmps_put_ne (by rw [ht1]; exact fun e' => e (Option.some.inj e').symm)]
      refine s.agr t' fun m o ho hd' => ?_
      obtain ⟨q, hq, rfl⟩ := hg.ex ho
      by_cases em : m = d
      · subst em
        rw [hr] at hq
        cases hq
        exact absurd ht' (hg.self hr (not_eff (by rw [hkd]; rfl)) hd')
      · rcases hg.reads hr hq em hd' ht' with g1 | ⟨g1, _⟩
        · refine ⟨fun _ => he m g1, fun _ => ?_⟩
          rcases hsubd m (hg.edge hr g1) with g2 | g2
          · exact g2
          · subst g2
            rw [hq1] at hq
            cases hq
            rw [ht1] at hd'
            exact absurd (Option.some.inj hd').symm e
        · exact s.eff m q hq g1
  have hyw := (hy w hrel).agr ag.symm hseld
  have hex : (execOp a.eval r.o).run P w = .ok (.value x) w := by
    rcases hyw with ⟨_, h2⟩ | ⟨h2, _⟩
    · exact h2
    · rw [wanted_none hgd] at h2; cases h2
  refine ⟨x, t, Bl j1, ht, hyw, f5, ?_, fun j2 r2 k1 k2 k3 k4 k5 => ?_⟩
  · have hdf2 := hdf
    unfold depFine at hdf2
    split at hdf2
    · rename_i tt ps tdst hop _ _
      obtain ⟨x', hx'⟩ := build_any hop hrr hfrm
      have h3 := hx' w
      rw [← ag.exec hseld, hex] at h3
      injection h3 with h3
      injection h3 with h3
      intro w' _
      rw [ag.exec hseld, h3]
      exact hx' w'
    · rename_i sx dx yx tdst hop _ _
      split at hdf2
      · rename_i ex hus hud
        split at hdf2
        · rename_i hue
          obtain ⟨len, hlen⟩ := hsl hna1
          refine text_stable hop hus hud hue (len := len) (cap := len) ?_ (by obtain ⟨c, ty, rfl⟩ := hcells; exact ⟨c, ty, f3⟩) hex
          unfold turns at hturn
          rw [hop] at hturn
          simp only at hturn
          split at hturn
          · rename_i tq uq _ hu
            rw [ht1] at hu
            cases hu
            have := Nat.eq_of_beq_eq_true hturn
            subst this
            simp only [Act.eval, Array.getD_eq_getD_getElem?, f2, Option.getD_some, hmk, hlen]
          · cases hturn
        · cases hdf2
      · cases hdf2
    · cases hdf2
  · rcases hsubd j2 k5 with g | g
    · rw [k4] at g; cases g
    · rw [g]

section
variable (P n rd ops rs w0 hs ρs ws) (fr : Option Nat) (Q : Exit → Act → World → Prop) (cx : Cx) (k : Fr → H → Res) (ls : List (V × H))
def Claim (fuel : Nat) : Prop := ∀ (p : Plan) (D : Nat) (listed : Array Bool) (Bl : Nat → Nat) (F : Fr) (h : H) (ρ : Rho) (a a' : Act) (w : World) (l : List (V × H)), chk rs p D = true → (planRun P n rd ops.toList p).run cx k F h = some l → (∀ y ∈ l, y ∈ ls) →
  Sim P n ops rs w0 hs ρs ws D listed Bl F h ρ a a' w → unl listed ≤ fuel → wpAnyIn (fen fr) 0 P .any ops Q fuel listed a w
end
theorem draw_plan (hsd : Sound P n) (hsc : SoundC P n) (hg : Planned P ops rs) (hfine : ∀ o ∈ ops, operFine P n o = true) {cx : Cx} (hcx : CxOk P w0 cx) (hs0 : RelH w0 ρs hs ws) {fr : Option Nat} {Q : Exit → Act → World → Prop} {k : Fr → H → Res} {ls : List (V × H)}
    (hk : ∀ F' h' ρ' l' a' w', k F' h' = some l' → (∀ y ∈ l', y ∈ ls) → Le hs ρs ρ' → Gr hs h' → RelH w0 ρ' h' w' → RelF n ρ' F' h' a' → Fra hs ρs ws h' ρ' w' → Q .normal a' w')
    (fuel : Nat) (IH : ∀ f, fuel = f + 1 → Claim P n rd ops rs w0 hs ρs ws fr Q cx k ls f) : Claim P n rd ops rs w0 hs ρs ws fr Q cx k ls fuel := by
  intro p
  have at_ : ∀ {i : Nat} {r : Row}, rs[i]? = some r → ops[i]? = some r.o ∧ nthL ops.toList i = some r.o := fun h => ⟨(hg.get _ _ h).2, by rw [nthL_eq]; simpa using (hg.get _ _ h).2⟩
  induction p with
  | nop => intro D listed Bl F h ρ a a' w l hchk; cases hchk
  | done =>
    intro D listed Bl F h ρ a a' w l hchk hrun hls s hc
    have hall : ∀ (j : Nat) (r : Row), rs[j]? = some r → D.testBit j = true := fun j r hr => by
      have := List.all_eq_true.1 hchk r (List.mem_of_getElem? hr)
      rw [has_eq, (hg.get _ _ hr).1] at this
      exact this
    refine wpAny_of hg s.lsz hc (fun hl => ?_) fun f hf j o ho hl he => ?_
    · refine hk F h ρ l a w hrun hls s.le s.gr s.rel (fun ρ' hle => ?_) s.fra
      have r0 := s.frm ρ' hle
      refine ⟨r0.le, s.sz, fun t ht => ?_, by rw [s.df]; exact r0.df⟩
      rw [s.agr t fun j o ho _ => ?_]
      · exact r0.tm t ht
      · obtain ⟨r, hr, rfl⟩ := hg.ex ho
        exact ⟨fun _ => hl j (Array.getElem?_eq_some_iff.1 ho).1, fun _ => hall j r hr⟩
    · obtain ⟨r, hr, rfl⟩ := hg.ex ho
      obtain ⟨x, hy, s'⟩ := sim_held hg hfine s hr (hall j r hr) hl he
      exact wpOp_yields ho (no_op hfine ho).1 hy (IH f hf .done D _ Bl F h ρ _ a' w l hchk hrun hls s' (by have := unl_set hl; omega))
  | calm i next ih =>
    intro D listed Bl F h ρ a a' w l hchk hrun hls s hc
    simp only [chk, nthL_eq] at hchk
    split at hchk
    · rename_i r hr
      simp only [Bool.and_eq_true, forceN_eq, has_eq] at hchk
      obtain ⟨⟨⟨c1, c2⟩, c3⟩, c4⟩ := hchk
      have hD : D.testBit i = false := by simpa using c2
      simp only [planRun, (at_ hr).2] at hrun
      have hrun : (reckon P n ops.toList r.o).run cx (fun v h => (planRun P n rd ops.toList next).run cx k ((wd r.o.dst).s v F) h) F h = some l := hrun
      obtain ⟨_, v, h', x, l', e1, e2, e3, e4, e5⟩ := reckon_ok (hsc r.o (calm_fine hg hr c1)) hcx hrun s.rel s.frm
      exact ih _ _ _ _ _ _ _ _ _ _ c4 e1 (fun y hy => hls y (e2 y hy)) (sim_calm hg hfine s hr c1 hD (fun m hm => sub_spec c3 hm) e3 e4 e5) hc
    · cases hchk
  | late i next ih =>
    intro D listed Bl F h ρ a a' w l hchk hrun hls s hc
    have hchk0 := hchk
    have hrun0 := hrun
    simp only [chk, nthL_eq] at hchk
    split at hchk
    · rename_i r hr
      simp only [Bool.and_eq_true, forceN_eq, has_eq] at hchk
      obtain ⟨⟨⟨⟨c1, c2⟩, c3⟩, c4⟩, c5⟩ := hchk
      have hD : D.testBit i = false := by simpa using c2
      simp only [planRun, (at_ hr).2] at hrun
      have hrun : (stepO P n rd ops.toList r.o).run cx (fun F h => (planRun P n rd ops.toList next).run cx k F h) F h = some l := hrun
      have hm : ∀ m, r.mask.testBit m = true → D.testBit m = true := fun m hm => sub_spec c3 hm
      have ilt : i < listed.size := by rw [s.lsz]; exact (Array.getElem?_eq_some_iff.1 (at_ hr).1).1
      cases hli : listed[i] with
      | true =>
        have hl : listed[i]? = some true := by rw [Array.getElem?_eq_getElem ilt, hli]
        obtain ⟨g1, _, t, ht, _⟩ := stepO_late (late_fine hg hr c1) hrun
        obtain ⟨ob, v, obj, mk, hn, hk2, hv, his, _⟩ := late_tell (late_fine hg hr c1) g1 s.rel s.frm
        exact ih _ _ _ _ _ _ _ _ _ _ c5 hk2 hls (sim_late hg hfine hs0 s hr c1 hD hl hm hn hv his) hc
      | false =>
        have hl : listed[i]? = some false := by rw [Array.getElem?_eq_getElem ilt, hli]
        refine wpAny_of hg s.lsz hc (fun hall => ?_) fun f hf j o ho hlj he => ?_
        · have := hall i (by rw [← s.lsz]; exact ilt)
          rw [hl] at this; cases this
        · obtain ⟨q, hq, rfl⟩ := hg.ex ho
          cases hDj : D.testBit j with
          | true =>
            obtain ⟨x, hy, s'⟩ := sim_held hg hfine s hq hDj hlj he
            exact wpOp_yields ho (no_op hfine ho).1 hy (IH f hf (.late i next) D _ Bl F h ρ _ a' w l hchk0 hrun0 hls s' (by have := unl_set hlj; omega))
          | false =>
            have hj := List.all_eq_true.1 c4 q (List.mem_of_getElem? hq)
            rw [Bool.or_eq_true, Bool.or_eq_true, Bool.or_eq_true, (hg.get _ _ hq).1, hDj] at hj
            have hcase : isLate q.kind = true ∧ (isAlloc q.o = true ∨ ((∀ m, q.mask.testBit m = true → D.testBit m = true) ∧ ∃ cx k l, (stepO P n rd ops.toList q.o).run cx k F h = some l)) := by
              rcases hj with ((hj | hj) | hj) | hj
              · cases hj
              · have := Nat.eq_of_beq_eq_true hj
                subst this
                rw [hr] at hq
                cases hq
                exact ⟨c1, .inr ⟨hm, _, _, _, hrun⟩⟩
              · simp only [Bool.and_eq_true] at hj
                refine ⟨?_, .inl hj.2⟩
                have h1 := hj.1
                unfold free at h1
                rw [Bool.or_eq_true] at h1
                rcases h1 with h1 | h1
                · exact h1
                · have hkd : q.kind = .dep := by cases hk : q.kind <;> simp_all [isDep]
                  have := dep_not_alloc (dep_guard (hg.parts hq).1 hkd).2.1
                  rw [this] at hj; cases hj.2
              · have := mask_listed hg s.cl j q hq he i hj
                rw [hl] at this; cases this
            obtain ⟨hkl, hev⟩ := hcase
            obtain ⟨obj, mk, hv⟩ := early_late hg hfine s hq hkl he hev
            obtain ⟨hgn, t, ht⟩ := late_dst (late_fine hg hq hkl)
            refine wpOp_goes (R := fun x w' => x = mk w.heap.size ∧ w' = w.alloc obj) ho (no_op hfine ho).1 (wanted_none hgn _) ⟨_, _, hv w, rfl, rfl⟩ fun x w' hx => ?_
            obtain ⟨rfl, rfl⟩ := hx
            exact IH f hf (.late i next) D _ _ F h ρ _ a' _ l hchk0 hrun0 hls (sim_early hg hfine s hq hkl hDj hlj he ht hv) (by have := unl_set hlj; omega)
    · cases hchk
  | eff i re sp next ih =>
    intro D listed Bl F h ρ a a' w l hchk hrun hls s hc
    have hchk0 := hchk
    have hrun0 := hrun
    simp only [chk, nthL_eq] at hchk
    split at hchk
    · rename_i r hr
      simp only [Bool.and_eq_true, forceN_eq, has_eq] at hchk
      obtain ⟨⟨⟨⟨⟨⟨⟨c1, c2⟩, c3⟩, c4⟩, c5⟩, c6⟩, c7⟩, c8⟩ := hchk
      have hD : D.testBit i = false := by simpa using c2
      have hm : ∀ m, r.mask.testBit m = true → D.testBit m = true := fun m hm => sub_spec c3 hm
      have ilt : i < listed.size := by rw [s.lsz]; exact (Array.getElem?_eq_some_iff.1 (at_ hr).1).1
      have hl : listed[i]? = some false := by
        cases hli : listed[i] with
        | false => rw [Array.getElem?_eq_getElem ilt, hli]
        | true =>
          have := (s.eff i r hr c1).2 (by rw [Array.getElem?_eq_getElem ilt, hli])
          rw [hD] at this; cases this
      simp only [planRun, (at_ hr).2] at hrun
      have hrunE : (stepO P n rd ops.toList r.o).run cx (fun F h => (agains P n ops.toList re).run cx (fun F h => (planRun P n rd ops.toList next).run cx k F h) F h) F h = some l ∧ (sp = [] ∨ ∃ l0, (specs P n rd ops.toList sp).run cx (fun _ _ => some []) F h = some l0) := by
        split at hrun
        · rename_i hnil
          refine ⟨hrun, .inl ?_⟩
          cases sp with
          | nil => rfl
          | cons _ _ => cases hnil
        · dsimp only at hrun
          split at hrun
          · rename_i l0 hl0; exact ⟨hrun, .inr ⟨l0, hl0⟩⟩
          · cases hrun
      obtain ⟨hrunE, hspec⟩ := hrunE
      -- who else may come up
      have others : ∀ (j : Nat) (q : Row), rs[j]? = some q → D.testBit j = false → (∀ e ∈ edges q.o, listed[e]? = some true) → j ≠ i → free q = true ∧ (isAlloc q.o = true ∨ j ∈ sp) := by
        intro j q hq hDj he hne
        have hj := List.all_eq_true.1 c4 q (List.mem_of_getElem? hq)
        rw [Bool.or_eq_true, Bool.or_eq_true, Bool.or_eq_true, (hg.get _ _ hq).1, hDj, Bool.and_eq_true, Bool.or_eq_true, any_beq] at hj
        rcases hj with ((hj | hj) | hj) | hj
        · cases hj
        · exact absurd (Nat.eq_of_beq_eq_true hj) hne
        · have := mask_listed hg s.cl j q hq he i hj
          rw [hl] at this; cases this
        · exact hj
      refine wpAny_of hg s.lsz hc (fun hall => ?_) fun f hf j o ho hlj he => ?_
      · have := hall i (by rw [← s.lsz]; exact ilt)
        rw [hl] at this; cases this
      · obtain ⟨q, hq, rfl⟩ := hg.ex ho
        cases hDj : D.testBit j with
        | true =>
          obtain ⟨x, hy, s'⟩ := sim_held hg hfine s hq hDj hlj he
          exact wpOp_yields ho (no_op hfine ho).1 hy (IH f hf (.eff i re sp next) D _ Bl F h ρ _ a' w l hchk0 hrun0 hls s' (by have := unl_set hlj; omega))
        | false =>
          by_cases hji : j = i
          · -- the effect itself
            subst hji
            rw [hr] at hq
            cases hq
            obtain ⟨hnd, hsel, hok⟩ := no_op hfine ho
            have ag : Agr ops r.o a a' := s.agree hg hr fun e he' => ⟨hm e (hg.edge hr he'), he e he'⟩
            have on : ∀ x w1, Out w0 ρ h w (fun F h => (agains P n ops.toList re).run cx (fun F h => (planRun P n rd ops.toList next).run cx k F h) F h) l r.o F x w1 → wpAnyIn (fen fr) 0 P .any ops Q f (listed.setIfInBounds j true) (a.put r.o.dst x) w1 := by
              rintro x w1 ⟨v, h1, ρ1, l1, e1, e2, hle, hgr, hrel, hden, hfra⟩
              have hfrm := relF_set (s.frm.more hle hgr) hok hden
              obtain ⟨h2, l2, f1, f2, f3, f4⟩ := agains_ok hsc hcx (fun j' hj' o' ho' => by
                have h1 := List.all_eq_true.1 c6 j' hj'
                split at h1
                · rename_i q' hq'
                  have := (at_ hq').1
                  rw [ho'] at this
                  cases this
                  simp only [Bool.and_eq_true] at h1
                  exact calm_fine hg hq' h1.1
                · cases h1) e1 hrel hfrm
              refine IH f hf next _ _ Bl _ h2 ρ1 _ _ w1 l2 c8 f1 (fun y hy => hls y (e2 y (f2 y hy))) (sim_eff hg hfine s hs0 hr c1 hD hl he hm ?_ hle hgr hrel hden hfra f3 ?_) (by have := unl_set hlj; omega)
              · intro j' q' hq' hk' hD' hl'
                have he' := s.cl j' q' hq' hl'
                have hne : j' ≠ j := fun e => by rw [e, hl] at hl'; cases hl'
                obtain ⟨hfr, hal⟩ := others j' q' hq' hD' he' hne
                rcases hal with hal | hal
                · have := dep_not_alloc (dep_guard (hg.parts hq').1 hk').2.1
                  rw [this] at hal; cases hal
                · obtain ⟨j1, g1, g2⟩ := spOk_some c7 hal
                  obtain ⟨r1, k1, k2, k3, k4, _⟩ := lateAt_some g1
                  rcases g2 with ⟨_, rfl⟩ | ⟨d, _, g3, rfl | rfl⟩
                  · rw [hq'] at k1; cases k1; rw [hk'] at k2; cases k2
                  · rw [hq'] at k1; cases k1; rw [hk'] at k2; cases k2
                  · obtain ⟨_, r', _, m2, _, _, m5, _⟩ := depAt_some g3
                    rw [hq'] at m2
                    cases m2
                    exact ⟨j1, r1, k1, k2, k3, k4, m5⟩
              · intro j' q' hq' hk' hD' hmm w' rw'
                have h1 := List.all_eq_true.1 c5 q' (List.mem_of_getElem? hq')
                rw [(hg.get _ _ hq').1, hk', hD', hmm] at h1
                exact f4 j' (any_beq.1 (by simpa using h1)) q'.o (at_ hq').1 w' rw'
            rcases stepO_out hnd (hsd r.o hnd) hcx hrunE s.rel s.frm with ⟨g1, g2⟩ | ⟨g1, g2⟩
            · exact wpOp_goes ho hnd (by rw [ag.wanted]; exact g1) (g2.agr ag hsel) on
            · exact wpOp_skip ho (by rw [ag.wanted]; exact g1) (on _ _ g2)
          · obtain ⟨hfr, hal⟩ := others j q hq hDj he hji
            unfold free at hfr
            rw [Bool.or_eq_true] at hfr
            rcases hfr with hkl | hkd
            · have hev : isAlloc q.o = true ∨ ((∀ m, q.mask.testBit m = true → D.testBit m = true) ∧ ∃ cx k l, (stepO P n rd ops.toList q.o).run cx k F h = some l) := by
                rcases hal with hal | hal
                · exact .inl hal
                · obtain ⟨j1, g1, g2⟩ := spOk_some c7 hal
                  obtain ⟨r1, k1, _, _, _, k5⟩ := lateAt_some g1
                  rcases hspec with hnil | ⟨l0, hl0⟩
                  · rw [hnil] at hal; cases hal
                  · rcases g2 with ⟨e1, e2⟩ | ⟨d, e1, g3, e2 | e2⟩
                    · rw [← e2, hq] at k1
                      cases k1
                      rw [e1, ← e2, specs_one (at_ hq).2] at hl0
                      exact .inr ⟨k5, _, _, _, hl0⟩
                    · rw [← e2, hq] at k1
                      cases k1
                      obtain ⟨_, rd', _, m2, _⟩ := depAt_some g3
                      rw [e1, ← e2, specs_two (at_ hq).2 (at_ m2).2] at hl0
                      exact .inr ⟨k5, _, _, _, hl0⟩
                    · obtain ⟨_, r', _, m2, m3, _⟩ := depAt_some g3
                      rw [← e2, hq] at m2
                      cases m2
                      rw [m3] at hkl; cases hkl
              obtain ⟨obj, mk, hv⟩ := early_late hg hfine s hq hkl he hev
              obtain ⟨hgn, t, ht⟩ := late_dst (late_fine hg hq hkl)
              refine wpOp_goes (R := fun x w' => x = mk w.heap.size ∧ w' = w.alloc obj) ho (no_op hfine ho).1 (wanted_none hgn _) ⟨_, _, hv w, rfl, rfl⟩ fun x w' hx => ?_
              obtain ⟨rfl, rfl⟩ := hx
              exact IH f hf (.eff i re sp next) D _ _ F h ρ _ a' _ l hchk0 hrun0 hls (sim_early hg hfine s hq hkl hDj hlj he ht hv) (by have := unl_set hlj; omega)
            · have hkd' : q.kind = .dep := by cases hk : q.kind <;> simp_all [isDep]
              rcases hal with hal | hal
              · have := dep_not_alloc (dep_guard (hg.parts hq).1 hkd').2.1
                rw [this] at hal; cases hal
              · obtain ⟨j1, g1, g2⟩ := spOk_some c7 hal
                obtain ⟨r1, k1, k2, _⟩ := lateAt_some g1
                have hlast : ∃ d, sp = [j1, d] ∧ depAt rs D j1 d = true ∧ j = d := by
                  rcases g2 with ⟨_, e2⟩ | ⟨d, e1, g3, e2 | e2⟩
                  · rw [← e2, hq] at k1; cases k1; rw [hkd'] at k2; cases k2
                  · rw [← e2, hq] at k1; cases k1; rw [hkd'] at k2; cases k2
                  · exact ⟨d, e1, g3, e2⟩
                obtain ⟨d, e1, g3, e2⟩ := hlast
                rcases hspec with hnil | ⟨l0, hl0⟩
                · rw [hnil] at e1; cases e1
                · subst e2
                  rw [e1] at hl0
                  obtain ⟨x, t, B, m1, m2, m3, m4, m5⟩ := early_dep hsc hg hfine hcx hs0 s g1 g3 hq he hl0
                  exact wpOp_yields ho (no_op hfine ho).1 m2 (IH f hf (.eff i re sp next) D _ Bl F h ρ _ a' w l hchk0 hrun0 hls (sim_dep hg hfine s hq hkd' hDj hlj he m1 m3 m4 m5) (by have := unl_set hlj; omega))
    · cases hchk
theorem draw_go (hsd : Sound P n) (hsc : SoundC P n) (hg : Planned P ops rs) (hfine : ∀ o ∈ ops, operFine P n o = true) {cx : Cx} (hcx : CxOk P w0 cx) (hs0 : RelH w0 ρs hs ws) {fr : Option Nat} {Q : Exit → Act → World → Prop} {k : Fr → H → Res} {ls : List (V × H)}
    (hk : ∀ F' h' ρ' l' a' w', k F' h' = some l' → (∀ y ∈ l', y ∈ ls) → Le hs ρs ρ' → Gr hs h' → RelH w0 ρ' h' w' → RelF n ρ' F' h' a' → Fra hs ρs ws h' ρ' w' → Q .normal a' w') : ∀ fuel : Nat, Claim P n rd ops rs w0 hs ρs ws fr Q cx k ls fuel
  | 0 => draw_plan hsd hsc hg hfine hcx hs0 hk 0 fun f hf => by cases hf
  | f + 1 => draw_plan hsd hsc hg hfine hcx hs0 hk (f + 1) fun f' hf => by
    have : f = f' := by omega
    subst this
    exact draw_go hsd hsc hg hfine hcx hs0 hk f
end

theorem drawn_ok {P : Program} {n : Nat} {rd : Bool} {id : Nat} {ops : Array Oper} (hm : P.follows .mixedOrders = true) (hsd : Sound P n) (hsc : SoundC P n) : CodeOk P n rd (.region id ops true) := by
  intro w0 cx hcx k F h l hr ρ a w rh rf fr hfr Q hQ
  have hr : (drawO P n rd ops.toList).run cx (fun F h => k .normal F h) F h = some l := hr
  unfold drawO at hr
  dsimp only at hr
  split at hr
  · rename_i hok
    simp only [Bool.and_eq_true] at hok
    obtain ⟨h1, h2⟩ := hok
    have hfine : ∀ o ∈ ops, operFine P n o = true := fun o ho => List.all_eq_true.1 h2 o (by simpa using ho)
    unfold planOk at h1
    simp only [Bool.and_eq_true] at h1
    obtain ⟨h1, h3⟩ := h1
    have hg : Planned P ops (rowsOf ops.toList) := ⟨by rw [rows_len]; simp, fun k r hr => by
        obtain ⟨g1, g2⟩ := rows_get hr
        exact ⟨g1, by simpa using g2⟩, fun k r hr => List.all_eq_true.1 h1 r (List.mem_of_getElem? hr)⟩
    refine wpIn_region_any hm ?_
    have hrel : RelH w0 ρ h { w with drawn := w.drawn + 1 } := relH_drawn rh
    have hrep : ∀ j : Nat, (Array.replicate ops.size false)[j]? ≠ some true := fun j hj => by
      rw [Array.getElem?_replicate] at hj
      split at hj <;> cases hj
    have hz : ∀ j, Nat.testBit 0 j = false := fun j => Nat.zero_testBit j
    refine draw_go hsd hsc hg hfine hcx (hs := h) (ρs := ρ) (ws := { w with drawn := w.drawn + 1 }) hrel (ls := l) (fun F' h' ρ' l' a' w' e1 e2 e3 e4 e5 e6 e7 => ?_) ops.size _ 0 _ (fun _ => 0) F h ρ a a _ l h3 hr (fun _ hy => hy) ?_ ?_
    · exact hQ .normal F' h' ρ' l' a' w' e1 e2 e3 e4 e5 e6 ⟨e7.size, e7.old, e7.new, e7.kn⟩
    · refine ⟨hrel, rf, Le.refl _ _, Gr.refl _, Fra.refl _ _ _, rfl, rf.to.size, by simp, fun t _ => rfl, fun j r _ hl => absurd hl (hrep j), fun j r _ hD => ?_, fun j r _ _ => ⟨fun hD => ?_, fun hl => absurd hl (hrep j)⟩, fun j r _ _ hD => ?_, fun j r _ _ hl => absurd hl (hrep j), fun j r _ _ hD => ?_, fun j r _ _ _ hl => absurd hl (hrep j), fun j r _ _ _ hl => absurd hl (hrep j), fun j m r q _ _ _ _ _ _ hl => absurd hl (hrep j)⟩
      all_goals (rw [hz] at hD; cases hD)
    · unfold unl
      have := List.countP_le_length (p := fun b => !b) (l := (Array.replicate ops.size false).toList)
      simpa using this
  · cases hr

end Go.Gx

/- append. -/
namespace Go.Gx
open Go Go.Sx

theorem growBy_le4 (need : Nat) : ∀ (r c : Nat), c ≤ need + need / 4 + 512 → Builtin.growBy need r c ≤ need + need / 4 + 512
  | 0, c, h => h
  | r + 1, c, h => by
    simp only [Builtin.growBy]
    split
    · exact h
    · exact growBy_le4 need r _ (by omega)
theorem next_le4 {need cap : Nat} (h : cap < need) : Builtin.nextslicecap need cap ≤ need + need / 4 + 512 := by
  unfold Builtin.nextslicecap
  split
  · omega
  · split
    · omega
    · exact growBy_le4 need 4 cap (by omega)
theorem small_mul {a b c : Nat} (h1 : a ≤ b + c) (h2 : b ≤ 1250000) (h3 : c ≤ 512) {y : Nat} (hy : y ≤ 65536) : a * y ≤ 281474976710656 := by
  have h4 : a ≤ 1250512 := by omega
  have h5 := Nat.mul_le_mul h4 hy
  have h6 : 1250512 * 65536 = 81953554432 := by rfl
  rw [h6] at h5
  omega
theorem next_small {need cap bytes : Nat} (h : cap < need) (hn : need ≤ 1000000) (hb : bytes ≤ 65536) : Builtin.nextslicecap need cap * bytes ≤ 281474976710656 :=
  small_mul (next_le4 h) (by omega) (Nat.le_refl _) hb
theorem cap_range {w : World} {need old : Nat} {e : TypeId} (h : need ≤ 1000000) : need ≤ grownCap w need old e ∧ grownCap w need old e ≤ 9223372036854775807 := by
  have hm := Nat.mod_lt (w.tape w.drawn (.appendCap need old e)) (show 0 < 9223372036854775808 - need by omega)
  have e1 : grownCap w need old e = need + w.tape w.drawn (.appendCap need old e) % (9223372036854775808 - need) := rfl
  omega
/-- what is appended -/
theorem src_ok {P : Program} {w0 : Base} {ρ : Rho} {h : H} {w : World} (rh : RelH w0 ρ h w) {tx e : TypeId} {size n : Nat} (hk : srcT P tx e = true) {v : V} {cs : List V} {ln : E} (hc : cellsOf h size v = some cs) (hl : lenE v = some ln) (hn : litN ln = some n) (h1 : ∀ u ∈ cs, oneV u = true) : Src P size tx (v.den ρ) n (V.denL ρ cs) w := by
  obtain ⟨m, g1, g2, g3⟩ := cellsOf_ok (P := P) rh.to hc
  obtain ⟨m', g1', g2', g3'⟩ := cellsOf_ok (P := P) (relH_drawn rh).to hc
  have hln : ln.den ρ.toEnv = n := by rw [litN_some hn]; rfl
  have hlen : ∀ w' : World, (Builtin.lenOf (v.den ρ)).run P w' = .ok n w' := fun w' => by
    unfold lenE at hl
    split at hl
    · cases hl
      have : n = 0 := by have := litN_some hn; simp [lit] at this; omega
      simp [Builtin.lenOf, V.den, this]
    · rename_i l
      cases hl
      have : n = l.length := by have := litN_some hn; simp [lit, lenL_eq] at this; omega
      simp [Builtin.lenOf, V.den, strOf, size_str, this]
    · simp [cellsOf] at hc
    · cases hl
      simp [Builtin.lenOf, V.den, hln]
    · cases hl
  have em : m = n := by
    have := hlen w
    rw [g1] at this
    injection this
  have em' : m' = n := by
    have := hlen { w with drawn := w.drawn + 1 }
    rw [g1'] at this
    injection this
  subst em
  refine ⟨?_, hlen, ?_, ?_, by rw [denL_len, g2], fun u hu => ?_⟩
  · unfold srcT at hk
    split at hk
    · rename_i e' he; exact .inl ⟨e', he⟩
    · rename_i he; exact .inr he
    · cases hk
  · have := g3 m (Nat.le_refl _)
    rwa [List.take_of_length_le (by rw [denL_len]; omega)] at this
  · have := g3' m (by omega)
    rwa [List.take_of_length_le (by rw [denL_len]; omega)] at this
  · rw [denL_eq] at hu
    obtain ⟨x, hx, rfl⟩ := List.mem_map.1 hu
    exact one_den ρ (h1 x hx)
theorem two_args {α : Type} {xs : Array α} {a b : α} (h : xs.toList = [a, b]) : xs = #[a, b] := by
  cases xs with
  | mk l => simp at h; rw [h]
theorem den_mulO' (ρ : Env) (e : E) (n : Nat) : (mulO e n).den ρ = e.den ρ * n := den_mulO ρ e n
/-- a new row, with room behind what it holds -/
theorem grow_ok {w0 : Base} {ρ : Rho} {h : H} {w : World} (rh : RelH w0 ρ h w) {el : TypeId} {size need : Nat} {cs : List V} {k : KV} {l : List (V × H)} (hr : growN el size cs need h k = some l) {cap : Nat} (hc1 : need ≤ cap) (hc2 : cap ≤ 9223372036854775807)
    {news rest : List Value} (hcs : DenL h ρ cs news) (hlen : news.length + rest.length = cap * size) :
    Post w0 ρ h w k l (.slice (some ⟨w.heap.size, 0, none⟩) need cap) ((w.drew).alloc (.cells (news ++ rest).toArray el)) := by
  have hr := H.name_eq hr
  have rn : RelH w0 (ρ.setV h.nv cap) (h.nam (topN need)) w := relH_nam rh (i := topN need) (n := (cap : Int)) ⟨fun x hx => by cases hx; show (need : Int) ≤ cap; omega, fun x hx => by cases hx; show (cap : Int) ≤ 9223372036854775807; omega⟩
  have rd := relH_drawn rn
  have lv : Le h ρ (ρ.setV h.nv cap) := le_setV h ρ cap
  have gv : Gr h (h.nam (topN need)) := gr_nam h _
  have hv : ∀ ρ', Le (h.nam (topN need)) (ρ.setV h.nv cap) ρ' → ρ'.v h.nv = cap := fun ρ' hl => (hl.v h.nv (Nat.lt_succ_self _)).trans (by simp [Rho.setV])
  obtain ⟨ρ1, hb, hk, h1, h2, h3, h4, h5⟩ := new_post (ob := .row false el (some (mulO (.var h.nv) size)) cs) (obj := .cells (news ++ rest).toArray el) rd hr rfl fun ρ' hl => ⟨rest, by rw [hcs ρ' (lv.trans gv hl)], by
    show ((cs.length + rest.length : Nat) : Int) = (mulO (.var h.nv) size).den ρ'.toEnv
    rw [den_mulO]
    simp only [E.den, hv ρ' hl]
    have : cs.length = news.length := by rw [← hcs ρ' (lv.trans gv hl), denL_len]
    rw [this, hlen]
    simp⟩
  have f1 : Fra h ρ w (h.nam (topN need)) (ρ.setV h.nv cap) { w with drawn := w.drawn + 1 } := by
    have := fra_nam h ρ cap w (topN need)
    exact ⟨this.size, this.old, this.new, this.kn⟩
  refine ⟨_, _, ρ1, l, hk, fun _ hy => hy, lv.trans gv h1, gv.trans h2, h3, fun ρ' hl => ?_, Fra.trans rh lv f1 rd h1 h4⟩
  have e1 : ρ'.blk h.nb = w.heap.size := (hl.blk h.nb h5).trans hb
  have e2 : ρ'.v h.nv = cap := hv ρ' (h1.trans h2 hl)
  simp [V.den, lit, E.den, e2]
  exact e1
theorem yesLe_ok {ρ : Env} {h : H} (hb : h.bd.ok ρ) (hp : pcOk ρ h.pc) {a b : E} (hd : yesLe h a b = true) : a.den ρ ≤ b.den ρ := by
  unfold yesLe at hd
  split at hd
  · rename_i q
    simpa using decLe_ok hb hp q
  · cases hd
theorem fitsZ_ok {ρ : Env} {h : H} (hb : h.bd.ok ρ) (hp : pcOk ρ h.pc) {sz : Option E} {cap : E} {p tot size kn rest : Nat} (hf : fitsZ h sz cap p (p + tot * size) size kn = true) (hn : sz = none → rest = 0) (hs : ∀ e, sz = some e → ((kn + rest : Nat) : Int) = e.den ρ) (hc : (tot : Int) ≤ cap.den ρ) : p + tot * size ≤ kn + rest := by
  unfold fitsZ at hf
  split at hf
  · have := Nat.le_of_ble_eq_true hf
    omega
  · rename_i z
    have hz := hs z rfl
    have slow : yesLe h (lit (p + tot * size)) z = true → p + tot * size ≤ kn + rest := fun hy => by
      have := yesLe_ok hb hp hy
      rw [den_lit] at this
      omega
    split at hf
    · rename_i h0
      have h0 := Nat.eq_of_beq_eq_true h0
      split at hf
      · rename_i hz'
        rw [E.eq_of_beq hz', den_mulO] at hz
        have : (tot : Int) * size ≤ cap.den ρ * size := Int.mul_le_mul_of_nonneg_right hc (by omega)
        have e : ((tot * size : Nat) : Int) = (tot : Int) * size := by simp
        omega
      · exact slow hf
    · exact slow hf
theorem cells_stable (P : Program) {w0 : Base} {ρ : Rho} {h : H} {w : World} (rh : RelH w0 ρ h w) {size : Nat} {v : V} {x : Value} {cs : List V} (dv : Den h ρ v x) (hc : cellsOf h size v = some cs) : DenL h ρ cs (V.denL ρ cs) := by
  intro ρ' hl
  obtain ⟨m, g1, g2, g3⟩ := cellsOf_ok (P := P) rh.to hc
  obtain ⟨m', g1', g2', g3'⟩ := cellsOf_ok (P := P) (rh ρ' hl) hc
  rw [dv.to] at g1 g3
  rw [dv ρ' hl] at g1' g3'
  rw [g1] at g1'
  injection g1' with e _
  subst e
  have a1 := g3 m (Nat.le_refl _)
  have a2 := g3' m (Nat.le_refl _)
  rw [a1] at a2
  injection a2 with a2 _
  have a2 := congrArg Array.toList a2
  simp only at a2
  rw [List.take_of_length_le (by rw [denL_len]; omega), List.take_of_length_le (by rw [denL_len]; omega)] at a2
  exact a2.symm
theorem row_stable {w0 : Base} {ρ : Rho} {h : H} {w : World} (rh : RelH w0 ρ h w) {b : Nat} {ro : Bool} {el : TypeId} {sz : Option E} {vs : List V} (hg : h.get b = .row ro el sz vs) : DenL h ρ vs (V.denL ρ vs) := by
  intro ρ' hl
  obtain ⟨hb, _, rest, hh, _⟩ := get_row rh.to hg
  obtain ⟨_, _, rest', hh', _⟩ := get_row (rh ρ' hl) hg
  rw [hl.blk b hb, hh] at hh'
  injection hh' with hh'
  injection hh' with hh'
  have e := congrArg Array.toList hh'
  simp only at e
  exact (List.append_inj e (by rw [denL_len, denL_len])).1.symm
theorem DenL.app {h : H} {ρ : Rho} {a b : List V} {x y : List Value} (h1 : DenL h ρ a x) (h2 : DenL h ρ b y) : DenL h ρ (appL a b) (x ++ y) := fun ρ' hl => by rw [appL_eq, denL_app, h1 ρ' hl, h2 ρ' hl]
theorem goes_run {P : Program} {o : Oper} {a : Act} {w w1 : World} {x : Value} {R : Value → World → Prop} (h : (execOp a.eval o).run P w = .ok (.value x) w1) (hr : R x w1) : Goes P o a w R := ⟨_, _, h, hr⟩
theorem zero_len {ρ : Rho} {v : V} {size k : Nat} (hraw : isRaw v = false) (hl : v.cells.length = size) : (Builtin.zeroCells (v.den ρ).cells k).size = k * size := by
  rw [den_cells _ _ hraw]
  simp [Builtin.zeroCells, denL_len, hl]
theorem putL_def {cs : List V} : ∀ (n : Nat) (vs : List V), n ≤ vs.length → putL n cs vs = some (vs.take n ++ cs ++ vs.drop (n + cs.length))
  | 0, vs, _ => by simp [putL, overL_eq]
  | n + 1, [], h => by simp at h
  | n + 1, v :: r, h => by
    simp only [putL, putL_def n r (by simpa using h)]
    have e : n + 1 + cs.length = (n + cs.length) + 1 := by omega
    simp [e]
/-- a row that was turned, under a new name -/
theorem rename2 {w0 : Base} {ρ : Rho} {h : H} {w : World} {b : Nat} {o1 o : O} (rh : RelH w0 ρ (h.put b o1) w) (hb : b < h.nb) (ho : o1.own = true) {obj : Obj} (hobj : w.heap[ρ.blk b]? = some obj) (hn : h.nb ≤ 65000) (hc : ∀ ρ', Le ((h.put b .none).add o) (ρ.setBlk h.nb (ρ.blk b)) ρ' → o.is ρ' h.nb obj) :
    RelH w0 (ρ.setBlk h.nb (ρ.blk b)) ((h.put b .none).add o) w := by
  have hb6 : b < 65536 := by omega
  obtain ⟨n1, n2, n3, n4⟩ := h.put_names b .none
  obtain ⟨m1, m2, m3, m4⟩ := h.put_names b o1
  have own : ((h.put b o1).get b).own = true := by rw [H.get_put h hb6, if_pos rfl]; exact ho
  obtain ⟨_, hlt, hlo, _⟩ := rh.to.hp b (own_known own)
  have rd : RelH w0 ρ (h.put b .none) w := by
    intro ρ' hle
    have hle : Le h ρ ρ' := le_put.1 hle
    have h0 := rh ρ' (le_put.2 hle)
    refine ⟨h0.ext, h0.fn, by rw [n1, ← m1]; exact h0.top, fun c hk => ?_, fun c d kc kd e => ?_, by rw [n3, ← m3]; exact h0.bd, by rw [n4, ← m4]; exact h0.pc, h0.anc.1, ⟨by rw [n1, ← m1]; exact h0.anc.2.1, by rw [n2, ← m2]; exact h0.anc.2.2⟩⟩
    · rw [H.get_put h hb6] at hk ⊢
      split at hk
      · exact absurd hk known_none
      · rename_i e
        rw [if_neg e]
        have := h0.hp c (by rw [H.get_put h hb6, if_neg e]; exact hk)
        rw [H.get_put h hb6, if_neg e, m1] at this
        rw [n1]
        exact this
    · rw [H.get_put h hb6] at kc kd
      split at kc
      · exact absurd kc known_none
      · rename_i e1
        split at kd
        · exact absurd kd known_none
        · rename_i e2
          exact h0.inj c d (by rw [H.get_put h hb6, if_neg e1]; exact kc) (by rw [H.get_put h hb6, if_neg e2]; exact kd) e
  have hl := le_setBlk h ρ (ρ.blk b)
  have hbl : (ρ.setBlk h.nb (ρ.blk b)).blk h.nb = ρ.blk b := by simp [Rho.setBlk]
  refine relH_reveal rd o obj (B := ρ.blk b) (by rw [n1]; exact hn) (le_put.2 hl) (by rw [n1]; exact hbl) hlt (hlo own) hobj (fun c hk e => ?_) (fun ρ' hl' => by rw [n1]; exact hc ρ' hl')
  rw [H.get_put h hb6] at hk
  split at hk
  · exact hk rfl
  · rename_i hne
    exact hne (rh.to.inj c b (by rw [H.get_put h hb6, if_neg hne]; exact hk) (own_known own) e)
theorem grow2_ok {w0 : Base} {ρ : Rho} {h : H} {w : World} (rh : RelH w0 ρ h w) {b : Nat} (hb6 : b < 65536) {el : TypeId} {size need : Nat} {cs : List V} {k : KV} {l : List (V × H)}
    (hr : ((h.nam (topN need)).put b .none).new (.row false el (some (mulO (.var h.nv) size)) cs) (fun b h' => k (.sl b (lit 0) (lit need) (.var h.nv)) h') = some l) {cap : Nat} (hc1 : need ≤ cap) (hc2 : cap ≤ 9223372036854775807)
    {news rest : List Value} (hcs : DenL h ρ cs news) (hlen : news.length + rest.length = cap * size) :
    Post w0 ρ h w k l (.slice (some ⟨w.heap.size, 0, none⟩) need cap) ((w.drew).alloc (.cells (news ++ rest).toArray el)) := by
  have rn : RelH w0 (ρ.setV h.nv cap) (h.nam (topN need)) w := relH_nam rh (i := topN need) (n := (cap : Int)) ⟨fun x hx => by cases hx; show (need : Int) ≤ cap; omega, fun x hx => by cases hx; show (cap : Int) ≤ 9223372036854775807; omega⟩
  have rd := relH_drawn (relH_drop rn b hb6)
  have lv : Le h ρ (ρ.setV h.nv cap) := le_setV h ρ cap
  have gv : Gr h (h.nam (topN need)) := gr_nam h _
  have gp : Gr h ((h.nam (topN need)).put b .none) := gv.trans (gr_put _ b .none)
  obtain ⟨p1, p2, _, _⟩ := (h.nam (topN need)).put_names b .none
  have hv : ∀ ρ', Le ((h.nam (topN need)).put b .none) (ρ.setV h.nv cap) ρ' → ρ'.v h.nv = cap := fun ρ' hl => (hl.v h.nv (by rw [p2]; exact Nat.lt_succ_self _)).trans (by simp [Rho.setV])
  obtain ⟨ρ1, hb, hk, h1, h2, h3, h4, h5⟩ := new_post (ob := .row false el (some (mulO (.var h.nv) size)) cs) (obj := .cells (news ++ rest).toArray el) rd hr rfl fun ρ' hl => ⟨rest, by rw [hcs ρ' (lv.trans gp hl)], by
    show ((cs.length + rest.length : Nat) : Int) = (mulO (.var h.nv) size).den ρ'.toEnv
    rw [den_mulO]
    simp only [E.den, hv ρ' hl]
    have : cs.length = news.length := by rw [← hcs ρ' (lv.trans gp hl), denL_len]
    rw [this, hlen]
    simp⟩
  have f0 := fra_nam h ρ cap w (topN need)
  have f1 : Fra (h.nam (topN need)) (ρ.setV h.nv cap) w ((h.nam (topN need)).put b .none) (ρ.setV h.nv cap) w := fra_drop _ _ b hb6
  have f2 : Fra h ρ w ((h.nam (topN need)).put b .none) (ρ.setV h.nv cap) { w with drawn := w.drawn + 1 } := by
    have := Fra.trans rh lv f0 rn (Le.refl _ _) f1
    exact ⟨this.size, this.old, this.new, this.kn⟩
  refine ⟨_, _, ρ1, l, hk, fun _ hy => hy, lv.trans gp h1, gp.trans h2, h3, fun ρ' hl => ?_, Fra.trans rh lv f2 rd h1 h4⟩
  have e1 : ρ'.blk ((h.nam (topN need)).put b .none).nb = w.heap.size := (hl.blk _ h5).trans hb
  have e2 : ρ'.v h.nv = cap := hv ρ' (h1.trans h2 hl)
  simp [V.den, lit, E.den, e2, e1]
end Go.Gx

/- append, whole. -/
namespace Go.Gx
open Go Go.Sx

section
variable {P : Program} {n : Nat} {o : Oper} {c : Call} {t tx e : TypeId} {x y : Operand} {size : Nat} {z : List V} {ie : TypeInfo}
theorem room_args {w : World} {g p tot : Nat} {A : List Value} {el : TypeId} (hh : w.heap[g]? = some (.cells A.toArray el (0, 0))) (ht : tot ≤ A.length) : (∀ j, j < tot - p → (w.cell? ⟨g, p + j, none⟩).isSome = true) ∧ (∀ j, j < tot - p → w.frozen? ⟨g, p + j, none⟩ = false) := by
  refine ⟨fun j hj => ?_, fun j hj => ?_⟩
  · rw [cell_row hh, List.getElem?_eq_getElem (by omega)]; rfl
  · simp [World.frozen?, hh]
/-- What is appended, told by the three runs. -/
structure Fed (P : Program) (t tx ty e : TypeId) (size : Nat) (z : Value) (y : Value) (m : Nat) (news : List Value) (w : World) : Prop where
  newsLen : news.length = m * size
  one : ∀ u ∈ news, u.oneCell' = true
  nothing : m = 0 → ∀ (base : Option Addr) (sLen sCap : Nat), sLen ≤ sCap → (Builtin.append_ #[t, tx] ty #[.slice base sLen sCap, y]).run P w = .ok (.slice base sLen sCap) w
  room : ∀ b off sLen sCap : Nat, 0 < m → sLen + m ≤ 1000000 → sLen + m ≤ sCap → (∀ j, j < news.length → (w.cell? ⟨b, off + sLen * size + j, none⟩).isSome = true) → (∀ j, j < news.length → w.frozen? ⟨b, off + sLen * size + j, none⟩ = false) →
    (Builtin.append_ #[t, tx] ty #[.slice (some ⟨b, off, none⟩) sLen sCap, y]).run P w = .ok (.slice (some ⟨b, off, none⟩) (sLen + m) sCap) (w.setCells b (off + sLen * size) news)
  grow : ∀ (base : Option Addr) (sLen sCap : Nat) (olds : List Value), 0 < m → (Builtin.firstCells size sLen (.slice base sLen sCap)).run P w.drew = .ok olds.toArray w.drew → sCap < sLen + m → sLen + m ≤ 1000000 →
    (Builtin.append_ #[t, tx] ty #[.slice base sLen sCap, y]).run P w = .ok (.slice (some ⟨w.heap.size, 0, none⟩) (sLen + m) (grownCap w (sLen + m) sCap e))
      (w.drew.alloc (.cells ((olds ++ news).toArray ++ Builtin.zeroCells z.cells (grownCap w (sLen + m) sCap e - (sLen + m))) e))
theorem Fed.ofSrc {ty : TypeId} {zv : Value} {w : World} (hu : P.underlying t = some (.slice e)) (hie : P.info? e = some ie) (hzv : ie.zero = some zv) (hsz : ie.size = size) (hby : ie.bytes ≤ 65536) {y : Value} {m : Nat} {news : List Value} (hs : Src P size tx y m news w) : Fed P t tx ty e size zv y m news w := by
  subst hsz
  refine ⟨hs.newsLen, hs.one, fun h0 base sLen sCap hle => ?_, fun b off sLen sCap _ _ hr h1 h2 => run_append_room_src (P := P) w t tx ty e ie hu hie b off sLen sCap y m news hs hr h1 h2, fun base sLen sCap olds _ hf hg hb => run_append_grow_src (P := P) w t tx ty e ie zv hu hie hzv base sLen sCap olds hf y m news hs hg (by omega) (next_small hg hb hby)⟩
  subst h0
  have : news = [] := by have := hs.newsLen; rw [Nat.zero_mul] at this; exact List.eq_nil_of_length_eq_zero this
  subst this
  exact run_append_nothing (P := P) w t tx ty e ie hu hie base sLen sCap hle y hs
theorem fed_grow {ty : TypeId} {zv : V} {w0 : Base} {ρ : Rho} {h : H} {w : World} (rh : RelH w0 ρ h w) (hraw : isRaw zv = false) (hzl : zv.cells.length = size) {base : Option Addr} {sLen sCap m : Nat} {olds : List Value}
    (hold : (Builtin.firstCells size sLen (.slice base sLen sCap)).run P w.drew = .ok olds.toArray w.drew) (holdl : olds.length = sLen * size) {xv : Value} {news : List Value} (hs : Fed P t tx ty e size (zv.den ρ) xv m news w) (hm : 0 < m) (hg : sCap < sLen + m) (hb : sLen + m ≤ 1000000)
    {cs : List V} (dcs : DenL h ρ cs (olds ++ news)) {k : KV} {l : List (V × H)} (hr : growN e size cs (sLen + m) h k = some l) :
    ∃ v w1, (Builtin.append_ #[t, tx] ty #[.slice base sLen sCap, xv]).run P w = .ok v w1 ∧ Post w0 ρ h w k l v w1 := by
  obtain ⟨c1, c2⟩ := cap_range (w := w) (old := sCap) (e := e) hb
  refine ⟨_, _, hs.grow base sLen sCap olds hm hold hg hb, ?_⟩
  have harr : (olds ++ news).toArray ++ Builtin.zeroCells (zv.den ρ).cells (grownCap w (sLen + m) sCap e - (sLen + m)) = (olds ++ news ++ (Builtin.zeroCells (zv.den ρ).cells (grownCap w (sLen + m) sCap e - (sLen + m))).toList).toArray := by
    apply Array.ext'
    simp
  rw [harr]
  refine grow_ok rh hr c1 c2 dcs ?_
  have hnl := hs.newsLen
  have hz := zero_len (ρ := ρ) (k := grownCap w (sLen + m) sCap e - (sLen + m)) hraw hzl
  rw [List.length_append, holdl, hnl, Array.length_toList, hz]
  rw [← Nat.add_mul, ← Nat.add_mul]
  congr 1
  omega
theorem appendV_ok {ty : TypeId} {zv : V} (hraw : isRaw zv = false) (hzl : zv.cells.length = size) {w0 : Base} {ρ : Rho} {h : H} {w : World} (rh : RelH w0 ρ h w) {xv : V} {x y : Value} (dx : Den h ρ xv x) {cs : List V} {m : Nat} (dcs : DenL h ρ cs (V.denL ρ cs))
    (hfed : (∀ u ∈ cs, oneV u = true) → Fed P t tx ty e size (zv.den ρ) y m (V.denL ρ cs) w) (hcs0 : m = 0 → cs = []) {k : KV} {l : List (V × H)} (hr : appendV e size h xv cs m k = some l) :
    ∃ v w1, (Builtin.append_ #[t, tx] ty #[x, y]).run P w = .ok v w1 ∧ Post w0 ρ h w k l v w1 := by
  have ex : x = xv.den ρ := dx.to.symm
  unfold appendV at hr
  split at hr
  · -- nothing is appended
    have hcs0 := hcs0 rfl
    subst hcs0
    have hs := hfed (fun u hu => by cases hu)
    split at hr
    · have hrun := hs.nothing rfl none 0 0 (Nat.le_refl _)
      refine ⟨_, _, (by rw [ex]; exact hrun), post_same rh hr fun ρ' _ => rfl⟩
    · rename_i b off len cap
      split at hr
      · rename_i hle
        have hle := yesLe_ok rh.to.bd rh.to.pc hle
        have hrun := hs.nothing rfl (some ⟨ρ.blk b, (off.den ρ.toEnv).toNat, none⟩) (len.den ρ.toEnv).toNat (cap.den ρ.toEnv).toNat (by omega)
        refine ⟨_, _, (by rw [ex]; exact hrun), post_same rh hr fun ρ' hl => ?_⟩
        rw [dx ρ' hl, ex]; rfl
      · cases hr
    · cases hr
  · rename_i hm0
    have hm1 : 0 < m := Nat.pos_of_ne_zero hm0
    split at hr
    · cases hr
    · rename_i hone
      have h1 := allOne_mem hone
      have hs := hfed h1
      have hnl := hs.newsLen
      split at hr
      · -- to nothing
        split at hr
        · rename_i hb
          have hb := Nat.le_of_ble_eq_true hb
          obtain ⟨v, w1, g1, g2⟩ := fed_grow (P := P) (t := t) (tx := tx) (base := none) (sLen := 0) (sCap := 0) (olds := []) rh hraw hzl (by simp [Builtin.firstCells]) (by simp) hs hm1 (by omega) (by omega) (cs := cs) (by simpa using dcs) (by rw [Nat.zero_add]; exact hr)
          exact ⟨v, w1, (by rw [ex]; exact g1), g2⟩
        · cases hr
      · rename_i b off len cap
        split at hr
        · rename_i p q hp hq
          have hpd : off.den ρ.toEnv = p := by rw [litN_some hp]; rfl
          have hqd : len.den ρ.toEnv = q := by rw [litN_some hq]; rfl
          have exv : x = .slice (some ⟨ρ.blk b, p, none⟩) q (cap.den ρ.toEnv).toNat := by rw [ex]; simp [V.den, hpd, hqd]
          split at hr
          · cases hr
          · rename_i hb
            have hb : q + m ≤ 1000000 := Nat.le_of_ble_eq_true hb
            split at hr
            · rename_i ro el' sz vs hg
              obtain ⟨hbn, hbs, rest, hh, hr1, hr2⟩ := get_row rh.to hg
              have dvs := row_stable rh hg
              -- what lies there already
              have holds : ∀ old, takeL (dropL vs p) (Nat.mul q size) = some old → (Builtin.firstCells size q (.slice (some ⟨ρ.blk b, p, none⟩) q (cap.den ρ.toEnv).toNat)).run P w.drew = .ok (V.denL ρ old).toArray w.drew ∧ (V.denL ρ old).length = q * size ∧ DenL h ρ old (V.denL ρ old) := by
                intro old hold
                have hco : cellsOf h size (.sl b off len cap) = some old := by
                  unfold cellsOf
                  simp only [hq]
                  by_cases h0 : q = 0
                  · subst h0
                    rw [takeL_some hold |>.1]
                    simp [Nat.beq]
                  · have : Nat.beq q 0 = false := by
                      cases q with
                      | zero => exact absurd rfl h0
                      | succ q => rfl
                    simp only [this, hp, hg]
                    exact hold
                obtain ⟨q', g1, g2, g3⟩ := cellsOf_ok (P := P) (relH_drawn rh).to hco
                simp only [V.den, Builtin.lenOf, Sem.run_pure] at g1
                injection g1 with g1 _
                have : q' = q := by omega
                subst this
                have g3 := g3 q' (Nat.le_refl _)
                rw [List.take_of_length_le (by rw [denL_len]; omega)] at g3
                simp only [V.den, hpd, hqd, Int.toNat_natCast] at g3
                exact ⟨g3, by rw [denL_len, g2], cells_stable P rh dx hco⟩
              split at hr
              · -- there is room
                rename_i hle
                have hle := decLe_ok rh.to.bd rh.to.pc hle
                simp only [if_true, den_lit] at hle
                have hle : ((q + m : Nat) : Int) ≤ cap.den ρ.toEnv := hle
                split at hr
                · rename_i hfz
                  split at hr
                  · rename_i vs' hput
                    rw [lenL_eq, Nat.add_zero] at hfz
                    have hfz : fitsZ h sz cap p (p + (q + m) * size) size vs.length = true := hfz
                    have hput : putL (p + q * size) cs vs = some vs' := hput
                    have hcsl : cs.length = m * size := by rw [denL_len] at hnl; exact hnl
                    have hmul : (q + m) * size = q * size + m * size := Nat.add_mul _ _ _
                    obtain ⟨w', g1, g2, g3⟩ := write_row (P := P) rh hg (off := p + q * size) dcs h1 hput (fun w' r0 rest' e1 e2 => by
                      have := fitsZ_ok (kn := vs.length) (rest := rest'.length) (tot := q + m) r0.bd r0.pc hfz (fun hn => by rw [e1 hn]; rfl) e2 hle
                      rw [hcsl]
                      omega)
                    have hin := fitsZ_ok (kn := vs.length) (rest := rest.length) (tot := q + m) rh.to.bd rh.to.pc hfz (fun hn => by rw [hr1 hn]; rfl) hr2 hle
                    obtain ⟨k1, k2⟩ := room_args (w := w) (g := ρ.blk b) (p := p + q * size) (tot := p + (q + m) * size) hh (by rw [List.length_append, denL_len]; omega)
                    have hdd : p + (q + m) * size - (p + q * size) = (V.denL ρ cs).length := by rw [denL_len, hcsl]; omega
                    rw [hdd] at k1 k2
                    have hst := run_storeCells_cells (P := P) (ρ.blk b) (p + q * size) (V.denL ρ cs) 0 w (by simpa using k1) (by simpa using k2) hs.one
                    rw [g1] at hst
                    injection hst with _ hst
                    have hrun := hs.room (ρ.blk b) p q (cap.den ρ.toEnv).toNat hm1 hb (by omega) k1 k2
                    rw [← Nat.add_zero (p + q * size), ← hst] at hrun
                    refine ⟨_, _, (by rw [exv]; exact hrun), _, _, ρ, l, hr, fun _ hy => hy, Le.refl _ _, gr_put _ _ _, g2, fun ρ' hl => ?_, g3⟩
                    have d := dx ρ' (le_put.1 hl)
                    rw [exv] at d
                    simp only [V.den] at d ⊢
                    injection d with d1 d2 d3
                    rw [d1, d3]
                    simp [lit, E.den]
                    rfl
                  · cases hr
                · cases hr
              · -- there is none
                rename_i hle
                have hle := decLe_ok rh.to.bd rh.to.pc hle
                simp only [Bool.false_eq_true, if_false, den_lit] at hle
                have hle : cap.den ρ.toEnv < ((q + m : Nat) : Int) := hle
                split at hr
                · rename_i old hold
                  obtain ⟨g1, g2, g3⟩ := holds old hold
                  obtain ⟨v, w1, k1, k2⟩ := fed_grow (P := P) (t := t) (tx := tx) rh hraw hzl g1 g2 hs hm1 (by omega) hb (g3.app dcs) hr
                  exact ⟨v, w1, (by rw [exv]; exact k1), k2⟩
                · cases hr
              · -- it is not known: both come to one
                split at hr
                · rename_i z' hp0 hel
                  have hp0 := Nat.eq_of_beq_eq_true hp0
                  have hel := Nat.eq_of_beq_eq_true hel
                  subst hp0
                  subst hel
                  split at hr
                  · rename_i hzb hwi
                    split at hr
                    · rename_i old hold
                      have hz' := E.eq_of_beq hzb
                      subst hz'
                      have hC : 0 ≤ cap.den ρ.toEnv ∧ cap.den ρ.toEnv ≤ 9223372036854775807 := by
                        have hi := has_itv rh.to.bd cap
                        generalize itv h.bd cap = i at hwi hi
                        obtain ⟨l', u'⟩ := i
                        cases l' <;> cases u' <;> simp [within, capIv] at hwi
                        have a1 := hi.1 _ rfl
                        have a2 := hi.2 _ rfl
                        omega
                      obtain ⟨g1, g2, g3⟩ := holds old (by rw [dropL_eq]; exact hold)
                      obtain ⟨o1, o2⟩ := takeL_some hold
                      have o2 : q * size ≤ vs.length := o2
                      have o1 : old = vs.take (q * size) := o1
                      have hcsl : cs.length = m * size := by rw [denL_len] at hnl; exact hnl
                      have hr : ((h.nam (topN (q + m))).put b .none).new (.row false e (some (mulO (.var h.nv) size)) (appL old cs)) (fun b h' => k (.sl b (lit 0) (lit (q + m)) (.var h.nv)) h') = some l := H.name_eq hr
                      have hmul : (q + m) * size = q * size + m * size := Nat.add_mul _ _ _
                      have ztot := hr2 _ rfl
                      rw [den_mulO] at ztot
                      by_cases hfit : q + m ≤ (cap.den ρ.toEnv).toNat
                      · -- in its place
                        have hcapn : ((cap.den ρ.toEnv).toNat : Int) = cap.den ρ.toEnv := by omega
                        have htot : (q + m) * size ≤ vs.length + rest.length := by
                          have h2 : (q + m) * size ≤ (cap.den ρ.toEnv).toNat * size := Nat.mul_le_mul_right _ hfit
                          have h3 : (((cap.den ρ.toEnv).toNat * size : Nat) : Int) = cap.den ρ.toEnv * size := by rw [Int.natCast_mul, hcapn]
                          omega
                        have hnam : ∀ b', (h.nam (topN (q + m))).get b' = h.get b' := fun _ => rfl
                        have rn : RelH w0 (ρ.setV h.nv (cap.den ρ.toEnv)) (h.nam (topN (q + m))) w := relH_nam rh (i := topN (q + m)) ⟨fun x hx => by cases hx; show ((q + m : Nat) : Int) ≤ _; omega, fun x hx => by cases hx; exact hC.2⟩
                        have lv : Le h ρ (ρ.setV h.nv (cap.den ρ.toEnv)) := le_setV h ρ _
                        have gv : Gr h (h.nam (topN (q + m))) := gr_nam h _
                        have hgn : (h.nam (topN (q + m))).get b = .row false e (some (mulO cap size)) vs := hg
                        have capS : ∀ ρ', Le h ρ ρ' → cap.den ρ'.toEnv = cap.den ρ.toEnv := fun ρ' hl => by
                          have d1 := dx ρ' hl
                          rw [exv] at d1
                          simp only [V.den] at d1
                          injection d1 with _ _ d1
                          have hi := has_itv (rh ρ' hl).bd cap
                          generalize itv h.bd cap = i at hwi hi
                          obtain ⟨l', u'⟩ := i
                          cases l' <;> cases u' <;> simp [within, capIv] at hwi
                          have a1 := hi.1 _ rfl
                          omega
                        obtain ⟨w', k1, k2, k3⟩ := write_row (P := P) rn hgn (off := q * size) (dcs.more lv gv) h1 (putL_def _ _ o2) (fun w' r0 rest' e1 e2 => by
                          have h4 := e2 _ rfl
                          rw [den_mulO, capS _ lv] at h4
                          rw [hcsl]
                          omega)
                        obtain ⟨j1, j2⟩ := room_args (w := w) (g := ρ.blk b) (p := 0 + q * size) (tot := (q + m) * size) hh (by rw [List.length_append, denL_len]; omega)
                        have hdd : (q + m) * size - (0 + q * size) = (V.denL ρ cs).length := by rw [denL_len, hcsl]; omega
                        rw [hdd] at j1 j2
                        have hst := run_storeCells_cells (P := P) (ρ.blk b) (q * size) (V.denL ρ cs) 0 w (by simpa using j1) (by simpa using j2) hs.one
                        have k1 : (storeCells ⟨ρ.blk b, q * size, none⟩ (V.denL ρ cs)).run P w = .ok () w' := k1
                        rw [k1] at hst
                        injection hst with _ hst
                        have hrun := hs.room (ρ.blk b) 0 q (cap.den ρ.toEnv).toNat hm1 hb hfit j1 j2
                        rw [Nat.zero_add, ← Nat.add_zero (q * size), ← hst] at hrun
                        -- the row under its new name
                        have hb6 : b < 65536 := by have := rh.to.top; omega
                        obtain ⟨_, _, rest2, hh2, _, hr22⟩ := get_row k2.to (b := b) (ro := false) (el := e) (sz := some (mulO cap size)) (vs := vs.take (q * size) ++ cs ++ vs.drop (q * size + cs.length)) (by rw [H.get_put _ hb6, if_pos rfl])
                        have hr22 := hr22 _ rfl
                        rw [den_mulO, capS _ lv] at hr22
                        obtain ⟨hn65, hr⟩ := H.new_eq hr
                        obtain ⟨p1, p2, _, _⟩ := (h.nam (topN (q + m))).put_names b .none
                        rw [p1] at hn65 hr
                        have dold : DenL h ρ old (V.denL ρ old) := g3
                        have lvb : Le (h.nam (topN (q + m))) (ρ.setV h.nv (cap.den ρ.toEnv)) ((ρ.setV h.nv (cap.den ρ.toEnv)).setBlk h.nb (ρ.blk b)) := le_setBlk _ _ _
                        have hfin := rename2 (o1 := .row false e (some (mulO cap size)) (vs.take (q * size) ++ cs ++ vs.drop (q * size + cs.length))) (o := .row false e (some (mulO (.var h.nv) size)) (appL old cs)) k2 hbn rfl hh2 hn65 (fun ρ' hl' => by
                          have hl0 : Le h ρ ρ' := (lv.trans gv lvb).trans (gv.trans ((gr_put _ b .none).trans (gr_add _ _))) hl'
                          refine ⟨V.denL ρ (vs.drop (q * size + cs.length)) ++ rest2, ?_, ?_⟩
                          · congr 1
                            have dv2 := (row_stable rh hg).more lv gv
                            rw [(dold.app dcs) ρ' hl0, o1]
                            apply Array.ext'
                            simp only [denL_app, List.append_assoc]
                            rw [← denL_take, ← denL_drop, ← denL_take, ← denL_drop]
                            rw [dvs _ lv, dcs _ lv]
                          · show (((appL old cs).length + (V.denL ρ (vs.drop (q * size + cs.length)) ++ rest2).length : Nat) : Int) = (mulO (.var h.nv) size).den ρ'.toEnv
                            have hvn : ρ'.v h.nv = cap.den ρ.toEnv := (hl'.v h.nv (by show h.nv < _; rw [show ((((h.nam (topN (q + m))).put b .none).add (.row false e (some (mulO (.var h.nv) size)) (appL old cs))).nv) = ((h.nam (topN (q + m))).put b .none).nv from rfl, p2]; exact Nat.lt_succ_self _)).trans (by simp [Rho.setV, Rho.setBlk])
                            rw [den_mulO]
                            simp only [E.den, hvn]
                            rw [← hr22, appL_eq, o1]
                            congr 1
                            simp only [List.length_append, denL_len, List.length_take, List.length_drop]
                            omega)
                        refine ⟨_, _, (by rw [exv]; exact hrun), _, _, _, l, hr, fun _ hy => hy, lv.trans gv lvb, gv.trans ((gr_put _ b .none).trans (gr_add _ _)), hfin, fun ρ' hl' => ?_, ?_⟩
                        · have e1 : ρ'.blk h.nb = ρ.blk b := (hl'.blk h.nb (by show h.nb < ((h.nam (topN (q + m))).put b .none).nb + 1; rw [p1]; exact Nat.lt_succ_self _)).trans (by simp [Rho.setBlk])
                          have e2 : ρ'.v h.nv = cap.den ρ.toEnv := (hl'.v h.nv (by show h.nv < ((h.nam (topN (q + m))).put b .none).nv; rw [p2]; exact Nat.lt_succ_self _)).trans (by simp [Rho.setV, Rho.setBlk])
                          have e1' : ρ'.blk (h.nam (topN (q + m))).nb = ρ.blk b := e1
                          simp [V.den, lit, E.den, e1', e2]
                          rfl
                        · refine ⟨k3.size, fun i hi hn => k3.old i hi fun d hd => hn d (by
                            exact hd), fun d hd => ?_, fun d hd => ?_⟩
                          all_goals
                            rw [H.get_add _ _ (by rw [p1]; exact hn65), p1] at hd
                            split at hd
                            · rename_i ed
                              subst ed
                              exact .inl ⟨b, by rw [hg]; first | rfl | (intro hh3; cases hh3), by simp [Rho.setBlk, show (h.nam (topN (q + m))).nb = h.nb from rfl]⟩
                            · rename_i ed
                              rw [H.get_put _ hb6] at hd
                              split at hd
                              · first | (cases hd; done) | exact absurd hd known_none
                              · have hd' : _ := hd
                                exact .inl ⟨d, hd, by
                                  have hne : d ≠ h.nb := ed
                                  simp [Rho.setBlk, Rho.setV, hne]⟩
                      · -- a new one
                        have hb6 : b < 65536 := by have := rh.to.top; omega
                        have hg' : (cap.den ρ.toEnv).toNat < q + m := by omega
                        obtain ⟨c1, c2⟩ := cap_range (w := w) (old := (cap.den ρ.toEnv).toNat) (e := e) hb
                        have hrun := hs.grow (some ⟨ρ.blk b, 0, none⟩) q (cap.den ρ.toEnv).toNat (V.denL ρ old) hm1 g1 hg' hb
                        have harr : (V.denL ρ old ++ V.denL ρ cs).toArray ++ Builtin.zeroCells (zv.den ρ).cells (grownCap w (q + m) (cap.den ρ.toEnv).toNat e - (q + m)) = (V.denL ρ old ++ V.denL ρ cs ++ (Builtin.zeroCells (zv.den ρ).cells (grownCap w (q + m) (cap.den ρ.toEnv).toNat e - (q + m))).toList).toArray := by
                          apply Array.ext'
                          simp
                        rw [harr] at hrun
                        refine ⟨_, _, (by rw [exv]; exact hrun), grow2_ok rh hb6 hr c1 c2 (g3.app dcs) ?_⟩
                        have hz := zero_len (ρ := ρ) (size := size) (k := grownCap w (q + m) (cap.den ρ.toEnv).toNat e - (q + m)) hraw hzl
                        rw [List.length_append, g2, hnl, Array.length_toList, hz, ← Nat.add_mul, ← Nat.add_mul]
                        congr 1
                        omega
                    · cases hr
                  · cases hr
                · cases hr
            · cases hr
        · cases hr
      · cases hr
theorem append_ok (ho : o.op = .call c) (hcal : c.callee = .builtin .append) (hts : c.argTypes.toList = [t, tx]) (hargs : c.args.toList = [x, y]) (hu : P.underlying t = some (.slice e)) (hz : zerosN P e = some (z, size)) (hie : P.info? e = some ie) (hby : ie.bytes ≤ 65536) (hk : srcT P tx e = true)
    (hx : okOd n x = true) (hy : okOd n y = true) :
    PO.Ok P n o ⟨fun _ k F h => match cellsOf h size ((od y).g F), lenE ((od y).g F) with
              | some cs, some ln => match litN ln with
                | some n => appendV e size h ((od x).g F) cs n k
                | none => none
              | _, _ => none⟩ := by
  obtain ⟨zv, ie', hzv, hzc, hraw, hie', hsz, hzl, hpos⟩ := zerosN_some hz
  rw [hie] at hie'
  cases hie'
  intro w0 cx _ k F h l hr ρ a w rh rf
  dsimp only at hr
  split at hr
  · rename_i cs ln hcs hln
    split at hr
    · rename_i m hm
      have hexec : ∀ {r w1}, (Builtin.append_ #[t, tx] o.type #[a.eval x, a.eval y]).run P w = .ok r w1 → (execOp a.eval o).run P w = .ok (.value r) w1 := fun {r w1} he => by
        rw [run_builtin ho hcal, hargs, two_args hts]
        simp only [List.map_cons, List.map_nil, builtin, Sem.run_bind, he, Result.andThen_ok, Sem.run_pure]
      have ex := den_od rf.to hx
      have ey := den_od rf.to hy
      have dx := Den.od rf hx
      have dy := Den.od rf hy
      have dcs : DenL h ρ cs (V.denL ρ cs) := cells_stable P rh dy hcs
      have hsrc : (∀ u ∈ cs, oneV u = true) → Src P size tx (a.eval y) m (V.denL ρ cs) w := fun h1 => by
        rw [ey]; exact src_ok rh hk hcs hln hm h1
      have hcs0 : m = 0 → cs = [] := fun hm0 => by
        subst hm0
        clear dcs hsrc dy ey
        generalize (od y).g F = yv at hcs hln
        have hl0 : ln.den ρ.toEnv = 0 := by rw [litN_some hm]; rfl
        cases cs with
        | nil => rfl
        | cons u r =>
          exfalso
          unfold cellsOf at hcs
          unfold lenE at hln
          split at hcs
          · cases hcs
          · rename_i l'
            cases hln
            have := litN_some hm
            simp [lit, lenL_eq] at this
            subst this
            split at hcs <;> simp at hcs
          · rename_i b' o' len' cap'
            cases hln
            rw [hm] at hcs
            simp at hcs
          · cases hcs
      obtain ⟨zi, hzi1, hzi2⟩ := zeroT_some ρ hzv
      rw [hie] at hzi1
      cases hzi1
      obtain ⟨v, w1, g1, g2⟩ := appendV_ok (P := P) (t := t) (tx := tx) (ty := o.type) (zv := zv) hraw (by rw [← hzc]; exact hzl) rh dx dcs (fun h1 => Fed.ofSrc hu hie hzi2 hsz hby (hsrc h1)) hcs0 hr
      exact goes_run (hexec g1) g2
    · cases hr
  · cases hr
end
end Go.Gx

