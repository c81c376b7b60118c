/- The steps of a walk: pure operations in one go, those with a side condition one by one, and the entry of a call. Conditions: each rule's own premises. -/
import Derived.Test.YtpenbdpgpamcbaaGwMem
set_option linter.unusedVariables false
set_option linter.unusedSimpArgs false
namespace Go.Proofs.Ytpenbdpgpamcbaa.Gw
open Go

/-! ### Pure operations -/
/-- In whatever world the operation leaves v, and does nothing else. -/
def PureV (P : Program) (r : Env) (o : Oper) (v : Value) : Prop :=
  ∀ ev : Operand → Value, (∀ x u, Env.ev r x = some u → ev x = u) → ∀ w : World, (execOp ev o).run P w = .ok (.value v) w

section
variable {P : Program} {T : List TI} {n : Nat} {ops : Array Oper} {Q : Env → World → Prop} {r r' : Env} {w : World} {o : Oper} {rest l l' : List Oper}

theorem PureV.op {v : Value} (h : PureV P r o v) {K : Value → World → Prop} (hk : K v w) : OpW P o r w K := fun ev hev => by rw [h ev hev w]; exact hk
theorem PureV.of (hT : TabOk P T) {v : Value} (h : pureOp T (Env.ev r) o.op = some v) : PureV P r o v := fun ev hev w => pureOp_sound hT h hev w

def stepPure (T : List TI) (n : Nat) (o : Oper) (r : Env) : Option Env :=
  match o.guard with
  | some _ => none
  | none => match o.dst with
    | none => none
    | some d => match Nat.blt d n with
      | false => none
      | true => match pureOp T (Env.ev r) o.op with
        | none => none
        | some v => some ((d, v) :: r)
def runPure (T : List TI) (n : Nat) : List Oper → Env → List Oper × Env
  | [], r => ([], r)
  | o :: rest, r => match stepPure T n o r with
    | some r' => runPure T n rest r'
    | none => (o :: rest, r)

theorem stepPure_spec (hT : TabOk P T) (h : stepPure T n o r = some r') : o.guard = none ∧ dstOk n o = true ∧ ∃ v, PureV P r o v ∧ r' = r.put o.dst v := by
  unfold stepPure at h
  cases hg : o.guard with
  | some _ => rw [hg] at h; cases h
  | none =>
    rw [hg] at h
    simp only at h
    cases hd : o.dst with
    | none => rw [hd] at h; cases h
    | some d =>
      rw [hd] at h
      simp only at h
      cases hb : Nat.blt d n with
      | false => rw [hb] at h; cases h
      | true =>
        rw [hb] at h
        simp only at h
        cases hv : pureOp T (Env.ev r) o.op with
        | none => rw [hv] at h; cases h
        | some v =>
          rw [hv] at h
          simp only [Option.some.injEq] at h
          exact ⟨rfl, by simp [dstOk, hd, hb], v, PureV.of hT hv, by rw [← h]; rfl⟩

theorem WO.one {d : Nat} (hd : o.dst = some d) (hn : Nat.blt d n = true) (hg : guardE ops o r = some true) (h : OpW P o r w fun v w' => WO P n ops Q rest ((d, v) :: r) w') : WO P n ops Q (o :: rest) r w :=
  ⟨r, Env.sub.refl r, by simp [dstOk, hd, hn], true, hg, fun _ => by rw [hd]; exact h, (fun h => nomatch h)⟩
/-- An operation that leaves no value. -/
theorem WO.act (hd : o.dst = none) (hg : guardE ops o r = some true) (h : OpW P o r w fun v w' => WO P n ops Q rest r w') : WO P n ops Q (o :: rest) r w :=
  ⟨r, Env.sub.refl r, by simp [dstOk, hd], true, hg, fun _ => by rw [hd]; exact h, (fun h => nomatch h)⟩
theorem WO.skip {d : Nat} (hd : o.dst = some d) (hn : Nat.blt d n = true) (hg : guardE ops o r = some false) (h : WO P n ops Q rest ((d, undef) :: r) w) : WO P n ops Q (o :: rest) r w :=
  ⟨r, Env.sub.refl r, by simp [dstOk, hd, hn], false, hg, (fun h => nomatch h), fun _ => by rw [hd]; exact h⟩
theorem WO.pv {d : Nat} {v : Value} (hd : o.dst = some d) (hn : Nat.blt d n = true) (hg : guardE ops o r = some true) (hv : PureV P r o v) (h : WO P n ops Q rest ((d, v) :: r) w) : WO P n ops Q (o :: rest) r w :=
  WO.one hd hn hg (hv.op h)
/-- One pure operation, guarded or not. -/
theorem WO.pu (hT : TabOk P T) {d : Nat} {v : Value} (hd : o.dst = some d) (hn : Nat.blt d n = true) (hg : guardE ops o r = some true) (hv : pureOp T (Env.ev r) o.op = some v) (h : WO P n ops Q rest ((d, v) :: r) w) : WO P n ops Q (o :: rest) r w :=
  WO.pv hd hn hg (PureV.of hT hv) h
theorem WO.pv' {v : Value} (hd : dstOk n o = true) (hg : guardE ops o r = some true) (hv : PureV P r o v) (h : WO P n ops Q rest (r.put o.dst v) w) : WO P n ops Q (o :: rest) r w :=
  ⟨r, Env.sub.refl r, hd, true, hg, fun _ => hv.op h, (fun h => nomatch h)⟩
/-- The guard is not decided: both ways. -/
theorem WO.split {b : Bool} (hd : dstOk n o = true) (hg : guardE ops o r = some b) (h1 : b = true → OpW P o r w fun v w' => WO P n ops Q rest (r.put o.dst v) w') (h2 : b = false → WO P n ops Q rest (r.put o.dst undef) w) : WO P n ops Q (o :: rest) r w :=
  ⟨r, Env.sub.refl r, hd, b, hg, h1, h2⟩
theorem WO.pures (hT : TabOk P T) : ∀ (l : List Oper) (r : Env) {l' : List Oper} {r' : Env}, runPure T n l r = (l', r') → WO P n ops Q l' r' w → WO P n ops Q l r w
  | [], r, l', r', h, hk => by simp [runPure] at h; obtain ⟨rfl, rfl⟩ := h; exact hk
  | o :: rest, r, l', r', h, hk => by
    unfold runPure at h
    cases hs : stepPure T n o r with
    | none => rw [hs] at h; simp at h; obtain ⟨rfl, rfl⟩ := h; exact hk
    | some r1 =>
      rw [hs] at h
      obtain ⟨hg, hd, v, hv, rfl⟩ := stepPure_spec hT hs
      exact WO.pv' hd (by simp [guardE, hg]) hv (WO.pures hT rest _ h hk)
theorem WO.run (hT : TabOk P T) (h : runPure T n l r = (l', r')) (hlt : Nat.blt l'.length l.length = true) (hk : WO P n ops Q l' r' w) : WO P n ops Q l r w := WO.pures hT l r h hk
theorem WO.nil (h : Q r w) : WO P n ops Q [] r w := ⟨r, Env.sub.refl r, h⟩

def guardSlot (ops : Array Oper) (o : Oper) : Option Nat := match o.guard with
  | none => none
  | some (j, _) => (ops[j]?).bind (·.dst)

/-- What is known of a slot is written otherwise. -/
theorem Env.shadow {d : Nat} {v u : Value} (h : Env.get r d = some v) (hu : v = u) : Env.sub ((d, u) :: r) r := by
  intro t x hx
  rw [Env.get_cons] at hx
  by_cases e : d = t
  · subst e; simp at hx; rw [h, hu, hx]
  · rwa [if_neg e] at hx
theorem WO.caseG {d : Nat} {b : Bool} (hs : guardSlot ops o = some d) (hb : Env.get r d = some (.bool b)) (h1 : b = true → WO P n ops Q (o :: rest) ((d, .bool true) :: r) w) (h2 : b = false → WO P n ops Q (o :: rest) ((d, .bool false) :: r) w) : WO P n ops Q (o :: rest) r w := by
  cases hb' : b with
  | true => exact (h1 hb').less (Env.shadow hb (by rw [hb']))
  | false => exact (h2 hb').less (Env.shadow hb (by rw [hb']))
/-- A slot's value is told otherwise. -/
theorem WO.tell {d : Nat} {v u : Value} (hd : Env.get r d = some v) (hu : v = u) (h : WO P n ops Q l ((d, u) :: r) w) : WO P n ops Q l r w := h.less (Env.shadow hd hu)

/-! ### Sums that fit -/
theorem wrap_in {k : IntKind} {n : Int} (h : n = k.wrap n) : k.wrap n = n := h.symm
theorem wrap64_in {n : Int} (h0 : -9223372036854775808 ≤ n) (h1 : n < 9223372036854775808) : IntKind.i64.wrap n = n := by
  have e : IntKind.i64.wrap n = if n % 18446744073709551616 ≥ 9223372036854775808 then n % 18446744073709551616 - 18446744073709551616 else n % 18446744073709551616 := by
    simp [IntKind.wrap, IntKind.bits, IntKind.signed]
  rw [e]
  split <;> omega
def fitsI (n : Int) : Prop := -9223372036854775808 ≤ n ∧ n ≤ 9223372036854775807

section
variable {x y : Operand} {xt yt : TypeId} {a b : Int} (hx : Env.ev r x = some (.int .i64 a)) (hy : Env.ev r y = some (.int .i64 b))
include hx hy
theorem PureV.add (ho : o.op = .binOp .add xt x y yt) (h0 : -9223372036854775808 ≤ a + b) (h1 : a + b ≤ 9223372036854775807) : PureV P r o (.int .i64 (a + b)) := fun ev hev w => by
  simp [execOp, ho, hev _ _ hx, hev _ _ hy, go_sem, Op.intArith, wrap64_in h0 (by omega)]
theorem PureV.sub (ho : o.op = .binOp .sub xt x y yt) (h0 : -9223372036854775808 ≤ a - b) (h1 : a - b ≤ 9223372036854775807) : PureV P r o (.int .i64 (a - b)) := fun ev hev w => by
  simp [execOp, ho, hev _ _ hx, hev _ _ hy, go_sem, Op.intArith, wrap64_in h0 (by omega)]
theorem PureV.mul (ho : o.op = .binOp .mul xt x y yt) (h0 : -9223372036854775808 ≤ a * b) (h1 : a * b ≤ 9223372036854775807) : PureV P r o (.int .i64 (a * b)) := fun ev hev w => by
  simp [execOp, ho, hev _ _ hx, hev _ _ hy, go_sem, Op.intArith, wrap64_in h0 (by omega)]
theorem PureV.quo (ho : o.op = .binOp .quo xt x y yt) (ha : 0 ≤ a) (hb : 0 < b) (ha' : a ≤ 9223372036854775807) : PureV P r o (.int .i64 (a / b)) := fun ev hev w => by
  have h1 : a / b ≤ a := Int.ediv_le_self b ha
  have h2 : 0 ≤ a / b := Int.ediv_nonneg ha (by omega)
  have h3 : a.tdiv b = a / b := Int.tdiv_eq_ediv_of_nonneg ha
  have h4 : b ≠ 0 := by omega
  simp [execOp, ho, hev _ _ hx, hev _ _ hy, go_sem, Op.intDiv, h3, h4, wrap64_in (n := a / b) (by omega) (by omega)]
theorem PureV.rem (ho : o.op = .binOp .rem xt x y yt) (ha : 0 ≤ a) (hb : 0 < b) : PureV P r o (.int .i64 (a % b)) := fun ev hev w => by
  have h3 : a.tmod b = a % b := Int.tmod_eq_emod_of_nonneg ha
  have h4 : b ≠ 0 := by omega
  simp [execOp, ho, hev _ _ hx, hev _ _ hy, go_sem, Op.intDiv, h3, h4]
end
/-- A counter and one more. -/
theorem PureV.addN {x y : Operand} {xt yt : TypeId} {n : Nat} (hx : Env.ev r x = some (.int .i64 (n : Int))) (hy : Env.ev r y = some (.int .i64 1)) (ho : o.op = .binOp .add xt x y yt) (h : (n : Int) < 9223372036854775807) : PureV P r o (.int .i64 ((n + 1 : Nat) : Int)) :=
  PureV.add (a := n) (b := 1) hx hy ho (by omega) (by omega)
theorem PureV.subN {x y : Operand} {xt yt : TypeId} {n : Nat} (hx : Env.ev r x = some (.int .i64 (n : Int))) (hy : Env.ev r y = some (.int .i64 1)) (ho : o.op = .binOp .sub xt x y yt) (h : 0 < n) (h2 : (n : Int) ≤ 9223372036854775807) : PureV P r o (.int .i64 ((n - 1 : Nat) : Int)) := by
  have e : ((n - 1 : Nat) : Int) = (n : Int) - 1 := by omega
  rw [e]
  exact PureV.sub (a := n) (b := 1) hx hy ho (by omega) (by omega)
/-- Whatever fits or not. -/
theorem PureV.wrapped {op : BinOp} {x y : Operand} {xt yt : TypeId} {k : IntKind} {a b : Int} (hx : Env.ev r x = some (.int k a)) (hy : Env.ev r y = some (.int k b)) (ho : o.op = .binOp op xt x y yt) {f : Int → Int → Int}
    (hf : (op = .add ∧ f = (· + ·)) ∨ (op = .sub ∧ f = (· - ·)) ∨ (op = .mul ∧ f = (· * ·))) : PureV P r o (.int k (k.wrap (f a b))) := fun ev hev w => by
  rcases hf with ⟨rfl, rfl⟩ | ⟨rfl, rfl⟩ | ⟨rfl, rfl⟩ <;> simp [execOp, ho, hev _ _ hx, hev _ _ hy, go_sem, Op.intArith]

/-! ### Places -/
theorem PureV.idx (hT : TabOk P T) {t e len cap : Nat} {x y : Operand} {b off : Nat} {k : IntKind} {i : Int} {ti te : TI} (ho : o.op = .indexAddr t x y) (hx : Env.ev r x = some (.slice (some ⟨b, off, none⟩) len cap)) (hy : Env.ev r y = some (.int k i))
    (ht : nth T t = some ti) (hk : ti.k = .sl e) (he : nth T e = some te) (h0 : 0 ≤ i) (h1 : i < len) : PureV P r o (.pointer (some ⟨b, off + i.toNat * te.size, none⟩)) := fun ev hev w => by
  have hu := kOf_sl ((hT.k ht).trans hk)
  obtain ⟨j, hj, hs, _⟩ := hT.size he
  simp [execOp, ho, hev _ _ hx, hev _ _ hy, Instr.indexAt, run_underlying hu, asIntOf, h0, h1, sizeOf, typeInfo, hj, hs, Addr.add_lit]
/-- The same, the index being a natural number's. -/
theorem PureV.idxN (hT : TabOk P T) {t e len cap : Nat} {x y : Operand} {b off : Nat} {k : IntKind} {i : Nat} {ti : TI} {ek : TK} {es eb : Nat} (ho : o.op = .indexAddr t x y) (hx : Env.ev r x = some (.slice (some ⟨b, off, none⟩) len cap)) (hy : Env.ev r y = some (.int k (i : Int)))
    (ht : nth T t = some ti) (hk : ti.k = .sl e) (he : nth T e = some ⟨ek, es, eb⟩) (h1 : i < len) : PureV P r o (.pointer (some ⟨b, off + i * es, none⟩)) :=
  PureV.idx hT ho hx hy ht hk he (by omega) (by omega)
theorem PureV.idxA (hT : TabOk P T) {t e len : Nat} {x y : Operand} {b off : Nat} {k : IntKind} {i : Int} {ti te : TI} (ho : o.op = .indexAddr t x y) (hx : Env.ev r x = some (.pointer (some ⟨b, off, none⟩))) (hy : Env.ev r y = some (.int k i))
    (ht : nth T t = some ti) (hk : ti.k = .ar len e) (he : nth T e = some te) (h0 : 0 ≤ i) (h1 : i < len) : PureV P r o (.pointer (some ⟨b, off + i.toNat * te.size, none⟩)) := fun ev hev w => by
  have hu := kOf_ar ((hT.k ht).trans hk)
  obtain ⟨j, hj, hs, _⟩ := hT.size he
  simp [execOp, ho, hev _ _ hx, hev _ _ hy, Instr.indexAt, run_underlying hu, asIntOf, h0, h1, sizeOf, typeInfo, hj, hs, Addr.add_lit, Instr.sureAddr]

/-- x[lo:hi] of a slice; bounds that are left out are 0 and the length. -/
theorem PureV.slc (hT : TabOk P T) {t e len cap : Nat} {x : Operand} {lo hi : Option Operand} {a : Option Addr} {l h : Int} {ti te : TI} (ho : o.op = .slice t x lo hi none) (hx : Env.ev r x = some (.slice a len cap))
    (ht : nth T t = some ti) (hk : ti.k = .sl e) (he : nth T e = some te)
    (hlo : match lo with | none => l = 0 | some y => ∃ k, Env.ev r y = some (.int k l)) (hhi : match hi with | none => h = len | some y => ∃ k, Env.ev r y = some (.int k h))
    (h0 : 0 ≤ l) (h1 : l ≤ h) (h2 : h ≤ cap) : PureV P r o (.slice (if cap = l.toNat then a else a.map (·.add (l.toNat * te.size))) (h.toNat - l.toNat) (cap - l.toNat)) := fun ev hev w => by
  have hu := kOf_sl ((hT.k ht).trans hk)
  obtain ⟨j, hj, hs, _⟩ := hT.size he
  have hb : ∀ (k : IntKind) (i : Int) (y : Nat) (code : BoundsCode), 0 ≤ i → i ≤ y → (Instr.sliceBound (.int k i) y code).run P w = .ok i.toNat w := fun k i y code h0 h1 => run_sliceBound w k i y code h0 h1
  have h1' : l ≤ (h.toNat : Int) := by omega
  cases lo with
  | none =>
    simp only at hlo
    subst hlo
    cases hi with
    | none =>
      simp only at hhi
      subst hhi
      simp [execOp, ho, hev _ _ hx, Instr.sliceAt, Instr.slice, Instr.sliceBounds, run_underlying hu, sizeOf, typeInfo, hj, hs]
    | some y =>
      obtain ⟨k, hy⟩ := hhi
      simp [execOp, ho, hev _ _ hx, hev _ _ hy, Instr.sliceAt, Instr.slice, Instr.sliceBounds, run_underlying hu, sizeOf, typeInfo, hj, hs, hb k h cap .sliceAcap (by omega) h2]
  | some z =>
    obtain ⟨kz, hz⟩ := hlo
    cases hi with
    | none =>
      simp only at hhi
      subst hhi
      have := hb kz l len .sliceB h0 (by omega)
      simp [execOp, ho, hev _ _ hx, hev _ _ hz, Instr.sliceAt, Instr.slice, Instr.sliceBounds, run_underlying hu, sizeOf, typeInfo, hj, hs, this]
    | some y =>
      obtain ⟨k, hy⟩ := hhi
      have := hb kz l h.toNat .sliceB h0 h1'
      simp [execOp, ho, hev _ _ hx, hev _ _ hy, hev _ _ hz, Instr.sliceAt, Instr.slice, Instr.sliceBounds, run_underlying hu, sizeOf, typeInfo, hj, hs, hb k h cap .sliceAcap (by omega) h2, this]
end

/-! ### The entry of a call -/
def enterE : Nat → List Value → Env
  | _, [] => []
  | k, v :: l => (k, v) :: enterE (k + 1) l
theorem enterE_get : ∀ (l : List Value) (k t : Nat) (v : Value), Env.get (enterE k l) t = some v → k ≤ t ∧ l[t - k]? = some v
  | [], k, t, v, h => by simp [enterE, Env.get] at h
  | u :: l, k, t, v, h => by
    simp only [enterE, Env.get_cons] at h
    by_cases e : k = t
    · subst e; simp at h; simp [h]
    · rw [if_neg e] at h
      obtain ⟨h1, h2⟩ := enterE_get l (k + 1) t v h
      refine ⟨by omega, ?_⟩
      rw [show t - k = (t - (k + 1)) + 1 by omega]
      simpa using h2

def retE (P : Program) (fn : Func) (R : Ending → World → Prop) : Exit → Env → World → Prop
  | .normal, r, w | .ret, r, w => ∀ a, Agree fn.ntmps a r → ∃ v, (results fn a.tmps).run P w = .ok v w ∧ R (.returned v) w
  | _, _, _ => False

/-- What a call comes back with. -/
def Ret (K : Value → World → Prop) : Ending → World → Prop := fun e w => ∃ v, e = .returned v ∧ K v w
theorem Calls.ret {P : Program} {f : FuncId} {args : Array Value} {w : World} {K K' : Value → World → Prop} (h : Calls P f args w (Ret K)) (hk : ∀ v w', K v w' → K' v w') : Calls P f args w (Ret K') :=
  h.mono fun e w' ⟨v, he, hv⟩ => ⟨v, he, hk v w' hv⟩

section
variable {P : Program} {w : World} {r : Env}
theorem calls_W {f : FuncId} {fn : Func} {c : Code} {args : List Value} {R : Ending → World → Prop} {n : Nat} (hf : P.funcs[f]? = some fn) (hb : fn.body = some c) (hn : fn.ntmps = n) (hargs : Nat.ble args.length n = true)
    (h : W P n c (retE P fn R) (enterE 0 args) w) : Calls P f args.toArray w R := by
  have hargs' : args.length ≤ n := by simpa [Nat.ble_eq] using hargs
  refine calls_of_wp hf hb ?_
  refine Code.wp_mono ?_ (h _ ⟨rfl, by simp [hn]; omega, fun t v hv => ?_⟩)
  · intro e a w' hq
    obtain ⟨r', ha, hq⟩ := hq
    rw [← hn] at ha
    cases e <;> simp only [retE] at hq <;> first
      | exact hq.elim
      | (obtain ⟨v, hv, hR⟩ := hq a ha; exact ⟨ha.defers, v, hv, hR⟩)
  · obtain ⟨h1, h2⟩ := enterE_get args 0 t v hv
    rw [Nat.sub_zero] at h2
    have hlt := (List.getElem?_eq_some_iff.1 h2).1
    rw [Array.getD_eq_getD_getElem?, Array.getElem?_append_left (by simpa using hlt)]
    simp [h2]

theorem ret0 {fn : Func} {R : Ending → World → Prop} (hr : fn.results = #[]) (h : R (.returned (.tuple #[])) w) : retE P fn R .ret r w := fun a ha => ⟨_, results_none hr _ _ _, h⟩
theorem ret0n {fn : Func} {R : Ending → World → Prop} (hr : fn.results = #[]) (h : R (.returned (.tuple #[])) w) : retE P fn R .normal r w := fun a ha => ⟨_, results_none hr _ _ _, h⟩
theorem ret1 {fn : Func} {R : Ending → World → Prop} {t : Tmp} {v : Value} (hr : fn.results = #[.tmp t]) (hv : Env.get r t = some v) (h : R (.returned v) w) : retE P fn R .ret r w :=
  fun a ha => ⟨v, by rw [results_tmp hr, ha.get t v hv], h⟩
theorem ret2 {fn : Func} {R : Ending → World → Prop} {t u : Tmp} {v x : Value} (hr : fn.results = #[.tmp t, .tmp u]) (hv : Env.get r t = some v) (hx : Env.get r u = some x) (h : R (.returned (.tuple #[v, x])) w) : retE P fn R .ret r w :=
  fun a ha => ⟨.tuple #[v, x], by rw [results_tmp2 hr, ha.get t v hv, ha.get u x hx], h⟩
theorem ret3 {fn : Func} {R : Ending → World → Prop} {t u s : Tmp} {v x y : Value} (hr : fn.results = #[.tmp t, .tmp u, .tmp s]) (hv : Env.get r t = some v) (hx : Env.get r u = some x) (hy : Env.get r s = some y) (h : R (.returned (.tuple #[v, x, y])) w) : retE P fn R .ret r w :=
  fun a ha => ⟨.tuple #[v, x, y], by rw [results_tmp3 hr, ha.get t v hv, ha.get u x hx, ha.get s y hy], h⟩
end
end Go.Proofs.Ytpenbdpgpamcbaa.Gw
