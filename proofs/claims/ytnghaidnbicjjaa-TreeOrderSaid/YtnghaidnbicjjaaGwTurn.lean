/- The logic over the fenced weakest preconditions: within a round of a range over a function, and with deferred calls laid by: the rules of Base and Step once more, with 'i' in the names, and a rule for a call of yield. Conditions: none. -/
import Derived.Test.YtnghaidnbicjjaaGwFork
import Derived.RangeFuncNested
import Derived.RangeFuncLeaves
import Derived.RangeFuncCalls
set_option linter.unusedVariables false
set_option linter.unusedSimpArgs false
namespace Go.Proofs.Ytnghaidnbicjjaa.Gw
open Go

/-- Where one is: in a round, or not; the deferred calls. -/
structure Cx where
  ro : Option Nat := none
  ds : List Deferred := []
def Cx.F (x : Cx) : Fence := { Fence.wide with round := x.ro }
theorem Cx.fn (x : Cx) (f : FuncId) : x.F.fn f := trivial
theorem Cx.room (x : Cx) (n : Nat) : x.F.room n := fun _ h => by simp [Cx.F, Fence.wide] at h
theorem Cx.callsIn {x : Cx} {n : Nat} {P : Program} {f : FuncId} {args : Array Value} {w : World} {R : Ending → World → Prop} (h : Calls P f args w R) : CallsIn x.F n P f args w R :=
  (callsIn_wide (n := n)).2 h

structure AgI (x : Cx) (n : Nat) (a : Act) (r : Env) : Prop where
  defers : a.defers = x.ds
  size : a.tmps.size = n
  get : ∀ t v, Env.get r t = some v → a.tmps.getD t undef = v
theorem AgI.plain {x : Cx} {n : Nat} {a : Act} {r : Env} (h : AgI x n a r) : Agree n { a with defers := [] } r := ⟨rfl, h.size, h.get⟩
theorem AgI.eval {x : Cx} {n : Nat} {a : Act} {r : Env} (h : AgI x n a r) {y : Operand} {v : Value} (hx : Env.ev r y = some v) : a.eval y = v := h.plain.eval hx
theorem AgI.put {x : Cx} {n : Nat} {a : Act} {r : Env} (h : AgI x n a r) (d : Option Nat) (v : Value) (hd : ∀ k, d = some k → k < n) : AgI x n (a.put d v) (r.put d v) := by
  have := h.plain.put d v hd
  exact ⟨by cases d <;> exact h.defers, by have := this.size; cases d <;> exact this, by have := this.get; cases d <;> exact this⟩
theorem AgI.keep {x : Cx} {n : Nat} {a : Act} {r : Env} (h : AgI x n a r) (l : List Nat) : AgI x n a (Env.keep r l) :=
  ⟨h.defers, h.size, fun t v hv => h.get t v (Env.get_keep r l t v hv)⟩
theorem AgI.less {x : Cx} {n : Nat} {a : Act} {r r' : Env} (h : AgI x n a r) (hr : ∀ t v, Env.get r' t = some v → Env.get r t = some v) : AgI x n a r' :=
  ⟨h.defers, h.size, fun t v hv => h.get t v (hr t v hv)⟩
theorem AgI.wanted {x : Cx} {ops : Array Oper} {o : Oper} {r : Env} {n : Nat} {a : Act} {g : Bool} (h : guardE ops o r = some g) (ha : AgI x n a r) : Region.wanted o (yielded ops a.tmps) = g := guardE_wanted (a := { a with defers := [] }) h ha.plain

/-! ### One operation -/
def RunI (x : Cx) (P : Program) (K : Value → World → Prop) : Result Next → Prop
  | .ok (.value v) w => K v w
  | .ok .skip w => K undef w
  | .ok (.enter f args) w => Calls P f args w fun e w' => ∃ v, e = .returned v ∧ K v w'
  | .ok (.round l f tmps assign body) w => RoundIn x.F 0 P l f tmps assign body w fun e w' => ∃ v, e = .returned v ∧ K v w'
  | _ => False
def OpI (x : Cx) (P : Program) (o : Oper) (r : Env) (w : World) (K : Value → World → Prop) : Prop :=
  ∀ ev : Operand → Value, (∀ y v, Env.ev r y = some v → ev y = v) → RunI x P K ((o.semAt x.ro ev).run P w)
theorem RunK.turn {x : Cx} {P : Program} {K : Value → World → Prop} : ∀ {r : Result Next}, RunK P K r → RunI x P K r
  | .ok (.value v) w, h => h
  | .ok .skip w, h => h
  | .ok (.enter f args) w, h => h
  | .halt _ _, h => h.elim
  | .ok (.round ..) _, h | .ok (.defer _) _, h | .ok .recover _, h | .ok (.spawn _) _, h | .ok (.comm ..) _, h | .ok .numGoroutine _, h | .ok .collect _, h | .ok (.watch _) _, h | .ok (.newcoro ..) _, h
  | .ok (.coroswitch ..) _, h | .ok (.sleep _) _, h | .ok (.timer _) _, h | .ok (.alone ..) _, h | .ok (.callThen ..) _, h | .ok (.row ..) _, h | .ok (.stack ..) _, h => h.elim
theorem OpW.turn {x : Cx} {P : Program} {o : Oper} {r : Env} {w : World} {K : Value → World → Prop} (h : OpW P o r w K) : OpI x P o r w K := by
  intro ev hev
  by_cases hd : ∃ c, o.op = .defer c
  · obtain ⟨c, hd⟩ := hd
    have := h ev hev
    exfalso
    unfold execOp at this
    rw [hd] at this
    simp only [Sem.run_bind] at this
    cases hr : (resolve ev c o.type).run P w with
    | ok d w' => rw [hr] at this; exact this
    | halt e w' => rw [hr] at this; exact this
  · rw [Oper.semAt_eq _ _ _ fun c hc => hd ⟨c, hc⟩]
    exact (h ev hev).turn
theorem OpI.mono {x : Cx} {P : Program} {o : Oper} {r : Env} {w : World} {K K' : Value → World → Prop} (h : OpI x P o r w K) (hk : ∀ v w, K v w → K' v w) : OpI x P o r w K' := by
  intro ev hev
  have h := h ev hev
  generalize (o.semAt x.ro ev).run P w = s at h
  cases s with
  | halt e w' => exact h
  | ok y w' =>
    cases y <;> simp only [RunI] at h ⊢ <;> first
      | exact hk _ _ h
      | exact h.mono fun e w'' ⟨v, he, hv⟩ => ⟨v, he, hk _ _ hv⟩
      | exact h
theorem OpI.wp {x : Cx} {P : Program} {o : Oper} {n : Nat} {r : Env} {w : World} {a : Act} {K : Value → World → Prop} {Q : Exit → Act → World → Prop} {next : Act → World → Prop}
    (h : OpI x P o r w K) (ha : AgI x n a r) (hK : ∀ v w, K v w → next (a.put o.dst v) w) : o.wpIn x.F 0 P a w next Q := by
  refine ⟨fun _ _ => trivial, ?_⟩
  have h := h a.eval fun y v hx => ha.eval hx
  change RunI x P K ((o.semAt x.F.round a.eval).run P w) at h
  generalize (o.semAt x.F.round a.eval).run P w = s at h
  cases s with
  | halt e w' => exact h.elim
  | ok y w' =>
    cases y <;> simp only [RunI] at h <;> first
      | exact h.elim
      | exact hK _ _ h
      | exact ⟨fun e => (by simp [Cx.F, Fence.wide] at e), (Cx.callsIn h).mono fun e w'' ⟨v, he, hv⟩ => by subst he; exact hK _ _ hv⟩
      | exact ⟨fun e => (by simp [Cx.F, Fence.wide] at e), RoundIn.mono h fun e w'' ⟨v, he, hv⟩ => by subst he; exact hK _ _ hv⟩

/-! ### A region in the order of its text -/
def WOi (x : Cx) (P : Program) (n : Nat) (ops : Array Oper) (Q : Env → World → Prop) : List Oper → Env → World → Prop
  | [], r, w => ∃ r1, Env.sub r1 r ∧ Q r1 w
  | o :: rest, r, w => ∃ r1, Env.sub r1 r ∧ dstOk n o = true ∧ ∃ g, guardE ops o r1 = some g ∧ (g = true → OpI x P o r1 w fun v w' => WOi x P n ops Q rest (r1.put o.dst v) w') ∧ (g = false → WOi x P n ops Q rest (r1.put o.dst undef) w)
theorem WOi.less {x : Cx} {P : Program} {n : Nat} {ops : Array Oper} {Q : Env → World → Prop} : ∀ {l : List Oper} {r r' : Env} {w : World}, WOi x P n ops Q l r' w → Env.sub r' r → WOi x P n ops Q l r w
  | [], r, r', w, ⟨r1, h1, h2⟩, hr => ⟨r1, h1.trans hr, h2⟩
  | o :: l, r, r', w, ⟨r1, h1, h2⟩, hr => ⟨r1, h1.trans hr, h2⟩
def postI (x : Cx) (n : Nat) (Q : Exit → Env → World → Prop) : Exit → Act → World → Prop := fun e a w => ∃ r, AgI x n a r ∧ Q e r w
theorem WOi.list {x : Cx} {P : Program} {n : Nat} {ops : Array Oper} {Q : Exit → Env → World → Prop} : ∀ (l : List Oper) (r : Env) (w : World) (a : Act), WOi x P n ops (Q .normal) l r w → AgI x n a r → wpListIn x.F 0 P ops (postI x n Q) l a w
  | [], r, w, a, ⟨r1, hs, h⟩, ha => ⟨r1, ha.less hs, h⟩
  | o :: rest, r, w, a, ⟨r1, hs, hd, g, hg, h1, h2⟩, ha0 => by
    have ha := ha0.less hs
    unfold wpListIn
    rw [ha.wanted hg]
    cases g with
    | true =>
      rw [if_pos rfl]
      exact (h1 rfl).wp ha fun v w' hv => WOi.list rest _ _ _ hv (ha.put _ _ (dstOk_spec hd))
    | false =>
      rw [if_neg (by simp)]
      exact ⟨fun _ _ => trivial, WOi.list rest _ _ _ (h2 rfl) (ha.put _ _ (dstOk_spec hd))⟩

/-! ### Code -/
def Wi (x : Cx) (P : Program) (n : Nat) (c : Code) (Q : Exit → Env → World → Prop) (r : Env) (w : World) : Prop :=
  ∀ a, AgI x n a r → c.wpIn x.F 0 P (postI x n Q) a w

section
variable {x : Cx} {P : Program} {n : Nat} {Q Q' : Exit → Env → World → Prop} {r : Env} {w : World}

theorem Wi.mono {c : Code} (h : Wi x P n c Q r w) (hq : ∀ e r w, Q e r w → Q' e r w) : Wi x P n c Q' r w :=
  fun a ha => wpIn_mono (h a ha) fun e a w ⟨r, h1, h2⟩ => ⟨r, h1, hq _ _ _ h2⟩

theorem Wi.less {c : Code} {r' : Env} (h : Wi x P n c Q r' w) (hr : ∀ t v, Env.get r' t = some v → Env.get r t = some v) : Wi x P n c Q r w :=
  fun a ha => h a (ha.less hr)

theorem Wi.keep {c : Code} (l : List Nat) (h : Wi x P n c Q (Env.keep r l) w) : Wi x P n c Q r w := fun a ha => h a (ha.keep l)

theorem Wi.seq {c d : Code} (h : Wi x P n c (thenE (fun r w => Wi x P n d Q r w) Q) r w) : Wi x P n (.seq c d) Q r w :=
  fun a ha => wpIn_seq (wpIn_mono (h a ha) fun e a' w' ⟨r', h1, h2⟩ => by
    cases e <;> first | exact h2 a' h1 | exact ⟨r', h1, h2⟩)

theorem Wi.skip (h : Q .normal r w) : Wi x P n .skip Q r w := fun a ha => wpIn_skip ⟨r, ha, h⟩
theorem Wi.exit {id : Nat} (h : Q (.exit id) r w) : Wi x P n (.exit id) Q r w := fun a ha => wpIn_exit ⟨r, ha, h⟩
theorem Wi.ret (h : Q .ret r w) : Wi x P n .ret Q r w := fun a ha => wpIn_ret ⟨r, ha, h⟩
theorem Wi.label {l : Nat} (h : Q .normal r w) : Wi x P n (.label l) Q r w := fun a ha => wpIn_label ⟨r, ha, h⟩

theorem Wi.cond {c : Operand} {d e : Code} {b : Bool} (hc : Env.ev r c = some (.bool b)) (ht : b = true → Wi x P n d Q r w) (hf : b = false → Wi x P n e Q r w) : Wi x P n (.cond c d e) Q r w :=
  fun a ha => wpIn_cond_split (ha.eval hc) (fun h => ht h a ha) (fun h => hf h a ha)
theorem Wi.cond_t {c : Operand} {d e : Code} (hc : Env.ev r c = some (.bool true)) (ht : Wi x P n d Q r w) : Wi x P n (.cond c d e) Q r w :=
  fun a ha => wpIn_cond_true (ha.eval hc) (ht a ha)
theorem Wi.cond_f {c : Operand} {d e : Code} (hc : Env.ev r c = some (.bool false)) (ht : Wi x P n e Q r w) : Wi x P n (.cond c d e) Q r w :=
  fun a ha => wpIn_cond_false (ha.eval hc) (ht a ha)

theorem Wi.block {id : Nat} {c : Code} (h : Wi x P n c (blkE id Q) r w) : Wi x P n (.block id c) Q r w :=
  fun a ha => wpIn_block (wpIn_mono (h a ha) fun e a' w' ⟨r', h1, h2⟩ => by
    cases e with
    | exit k =>
      simp only [Exit.inBlock]
      simp only [blkE] at h2
      by_cases hk : k = id
      · subst hk; rw [if_pos rfl]; simp at h2; exact ⟨r', h1, h2⟩
      · rw [if_neg hk]
        have hb : Nat.beq k id = false := by
          rw [← Bool.not_eq_true]; intro hb; exact hk (Nat.eq_of_beq_eq_true hb)
        rw [hb] at h2
        exact ⟨r', h1, h2⟩
    | _ => exact ⟨r', h1, h2⟩)

theorem Wi.region {id : Nat} {l : List Oper} (h : WOi x P n l.toArray (Q .normal) l r w) : Wi x P n (.region id l.toArray false) Q r w :=
  fun a ha => wpIn_region_lit (WOi.list l r w a h ha)


theorem Wi.loopS {c : Code} {S : Type} (l : List Nat) (enc : S → Env) (I : S → World → Prop) (m : S → Nat) (s0 : S) (h0 : Env.keep r l = enc s0) (hI : I s0 w)
    (hr : ∀ s w, I s w → Wi x P n c (thenE (fun r' w' => ∃ s', Env.keep r' l = enc s' ∧ I s' w' ∧ m s' < m s) Q) (enc s) w) : Wi x P n (.loop c) Q r w := by
  intro a ha b kk cs hro hb hroom
  have key : ∀ k s w a, m s = k → I s w → AgI x n a (enc s) →
      ∃ e a' w', postI x n Q e a' w' ∧ ArrivesIn (Machine.fenced P x.F) P (lone (b.atR a (.code c :: .inLoop c :: kk)) cs w) b kk cs e a' w' := by
    intro k
    induction k using Nat.strongRecOn with
    | _ k ih =>
      intro s w a hk hI ha
      obtain ⟨e, a₁, w₁, ⟨r₁, h1, h2⟩, harr⟩ := hr s w hI a ha b (.inLoop c :: kk) cs hro hb hroom
      cases e with
      | normal =>
        obtain ⟨s', he, hI', hlt⟩ := h2
        obtain ⟨e₂, a₂, w₂, hq₂, harr₂⟩ := ih _ (hk ▸ hlt) s' w₁ a₁ rfl hI' (he ▸ h1.keep l)
        exact ⟨e₂, a₂, w₂, hq₂, .of_steps (StepsIn.trans harr (.one (fenced_calm hb hroom rfl) stepR_inLoop)) harr₂⟩
      | exit id => exact ⟨_, a₁, w₁, ⟨r₁, h1, h2⟩, .pass (x := .inLoop c) rfl (fun _ _ => .inl (by simp)) harr⟩
      | goto l => exact ⟨_, a₁, w₁, ⟨r₁, h1, h2⟩, .pass (x := .inLoop c) rfl (fun _ _ => .inl (by simp)) harr⟩
      | ret => exact ⟨_, a₁, w₁, ⟨r₁, h1, h2⟩, .pass (x := .inLoop c) rfl (fun _ _ => .inl (by simp)) harr⟩
      | panic ch => exact ⟨_, a₁, w₁, ⟨r₁, h1, h2⟩, .pass (x := .inLoop c) rfl (fun _ _ => .inl (by simp)) harr⟩
      | outgrown => exact ⟨_, a₁, w₁, ⟨r₁, h1, h2⟩, .pass (x := .inLoop c) rfl (fun _ _ => .inl (by simp)) harr⟩
  obtain ⟨e, a', w', hq, harr⟩ := key _ s0 w a rfl hI (h0 ▸ ha.keep l)
  exact ⟨e, a', w', hq, .of_steps (.one (fenced_calm hb hroom rfl) stepR_loop) harr⟩
end

section
variable {x : Cx} {P : Program} {T : List TI} {n : Nat} {ops : Array Oper} {Q : Env → World → Prop} {r r' : Env} {w : World} {o : Oper} {rest l l' : List Oper}
theorem WOi.one {d : Nat} (hd : o.dst = some d) (hn : Nat.blt d n = true) (hg : guardE ops o r = some true) (h : OpW P o r w fun v w' => WOi x P n ops Q rest ((d, v) :: r) w') : WOi x P n ops Q (o :: rest) r w :=
  ⟨r, Env.sub.refl r, by simp [dstOk, hd, hn], true, hg, fun _ => by rw [hd]; exact h.turn, (fun h => nomatch h)⟩
/-- An operation that leaves no value. -/
theorem WOi.act (hd : o.dst = none) (hg : guardE ops o r = some true) (h : OpW P o r w fun v w' => WOi x P n ops Q rest r w') : WOi x P n ops Q (o :: rest) r w :=
  ⟨r, Env.sub.refl r, by simp [dstOk, hd], true, hg, fun _ => by rw [hd]; exact h.turn, (fun h => nomatch h)⟩
theorem WOi.skip {d : Nat} (hd : o.dst = some d) (hn : Nat.blt d n = true) (hg : guardE ops o r = some false) (h : WOi x P n ops Q rest ((d, undef) :: r) w) : WOi x P n ops Q (o :: rest) r w :=
  ⟨r, Env.sub.refl r, by simp [dstOk, hd, hn], false, hg, (fun h => nomatch h), fun _ => by rw [hd]; exact h⟩
theorem WOi.pv {d : Nat} {v : Value} (hd : o.dst = some d) (hn : Nat.blt d n = true) (hg : guardE ops o r = some true) (hv : PureV P r o v) (h : WOi x P n ops Q rest ((d, v) :: r) w) : WOi x P n ops Q (o :: rest) r w :=
  WOi.one hd hn hg (hv.op h)
/-- One pure operation, guarded or not. -/
theorem WOi.pu (hT : TabOk P T) {d : Nat} {v : Value} (hd : o.dst = some d) (hn : Nat.blt d n = true) (hg : guardE ops o r = some true) (hv : pureOp T (Env.ev r) o.op = some v) (h : WOi x P n ops Q rest ((d, v) :: r) w) : WOi x P n ops Q (o :: rest) r w :=
  WOi.pv hd hn hg (PureV.of hT hv) h
theorem WOi.pv' {v : Value} (hd : dstOk n o = true) (hg : guardE ops o r = some true) (hv : PureV P r o v) (h : WOi x P n ops Q rest (r.put o.dst v) w) : WOi x P n ops Q (o :: rest) r w :=
  ⟨r, Env.sub.refl r, hd, true, hg, fun _ => (hv.op h).turn, (fun h => nomatch h)⟩
/-- The guard is not decided: both ways. -/
theorem WOi.split {b : Bool} (hd : dstOk n o = true) (hg : guardE ops o r = some b) (h1 : b = true → OpW P o r w fun v w' => WOi x P n ops Q rest (r.put o.dst v) w') (h2 : b = false → WOi x P n ops Q rest (r.put o.dst undef) w) : WOi x P n ops Q (o :: rest) r w :=
  ⟨r, Env.sub.refl r, hd, b, hg, fun e => (h1 e).turn, h2⟩
theorem WOi.pures (hT : TabOk P T) : ∀ (l : List Oper) (r : Env) {l' : List Oper} {r' : Env}, runPure T n l r = (l', r') → WOi x P n ops Q l' r' w → WOi x P n ops Q l r w
  | [], r, l', r', h, hk => by simp [runPure] at h; obtain ⟨rfl, rfl⟩ := h; exact hk
  | o :: rest, r, l', r', h, hk => by
    unfold runPure at h
    cases hs : stepPure T n o r with
    | none => rw [hs] at h; simp at h; obtain ⟨rfl, rfl⟩ := h; exact hk
    | some r1 =>
      rw [hs] at h
      obtain ⟨hg, hd, v, hv, rfl⟩ := stepPure_spec hT hs
      exact WOi.pv' hd (by simp [guardE, hg]) hv (WOi.pures hT rest _ h hk)
theorem WOi.run (hT : TabOk P T) (h : runPure T n l r = (l', r')) (hlt : Nat.blt l'.length l.length = true) (hk : WOi x P n ops Q l' r' w) : WOi x P n ops Q l r w := WOi.pures hT l r h hk
theorem WOi.nil (h : Q r w) : WOi x P n ops Q [] r w := ⟨r, Env.sub.refl r, h⟩

theorem WOi.caseG {d : Nat} {b : Bool} (hs : guardSlot ops o = some d) (hb : Env.get r d = some (.bool b)) (h1 : b = true → WOi x P n ops Q (o :: rest) ((d, .bool true) :: r) w) (h2 : b = false → WOi x P n ops Q (o :: rest) ((d, .bool false) :: r) w) : WOi x P n ops Q (o :: rest) r w := by
  cases hb' : b with
  | true => exact (h1 hb').less (Env.shadow hb (by rw [hb']))
  | false => exact (h2 hb').less (Env.shadow hb (by rw [hb']))
/-- A slot's value is told otherwise. -/
theorem WOi.tell {d : Nat} {v u : Value} (hd : Env.get r d = some v) (hu : v = u) (h : WOi x P n ops Q l ((d, u) :: r) w) : WOi x P n ops Q l r w := h.less (Env.shadow hd hu)


end
end Go.Proofs.Ytnghaidnbicjjaa.Gw
