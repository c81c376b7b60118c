/- A program logic of our own over the machine's weakest preconditions: environments of live slots, pure operations by evaluation, and the rules for the forms of code. Conditions: none; every rule is proved from the library's. -/
import Derived.OrdersHeld
import Derived.WalkKit
import Derived.KernelRfl
set_option linter.unusedVariables false
set_option linter.unusedSimpArgs false
namespace Go.Proofs.Ytpenbdpgpamcbaa.Gw
open Go

/-! ### What is known of the slots -/
abbrev Env := List (Nat × Value)

def Env.get : Env → Nat → Option Value
  | [], _ => none
  | (k, v) :: r, t => match Nat.beq k t with
    | true => some v
    | false => Env.get r t

def Env.ev (r : Env) : Operand → Option Value
  | .tmp t => Env.get r t
  | .const v => some v
  | .global g => some (.pointer (some ⟨g, 0, none⟩))
  | .func f => some (.func (.func f) #[] #[])

def Env.put (r : Env) (d : Option Nat) (v : Value) : Env := match d with
  | some d => (d, v) :: r
  | none => r

/-- Only these slots are kept. -/
def Env.keep (r : Env) : List Nat → Env
  | [] => []
  | t :: l => match Env.get r t with
    | some v => (t, v) :: Env.keep r l
    | none => Env.keep r l

structure Agree (n : Nat) (a : Act) (r : Env) : Prop where
  defers : a.defers = []
  size : a.tmps.size = n
  get : ∀ t v, Env.get r t = some v → a.tmps.getD t undef = v

theorem Env.get_cons (k : Nat) (v : Value) (r : Env) (t : Nat) : Env.get ((k, v) :: r) t = if k = t then some v else Env.get r t := by
  by_cases h : k = t
  · subst h; simp [Env.get]
  · have : Nat.beq k t = false := by
      rw [← Bool.not_eq_true]; intro hb; exact h (Nat.eq_of_beq_eq_true hb)
    simp [Env.get, this, h]

theorem Env.get_keep (r : Env) : ∀ (l : List Nat) (t : Nat) (v : Value), Env.get (Env.keep r l) t = some v → Env.get r t = some v
  | [], t, v, h => by simp [Env.keep, Env.get] at h
  | k :: l, t, v, h => by
    unfold Env.keep at h
    cases hk : Env.get r k with
    | none => rw [hk] at h; exact Env.get_keep r l t v h
    | some u =>
      rw [hk] at h
      simp only [Env.get_cons] at h
      split at h
      · rename_i e; subst e; rw [hk]; exact h
      · exact Env.get_keep r l t v h

theorem Agree.eval {n : Nat} {a : Act} {r : Env} (h : Agree n a r) {x : Operand} {v : Value} (hx : Env.ev r x = some v) : a.eval x = v := by
  cases x with
  | tmp t => exact h.get t v hx
  | const u => exact Option.some.inj hx
  | global g => exact Option.some.inj hx
  | func f => exact Option.some.inj hx

theorem Agree.put {n : Nat} {a : Act} {r : Env} (h : Agree n a r) (d : Option Nat) (v : Value) (hd : ∀ k, d = some k → k < n) : Agree n (a.put d v) (r.put d v) := by
  cases d with
  | none => exact h
  | some k =>
    refine ⟨h.defers, by simp [Act.put, h.size], fun t u hu => ?_⟩
    have hk := hd k rfl
    simp only [Env.put, Env.get_cons] at hu
    by_cases e : k = t
    · subst e
      simp at hu
      subst hu
      simp [Act.put, h.size, hk]
    · rw [if_neg e] at hu
      have := h.get t u hu
      simp only [Act.put, Array.getD_eq_getD_getElem?, Array.getElem?_setIfInBounds_ne e] at *
      exact this

theorem Agree.keep {n : Nat} {a : Act} {r : Env} (h : Agree n a r) (l : List Nat) : Agree n a (Env.keep r l) :=
  ⟨h.defers, h.size, fun t v hv => h.get t v (Env.get_keep r l t v hv)⟩

/-- What follows from an environment in which more is known. -/
theorem Agree.less {n : Nat} {a : Act} {r r' : Env} (h : Agree n a r) (hr : ∀ t v, Env.get r' t = some v → Env.get r t = some v) : Agree n a r' :=
  ⟨h.defers, h.size, fun t v hv => h.get t v (hr t v hv)⟩

/-- Less is known in r' than in r. -/
def Env.sub (r' r : Env) : Prop := ∀ t v, Env.get r' t = some v → Env.get r t = some v
theorem Env.sub.refl (r : Env) : Env.sub r r := fun _ _ h => h
theorem Env.sub.trans {a b c : Env} (h : Env.sub a b) (k : Env.sub b c) : Env.sub a c := fun t v hv => k t v (h t v hv)

/-! ### One operation -/
def RunK (P : Program) (K : Value → World → Prop) : Result Next → Prop
  | .ok (.value v) w => K v w
  | .ok .skip w => K undef w
  | .ok (.enter f args) w => Calls P f args w fun e w' => ∃ v, e = .returned v ∧ K v w'
  | _ => False

/-- The operation, whatever the slots that are not known hold. -/
def OpW (P : Program) (o : Oper) (r : Env) (w : World) (K : Value → World → Prop) : Prop :=
  ∀ ev : Operand → Value, (∀ x v, Env.ev r x = some v → ev x = v) → RunK P K ((execOp ev o).run P w)

theorem RunK.upon {P : Program} {o : Oper} {a : Act} {K : Value → World → Prop} {Q : Exit → Act → World → Prop} {next : Act → World → Prop} (hK : ∀ v w, K v w → next (a.put o.dst v) w) :
    ∀ r : Result Next, RunK P K r → o.upon P a next Q r
  | .ok (.value v) w, h => hK _ _ h
  | .ok .skip w, h => hK _ _ h
  | .ok (.enter f args) w, h => Calls.mono h fun e w' ⟨v, he, hk⟩ => by subst he; exact hK _ _ hk
  | .halt _ _, h => h.elim
  | .ok (.round ..) _, h | .ok (.defer _) _, h | .ok .recover _, h | .ok (.spawn _) _, h | .ok (.comm ..) _, h | .ok .numGoroutine _, h | .ok .collect _, h | .ok (.watch _) _, h | .ok (.newcoro ..) _, h
  | .ok (.coroswitch ..) _, h | .ok (.sleep _) _, h | .ok (.timer _) _, h | .ok (.alone ..) _, h | .ok (.callThen ..) _, h | .ok (.row ..) _, h | .ok (.stack ..) _, h => h.elim

theorem OpW.wp {P : Program} {o : Oper} {n : Nat} {r : Env} {w : World} {a : Act} {K : Value → World → Prop} {Q : Exit → Act → World → Prop} {next : Act → World → Prop}
    (h : OpW P o r w K) (ha : Agree n a r) (hK : ∀ v w, K v w → next (a.put o.dst v) w) : o.wp P a w next Q :=
  RunK.upon hK _ (h a.eval fun x v hx => ha.eval hx)

theorem RunK.mono {P : Program} {K K' : Value → World → Prop} (h : ∀ v w, K v w → K' v w) : ∀ r : Result Next, RunK P K r → RunK P K' r
  | .ok (.value v) w, hr => h _ _ hr
  | .ok .skip w, hr => h _ _ hr
  | .ok (.enter f args) w, hr => Calls.mono hr fun e w' ⟨v, he, hk⟩ => ⟨v, he, h _ _ hk⟩
  | .halt _ _, hr => hr.elim
  | .ok (.round ..) _, h | .ok (.defer _) _, h | .ok .recover _, h | .ok (.spawn _) _, h | .ok (.comm ..) _, h | .ok .numGoroutine _, h | .ok .collect _, h | .ok (.watch _) _, h | .ok (.newcoro ..) _, h
  | .ok (.coroswitch ..) _, h | .ok (.sleep _) _, h | .ok (.timer _) _, h | .ok (.alone ..) _, h | .ok (.callThen ..) _, h | .ok (.row ..) _, h | .ok (.stack ..) _, h => h.elim
theorem OpW.mono {P : Program} {o : Oper} {r : Env} {w : World} {K K' : Value → World → Prop} (h : OpW P o r w K) (hk : ∀ v w, K v w → K' v w) : OpW P o r w K' :=
  fun ev hev => RunK.mono hk _ (h ev hev)

/-- Whether an operation runs, by its guard; none: it isn't known. -/
def guardE (ops : Array Oper) (o : Oper) (r : Env) : Option Bool :=
  match o.guard with
  | none => some true
  | some (j, want) => match (ops[j]?).bind (·.dst) with
    | none => none
    | some d => match Env.get r d with
      | some (.bool b) => some (match want with | true => b | false => !b)
      | some (.tuple _) => some false
      | _ => none

theorem guardE_wanted {ops : Array Oper} {o : Oper} {r : Env} {n : Nat} {a : Act} {g : Bool} (h : guardE ops o r = some g) (ha : Agree n a r) : Region.wanted o (yielded ops a.tmps) = g := by
  unfold guardE at h
  unfold Region.wanted
  cases hg : o.guard with
  | none => rw [hg] at h; simpa using h
  | some jw =>
    obtain ⟨j, want⟩ := jw
    rw [hg] at h
    simp only at h
    simp only [yielded]
    cases hd : (ops[j]?).bind (·.dst) with
    | none => rw [hd] at h; simp at h
    | some d =>
      rw [hd] at h
      simp only [Option.bind_some] at h ⊢
      cases hv : Env.get r d with
      | none => rw [hv] at h; simp at h
      | some v =>
        rw [hv] at h
        have hget := ha.get d v hv
        have ht : a.tmps[d]? = some v ∨ v = undef := by
          rw [Array.getD_eq_getD_getElem?] at hget
          cases hh : a.tmps[d]? with
          | none => rw [hh] at hget; exact .inr (by simpa using hget.symm)
          | some u => rw [hh] at hget; exact .inl (by simpa using hget)
        cases v <;> simp at h
        case bool b =>
          rcases ht with ht | ht
          · rw [ht]; subst h; cases want <;> cases b <;> rfl
          · cases ht
        case tuple l =>
          subst h
          rcases ht with ht | ht
          · rw [ht]; cases want <;> rfl
          · cases hh : a.tmps[d]? with
            | none => cases want <;> rfl
            | some u =>
              rw [Array.getD_eq_getD_getElem?, hh] at hget
              simp at hget
              subst hget
              cases want <;> rfl

def dstOk (n : Nat) (o : Oper) : Bool := match o.dst with | some d => Nat.blt d n | none => true
theorem dstOk_spec {n : Nat} {o : Oper} (h : dstOk n o = true) : ∀ k, o.dst = some k → k < n := by
  intro k hk
  unfold dstOk at h
  rw [hk] at h
  exact by simpa [Nat.blt_eq] using h

/-! ### A region in the order of its text -/
def WO (P : Program) (n : Nat) (ops : Array Oper) (Q : Env → World → Prop) : List Oper → Env → World → Prop
  | [], r, w => ∃ r1, Env.sub r1 r ∧ Q r1 w
  | o :: rest, r, w => ∃ r1, Env.sub r1 r ∧ dstOk n o = true ∧ ∃ g, guardE ops o r1 = some g ∧ (g = true → OpW P o r1 w fun v w' => WO P n ops Q rest (r1.put o.dst v) w') ∧ (g = false → WO P n ops Q rest (r1.put o.dst undef) w)
theorem WO.less {P : Program} {n : Nat} {ops : Array Oper} {Q : Env → World → Prop} : ∀ {l : List Oper} {r r' : Env} {w : World}, WO P n ops Q l r' w → Env.sub r' r → WO P n ops Q l r w
  | [], r, r', w, ⟨r1, h1, h2⟩, hr => ⟨r1, h1.trans hr, h2⟩
  | o :: l, r, r', w, ⟨r1, h1, h2⟩, hr => ⟨r1, h1.trans hr, h2⟩

def postQ (n : Nat) (Q : Exit → Env → World → Prop) : Exit → Act → World → Prop := fun e a w => ∃ r, Agree n a r ∧ Q e r w

theorem WO.list {P : Program} {n : Nat} {ops : Array Oper} {Q : Exit → Env → World → Prop} : ∀ (l : List Oper) (r : Env) (w : World) (a : Act), WO P n ops (Q .normal) l r w → Agree n a r → wpList P ops (postQ n Q) l a w
  | [], r, w, a, ⟨r1, hs, h⟩, ha => ⟨r1, ha.less hs, h⟩
  | o :: rest, r, w, a, ⟨r1, hs, hd, g, hg, h1, h2⟩, ha0 => by
    have ha := ha0.less hs
    unfold wpList
    rw [guardE_wanted hg ha]
    cases g with
    | true =>
      rw [if_pos rfl]
      exact .inl ((h1 rfl).wp ha fun v w' hv => WO.list rest _ _ _ hv (ha.put _ _ (dstOk_spec hd)))
    | false =>
      rw [if_neg (by simp)]
      exact WO.list rest _ _ _ (h2 rfl) (ha.put _ _ (dstOk_spec hd))

/-! ### Code -/
def W (P : Program) (n : Nat) (c : Code) (Q : Exit → Env → World → Prop) (r : Env) (w : World) : Prop :=
  ∀ a, Agree n a r → c.wp P (postQ n Q) a w

section
variable {P : Program} {n : Nat} {Q Q' : Exit → Env → World → Prop} {r : Env} {w : World}

theorem W.mono {c : Code} (h : W P n c Q r w) (hq : ∀ e r w, Q e r w → Q' e r w) : W P n c Q' r w :=
  fun a ha => wp_mono (h a ha) fun e a w ⟨r, h1, h2⟩ => ⟨r, h1, hq _ _ _ h2⟩

theorem W.less {c : Code} {r' : Env} (h : W P n c Q r' w) (hr : ∀ t v, Env.get r' t = some v → Env.get r t = some v) : W P n c Q r w :=
  fun a ha => h a (ha.less hr)

theorem W.keep {c : Code} (l : List Nat) (h : W P n c Q (Env.keep r l) w) : W P n c Q r w := fun a ha => h a (ha.keep l)

@[reducible] def thenE (K : Env → World → Prop) (Q : Exit → Env → World → Prop) : Exit → Env → World → Prop
  | .normal, r, w => K r w
  | e, r, w => Q e r w

theorem W.seq {c d : Code} (h : W P n c (thenE (fun r w => W P n d Q r w) Q) r w) : W P n (.seq c d) Q r w :=
  fun a ha => wp_seq (wp_mono (h a ha) fun e a' w' ⟨r', h1, h2⟩ => by
    cases e <;> first | exact h2 a' h1 | exact ⟨r', h1, h2⟩)

theorem W.skip (h : Q .normal r w) : W P n .skip Q r w := fun a ha => wp_skip ⟨r, ha, h⟩
theorem W.exit {id : Nat} (h : Q (.exit id) r w) : W P n (.exit id) Q r w := fun a ha => wp_exit ⟨r, ha, h⟩
theorem W.ret (h : Q .ret r w) : W P n .ret Q r w := fun a ha => wp_ret ⟨r, ha, h⟩
theorem W.label {l : Nat} (h : Q .normal r w) : W P n (.label l) Q r w := fun a ha => wp_label ⟨r, ha, h⟩

theorem W.cond {c : Operand} {x y : Code} {b : Bool} (hc : Env.ev r c = some (.bool b)) (ht : b = true → W P n x Q r w) (hf : b = false → W P n y Q r w) : W P n (.cond c x y) Q r w :=
  fun a ha => wp_cond_split (ha.eval hc) (fun h => ht h a ha) (fun h => hf h a ha)
theorem W.cond_t {c : Operand} {x y : Code} (hc : Env.ev r c = some (.bool true)) (ht : W P n x Q r w) : W P n (.cond c x y) Q r w :=
  fun a ha => wp_cond_true (ha.eval hc) (ht a ha)
theorem W.cond_f {c : Operand} {x y : Code} (hc : Env.ev r c = some (.bool false)) (ht : W P n y Q r w) : W P n (.cond c x y) Q r w :=
  fun a ha => wp_cond_false (ha.eval hc) (ht a ha)

@[reducible] def blkE (id : Nat) (Q : Exit → Env → World → Prop) : Exit → Env → World → Prop
  | .exit k, r, w => match Nat.beq k id with
    | true => Q .normal r w
    | false => Q (.exit k) r w
  | e, r, w => Q e r w

theorem W.block {id : Nat} {c : Code} (h : W P n c (blkE id Q) r w) : W P n (.block id c) Q r w :=
  fun a ha => wp_block (wp_mono (h a ha) fun e a' w' ⟨r', h1, h2⟩ => by
    cases e with
    | exit k =>
      simp only [Exit.inBlock]
      simp only [blkE] at h2
      by_cases hk : k = id
      · subst hk; rw [if_pos rfl]; simp at h2; exact ⟨r', h1, h2⟩
      · rw [if_neg hk]
        have hb : Nat.beq k id = false := by
          rw [← Bool.not_eq_true]; intro hb; exact hk (Nat.eq_of_beq_eq_true hb)
        rw [hb] at h2
        exact ⟨r', h1, h2⟩
    | _ => exact ⟨r', h1, h2⟩)

theorem W.region {id : Nat} {l : List Oper} (h : WO P n l.toArray (Q .normal) l r w) : W P n (.region id l.toArray false) Q r w :=
  fun a ha => wp_region_lit (WO.list l r w a h ha)

/-- A loop, with a state of one's own at each round's head: 'enc' lays it into the slots 'l', which alone are kept. -/
theorem W.loopS {c : Code} {S : Type} (l : List Nat) (enc : S → Env) (I : S → World → Prop) (m : S → Nat) (s0 : S) (h0 : Env.keep r l = enc s0) (hI : I s0 w)
    (hr : ∀ s w, I s w → W P n c (thenE (fun r' w' => ∃ s', Env.keep r' l = enc s' ∧ I s' w' ∧ m s' < m s) Q) (enc s) w) : W P n (.loop c) Q r w := by
  have key : ∀ k s w a, m s = k → I s w → Agree n a (enc s) → ∀ (b : Frame) (kk : List Item) (cs : List Frame),
      ∃ e a' w', postQ n Q e a' w' ∧ Arrives P (lone (b.at a (.code c :: .inLoop c :: kk)) cs w) b kk cs e a' w' := by
    intro k
    induction k using Nat.strongRecOn with
    | _ k ih =>
      intro s w a hk hI ha b kk cs
      obtain ⟨e, a₁, w₁, ⟨r₁, h1, h2⟩, harr⟩ := hr s w hI a ha b (.inLoop c :: kk) cs
      cases e with
      | normal =>
        obtain ⟨s', he, hI', hlt⟩ := h2
        obtain ⟨e₂, a₂, w₂, hq₂, harr₂⟩ := ih _ (hk ▸ hlt) s' w₁ a₁ rfl hI' (he ▸ h1.keep l) b kk cs
        exact ⟨e₂, a₂, w₂, hq₂, .of_steps (Steps.trans harr (.one step_inLoop)) harr₂⟩
      | exit id => exact ⟨_, a₁, w₁, ⟨r₁, h1, h2⟩, .pass (x := .inLoop c) rfl (fun _ _ => .inl (by simp)) harr⟩
      | goto l => exact ⟨_, a₁, w₁, ⟨r₁, h1, h2⟩, .pass (x := .inLoop c) rfl (fun _ _ => .inl (by simp)) harr⟩
      | ret => exact ⟨_, a₁, w₁, ⟨r₁, h1, h2⟩, .pass (x := .inLoop c) rfl (fun _ _ => .inl (by simp)) harr⟩
      | panic ch => exact ⟨_, a₁, w₁, ⟨r₁, h1, h2⟩, .pass (x := .inLoop c) rfl (fun _ _ => .inl (by simp)) harr⟩
      | outgrown => exact ⟨_, a₁, w₁, ⟨r₁, h1, h2⟩, .pass (x := .inLoop c) rfl (fun _ _ => .inl (by simp)) harr⟩
  intro a ha b kk cs
  obtain ⟨e, a', w', hq, harr⟩ := key _ s0 w a rfl hI (h0 ▸ ha.keep l) b kk cs
  exact ⟨e, a', w', hq, .of_steps (.one step_loop) harr⟩
end
end Go.Proofs.Ytpenbdpgpamcbaa.Gw
