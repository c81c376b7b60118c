/- Regions whose order is drawn, in the fenced logic: the rules of Draw and Drawn once more, with 'i' in the names; outside rounds. Conditions: those of Draw. -/
import Derived.Test.YtnghaidnbicjjaaGwTurn
import Derived.OrdersIn
set_option linter.unusedVariables false
set_option linter.unusedSimpArgs false
namespace Go.Proofs.Ytnghaidnbicjjaa.Gw
open Go

section
variable {x : Cx} {P : Program} {ops : Array Oper} {Q : Exit → Act → World → Prop} {R : Nat → World → World → Prop} {S : World → Prop}
theorem yieldsIf_wpOpIn (hro : x.ro = none) {i : Nat} {o : Oper} {v : Value} {a : Act} (hi : ops[i]? = some o) (hy : YieldsIf P ops S o v a)
    {K : Act → World → Prop} {w : World} (hS : S w) (h : K (a.put o.dst v) w) : wpOpIn x.F 0 P ops Q i K a w := by
  have hro : x.F.round = none := hro
  unfold Go.wpOpIn
  simp only [hi]
  rcases hy with ⟨hw, hv⟩ | ⟨hw, rfl⟩
  · simp only [hw, if_true, Oper.wpIn, hro, Oper.semAt_none, hv w hS, Oper.uponIn]; exact ⟨fun _ _ => trivial, h⟩
  · simp only [hw, Bool.false_eq_true, if_false]; exact ⟨fun _ _ => trivial, h⟩
theorem wpOpIn_putIf (hro : x.ro = none) {j : Nat} {oi oj : Oper} {v : Value} (hj : ops[j]? = some oj) (hap : oi.apart ops oj = true)
    (hsi : ∀ cs b, oi.op ≠ .select cs b) (hsj : ∀ cs b, oj.op ≠ .select cs b)
    (hQ : ∀ c a w, Q (.panic c) (a.put oi.dst v) w → Q (.panic c) a w) {K : Act → World → Prop} {a : Act} {w : World}
    (hy : YieldsIf P ops S oi v a) (h : wpOpIn x.F 0 P ops Q j K (a.put oi.dst v) w) :
    wpOpIn x.F 0 P ops Q j (fun a' w' => YieldsIf P ops S oi v a' ∧ K (a'.put oi.dst v) w') a w := by
  have hro : x.F.round = none := hro
  obtain ⟨h1, h2, h3⟩ := Oper.apart_spec hap
  have keep : ∀ (a : Act), YieldsIf P ops S oi v a → ∀ u, YieldsIf P ops S oi v (a.put oj.dst u) := fun a hy u =>
    hy.of_same (execOp_put oi hsi a oj.dst u h3) (wanted_put oi a oj.dst u h3)
  have keepD : ∀ d, YieldsIf P ops S oi v { a with defers := d :: a.defers } := fun d => hy.of_same rfl rfl
  unfold wpOpIn at *
  simp only [hj] at *
  rw [wanted_put oj a oi.dst v h1] at h
  split
  · rename_i hw
    simp only [hw, if_true] at h
    unfold Oper.wpIn at *
    refine ⟨fun _ _ => trivial, ?_⟩
    have h := h.2
    rw [hro, Oper.semAt_none, execOp_put oj hsj a oi.dst v h1] at h
    rw [hro, Oper.semAt_none]
    generalize (execOp a.eval oj).run P w = r at *
    cases r with
    | ok y w' =>
      cases y <;> simp only [Oper.uponIn] at h ⊢
      case value u => exact ⟨keep a hy u, by rw [← Act.put_comm a v u h2]; exact h⟩
      case skip => exact ⟨keep a hy _, by rw [← Act.put_comm a v undef h2]; exact h⟩
      case defer d =>
        refine ⟨keep _ (keepD d) _, ?_⟩
        rw [← Act.put_comm _ v undef h2, ← Act.put_defers]
        exact h
      case enter f args =>
        refine ⟨h.1, CallsIn.mono h.2 fun e w'' he => ?_⟩
        cases e with
        | returned u => exact ⟨keep a hy u, by rw [← Act.put_comm a v u h2]; exact he⟩
        | panicked c => exact hQ _ _ _ he
        | outgrown => exact he
      case row row args => exact ⟨h.1, RowsIn.mono h.2 fun u w'' he => ⟨keep a hy u, by rw [← Act.put_comm a v u h2]; exact he⟩⟩
      case round l f tmps assign body =>
        refine ⟨h.1, RoundIn.mono h.2 fun e w'' he => ?_⟩
        cases e with
        | returned u => exact ⟨keep a hy u, by rw [← Act.put_comm a v u h2]; exact he⟩
        | panicked c => exact hQ _ _ _ he
        | outgrown => exact he
    | halt y w' =>
      cases y <;> simp only [Oper.uponIn] at h ⊢
      case panic u => exact hQ _ _ _ h
  · rename_i hw
    simp only [hw] at h
    exact ⟨fun _ _ => trivial, keep a hy _, by rw [← Act.put_comm a v undef h2]; exact h.2⟩

/-- Whatever order is picked from here on; what operation i does to the world is told by R i. -/
def wpAnyNi (x : Cx) (P : Program) (ops : Array Oper) (Q : Exit → Act → World → Prop) (R : Nat → World → World → Prop) : Nat → Array Bool → Act → World → Prop
  | 0, listed, a, w => Region.ready .any ops listed = [] ∧ Q .normal a w
  | fuel + 1, listed, a, w =>
    (Region.ready .any ops listed = [] → Q .normal a w) ∧
    ∀ i ∈ Region.ready .any ops listed, wpOpIn x.F 0 P ops Q i (fun a' w' => R i w w' ∧ wpAnyNi x P ops Q R fuel (listed.setIfInBounds i true) a' w') a w

theorem wpAnyI_of_N : ∀ (fuel : Nat) (listed : Array Bool) (a : Act) (w : World), wpAnyNi x P ops Q R fuel listed a w → wpAnyIn x.F 0 P .any ops Q fuel listed a w
  | 0, _, _, _, h => h
  | fuel + 1, _, _, _, h => ⟨h.1, fun i hi => wpOpIn_mono (fun a' w' h' => wpAnyI_of_N fuel _ a' w' h'.2) (h.2 i hi)⟩

theorem wpAnyNi_first (hro : x.ro = none) {Y : World → Prop} {i : Nat} {oi : Oper} {v : Value} (hi : ops[i]? = some oi) (hsel : ∀ (j : Nat) (o : Oper) cs b, ops[j]? = some o → o.op ≠ .select cs b)
    (hQ : ∀ c a w, Q (.panic c) (a.put oi.dst v) w → Q (.panic c) a w) (hRi : ∀ w, R i w w) :
    ∀ (fuel : Nat) (listed : Array Bool) (a : Act) (w : World),
      Closed ops listed → (∀ j oj, ops[j]? = some oj → j ≠ i → listed.getD j true = false → (∀ e ∈ oj.after, Region.binds .any e = true → e.on ≠ i) → reaches ops ops.size j i = false → oi.apart ops oj = true ∧ ∀ w w', Y w → R j w w' → Y w') →
      i ∈ Region.ready .any ops listed → YieldsIf P ops Y oi v a → Y w →
      wpAnyNi x P ops Q R fuel (listed.setIfInBounds i true) (a.put oi.dst v) w → wpAnyNi x P ops Q R (fuel + 1) listed a w := by
  intro fuel
  induction fuel with
  | zero =>
    intro listed a w hcl hfree hr hy hS H
    refine ⟨fun h => (by rw [h] at hr; cases hr), fun j hj => ?_⟩
    by_cases hji : j = i
    · subst hji; exact yieldsIf_wpOpIn hro hi hy hS ⟨hRi w, H⟩
    · have := ready_mono hj hji
      rw [H.1] at this
      cases this
  | succ fuel ih =>
    intro listed a w hcl hfree hr hy hS H
    refine ⟨fun h => (by rw [h] at hr; cases hr), fun j hj => ?_⟩
    by_cases hji : j = i
    · subst hji; exact yieldsIf_wpOpIn hro hi hy hS ⟨hRi w, H⟩
    · have h1 := H.2 j (ready_mono hj hji)
      obtain ⟨hjun, oj, hoj, hall⟩ := mem_ready.1 hj
      have hnot : ∀ e ∈ oj.after, Region.binds .any e = true → e.on ≠ i := fun e he hb heq => by
        have h1 := hall e he hb
        have h0 := (mem_ready.1 hr).1
        rw [heq] at h1
        rcases Nat.lt_or_ge i listed.size with h' | h'
        · simp [h'] at h0 h1; rw [h0] at h1; cases h1
        · simp [Array.getElem?_eq_none h'] at h1
      obtain ⟨hap, hYj⟩ := hfree j oj hoj hji hjun hnot (not_reach hcl (mem_ready.1 hr).1 _ j oj hoj hall)
      have h2 := wpOpIn_putIf hro hoj hap (fun cs b => hsel i oi cs b hi) (fun cs b => hsel j oj cs b hoj) hQ hy h1
      have hfree' : ∀ k ok, ops[k]? = some ok → k ≠ i → (listed.setIfInBounds j true).getD k true = false →
          (∀ e ∈ ok.after, Region.binds .any e = true → e.on ≠ i) → reaches ops ops.size k i = false → oi.apart ops ok = true ∧ ∀ w w', Y w → R k w w' → Y w' := fun k ok hk hki hun hno hre => by
        refine hfree k ok hk hki ?_ hno hre
        by_cases hjk : j = k
        · subst hjk; exact hjun
        · rw [getD_set_ne true hjk] at hun; exact hun
      refine wpOpIn_mono (fun a' w' h3 => ?_) h2
      refine ⟨h3.2.1, ih (listed.setIfInBounds j true) a' w' (hcl.set hj) hfree' (ready_mono hr (Ne.symm hji)) h3.1 (hYj w w' hS h3.2.1) ?_⟩
      rw [Array.setIfInBounds_comm _ _ hji]
      exact h3.2.2
end

/-- The walk through a region in the order 'l'. -/
def WDi (x : Cx) (P : Program) (n : Nat) (ops : Array Oper) (held : List Nat) (S : World → Prop) (Q : Env → World → Prop) : List Nat → Env → World → Prop
  | [], r, w => ∃ r1, Env.sub r1 r ∧ Q r1 w
  | i :: rest, r0, w => ∃ r, Env.sub r r0 ∧ ∃ o, ops[i]? = some o ∧ dstOk n o = true ∧ ∃ g, guardE ops o r = some g ∧
      (g = false → (clsOf held ops i = 2 → needs held ops i = true → S w) ∧ WDi x P n ops held S Q rest (r.put o.dst undef) w) ∧
      (g = true → match clsOf held ops i with
        | 0 => ∃ v, (∀ ev : Operand → Value, (∀ x u, Env.ev r x = some u → ev x = u) → ∀ w', (execOp ev o).run P w' = .ok (.value v) w') ∧ WDi x P n ops held S Q rest (r.put o.dst v) w
        | 1 => ∃ v, S w ∧ (∀ ev : Operand → Value, (∀ x u, Env.ev r x = some u → ev x = u) → ∀ w', S w' → (execOp ev o).run P w' = .ok (.value v) w') ∧ WDi x P n ops held S Q rest (r.put o.dst v) w
        | _ => OpI x P o r w fun v w' => (needs held ops i = true → S w') ∧ WDi x P n ops held S Q rest (r.put o.dst v) w')
theorem WDi.less {x : Cx} {P : Program} {n : Nat} {ops : Array Oper} {held : List Nat} {S : World → Prop} {Q : Env → World → Prop} : ∀ {l : List Nat} {r r' : Env} {w : World}, WDi x P n ops held S Q l r' w → Env.sub r' r → WDi x P n ops held S Q l r w
  | [], r, r', w, ⟨r1, h1, h2⟩, hr => ⟨r1, h1.trans hr, h2⟩
  | i :: l, r, r', w, ⟨r1, h1, h2⟩, hr => ⟨r1, h1.trans hr, h2⟩

section
variable {x : Cx} {P : Program} {n : Nat} {ops : Array Oper} {held : List Nat} {S : World → Prop} {Q : Exit → Env → World → Prop}
theorem postI_panic {Q : Exit → Env → World → Prop} (hQ : ∀ c r w, ¬ Q (.panic c) r w) : ∀ c a (w : World), ¬ postI x n Q (.panic c) a w := fun c a w ⟨r, _, h⟩ => hQ c r w h

theorem WDi.anyK (hro : x.ro = none) (hQ : ∀ c r w, ¬ Q (.panic c) r w) (hs : Region.noSelect ops = true) {k : Nat} {listed' : Array Bool} {Q' : Env → World → Prop} (hK : ∀ r w a, Closed ops listed' → Q' r w → AgI x n a r → wpAnyNi x P ops (postI x n Q) (relOf held ops S) k listed' a w) :
    ∀ (l : List Nat) (listed : Array Bool) (r : Env) (w : World) (a : Act), Closed ops listed → preOrder held ops l listed = some listed' → WDi x P n ops held S Q' l r w → AgI x n a r → wpAnyNi x P ops (postI x n Q) (relOf held ops S) (l.length + k) listed a w
  | [], listed, r, w, a, hcl, hg, h, ha => by
    simp only [preOrder, Option.some.injEq] at hg
    subst hg
    obtain ⟨r1, hs1, h⟩ := h
    rw [List.length_nil, Nat.zero_add]
    exact hK r1 w a hcl h (ha.less hs1)
  | i :: rest, listed, r0, w, a, hcl, hg, ⟨r, hsub, o, ho, hd, g, hgd, h0, h1⟩, ha0 => by
    have ha := ha0.less hsub
    have hfuel : (i :: rest).length + k = (rest.length + k) + 1 := by simp; omega
    rw [hfuel]
    simp only [preOrder] at hg
    split at hg
    rotate_left
    · cases hg
    rename_i hg1
    have hready : i ∈ Region.ready .any ops listed := by
      revert hg1
      rcases clsOf_cases held ops i with h | h | h <;> simp only [h] <;> intro hg1
      · simp only [mayTake, Bool.and_eq_true] at hg1; simpa using hg1.1
      · simp only [mayTake, Bool.and_eq_true] at hg1; simpa using hg1.1
      · have : Region.ready .any ops listed = [i] := by simpa using hg1
        rw [this]; simp
    have hcl' := hcl.set hready
    have hwant := ha.wanted hgd
    have hQp : ∀ v c a w, postI x n Q (.panic c) (Act.put a o.dst v) w → postI x n Q (.panic c) a w := fun v c a w h => (postI_panic hQ c _ w h).elim
    have low : clsOf held ops i ≠ 2 → ∀ (Y : World → Prop) (v : Value), (∀ j oj, ops[j]? = some oj → reaches ops ops.size j i = false → ∀ w w', Y w → relOf held ops S j w w' → Y w') →
        YieldsIf P ops Y o v a → Y w → WDi x P n ops held S Q' rest (r.put o.dst v) w → wpAnyNi x P ops (postI x n Q) (relOf held ops S) (rest.length + k + 1) listed a w := by
      intro hc Y v hY hy hYw hrest
      have hmay : mayTake held ops listed i = true := by
        revert hg1; rcases clsOf_cases held ops i with h | h | h <;> simp [h] at hc ⊢
      simp only [mayTake, Bool.and_eq_true] at hmay
      refine wpAnyNi_first hro (Y := Y) ho (Region.noSelect_spec hs) (hQp v) (fun w => ⟨fun _ => rfl, fun h => by rw [needs_low hc] at h; cases h⟩) (rest.length + k) listed a w hcl
        (fun j oj hj hne hun hno hre => ⟨Region.free_spec ho hmay.2 j oj hj hne hun hno, hY j oj hj hre⟩)
        (by simpa using hmay.1) hy hYw ?_
      exact WDi.anyK hro hQ hs hK rest _ _ _ _ hcl' hg hrest (ha.put _ _ (dstOk_spec hd))
    have high : clsOf held ops i = 2 → wpOpIn x.F 0 P ops (postI x n Q) i (fun a' w' => relOf held ops S i w w' ∧ wpAnyNi x P ops (postI x n Q) (relOf held ops S) (rest.length + k) (listed.setIfInBounds i true) a' w') a w → wpAnyNi x P ops (postI x n Q) (relOf held ops S) (rest.length + k + 1) listed a w := by
      intro hc h
      rw [hc] at hg1
      have hr : Region.ready .any ops listed = [i] := by simpa using hg1
      refine ⟨fun h0 => (by rw [hr] at h0; cases h0), fun j hj => ?_⟩
      rw [hr] at hj
      simp only [List.mem_singleton] at hj
      subst hj
      exact h
    cases g with
    | false =>
      obtain ⟨hn, hrest⟩ := h0 rfl
      rcases clsOf_cases held ops i with hc | hc | hc
      · exact low (by rw [hc]; decide) (fun _ => True) undef (fun _ _ _ _ _ _ _ _ => trivial) (.inr ⟨hwant, rfl⟩) trivial hrest
      · exact low (by rw [hc]; decide) (fun _ => True) undef (fun _ _ _ _ _ _ _ _ => trivial) (.inr ⟨hwant, rfl⟩) trivial hrest
      · refine high hc ?_
        unfold wpOpIn
        simp only [ho, hwant, Bool.false_eq_true, if_false]
        exact ⟨fun _ _ => trivial, ⟨fun h => absurd hc h, hn hc⟩, WDi.anyK hro hQ hs hK rest _ _ _ _ hcl' hg hrest (ha.put _ _ (dstOk_spec hd))⟩
    | true =>
      have h1' := h1 rfl
      rcases clsOf_cases held ops i with hc | hc | hc
      · rw [hc] at h1'
        obtain ⟨v, hv, hrest⟩ := h1'
        exact low (by rw [hc]; decide) (fun _ => True) v (fun _ _ _ _ _ _ _ _ => trivial) (.inl ⟨hwant, fun w' _ => hv a.eval (fun x u hx => ha.eval hx) w'⟩) trivial hrest
      · rw [hc] at h1'
        obtain ⟨v, hSw, hv, hrest⟩ := h1'
        refine low (by rw [hc]; decide) S v ?_ (.inl ⟨hwant, fun w' hw' => hv a.eval (fun x u hx => ha.eval hx) w' hw'⟩) hSw hrest
        intro j oj hj hno w w' hw hR
        rcases clsOf_cases held ops j with hcj | hcj | hcj
        · exact (hR.1 (by rw [hcj]; decide)) ▸ hw
        · exact (hR.1 (by rw [hcj]; decide)) ▸ hw
        · exact hR.2 (needs_spec hc hno hcj)
      · rw [hc] at h1'
        refine high hc ?_
        unfold wpOpIn
        simp only [ho, hwant, if_true]
        exact (OpI.wp h1' ha fun v w' hvw => ⟨⟨fun h => absurd hc h, hvw.1⟩, WDi.anyK hro hQ hs hK rest _ _ _ _ hcl' hg hvw.2 (ha.put _ _ (dstOk_spec hd))⟩)

theorem wpAnyNi_more {R : Nat → World → World → Prop} {Q : Exit → Act → World → Prop} : ∀ (k m : Nat) (listed : Array Bool) (a : Act) (w : World), k ≤ m → wpAnyNi x P ops Q R k listed a w → wpAnyNi x P ops Q R m listed a w
  | 0, 0, listed, a, w, _, h => h
  | 0, m + 1, listed, a, w, _, h => ⟨fun _ => h.2, by rw [h.1]; simp⟩
  | k + 1, m + 1, listed, a, w, hkm, h => ⟨h.1, fun i hi => wpOpIn_mono (fun a' w' h' => ⟨h'.1, wpAnyNi_more k m _ _ _ (by omega) h'.2⟩) (h.2 i hi)⟩

/-- A region whose order is drawn: 'held' are the numbers of the reads that are held by S. -/
theorem Wi.regionD (hro : x.ro = none) {r : Env} {w : World} {id : Nat} {l : List Oper} (held : List Nat) (S : World → Prop) (order : List Nat)
    (hm : P.follows .mixedOrders = true) (hg : (Region.noSelect l.toArray && goodOrder held l.toArray order (Array.replicate l.length false) && decide (order.length ≤ l.length)) = true) (hQ : ∀ c r w, ¬ Q (.panic c) r w)
    (h : WDi x P n l.toArray held S (Q .normal) order r w.drew) : Wi x P n (.region id l.toArray true) Q r w := by
  simp only [Bool.and_eq_true, decide_eq_true_eq] at hg
  intro a ha
  have hgo := hg.1.2
  unfold goodOrder at hgo
  split at hgo
  · rename_i listed' hp
    have hr : Region.ready .any l.toArray listed' = [] := by simpa using hgo
    refine wpIn_region_any hm (wpAnyI_of_N _ _ _ _ (wpAnyNi_more (order.length + 0) _ _ _ _ (by simpa using hg.2) (WDi.anyK (held := held) (S := S) hro hQ hg.1.1 (k := 0) (fun r w a _ hq ha => ⟨hr, r, ha, hq⟩) order _ r _ a (Closed.start _) ?_ h ha)))
    simpa using hp
  · cases hgo
end

section
variable {x : Cx} {P : Program} {n : Nat} {ops : Array Oper} {held : List Nat} {S : World → Prop} {Q : Env → World → Prop} {l : List Nat} {r : Env} {w : World} {i : Nat} {o : Oper} {T : List TI}
theorem WDi.nil (h : Q r w) : WDi x P n ops held S Q [] r w := ⟨r, Env.sub.refl r, h⟩
/-- An operation that turns the world or hangs on it: nothing more is to be held. -/
theorem WDi.one {d : Nat} (ho : ops[i]? = some o) (hd : o.dst = some d) (hn : Nat.blt d n = true) (hg : guardE ops o r = some true) (hc : clsOf held ops i = 2) (hnd : needs held ops i = false)
    (h : OpW P o r w fun v w' => WDi x P n ops held S Q l ((d, v) :: r) w') : WDi x P n ops held S Q (i :: l) r w :=
  ⟨r, Env.sub.refl r, o, ho, by simp [dstOk, hd, hn], true, hg, (fun h => nomatch h), fun _ => by rw [hc]; exact h.turn.mono fun v w' hv => ⟨fun h => (by rw [hnd] at h; cases h), by rw [hd]; exact hv⟩⟩
theorem WDi.oneS {d : Nat} (ho : ops[i]? = some o) (hd : o.dst = some d) (hn : Nat.blt d n = true) (hg : guardE ops o r = some true) (hc : clsOf held ops i = 2)
    (h : OpW P o r w fun v w' => S w' ∧ WDi x P n ops held S Q l ((d, v) :: r) w') : WDi x P n ops held S Q (i :: l) r w :=
  ⟨r, Env.sub.refl r, o, ho, by simp [dstOk, hd, hn], true, hg, (fun h => nomatch h), fun _ => by rw [hc]; exact h.turn.mono fun v w' hv => ⟨fun _ => hv.1, by rw [hd]; exact hv.2⟩⟩
theorem WDi.act (ho : ops[i]? = some o) (hd : o.dst = none) (hg : guardE ops o r = some true) (hc : clsOf held ops i = 2) (hnd : needs held ops i = false)
    (h : OpW P o r w fun v w' => WDi x P n ops held S Q l r w') : WDi x P n ops held S Q (i :: l) r w :=
  ⟨r, Env.sub.refl r, o, ho, by simp [dstOk, hd], true, hg, (fun h => nomatch h), fun _ => by rw [hc]; exact h.turn.mono fun v w' hv => ⟨fun h => (by rw [hnd] at h; cases h), by rw [hd]; exact hv⟩⟩
theorem WDi.actS (ho : ops[i]? = some o) (hd : o.dst = none) (hg : guardE ops o r = some true) (hc : clsOf held ops i = 2)
    (h : OpW P o r w fun v w' => S w' ∧ WDi x P n ops held S Q l r w') : WDi x P n ops held S Q (i :: l) r w :=
  ⟨r, Env.sub.refl r, o, ho, by simp [dstOk, hd], true, hg, (fun h => nomatch h), fun _ => by rw [hc]; exact h.turn.mono fun v w' hv => ⟨fun _ => hv.1, by rw [hd]; exact hv.2⟩⟩
/-- A value that is held. -/
theorem WDi.hv {d : Nat} {v : Value} (ho : ops[i]? = some o) (hd : o.dst = some d) (hn : Nat.blt d n = true) (hg : guardE ops o r = some true) (hc : clsOf held ops i = 1) (hS : S w) (hv : HeldV P S r o v)
    (h : WDi x P n ops held S Q l ((d, v) :: r) w) : WDi x P n ops held S Q (i :: l) r w :=
  ⟨r, Env.sub.refl r, o, ho, by simp [dstOk, hd, hn], true, hg, (fun h => nomatch h), fun _ => by rw [hc]; exact ⟨v, hS, hv, by rw [hd]; exact h⟩⟩
theorem WDi.pv {d : Nat} {v : Value} (ho : ops[i]? = some o) (hd : o.dst = some d) (hn : Nat.blt d n = true) (hg : guardE ops o r = some true) (hc : clsOf held ops i = 0) (hv : PureV P r o v)
    (h : WDi x P n ops held S Q l ((d, v) :: r) w) : WDi x P n ops held S Q (i :: l) r w :=
  ⟨r, Env.sub.refl r, o, ho, by simp [dstOk, hd, hn], true, hg, (fun h => nomatch h), fun _ => by rw [hc]; exact ⟨v, hv, by rw [hd]; exact h⟩⟩
theorem WDi.pu (hT : TabOk P T) {d : Nat} {v : Value} (ho : ops[i]? = some o) (hd : o.dst = some d) (hn : Nat.blt d n = true) (hg : guardE ops o r = some true) (hc : clsOf held ops i = 0) (hv : pureOp T (Env.ev r) o.op = some v)
    (h : WDi x P n ops held S Q l ((d, v) :: r) w) : WDi x P n ops held S Q (i :: l) r w := WDi.pv ho hd hn hg hc (PureV.of hT hv) h
/-- Left out by its guard. -/
theorem WDi.skip {d : Nat} (ho : ops[i]? = some o) (hd : o.dst = some d) (hn : Nat.blt d n = true) (hg : guardE ops o r = some false) (hS : (match clsOf held ops i with | 2 => needs held ops i | _ => false) = false)
    (h : WDi x P n ops held S Q l ((d, undef) :: r) w) : WDi x P n ops held S Q (i :: l) r w :=
  ⟨r, Env.sub.refl r, o, ho, by simp [dstOk, hd, hn], false, hg, fun _ => ⟨fun hc hn => (by rw [hc] at hS; simp only at hS; rw [hn] at hS; cases hS), by rw [hd]; exact h⟩, (fun h => nomatch h)⟩
theorem WDi.skipS {d : Nat} (ho : ops[i]? = some o) (hd : o.dst = some d) (hn : Nat.blt d n = true) (hg : guardE ops o r = some false) (hS : S w)
    (h : WDi x P n ops held S Q l ((d, undef) :: r) w) : WDi x P n ops held S Q (i :: l) r w :=
  ⟨r, Env.sub.refl r, o, ho, by simp [dstOk, hd, hn], false, hg, fun _ => ⟨fun _ _ => hS, by rw [hd]; exact h⟩, (fun h => nomatch h)⟩
theorem WDi.caseG {d : Nat} {b : Bool} (ho : ops[i]? = some o) (hs : guardSlot ops o = some d) (hb : Env.get r d = some (.bool b)) (h1 : b = true → WDi x P n ops held S Q (i :: l) ((d, .bool true) :: r) w) (h2 : b = false → WDi x P n ops held S Q (i :: l) ((d, .bool false) :: r) w) : WDi x P n ops held S Q (i :: l) r w := by
  cases hb' : b with
  | true => exact (h1 hb').less (Env.shadow hb (by rw [hb']))
  | false => exact (h2 hb').less (Env.shadow hb (by rw [hb']))
theorem WDi.tell {d : Nat} {v u : Value} (hd : Env.get r d = some v) (hu : v = u) (h : WDi x P n ops held S Q l ((d, u) :: r) w) : WDi x P n ops held S Q l r w := h.less (Env.shadow hd hu)

theorem WDi.pures (hT : TabOk P T) : ∀ (l : List Nat) (r : Env) {l' : List Nat} {r' : Env}, runPureD T n held ops l r = (l', r') → WDi x P n ops held S Q l' r' w → WDi x P n ops held S Q l r w
  | [], r, l', r', h, hk => by simp [runPureD] at h; obtain ⟨rfl, rfl⟩ := h; exact hk
  | i :: rest, r, l', r', h, hk => by
    unfold runPureD at h
    split at h
    · rename_i hc
      split at h
      · rename_i o ho
        split at h
        · rename_i r1 hs
          obtain ⟨hg, hd, v, hv, rfl⟩ := stepPure_spec hT hs
          exact ⟨r, Env.sub.refl r, o, ho, hd, true, by simp [guardE, hg], (fun h => nomatch h), fun _ => by rw [hc]; exact ⟨v, hv, WDi.pures hT rest _ h hk⟩⟩
        · simp at h; obtain ⟨rfl, rfl⟩ := h; exact hk
      · simp at h; obtain ⟨rfl, rfl⟩ := h; exact hk
    · simp at h; obtain ⟨rfl, rfl⟩ := h; exact hk
theorem WDi.run (hT : TabOk P T) {l' : List Nat} {r' : Env} (h : runPureD T n held ops l r = (l', r')) (hlt : Nat.blt l'.length l.length = true) (hk : WDi x P n ops held S Q l' r' w) : WDi x P n ops held S Q l r w := WDi.pures hT l r h hk

/-- An operation in the fenced logic's own words (a call of yield). -/
theorem WDi.oneI {d : Nat} (ho : ops[i]? = some o) (hd : o.dst = some d) (hn : Nat.blt d n = true) (hg : guardE ops o r = some true) (hc : clsOf held ops i = 2) (hnd : needs held ops i = false)
    (h : OpI x P o r w fun v w' => WDi x P n ops held S Q l ((d, v) :: r) w') : WDi x P n ops held S Q (i :: l) r w :=
  ⟨r, Env.sub.refl r, o, ho, by simp [dstOk, hd, hn], true, hg, (fun h => nomatch h), fun _ => by rw [hc]; exact h.mono fun v w' hv => ⟨fun h => (by rw [hnd] at h; cases h), by rw [hd]; exact hv⟩⟩
end

/-! ### From here to there -/
theorem ofTurn {P : Program} {n : Nat} {c : Code} {Q : Exit → Env → World → Prop} {r : Env} {w : World} (h : Wi {} P n c Q r w) : W P n c Q r w := fun a ha => by
  refine (wpIn_wide (n := 0)).1 (wpIn_mono (h a ⟨ha.defers, ha.size, ha.get⟩) fun e a w ⟨r, h1, h2⟩ => ⟨r, ⟨h1.defers, h1.size, h1.get⟩, h2⟩)
theorem OpI.yield {x : Cx} {P : Program} {o : Oper} {r : Env} {w : World} {K : Value → World → Prop} (hro : x.ro = none) {l : Nat} {g : Operand} {args : Array Operand} {ts : Array TypeId} {vs : List Value} {R : Ending → World → Prop} (ho : o.op = .call ⟨.value g, args, ts⟩) (hg : Env.ev r g = some (.func (.yield l) #[] #[]))
    (hv : evL (Env.ev r) args.toList (fun l => some (.tuple l.toArray)) = some (.tuple vs.toArray)) (hY : YieldAt Fence.wide 0 P l vs.toArray w R) (hK : ∀ e w', R e w' → ∃ v, e = .returned v ∧ K v w') : OpI x P o r w K := by
  intro ev hev
  have h2 := evL_some hev _ _ _ hv
  simp at h2
  have hargs : args.map ev = vs.toArray := by rw [← h2]; apply Array.ext'; simp
  obtain ⟨fn, tmps, assign, body, h3, h4⟩ := hY
  have : (o.semAt x.ro ev).run P w = .ok (.round l fn tmps assign body) w := by
    rw [hro, Oper.semAt_none]
    simp [execOp, ho, resolve, hev _ _ hg, Deferred.ofValue, invoke, hargs, h3]
  rw [this]
  exact RoundIn.mono (F := x.F) h4 hK
theorem Holds.below {w W : World} {A : Asn} (h : Holds w A) (hb : RowKit.Below w.heap.size w W) : Holds W A := by
  obtain ⟨S, hS⟩ := h
  exact ⟨S, A.loc w W S hS fun b hb' => hb.block b (A.dom w S hS b hb')⟩
theorem Pure.below {w W : World} (h : Pure w W) {n : Nat} (hn : n ≤ w.heap.size) : RowKit.Below n w W := ⟨h.like.os, h.like.tape, h.like.output, h.like.size, fun k hk => h.same k (by omega)⟩
end Go.Proofs.Ytnghaidnbicjjaa.Gw
