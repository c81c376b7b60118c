/- A region whose order is drawn, brought to one order: pure operations and reads that are held are taken first. Conditions: what is held is kept by each operation that need keep it; the rest is a check that the kernel makes. -/
import Derived.Test.YtpenbdpgpamcbaaGwBase
set_option linter.unusedVariables false
set_option linter.unusedSimpArgs false
namespace Go.Proofs.Ytpenbdpgpamcbaa.Gw
open Go

section
variable {P : Program} {ops : Array Oper} {Q : Exit → Act → World → Prop} {R : Nat → World → World → Prop}

/-- Whatever order is picked from here on; what operation i does to the world is told by R i. -/
def wpAnyN (P : Program) (ops : Array Oper) (Q : Exit → Act → World → Prop) (R : Nat → World → World → Prop) : Nat → Array Bool → Act → World → Prop
  | 0, listed, a, w => Region.ready .any ops listed = [] ∧ Q .normal a w
  | fuel + 1, listed, a, w =>
    (Region.ready .any ops listed = [] → Q .normal a w) ∧
    ∀ i ∈ Region.ready .any ops listed, wpOp P ops Q i (fun a' w' => R i w w' ∧ wpAnyN P ops Q R fuel (listed.setIfInBounds i true) a' w') a w

theorem wpAny_of_N : ∀ (fuel : Nat) (listed : Array Bool) (a : Act) (w : World), wpAnyN P ops Q R fuel listed a w → wpAny P .any ops Q fuel listed a w
  | 0, _, _, _, h => h
  | fuel + 1, _, _, _, h => ⟨h.1, fun i hi => wpOp_mono (fun a' w' h' => wpAny_of_N fuel _ a' w' h'.2) (h.2 i hi)⟩

/-- What has to come before what. -/
def reaches (ops : Array Oper) : Nat → Nat → Nat → Bool
  | 0, _, _ => false
  | f + 1, j, i => match ops[j]? with
    | none => false
    | some o => o.after.any fun e => Region.binds .any e && (e.on == i || reaches ops f e.on i)
def Closed (ops : Array Oper) (listed : Array Bool) : Prop := ∀ k o, ops[k]? = some o → listed.getD k false = true → ∀ e ∈ o.after, Region.binds .any e = true → listed.getD e.on false = true
theorem getD_true {listed : Array Bool} {i : Nat} (h : listed.getD i true = false) : listed.getD i false = false := by
  rcases Nat.lt_or_ge i listed.size with h' | h'
  · simp [h'] at h ⊢; exact h
  · simp [Array.getElem?_eq_none h'] at h ⊢
theorem not_reach {listed : Array Bool} (hcl : Closed ops listed) {i : Nat} (hi : listed.getD i true = false) : ∀ (f j : Nat) (oj : Oper), ops[j]? = some oj → (∀ e ∈ oj.after, Region.binds .any e = true → listed.getD e.on false = true) → reaches ops f j i = false
  | 0, _, _, _, _ => rfl
  | f + 1, j, oj, hj, hall => by
    unfold reaches
    rw [hj]
    simp only [Array.any_eq_false', Bool.and_eq_true, Bool.or_eq_true, beq_iff_eq, not_and, not_or, Bool.not_eq_true]
    intro e he hb
    have hl := hall e he hb
    refine ⟨fun h => ?_, ?_⟩
    · rw [h, getD_true hi] at hl; cases hl
    · cases ho : ops[e.on]? with
      | none =>
        cases f with
        | zero => rfl
        | succ f => unfold reaches; rw [ho]
      | some o => exact not_reach hcl hi f e.on o ho (hcl e.on o ho hl)
theorem Closed.set {listed : Array Bool} (hcl : Closed ops listed) {j : Nat} (hj : j ∈ Region.ready .any ops listed) : Closed ops (listed.setIfInBounds j true) := by
  obtain ⟨_, oj, hoj, hall⟩ := mem_ready.1 hj
  have up : ∀ k, listed.getD k false = true → (listed.setIfInBounds j true).getD k false = true := fun k hk => by
    by_cases e : j = k
    · subst e
      rcases Nat.lt_or_ge j listed.size with h' | h'
      · simp [h']
      · simp [Array.getElem?_eq_none h'] at hk
    · rw [getD_set_ne false e]; exact hk
  intro k o hk hl e he hb
  by_cases ek : j = k
  · subst ek
    rw [hoj] at hk
    cases hk
    exact up _ (hall e he hb)
  · rw [getD_set_ne false ek] at hl
    exact up _ (hcl k o hk hl e he hb)
theorem Closed.start (n : Nat) : Closed ops (Array.replicate n false) := by
  intro k o hk hl
  rcases Nat.lt_or_ge k n with h' | h'
  · simp [h'] at hl
  · simp [h'] at hl

theorem wpAnyN_first {Y : World → Prop} {i : Nat} {oi : Oper} {v : Value} (hi : ops[i]? = some oi) (hsel : ∀ (j : Nat) (o : Oper) cs b, ops[j]? = some o → o.op ≠ .select cs b)
    (hQ : ∀ c a w, Q (.panic c) (a.put oi.dst v) w → Q (.panic c) a w) (hRi : ∀ w, R i w w) :
    ∀ (fuel : Nat) (listed : Array Bool) (a : Act) (w : World),
      Closed ops listed → (∀ j oj, ops[j]? = some oj → j ≠ i → listed.getD j true = false → (∀ e ∈ oj.after, Region.binds .any e = true → e.on ≠ i) → reaches ops ops.size j i = false → oi.apart ops oj = true ∧ ∀ w w', Y w → R j w w' → Y w') →
      i ∈ Region.ready .any ops listed → YieldsIf P ops Y oi v a → Y w →
      wpAnyN P ops Q R fuel (listed.setIfInBounds i true) (a.put oi.dst v) w → wpAnyN P ops Q R (fuel + 1) listed a w := by
  intro fuel
  induction fuel with
  | zero =>
    intro listed a w hcl hfree hr hy hS H
    refine ⟨fun h => (by rw [h] at hr; cases hr), fun j hj => ?_⟩
    by_cases hji : j = i
    · subst hji; exact hy.wpOp hi hS ⟨hRi w, H⟩
    · have := ready_mono hj hji
      rw [H.1] at this
      cases this
  | succ fuel ih =>
    intro listed a w hcl hfree hr hy hS H
    refine ⟨fun h => (by rw [h] at hr; cases hr), fun j hj => ?_⟩
    by_cases hji : j = i
    · subst hji; exact hy.wpOp hi hS ⟨hRi w, H⟩
    · have h1 := H.2 j (ready_mono hj hji)
      obtain ⟨hjun, oj, hoj, hall⟩ := mem_ready.1 hj
      have hnot : ∀ e ∈ oj.after, Region.binds .any e = true → e.on ≠ i := fun e he hb heq => by
        have h1 := hall e he hb
        have h0 := (mem_ready.1 hr).1
        rw [heq] at h1
        rcases Nat.lt_or_ge i listed.size with h' | h'
        · simp [h'] at h0 h1; rw [h0] at h1; cases h1
        · simp [Array.getElem?_eq_none h'] at h1
      obtain ⟨hap, hYj⟩ := hfree j oj hoj hji hjun hnot (not_reach hcl (mem_ready.1 hr).1 _ j oj hoj hall)
      have h2 := wpOp_putIf hoj hap (fun cs b => hsel i oi cs b hi) (fun cs b => hsel j oj cs b hoj) hQ hy h1
      have hfree' : ∀ k ok, ops[k]? = some ok → k ≠ i → (listed.setIfInBounds j true).getD k true = false →
          (∀ e ∈ ok.after, Region.binds .any e = true → e.on ≠ i) → reaches ops ops.size k i = false → oi.apart ops ok = true ∧ ∀ w w', Y w → R k w w' → Y w' := fun k ok hk hki hun hno hre => by
        refine hfree k ok hk hki ?_ hno hre
        by_cases hjk : j = k
        · subst hjk; exact hjun
        · rw [getD_set_ne true hjk] at hun; exact hun
      refine wpOp_mono (fun a' w' h3 => ?_) h2
      refine ⟨h3.2.1, ih (listed.setIfInBounds j true) a' w' (hcl.set hj) hfree' (ready_mono hr (Ne.symm hji)) h3.1 (hYj w w' hS h3.2.1) ?_⟩
      rw [Array.setIfInBounds_comm _ _ hji]
      exact h3.2.2
end

/-- 0: the operation's value hangs on no world; 1: it is held; 2: it hangs on the world at hand, or turns it. -/
def clsOf (held : List Nat) (ops : Array Oper) (i : Nat) : Nat :=
  match held.contains i with
  | true => 1
  | false => match ops[i]? with
    | none => 2
    | some o => match o.op with
      | .move _ | .assign _ | .pick .. | .build .. | .nilCheck _ | .binOp .. | .unOp .. | .convert .. | .makeFunc .. | .fieldAddr .. | .field .. | .indexAddr .. | .index .. | .slice .. | .extract .. | .makeInterface .. => 0
      | .call c => match c.callee with
        | .builtin .len | .builtin .cap | .builtin .min | .builtin .max => 0
        | _ => 2
      | _ => 2

def needs (held : List Nat) (ops : Array Oper) (j : Nat) : Bool :=
  match clsOf held ops j with
  | 2 => held.any fun i => !reaches ops ops.size j i
  | _ => false

/-- Operation i may be taken first here: whoever else may come up touches nothing of it, and, where it is held, keeps what is held. -/
def mayTake (held : List Nat) (ops : Array Oper) (listed : Array Bool) (i : Nat) : Bool :=
  (Region.ready .any ops listed).contains i && Region.free .any ops listed i

/-- A beginning of an order: what may be taken first, else the one that is ready; who is listed behind it. -/
def preOrder (held : List Nat) (ops : Array Oper) : List Nat → Array Bool → Option (Array Bool)
  | [], listed => some listed
  | i :: rest, listed => match (match clsOf held ops i with
     | 2 => Region.ready .any ops listed == [i]
     | _ => mayTake held ops listed i) with
    | true => preOrder held ops rest (listed.setIfInBounds i true)
    | false => none
/-- The order in which the operations are walked. -/
def goodOrder (held : List Nat) (ops : Array Oper) (l : List Nat) (listed : Array Bool) : Bool :=
  match preOrder held ops l listed with
  | some listed' => (Region.ready .any ops listed').isEmpty
  | none => false

def greedy (held : List Nat) (ops : Array Oper) : Nat → Array Bool → List Nat
  | 0, _ => []
  | fuel + 1, listed =>
    let r := Region.ready .any ops listed
    match r.find? (fun i => clsOf held ops i != 2) with
    | some i => i :: greedy held ops fuel (listed.setIfInBounds i true)
    | none => match r with
      | [] => []
      | i :: _ => i :: greedy held ops fuel (listed.setIfInBounds i true)

/-- The walk through a region in the order 'l'. -/
def WD (P : Program) (n : Nat) (ops : Array Oper) (held : List Nat) (S : World → Prop) (Q : Env → World → Prop) : List Nat → Env → World → Prop
  | [], r, w => ∃ r1, Env.sub r1 r ∧ Q r1 w
  | i :: rest, r0, w => ∃ r, Env.sub r r0 ∧ ∃ o, ops[i]? = some o ∧ dstOk n o = true ∧ ∃ g, guardE ops o r = some g ∧
      (g = false → (clsOf held ops i = 2 → needs held ops i = true → S w) ∧ WD P n ops held S Q rest (r.put o.dst undef) w) ∧
      (g = true → match clsOf held ops i with
        | 0 => ∃ v, (∀ ev : Operand → Value, (∀ x u, Env.ev r x = some u → ev x = u) → ∀ w', (execOp ev o).run P w' = .ok (.value v) w') ∧ WD P n ops held S Q rest (r.put o.dst v) w
        | 1 => ∃ v, S w ∧ (∀ ev : Operand → Value, (∀ x u, Env.ev r x = some u → ev x = u) → ∀ w', S w' → (execOp ev o).run P w' = .ok (.value v) w') ∧ WD P n ops held S Q rest (r.put o.dst v) w
        | _ => OpW P o r w fun v w' => (needs held ops i = true → S w') ∧ WD P n ops held S Q rest (r.put o.dst v) w')
theorem WD.less {P : Program} {n : Nat} {ops : Array Oper} {held : List Nat} {S : World → Prop} {Q : Env → World → Prop} : ∀ {l : List Nat} {r r' : Env} {w : World}, WD P n ops held S Q l r' w → Env.sub r' r → WD P n ops held S Q l r w
  | [], r, r', w, ⟨r1, h1, h2⟩, hr => ⟨r1, h1.trans hr, h2⟩
  | i :: l, r, r', w, ⟨r1, h1, h2⟩, hr => ⟨r1, h1.trans hr, h2⟩

theorem clsOf_cases (held : List Nat) (ops : Array Oper) (i : Nat) : clsOf held ops i = 0 ∨ clsOf held ops i = 1 ∨ clsOf held ops i = 2 := by
  unfold clsOf
  split
  · exact .inr (.inl rfl)
  · split
    · exact .inr (.inr rfl)
    · split <;> first | exact .inl rfl | exact .inr (.inr rfl) | (split <;> first | exact .inl rfl | exact .inr (.inr rfl))

theorem needs_low {held : List Nat} {ops : Array Oper} {i : Nat} (h : clsOf held ops i ≠ 2) : needs held ops i = false := by
  unfold needs
  split
  · contradiction
  · rfl

section
variable {P : Program} {n : Nat} {ops : Array Oper} {held : List Nat} {S : World → Prop} {Q : Exit → Env → World → Prop}

def relOf (held : List Nat) (ops : Array Oper) (S : World → Prop) (i : Nat) (w w' : World) : Prop := (clsOf held ops i ≠ 2 → w' = w) ∧ (needs held ops i = true → S w')

theorem postQ_panic {Q : Exit → Env → World → Prop} (hQ : ∀ c r w, ¬ Q (.panic c) r w) : ∀ c a (w : World), ¬ postQ n Q (.panic c) a w := fun c a w ⟨r, _, h⟩ => hQ c r w h

theorem needs_spec {i j : Nat} (hc : clsOf held ops i = 1) (hno : reaches ops ops.size j i = false) (hcj : clsOf held ops j = 2) : needs held ops j = true := by
  have hi : i ∈ held := by
    unfold clsOf at hc
    split at hc
    · rename_i h; simpa using h
    · exfalso; revert hc; split
      · simp
      · split <;> first | (simp; done) | (split <;> simp)
  unfold needs
  rw [hcj]
  exact List.any_eq_true.2 ⟨i, hi, by rw [hno]; rfl⟩

theorem WD.anyK (hQ : ∀ c r w, ¬ Q (.panic c) r w) (hs : Region.noSelect ops = true) {k : Nat} {listed' : Array Bool} {Q' : Env → World → Prop} (hK : ∀ r w a, Closed ops listed' → Q' r w → Agree n a r → wpAnyN P ops (postQ n Q) (relOf held ops S) k listed' a w) :
    ∀ (l : List Nat) (listed : Array Bool) (r : Env) (w : World) (a : Act), Closed ops listed → preOrder held ops l listed = some listed' → WD P n ops held S Q' l r w → Agree n a r → wpAnyN P ops (postQ n Q) (relOf held ops S) (l.length + k) listed a w
  | [], listed, r, w, a, hcl, hg, h, ha => by
    simp only [preOrder, Option.some.injEq] at hg
    subst hg
    obtain ⟨r1, hs1, h⟩ := h
    rw [List.length_nil, Nat.zero_add]
    exact hK r1 w a hcl h (ha.less hs1)
  | i :: rest, listed, r0, w, a, hcl, hg, ⟨r, hsub, o, ho, hd, g, hgd, h0, h1⟩, ha0 => by
    have ha := ha0.less hsub
    have hfuel : (i :: rest).length + k = (rest.length + k) + 1 := by simp; omega
    rw [hfuel]
    simp only [preOrder] at hg
    split at hg
    rotate_left
    · cases hg
    rename_i hg1
    have hready : i ∈ Region.ready .any ops listed := by
      revert hg1
      rcases clsOf_cases held ops i with h | h | h <;> simp only [h] <;> intro hg1
      · simp only [mayTake, Bool.and_eq_true] at hg1; simpa using hg1.1
      · simp only [mayTake, Bool.and_eq_true] at hg1; simpa using hg1.1
      · have : Region.ready .any ops listed = [i] := by simpa using hg1
        rw [this]; simp
    have hcl' := hcl.set hready
    have hwant := guardE_wanted hgd ha
    have hQp : ∀ v c a w, postQ n Q (.panic c) (Act.put a o.dst v) w → postQ n Q (.panic c) a w := fun v c a w h => (postQ_panic hQ c _ w h).elim
    have low : clsOf held ops i ≠ 2 → ∀ (Y : World → Prop) (v : Value), (∀ j oj, ops[j]? = some oj → reaches ops ops.size j i = false → ∀ w w', Y w → relOf held ops S j w w' → Y w') →
        YieldsIf P ops Y o v a → Y w → WD P n ops held S Q' rest (r.put o.dst v) w → wpAnyN P ops (postQ n Q) (relOf held ops S) (rest.length + k + 1) listed a w := by
      intro hc Y v hY hy hYw hrest
      have hmay : mayTake held ops listed i = true := by
        revert hg1; rcases clsOf_cases held ops i with h | h | h <;> simp [h] at hc ⊢
      simp only [mayTake, Bool.and_eq_true] at hmay
      refine wpAnyN_first (Y := Y) ho (Region.noSelect_spec hs) (hQp v) (fun w => ⟨fun _ => rfl, fun h => by rw [needs_low hc] at h; cases h⟩) (rest.length + k) listed a w hcl
        (fun j oj hj hne hun hno hre => ⟨Region.free_spec ho hmay.2 j oj hj hne hun hno, hY j oj hj hre⟩)
        (by simpa using hmay.1) hy hYw ?_
      exact WD.anyK hQ hs hK rest _ _ _ _ hcl' hg hrest (ha.put _ _ (dstOk_spec hd))
    have high : clsOf held ops i = 2 → wpOp P ops (postQ n Q) i (fun a' w' => relOf held ops S i w w' ∧ wpAnyN P ops (postQ n Q) (relOf held ops S) (rest.length + k) (listed.setIfInBounds i true) a' w') a w → wpAnyN P ops (postQ n Q) (relOf held ops S) (rest.length + k + 1) listed a w := by
      intro hc h
      rw [hc] at hg1
      have hr : Region.ready .any ops listed = [i] := by simpa using hg1
      refine ⟨fun h0 => (by rw [hr] at h0; cases h0), fun j hj => ?_⟩
      rw [hr] at hj
      simp only [List.mem_singleton] at hj
      subst hj
      exact h
    cases g with
    | false =>
      obtain ⟨hn, hrest⟩ := h0 rfl
      rcases clsOf_cases held ops i with hc | hc | hc
      · exact low (by rw [hc]; decide) (fun _ => True) undef (fun _ _ _ _ _ _ _ _ => trivial) (.inr ⟨hwant, rfl⟩) trivial hrest
      · exact low (by rw [hc]; decide) (fun _ => True) undef (fun _ _ _ _ _ _ _ _ => trivial) (.inr ⟨hwant, rfl⟩) trivial hrest
      · refine high hc ?_
        unfold wpOp
        simp only [ho, hwant, Bool.false_eq_true, if_false]
        exact ⟨⟨fun h => absurd hc h, hn hc⟩, WD.anyK hQ hs hK rest _ _ _ _ hcl' hg hrest (ha.put _ _ (dstOk_spec hd))⟩
    | true =>
      have h1' := h1 rfl
      rcases clsOf_cases held ops i with hc | hc | hc
      · rw [hc] at h1'
        obtain ⟨v, hv, hrest⟩ := h1'
        exact low (by rw [hc]; decide) (fun _ => True) v (fun _ _ _ _ _ _ _ _ => trivial) (.inl ⟨hwant, fun w' _ => hv a.eval (fun x u hx => ha.eval hx) w'⟩) trivial hrest
      · rw [hc] at h1'
        obtain ⟨v, hSw, hv, hrest⟩ := h1'
        refine low (by rw [hc]; decide) S v ?_ (.inl ⟨hwant, fun w' hw' => hv a.eval (fun x u hx => ha.eval hx) w' hw'⟩) hSw hrest
        intro j oj hj hno w w' hw hR
        rcases clsOf_cases held ops j with hcj | hcj | hcj
        · exact (hR.1 (by rw [hcj]; decide)) ▸ hw
        · exact (hR.1 (by rw [hcj]; decide)) ▸ hw
        · exact hR.2 (needs_spec hc hno hcj)
      · rw [hc] at h1'
        refine high hc ?_
        unfold wpOp
        simp only [ho, hwant, if_true]
        exact .inl (OpW.wp h1' ha fun v w' hvw => ⟨⟨fun h => absurd hc h, hvw.1⟩, WD.anyK hQ hs hK rest _ _ _ _ hcl' hg hvw.2 (ha.put _ _ (dstOk_spec hd))⟩)

theorem wpAnyN_more {R : Nat → World → World → Prop} {Q : Exit → Act → World → Prop} : ∀ (k m : Nat) (listed : Array Bool) (a : Act) (w : World), k ≤ m → wpAnyN P ops Q R k listed a w → wpAnyN P ops Q R m listed a w
  | 0, 0, listed, a, w, _, h => h
  | 0, m + 1, listed, a, w, _, h => ⟨fun _ => h.2, by rw [h.1]; simp⟩
  | k + 1, m + 1, listed, a, w, hkm, h => ⟨h.1, fun i hi => wpOp_mono (fun a' w' h' => ⟨h'.1, wpAnyN_more k m _ _ _ (by omega) h'.2⟩) (h.2 i hi)⟩

/-- A region whose order is drawn: 'held' are the numbers of the reads that are held by S. -/
theorem W.regionD {r : Env} {w : World} {id : Nat} {l : List Oper} (held : List Nat) (S : World → Prop) (order : List Nat)
    (hm : P.follows .mixedOrders = true) (hg : (Region.noSelect l.toArray && goodOrder held l.toArray order (Array.replicate l.length false) && decide (order.length ≤ l.length)) = true) (hQ : ∀ c r w, ¬ Q (.panic c) r w)
    (h : WD P n l.toArray held S (Q .normal) order r w.drew) : W P n (.region id l.toArray true) Q r w := by
  simp only [Bool.and_eq_true, decide_eq_true_eq] at hg
  intro a ha
  have hgo := hg.1.2
  unfold goodOrder at hgo
  split at hgo
  · rename_i listed' hp
    have hr : Region.ready .any l.toArray listed' = [] := by simpa using hgo
    refine wp_region_any hm (wpAny_of_N _ _ _ _ (wpAnyN_more (order.length + 0) _ _ _ _ (by simpa using hg.2) (WD.anyK (held := held) (S := S) hQ hg.1.1 (k := 0) (fun r w a _ hq ha => ⟨hr, r, ha, hq⟩) order _ r _ a (Closed.start _) ?_ h ha)))
    simpa using hp
  · cases hgo
end
end Go.Proofs.Ytpenbdpgpamcbaa.Gw
