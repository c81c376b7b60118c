/- The statement 'for .. := range f', in the fenced logic: with what follows it, the mark that it leaves among the deferred calls laid by; a function that holds such statements. Conditions: an iterator's contract (SeqStopsK). -/
import Derived.Test.YtnghaidnbicjjaaGwTurnD
set_option linter.unusedVariables false
set_option linter.unusedSimpArgs false
namespace Go.Proofs.Ytnghaidnbicjjaa.Gw
open Go
open Go.RowKit (Below)

/-- A post in the kit's own words, of all activations that agree. -/
def liftQ (x : Cx) (n : Nat) (K : Exit → Act → World → Prop) : Exit → Env → World → Prop := fun e r w => ∀ a, AgI x n a r → K e a w
theorem Wi.out {x : Cx} {P : Program} {n : Nat} {c : Code} {K : Exit → Act → World → Prop} {r : Env} {w : World} (h : Wi x P n c (liftQ x n K) r w) {a : Act} (ha : AgI x n a r) : c.wpIn x.F 0 P K a w :=
  wpIn_mono (h a ha) fun e a w ⟨r, h1, h2⟩ => h2 a h1
/-- Code whose post is told in the kit's own words. -/
def Wj (x : Cx) (P : Program) (n : Nat) (c : Code) (K : Exit → Act → World → Prop) (r : Env) (w : World) : Prop := ∀ a, AgI x n a r → c.wpIn x.F 0 P K a w
theorem Wj.of {x : Cx} {P : Program} {n : Nat} {c : Code} {K : Exit → Act → World → Prop} {r : Env} {w : World} (h : Wi x P n c (liftQ x n K) r w) : Wj x P n c K r w := fun a ha => h.out ha
theorem Wj.less {x : Cx} {P : Program} {n : Nat} {c : Code} {K : Exit → Act → World → Prop} {r r' : Env} {w : World} (h : Wj x P n c K r' w) (hr : Env.sub r' r) : Wj x P n c K r w := fun a ha => h a (ha.less hr)
theorem Wj.seq {x : Cx} {P : Program} {n : Nat} {c d : Code} {K : Exit → Act → World → Prop} {r : Env} {w : World} (h : Wi x P n c (thenE (fun r w => Wj x P n d K r w) (liftQ x n K)) r w) : Wj x P n (.seq c d) K r w :=
  fun a ha => wpIn_seq (wpIn_mono (h a ha) fun e a' w' ⟨r', h1, h2⟩ => by
    cases e <;> first | exact h2 a' h1 | exact h2 _ h1)
/-- The same, with code behind it. -/
def Wk (x : Cx) (P : Program) (n : Nat) (b c : Code) (K : Exit → Act → World → Prop) (r : Env) (w : World) : Prop := ∀ a, AgI x n a r → b.wpIn x.F 0 P (Exit.then (c.wpIn x.F 0 P K) K) a w
theorem Wj.seq2 {x : Cx} {P : Program} {n : Nat} {c d e : Code} {K : Exit → Act → World → Prop} {r : Env} {w : World} (h : Wi x P n c (thenE (fun r w => Wk x P n d e K r w) (liftQ x n K)) r w) : Wj x P n (.seq (.seq c d) e) K r w :=
  fun a ha => wpIn_seq (wpIn_seq (wpIn_mono (h a ha) fun ex a' w' ⟨r', h1, h2⟩ => by
    cases ex <;> first | exact h2 a' h1 | exact h2 _ h1))
theorem anyN {x : Cx} (hro : x.ro = none) {P : Program} {c : Code} {K : Exit → Act → World → Prop} {a : Act} {w : World} {n m : Nat} (h : c.wpIn x.F n P K a w) : c.wpIn Fence.wide m P K a w := by
  have e : x.F = Fence.wide := by unfold Cx.F; rw [hro]; rfl
  rw [e] at h
  exact (wpIn_wide (n := m)).2 ((wpIn_wide (n := n)).1 h)
/-- The loop's mark. -/
abbrev markD (D : Nat) : Deferred := { target := .collected D, args := #[] }
/-- The slots after yield's arguments have been laid. -/
def Env.args (r : Env) : List Nat → List Value → Env
  | p :: ps, v :: vs => Env.args ((p, v) :: r) ps vs
  | _, _ => r
theorem agI_args {x : Cx} {n : Nat} : ∀ (ps : List Nat) (vs : List Value) (r : Env) (t : Array Value), (∀ p ∈ ps, p < n) → t.size = n → (∀ k v, Env.get r k = some v → t.getD k undef = v) → x.ds = [] →
    AgI x n { tmps := (ps.zip vs).foldl (fun t (p, v) => t.setIfInBounds p v) t, defers := [] } (r.args ps vs)
  | [], _, r, t, _, h1, h2, h3 => ⟨h3.symm, h1, h2⟩
  | p :: ps, [], r, t, _, h1, h2, h3 => ⟨h3.symm, h1, h2⟩
  | p :: ps, v :: vs, r, t, hp, h1, h2, h3 => by
    refine agI_args ps vs ((p, v) :: r) (t.setIfInBounds p v) (fun q hq => hp q (by simp [hq])) (by simpa using h1) (fun k u hk => ?_) h3
    rw [Env.get_cons] at hk
    have hpn := hp p (by simp)
    by_cases e : p = k
    · subst e
      simp at hk
      subst hk
      simp [h1, hpn]
    · rw [if_neg e] at hk
      have := h2 k u hk
      simp only [Array.getD_eq_getD_getElem?, Array.getElem?_setIfInBounds_ne e] at *
      exact this

theorem Wk.range {x : Cx} {P : Program} {n : Nat} {r : Env} {w : World} {K : Exit → Act → World → Prop} (hro : x.ro = none) {α : Type} {id : Nat} {g : Operand} {ps : Array Tmp} {assign body rest : Code}
    {gf : Nat} {lb : Array Value} (hg : Env.ev r g = some (.func (.func gf) #[] lb)) (eg : ∀ args w, (callFunc gf args).run P w = .ok (.enter gf args) w)
    {encs : α → Array Value} {Kp : World → World → Prop} {S Sp : List α → Prop} {N : Nat} {w0 : World} (hseq : SeqStopsK Fence.wide 1 P gf lb encs Kp S Sp N w0)
    (hKt : ∀ {A B C : World}, Kp A B → Kp B C → Kp A C) (hKb : ∀ (W : World) (l : Nat) (o o' : Obj), w.heap.size ≤ l → W.heap[l]? = some o → o.isCells = false → o.isWalk = false → Kp W (W.putObj l o')) (hKr : ∀ W, Kp W W) (hb0 : Below w0.heap.size w0 w) (hps : ∀ y, (encs y).size = ps.size) (hpn : ∀ p ∈ ps.toList, p < n)
    (I : List α → World → Prop) (Ix : Code → List α → World → Prop) (hI : OwnFrom w.heap.size I) (hIx : ∀ c, OwnFrom w.heap.size (Ix c)) (h0 : I [] w) (enc : α → Env)
    (hassign : ∀ (l : Nat) (e : α) (W : World), Wi { ro := some l } P n assign (thenE (fun r' W' => W' = W ∧ Env.sub (enc e) r') (fun _ _ _ => False)) (r.args ps.toList (encs e).toList) W)
    (hbody : ∀ (l : Nat) (pre : List α) (e : α) (W : World), w.heap.size ≤ l → I pre W → pre.length < N → Wi { ro := some l } P n body (fun ex _ W' => match ex with
      | .normal => KeepsFrom w.heap.size W W' ∧ Kp W W' ∧ I (pre ++ [e]) W'
      | .ret => KeepsFrom w.heap.size W W' ∧ Ix .ret (pre ++ [e]) W'
      | .exit k => KeepsFrom w.heap.size W W' ∧ Ix (.exit k) (pre ++ [e]) W'
      | _ => False) (enc e) W)
    (hdone : ∀ (D : Nat) (xs : List α) (W : World), w.heap.size ≤ D → S xs → I xs W → W.heap[D]? = some (.deferred (some [])) → Wj { x with ds := markD D :: x.ds } P n rest K r W)
    (hwhich : ∀ c pre W, Ix c pre W → c = .ret ∨ c = .exit id)
    (hret : ∀ (D : Nat) (pre : List α) (W : World), w.heap.size ≤ D → Sp pre → Ix .ret pre W → W.heap[D]? = some (.deferred (some [])) → liftQ { x with ds := markD D :: x.ds } n K .ret r W)
    (hbrk : ∀ (D : Nat) (pre : List α) (W : World), w.heap.size ≤ D → Sp pre → Ix (.exit id) pre W → W.heap[D]? = some (.deferred (some [])) → Wj { x with ds := markD D :: x.ds } P n rest K r W) :
    Wk x P n (.block id (.rangeFunc g ps assign body)) rest K r w := by
  have hF : x.F = Fence.wide := by unfold Cx.F; rw [hro]; rfl
  have hR : ∀ l, Cx.F { ro := some l } = Fence.wide.inRound l := fun l => rfl
  intro a ha
  suffices h : (Code.block id (.rangeFunc g ps assign body)).wpIn Fence.wide 2 P (Exit.then (rest.wpIn x.F 0 P K) K) a w by
    have h2 := (wpIn_wide (n := 0)).2 ((wpIn_wide (n := 2)).1 h)
    rw [← hF] at h2
    exact h2
  have ag : ∀ D, AgI { x with ds := markD D :: x.ds } n { a with defers := markD D :: a.defers } r := fun D => ⟨by show markD D :: a.defers = _; rw [ha.defers], ha.size, ha.get⟩
  refine wpIn_block ?_
  refine wpIn_rangeFunc_ownH (n := 2) rfl (by omega) (ha.eval hg) trivial eg hseq hKt hKb hb0 hps I Ix hI hIx h0 (fun e a' _ => ∃ l, AgI { ro := some l } n a' (enc e)) (fun e a' s W W' row h _ _ => h) ?_ ?_ ?_ ?_
  · intro l pre e W K' hi hk
    have hz : (ps.zip (encs e)).foldl (fun t (p, v) => t.setIfInBounds p v) a.tmps = (ps.toList.zip (encs e).toList).foldl (fun t (p, v) => t.setIfInBounds p v) a.tmps := by
      rw [← Array.foldl_toList, Array.toList_zip]
    rw [hz]
    refine wpIn_mono (hassign l e W _ (agI_args (x := { ro := some l }) _ _ _ _ hpn ha.size ha.get rfl)) ?_
    rintro ex a' W' ⟨r', h1, h2⟩
    cases ex <;> simp only [thenE] at h2
    · obtain ⟨rfl, h3⟩ := h2
      exact hk a' W' (KeepsFrom.refl _ _) (hKr _) hi ⟨l, h1.less h3⟩
  · rintro l pre e a' W hl _ hi ⟨l', h1⟩ hlen
    have h1 : AgI { ro := some l } n a' (enc e) := ⟨h1.defers, h1.size, h1.get⟩
    refine wpIn_mono (hbody l pre e W hl hi hlen a' h1) ?_
    rintro ex a2 W' ⟨r', _, h2⟩
    cases ex <;> first | exact h2 | exact h2.elim
  · intro D xs W hD hS hi hd
    exact (hdone D xs W hD hS hi hd) _ (ag D)
  · intro D c pre W hD hS hix hd
    rcases hwhich c pre W hix with rfl | rfl
    · refine wpIn_ret ?_
      exact hret D pre W hD hS hix hd _ (ag D)
    · refine wpIn_exit ?_
      show Exit.inBlock id _ (.exit id) _ _
      simp only [Exit.inBlock, if_true]
      exact (hbrk D pre W hD hS hix hd) _ (ag D)
end Go.Proofs.Ytnghaidnbicjjaa.Gw
