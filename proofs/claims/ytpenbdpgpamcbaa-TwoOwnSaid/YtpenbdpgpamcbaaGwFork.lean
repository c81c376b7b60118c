/- A region whose order is drawn, and where two operations that turn the world may come in either order: both are walked. Conditions: as for regionD. -/
import Derived.Test.YtpenbdpgpamcbaaGwBridge
set_option linter.unusedVariables false
set_option linter.unusedSimpArgs false
namespace Go.Proofs.Ytpenbdpgpamcbaa.Gw
open Go

section
variable {P : Program} {n : Nat} {ops : Array Oper} {held : List Nat} {S : World → Prop} {Q : Exit → Env → World → Prop}

/-- One operation that turns the world, of those that may come next. -/
theorem WD.step1 {k : Nat} {i : Nat} {listed : Array Bool} {Q' : Env → World → Prop} (hc : clsOf held ops i = 2) (hK : ∀ r w a, Q' r w → Agree n a r → wpAnyN P ops (postQ n Q) (relOf held ops S) k (listed.setIfInBounds i true) a w)
    {r0 : Env} {w : World} {a : Act} (h : WD P n ops held S Q' [i] r0 w) (ha0 : Agree n a r0) : wpOp P ops (postQ n Q) i (fun a' w' => relOf held ops S i w w' ∧ wpAnyN P ops (postQ n Q) (relOf held ops S) k (listed.setIfInBounds i true) a' w') a w := by
  obtain ⟨r, hsub, o, ho, hd, g, hgd, h0, h1⟩ := h
  have ha := ha0.less hsub
  have hwant := guardE_wanted hgd ha
  cases g with
  | false =>
    obtain ⟨hn, r1, hs1, hrest⟩ := h0 rfl
    unfold wpOp
    simp only [ho, hwant, Bool.false_eq_true, if_false]
    exact ⟨⟨fun h => absurd hc h, hn hc⟩, hK _ _ _ hrest ((ha.put _ _ (dstOk_spec hd)).less hs1)⟩
  | true =>
    have h1' := h1 rfl
    rw [hc] at h1'
    unfold wpOp
    simp only [ho, hwant, if_true]
    exact .inl (OpW.wp h1' ha fun v w' ⟨hs, r1, hs1, hrest⟩ => ⟨⟨fun h => absurd hc h, hs⟩, hK _ _ _ hrest ((ha.put _ _ (dstOk_spec hd)).less hs1)⟩)

/-- Orders that part in two. -/
inductive FT where
  | fin (l : List Nat)
  | fork (l : List Nat) (i : Nat) (t : FT) (j : Nat) (u : FT)
def FT.len : FT → Nat
  | .fin l => l.length
  | .fork l _ t _ _ => l.length + (t.len + 1)
def goodF (held : List Nat) (ops : Array Oper) : FT → Array Bool → Bool
  | .fin l, listed => match preOrder held ops l listed with
    | some listed' => (Region.ready .any ops listed').isEmpty
    | none => false
  | .fork l i t j u, listed => match preOrder held ops l listed with
    | some listed' => (Region.ready .any ops listed' == [i, j]) && Nat.beq (clsOf held ops i) 2 && Nat.beq (clsOf held ops j) 2 && Nat.beq t.len u.len && goodF held ops t (listed'.setIfInBounds i true) && goodF held ops u (listed'.setIfInBounds j true)
    | none => false
def WF (P : Program) (n : Nat) (ops : Array Oper) (held : List Nat) (S : World → Prop) (Q : Env → World → Prop) : FT → Env → World → Prop
  | .fin l, r, w => WD P n ops held S Q l r w
  | .fork l i t j u, r, w => WD P n ops held S (fun r w => WD P n ops held S (fun r w => WF P n ops held S Q t r w) [i] r w ∧ WD P n ops held S (fun r w => WF P n ops held S Q u r w) [j] r w) l r w

theorem WF.any (hQ : ∀ c r w, ¬ Q (.panic c) r w) (hs : Region.noSelect ops = true) : ∀ (t : FT) (listed : Array Bool) (r : Env) (w : World) (a : Act),
    Closed ops listed → goodF held ops t listed = true → WF P n ops held S (Q .normal) t r w → Agree n a r → wpAnyN P ops (postQ n Q) (relOf held ops S) t.len listed a w
  | .fin l, listed, r, w, a, hcl, hg, h, ha => by
    simp only [goodF] at hg
    split at hg
    · rename_i listed' hp
      refine WD.anyK hQ hs (k := 0) (fun r w a _ hq ha => ?_) l listed r w a hcl hp h ha
      have hr : Region.ready .any ops listed' = [] := by simpa using hg
      exact ⟨hr, r, ha, hq⟩
    · cases hg
  | .fork l i t j u, listed, r, w, a, hcl, hg, h, ha => by
    simp only [goodF] at hg
    split at hg
    · rename_i listed' hp
      simp only [Bool.and_eq_true] at hg
      obtain ⟨⟨⟨⟨⟨hr, hi⟩, hj⟩, hl⟩, ht⟩, hu⟩ := hg
      have hr : Region.ready .any ops listed' = [i, j] := by simpa using hr
      have hi := Nat.eq_of_beq_eq_true hi
      have hj := Nat.eq_of_beq_eq_true hj
      have hl := Nat.eq_of_beq_eq_true hl
      refine WD.anyK hQ hs (k := t.len + 1) (fun r w a hcl' hq ha => ?_) l listed r w a hcl hp h ha
      refine ⟨fun h0 => (by rw [hr] at h0; cases h0), fun m hm => ?_⟩
      rw [hr] at hm
      simp only [List.mem_cons, List.not_mem_nil, or_false] at hm
      rcases hm with rfl | rfl
      · exact WD.step1 hi (fun r w a h ha => WF.any hQ hs t _ r w a (hcl'.set (by rw [hr]; simp)) ht h ha) hq.1 ha
      · refine WD.step1 hj (fun r w a h ha => ?_) hq.2 ha
        rw [hl]
        exact WF.any hQ hs u _ r w a (hcl'.set (by rw [hr]; simp)) hu h ha
    · cases hg

theorem WF.fork {Q : Env → World → Prop} {l : List Nat} {i j : Nat} {t u : FT} {r : Env} {w : World} (h : WD P n ops held S (fun r w => WD P n ops held S (fun r w => WF P n ops held S Q t r w) [i] r w ∧ WD P n ops held S (fun r w => WF P n ops held S Q u r w) [j] r w) l r w) : WF P n ops held S Q (.fork l i t j u) r w := h
theorem WF.fin {Q : Env → World → Prop} {l : List Nat} {r : Env} {w : World} (h : WD P n ops held S Q l r w) : WF P n ops held S Q (.fin l) r w := h
/-- A region whose order is drawn and parts in two. -/
theorem W.regionF {r : Env} {w : World} {id : Nat} {l : List Oper} (held : List Nat) (S : World → Prop) (t : FT)
    (hm : P.follows .mixedOrders = true) (hg : (Region.noSelect l.toArray && goodF held l.toArray t (Array.replicate l.length false) && decide (t.len ≤ l.length)) = true) (hQ : ∀ c r w, ¬ Q (.panic c) r w)
    (h : WF P n l.toArray held S (Q .normal) t r w.drew) : W P n (.region id l.toArray true) Q r w := by
  simp only [Bool.and_eq_true, decide_eq_true_eq] at hg
  intro a ha
  refine wp_region_any hm (wpAny_of_N _ _ _ _ (wpAnyN_more t.len _ _ _ _ (by simpa using hg.2) (WF.any (held := held) (S := S) hQ hg.1.1 t _ r _ a (Closed.start _) ?_ h ha)))
  simpa using hg.1.2
end

section
variable {P : Program} {n : Nat} {ops : Array Oper} {held : List Nat} {S : World → Prop}
theorem WD.mono {Q Q' : Env → World → Prop} (hq : ∀ r w, Q r w → Q' r w) : ∀ {l : List Nat} {r : Env} {w : World}, WD P n ops held S Q l r w → WD P n ops held S Q' l r w
  | [], r, w, ⟨r1, h1, h2⟩ => ⟨r1, h1, hq _ _ h2⟩
  | i :: l, r, w, ⟨r1, hs, o, ho, hd, g, hg, h0, h1⟩ => by
    refine ⟨r1, hs, o, ho, hd, g, hg, fun h => ⟨(h0 h).1, WD.mono hq (h0 h).2⟩, fun h => ?_⟩
    have h2 := h1 h
    rcases clsOf_cases held ops i with hc | hc | hc
    · rw [hc] at h2 ⊢
      obtain ⟨v, h3, h4⟩ := h2
      exact ⟨v, h3, WD.mono hq h4⟩
    · rw [hc] at h2 ⊢
      obtain ⟨v, h3, h4, h5⟩ := h2
      exact ⟨v, h3, h4, WD.mono hq h5⟩
    · rw [hc] at h2 ⊢
      exact OpW.mono h2 fun v w' h3 => ⟨h3.1, WD.mono hq h3.2⟩
theorem WD.app {Q : Env → World → Prop} {l2 : List Nat} : ∀ {l : List Nat} {r : Env} {w : World}, WD P n ops held S (fun r w => WD P n ops held S Q l2 r w) l r w → WD P n ops held S Q (l ++ l2) r w
  | [], r, w, ⟨r1, h1, h2⟩ => h2.less h1
  | i :: l, r, w, ⟨r1, hs, o, ho, hd, g, hg, h0, h1⟩ => by
    refine ⟨r1, hs, o, ho, hd, g, hg, fun h => ⟨(h0 h).1, WD.app (h0 h).2⟩, fun h => ?_⟩
    have h2 := h1 h
    rcases clsOf_cases held ops i with hc | hc | hc
    · rw [hc] at h2 ⊢
      obtain ⟨v, h3, h4⟩ := h2
      exact ⟨v, h3, WD.app h4⟩
    · rw [hc] at h2 ⊢
      obtain ⟨v, h3, h4, h5⟩ := h2
      exact ⟨v, h3, h4, WD.app h5⟩
    · rw [hc] at h2 ⊢
      exact OpW.mono h2 fun v w' h3 => ⟨h3.1, WD.app h3.2⟩
/-- Two that come one behind the other, and a third that may come anywhere: told by what is known behind all three. -/
theorem WF.chain {Q : Env → World → Prop} (Mid : Env → World → Prop) {l rest : List Nat} {i j k : Nat} {r : Env} {w : World} (hrest : ∀ r w, Mid r w → WD P n ops held S Q rest r w)
    (h : WD P n ops held S (fun r w => WD P n ops held S (fun r w => WD P n ops held S Mid [j, k] r w ∧ WD P n ops held S Mid [k, j] r w) [i] r w ∧ WD P n ops held S Mid [k, i, j] r w) l r w) :
    WF P n ops held S Q (.fork l i (.fork [] j (.fin (k :: rest)) k (.fin (j :: rest))) k (.fin (i :: j :: rest))) r w := by
  refine WF.fork (WD.mono (fun r w hh => ?_) h)
  obtain ⟨h1, h3⟩ := hh
  have up : ∀ {l : List Nat} {r : Env} {w : World}, WD P n ops held S Mid l r w → WD P n ops held S (fun r w => WD P n ops held S Q rest r w) l r w := fun h => WD.mono hrest h
  have spl : ∀ {Q' : Env → World → Prop} {x : Nat} {l : List Nat} {r : Env} {w : World}, WD P n ops held S Q' (x :: l) r w → WD P n ops held S (fun r w => WD P n ops held S Q' l r w) [x] r w := fun {Q' x l r w} ⟨r1, hs, o, ho, hd, g, hg, h0, h1⟩ => by
    refine ⟨r1, hs, o, ho, hd, g, hg, fun h => ⟨(h0 h).1, _, Env.sub.refl _, (h0 h).2⟩, fun h => ?_⟩
    have h2 := h1 h
    rcases clsOf_cases held ops x with hc | hc | hc
    · rw [hc] at h2 ⊢
      obtain ⟨v, h3, h4⟩ := h2
      exact ⟨v, h3, _, Env.sub.refl _, h4⟩
    · rw [hc] at h2 ⊢
      obtain ⟨v, h3, h4, h5⟩ := h2
      exact ⟨v, h3, h4, _, Env.sub.refl _, h5⟩
    · rw [hc] at h2 ⊢
      exact OpW.mono h2 fun v w' h3 => ⟨h3.1, _, Env.sub.refl _, h3.2⟩
  refine ⟨WD.mono (fun r w h => WF.fork (WD.nil ⟨?_, ?_⟩)) h1, ?_⟩
  · exact WD.mono (fun r w h => WF.fin (WD.app (l := [k]) h)) (spl (up h.1))
  · exact WD.mono (fun r w h => WF.fin (WD.app (l := [j]) h)) (spl (up h.2))
  · exact WD.mono (fun r w h => WF.fin (WD.app (l := [i, j]) h)) (spl (up h3))
end

/-! ### One cell that is known -/
def cellA (a : Addr) (v : Value) : Asn where
  p w S := (∀ k, S k ↔ k = a.block) ∧ w.cell? a = some v
  loc := fun w w' S ⟨h1, h2⟩ hw => ⟨h1, by
    have := hw a.block ((h1 _).2 rfl)
    unfold World.cell? at h2 ⊢
    rw [this]; exact h2⟩
  dom := fun w S ⟨h1, h2⟩ k hk => by
    have := (h1 k).1 hk
    subst this
    obtain ⟨_, cur, e, fr, h, _⟩ := cell_in h2
    exact (Array.getElem?_eq_some_iff.1 h).1
theorem cellA_of {w : World} {a : Addr} {v : Value} (h : w.cell? a = some v) : Holds w (cellA a v) := ⟨fun k => k = a.block, fun _ => Iff.rfl, h⟩
theorem CellsAt.one {w : World} {b o : Nat} {cs : List Value} (h : CellsAt w ⟨b, o, none⟩ cs) (j : Nat) {v : Value} (hv : cs[j]? = some v) : Holds w (cellA ⟨b, o + j, none⟩ v) := cellA_of (by have := h j v hv; rwa [Addr.add_lit] at this)
section
variable {P : Program} {T : List TI} {r : Env} {o : Oper} {w : World} {L : List Asn} {K : Value → World → Prop}
theorem HeldV.cell (hT : TabOk P T) {t : Nat} {x : Operand} {a : Addr} {ti : TI} {v : Value} (ho : o.op = .load t x) (hx : Env.ev r x = some (.pointer (some a))) (ht : nth T t = some ti) (hs : scalK ti.k = true) (hm : cellA a v ∈ L) : HeldV P (HA L) r o v :=
  HeldV.load ho fun w' hw => OpW.loadc hT ho hx ht hs (by obtain ⟨S, hS⟩ := hw _ hm; exact hS.2) ⟨rfl, rfl⟩
end
end Go.Proofs.Ytpenbdpgpamcbaa.Gw
