/- A region whose order is drawn, and where some operations that turn the world may come in whatever order among themselves. Conditions: as for regionF. -/
import Derived.Test.YtpenbdpgpamcbaaGwFork
set_option linter.unusedVariables false
set_option linter.unusedSimpArgs false
namespace Go.Proofs.Ytpenbdpgpamcbaa.Gw
open Go

section
variable {P : Program} {n : Nat} {ops : Array Oper} {held : List Nat} {S : World → Prop} {Q : Exit → Env → World → Prop}

/-- Orders: first l; then those of I, in whatever order; then the rest. -/
inductive FA where
  | fin (l : List Nat)
  | anti (l : List Nat) (I : List Nat) (t : FA)
def FA.len : FA → Nat
  | .fin l => l.length
  | .anti l I t => l.length + (I.length + t.len)
def goodI (held : List Nat) (ops : Array Oper) (g : Array Bool → Bool) : Nat → List Nat → Array Bool → Bool
  | 0, I, listed => I.isEmpty && g listed
  | k + 1, I, listed => Nat.beq I.length (k + 1) && (Region.ready .any ops listed == I) && I.all fun i => Nat.beq (clsOf held ops i) 2 && goodI held ops g k (I.erase i) (listed.setIfInBounds i true)
def goodA (held : List Nat) (ops : Array Oper) : FA → Array Bool → Bool
  | .fin l, listed => match preOrder held ops l listed with
    | some listed' => (Region.ready .any ops listed').isEmpty
    | none => false
  | .anti l I t, listed => match preOrder held ops l listed with
    | some listed' => goodI held ops (goodA held ops t) I.length I listed'
    | none => false
def WI (P : Program) (n : Nat) (ops : Array Oper) (held : List Nat) (S : World → Prop) (K : Env → World → Prop) : Nat → List Nat → Env → World → Prop
  | 0, _, r, w => K r w
  | k + 1, I, r, w => ∀ i ∈ I, WD P n ops held S (fun r w => WI P n ops held S K k (I.erase i) r w) [i] r w
def WFA (P : Program) (n : Nat) (ops : Array Oper) (held : List Nat) (S : World → Prop) (Q : Env → World → Prop) : FA → Env → World → Prop
  | .fin l, r, w => WD P n ops held S Q l r w
  | .anti l I t, r, w => WD P n ops held S (fun r w => WI P n ops held S (fun r w => WFA P n ops held S Q t r w) I.length I r w) l r w

theorem WI.any {K : Env → World → Prop} {g : Array Bool → Bool} {m : Nat}
    (hK : ∀ (listed : Array Bool) (r : Env) (w : World) (a : Act), Closed ops listed → g listed = true → K r w → Agree n a r → wpAnyN P ops (postQ n Q) (relOf held ops S) m listed a w) :
    ∀ (k : Nat) (I : List Nat) (listed : Array Bool) (r : Env) (w : World) (a : Act), Closed ops listed → goodI held ops g k I listed = true → WI P n ops held S K k I r w → Agree n a r → wpAnyN P ops (postQ n Q) (relOf held ops S) (k + m) listed a w
  | 0, I, listed, r, w, a, hcl, hg, h, ha => by
    simp only [goodI, Bool.and_eq_true] at hg
    rw [Nat.zero_add]
    exact hK listed r w a hcl hg.2 h ha
  | k + 1, I, listed, r, w, a, hcl, hg, h, ha => by
    simp only [goodI, Bool.and_eq_true, List.all_eq_true] at hg
    obtain ⟨⟨hl, hr⟩, hall⟩ := hg
    have hr : Region.ready .any ops listed = I := by simpa using hr
    have hl := Nat.eq_of_beq_eq_true hl
    rw [Nat.add_right_comm]
    refine ⟨fun h0 => ?_, fun i hi => ?_⟩
    · rw [hr] at h0; subst h0; simp at hl
    · have hi' := hi
      rw [hr] at hi'
      obtain ⟨hc, hg2⟩ := hall i hi'
      exact WD.step1 (Nat.eq_of_beq_eq_true hc) (fun r w a h ha => WI.any hK k (I.erase i) _ r w a (hcl.set hi) hg2 h ha) (h i hi') ha

theorem WFA.any (hQ : ∀ c r w, ¬ Q (.panic c) r w) (hs : Region.noSelect ops = true) : ∀ (t : FA) (listed : Array Bool) (r : Env) (w : World) (a : Act),
    Closed ops listed → goodA held ops t listed = true → WFA P n ops held S (Q .normal) t r w → Agree n a r → wpAnyN P ops (postQ n Q) (relOf held ops S) t.len listed a w
  | .fin l, listed, r, w, a, hcl, hg, h, ha => by
    simp only [goodA] at hg
    split at hg
    · rename_i listed' hp
      refine WD.anyK hQ hs (k := 0) (fun r w a _ hq ha => ?_) l listed r w a hcl hp h ha
      have hr : Region.ready .any ops listed' = [] := by simpa using hg
      exact ⟨hr, r, ha, hq⟩
    · cases hg
  | .anti l I t, listed, r, w, a, hcl, hg, h, ha => by
    simp only [goodA] at hg
    split at hg
    · rename_i listed' hp
      refine WD.anyK hQ hs (k := I.length + t.len) (fun r w a hcl' hq ha => ?_) l listed r w a hcl hp h ha
      exact WI.any (g := goodA held ops t) (fun listed r w a hcl hg h ha => WFA.any hQ hs t listed r w a hcl hg h ha) I.length I _ r w a hcl' hg hq ha
    · cases hg

theorem W.regionA {r : Env} {w : World} {id : Nat} {l : List Oper} (held : List Nat) (S : World → Prop) (t : FA)
    (hm : P.follows .mixedOrders = true) (hg : (Region.noSelect l.toArray && goodA held l.toArray t (Array.replicate l.length false) && decide (t.len ≤ l.length)) = true) (hQ : ∀ c r w, ¬ Q (.panic c) r w)
    (h : WFA P n l.toArray held S (Q .normal) t r w.drew) : W P n (.region id l.toArray true) Q r w := by
  simp only [Bool.and_eq_true, decide_eq_true_eq] at hg
  intro a ha
  refine wp_region_any hm (wpAny_of_N _ _ _ _ (wpAnyN_more t.len _ _ _ _ (by simpa using hg.2) (WFA.any (held := held) (S := S) hQ hg.1.1 t _ r _ a (Closed.start _) ?_ h ha)))
  simpa using hg.1.2
theorem WI.mono {K K' : Env → World → Prop} (hk : ∀ r w, K r w → K' r w) : ∀ {k : Nat} {I : List Nat} {r : Env} {w : World}, WI P n ops held S K k I r w → WI P n ops held S K' k I r w
  | 0, _, _, _, h => hk _ _ h
  | k + 1, I, r, w, h => fun i hi => WD.mono (fun r w h => WI.mono hk h) (h i hi)
theorem WFA.fin {Q : Env → World → Prop} {l : List Nat} {r : Env} {w : World} (h : WD P n ops held S Q l r w) : WFA P n ops held S Q (.fin l) r w := h
theorem WFA.anti {Q : Env → World → Prop} {l I : List Nat} {t : FA} {r : Env} {w : World} (h : WD P n ops held S (fun r w => WI P n ops held S (fun r w => WFA P n ops held S Q t r w) I.length I r w) l r w) : WFA P n ops held S Q (.anti l I t) r w := h
/-- Told by what is known behind all of them. -/
theorem WFA.mid {Q : Env → World → Prop} (Mid : Env → World → Prop) {l I rest : List Nat} {r : Env} {w : World} (hrest : ∀ r w, Mid r w → WD P n ops held S Q rest r w) (h : WD P n ops held S (fun r w => WI P n ops held S Mid I.length I r w) l r w) : WFA P n ops held S Q (.anti l I (.fin rest)) r w :=
  WD.mono (fun r w h => WI.mono (fun r w h => hrest r w h) h) h
end
end Go.Proofs.Ytpenbdpgpamcbaa.Gw
