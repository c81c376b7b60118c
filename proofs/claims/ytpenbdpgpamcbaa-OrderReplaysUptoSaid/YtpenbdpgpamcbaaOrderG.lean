/- order: the law OrderReplays. Conditions: each fact's own premises. -/
import Derived.Test.YtpenbdpgpamcbaaOrderF
set_option linter.unusedVariables false
set_option linter.unusedSimpArgs false
set_option maxRecDepth 20000
namespace Go.Proofs.Ytpenbdpgpamcbaa
open Go Gw
attribute [local irreducible] W WO WD

/-- What stands last of each item, when the first m have been replayed. -/
structure Marks (V : List (List Int)) (t : List Nat) (m : Nat) (L : List Int) : Prop where
  len : L.length = V.length
  is : ∀ i l, V[i]? = some l → ∃ p, Upto l (t.take m) p ∧ L.getD i 0 = lastOf l p
/-- Within the turn of m: of the first i items it is told. -/
structure MarksI (V : List (List Int)) (t : List Nat) (m i : Nat) (L : List Int) : Prop where
  len : L.length = V.length
  lo : ∀ j l, j < i → V[j]? = some l → ∃ p, Upto l (t.take (m + 1)) p ∧ L.getD j 0 = lastOf l p
  hi : ∀ j l, i ≤ j → V[j]? = some l → ∃ p, Upto l (t.take m) p ∧ L.getD j 0 = lastOf l p
theorem Marks.open {V : List (List Int)} {t : List Nat} {m : Nat} {L : List Int} (h : Marks V t m L) : MarksI V t m 0 L := ⟨h.len, fun j l hj => by omega, fun j l _ hl => h.is j l hl⟩
theorem MarksI.close {V : List (List Int)} {t : List Nat} {m : Nat} {L : List Int} (h : MarksI V t m V.length L) : Marks V t (m + 1) L := ⟨h.len, fun j l hl => h.lo j l (List.getElem?_eq_some_iff.1 hl).1 hl⟩
section
variable {T : List Tale} {V : List (List Int)} {t : List Nat} {m i x : Nat} {L l : List Int}
theorem MarksI.skip (h : MarksI V t m i L) (hm : t[m]? = some x) (hl : V[i]? = some l) (hx : (x : Int) ∉ l) : MarksI V t m (i + 1) L := by
  refine ⟨h.len, fun j l' hj hl' => ?_, fun j l' hj hl' => h.hi j l' (by omega) hl'⟩
  rcases Nat.lt_succ_iff_lt_or_eq.1 hj with hj | rfl
  · exact h.lo j l' hj hl'
  · rw [hl] at hl'; cases hl'
    obtain ⟨p, h1, h2⟩ := h.hi j l (Nat.le_refl _) hl
    exact ⟨p, h1.skip hm hx, h2⟩
theorem MarksI.here (hS : StoryOk T V) (hs : Ser T V t) (h : MarksI V t m i L) (hm : t[m]? = some x) (hl : V[i]? = some l) {k : Nat} (hk : l[k]? = some (x : Int)) : L.getD i 0 = lastOf l k ∧ MarksI V t m (i + 1) (L.set i x) := by
  obtain ⟨p, h1, h2⟩ := h.hi i l (Nat.le_refl _) hl
  obtain ⟨rfl, h3⟩ := h1.here hS hs (List.mem_of_getElem? hl) hm hk
  have hi : i < L.length := by rw [h.len]; exact (List.getElem?_eq_some_iff.1 hl).1
  refine ⟨h2, by rw [List.length_set]; exact h.len, fun j l' hj hl' => ?_, fun j l' hj hl' => ?_⟩
  · rw [getD_setZ _ _ _ _ hi]
    rcases Nat.lt_succ_iff_lt_or_eq.1 hj with hj | rfl
    · rw [if_neg (by omega)]; exact h.lo j l' hj hl'
    · rw [if_pos rfl]
      rw [hl] at hl'; cases hl'
      refine ⟨_, h3, ?_⟩
      rw [lastOf, if_neg (by omega), Nat.add_sub_cancel, List.getD_eq_getElem?_getD, hk]; rfl
  · rw [getD_setZ _ _ _ _ hi, if_neg (by omega)]; exact h.hi j l' (by omega) hl'
end

def rxT : List Tale := [(1, [(0, -1)]), (2, [])]
def rxV : List (List Int) := [[2]]
theorem rx_ok : StoryOk rxT rxV := by
  refine ⟨by decide, by decide, by simp [rxT], by simp [rxT], ?_, ?_⟩
  · intro t ht g hg
    simp only [rxT, List.mem_cons, List.not_mem_nil, or_false] at ht
    rcases ht with rfl | rfl <;> simp only [List.mem_cons, List.not_mem_nil, or_false] at hg
    subst hg; simp [rxV]
  · intro l hl
    simp only [rxV, List.mem_cons, List.not_mem_nil, or_false] at hl
    subst hl; simp [rxT]
theorem rx_dep {d : Int × Int × Int} (h : Dep rxT rxV d) : d.1 = 1 ∧ d.2.1 = 2 := by
  rcases h.is with ⟨_, l, hl, i, k1, k2⟩ | ⟨_, t, ht, g, hg, k1, k2⟩ | ⟨_, t, ht, g, hg, l, hl, k1, k2⟩
  · simp only [rxV, List.mem_cons, List.not_mem_nil, or_false] at hl
    subst hl; simp at k2
  · simp only [rxT, List.mem_cons, List.not_mem_nil, or_false] at ht
    rcases ht with rfl | rfl <;> simp only [List.mem_cons, List.not_mem_nil, or_false] at hg
    subst hg
    have := h.pos; simp only at k1; omega
  · simp only [rxT, List.mem_cons, List.not_mem_nil, or_false] at ht
    rcases ht with rfl | rfl <;> simp only [List.mem_cons, List.not_mem_nil, or_false] at hg
    subst hg
    simp only [rxV] at hl
    have : l = [2] := by simpa using hl.symm
    subst this
    simp [after, idxZ] at k2
    exact ⟨k1.symm, k2.symm⟩
theorem rx_loop : ¬ LoopK rxT rxV 3 := by
  rintro ⟨E, hE, x, c, h1, h2⟩
  have hall : ∀ a b : Nat, ((a : Int), (b : Int)) ∈ E → a = 1 ∧ b = 2 := fun a b h => by
    obtain ⟨q, _, hd⟩ := hE _ h
    have := rx_dep hd; simp only at this; omega
  obtain ⟨rfl, rfl⟩ := hall _ _ h1
  have : ∀ {a b : Nat}, RchE E a b → a = 2 → b = 2 := fun {a b} h ha => RchE.closed (S := fun x => x = 2) (fun a b _ he => (hall a b he).2) h ha
  have := this h2 rfl
  omega
theorem rx_ser {t : List Nat} (h : Ser rxT rxV t) : t = [1, 2] := by
  have h12 : Dep rxT rxV (1, 2, 3) := ⟨by decide, by decide, .inr (.inr ⟨rfl, (1, [(0, -1)]), by simp [rxT], (0, -1), by simp, [2], by simp [rxV], rfl, by simp [after, idxZ]⟩)⟩
  have hl := h.count rx_ok
  have m1 : 1 ∈ t := (h.mem 1).2 ⟨(1, [(0, -1)]), by simp [rxT], rfl⟩
  have m2 : 2 ∈ t := (h.mem 2).2 ⟨(2, []), by simp [rxT], rfl⟩
  match t, hl with
  | [a, b], _ =>
    have hb := h.back
    have hn := h.nd
    simp at m1 m2 hb hn
    rcases m1 with h1 | h1 <;> rcases m2 with h2 | h2
    · omega
    · rw [← h1, ← h2]
    · exfalso
      subst h1; subst h2
      exact hb 3 h12
    · omega
end Go.Proofs.Ytpenbdpgpamcbaa
