/- tree: levels, counted. No program in sight. -/
import Derived.Test.YtnghaidnbicjjaaTreeS
set_option linter.unusedVariables false
set_option linter.unusedSimpArgs false
set_option maxRecDepth 20000
namespace Go.Proofs.Ytnghaidnbicjjaa
open Go Gw

theorem weave_len : ∀ (A : List (List En)) (E : List En), A.length = E.length + 1 → (weave A E).length = (A.map List.length).sum + E.length
  | [], E, h => by simp at h
  | [a], [], h => by simp [weave]
  | a :: b :: A, [], h => by simp at h
  | a :: A, e :: E, h => by
    have ih := weave_len A E (by simpa using h)
    simp only [weave, List.length_append, List.length_cons, List.map_cons, List.sum_cons, ih]
    omega
def sumE (k : Nat) (xs : List Nd) : Nat := (xs.map fun y => (ents k y).length).sum
def sumK (xs : List Nd) : Nat := (xs.map fun y => y.keys.length).sum
theorem es_len {h : Nat} {y : Nd} (H : Sh h y) : (es y).length = y.keys.length := by simp [es, H.texts]
theorem ents_len {k : Nat} {y : Nd} (H : Sh (k + 1) y) : (ents (k + 1) y).length = sumE k y.kids + y.keys.length := by
  show (weave (y.kids.map (ents k)) (es y)).length = _
  rw [weave_len _ _ (by rw [List.length_map, es_len H, H.kn]), es_len H, List.map_map]
  rfl
theorem sumE_app (k : Nat) (xs ys : List Nd) : sumE k (xs ++ ys) = sumE k xs + sumE k ys := by simp [sumE]
theorem sumE_succ {k : Nat} : ∀ {xs : List Nd}, (∀ y ∈ xs, Sh (k + 1) y) → sumE (k + 1) xs = sumE k (xs.flatMap Nd.kids) + sumK xs
  | [], _ => rfl
  | y :: xs, h => by
    have ih := sumE_succ (xs := xs) fun z hz => h z (by simp [hz])
    have e := ents_len (h y (by simp))
    rw [List.flatMap_cons, sumE_app]
    simp only [sumE, sumK, List.map_cons, List.sum_cons] at ih e ⊢
    omega
theorem sumE_zero : ∀ {xs : List Nd}, (∀ y ∈ xs, Sh 0 y) → sumE 0 xs = sumK xs
  | [], _ => rfl
  | y :: xs, h => by
    have ih := sumE_zero (xs := xs) fun z hz => h z (by simp [hz])
    have e : (ents 0 y).length = y.keys.length := es_len (h y (by simp))
    simp only [sumE, sumK, List.map_cons, List.sum_cons] at ih ⊢
    omega
theorem ents_pow : ∀ {h : Nat} {y : Nd}, Bt 2 4 h y → 3 ^ (h + 1) ≤ (ents h y).length + 1
  | 0, y, H => by
    have e : (ents 0 y).length = y.keys.length := es_len H.sh
    have := H.lo
    rw [e]; simp; omega
  | h + 1, y, H => by
    have e := ents_len H.sh
    have hk := H.sh.kn
    have hl := H.lo
    have key : ∀ l : List Nd, (∀ z ∈ l, Bt 2 4 h z) → l.length * 3 ^ (h + 1) ≤ sumE h l + l.length := by
      intro l
      induction l with
      | nil => intro _; simp
      | cons z l ih =>
        intro hz
        have i1 := ih fun u hu => hz u (by simp [hu])
        have i2 := ents_pow (hz z (by simp))
        simp only [sumE, List.map_cons, List.sum_cons, List.length_cons, Nat.succ_mul] at i1 ⊢
        omega
    have k1 := key y.kids H.2.2
    have k2 : 3 * 3 ^ (h + 1) ≤ y.kids.length * 3 ^ (h + 1) := Nat.mul_le_mul_right _ (by omega)
    rw [Nat.pow_succ, e]
    omega
theorem root_pow {h : Nat} {x : Nd} (H : Tr h x) : h = 0 ∨ 2 * 3 ^ h ≤ (ents h x).length + 1 := by
  cases h with
  | zero => exact .inl rfl
  | succ h =>
    right
    have H' : Bt 1 4 (h + 1) x := by simpa using H.bt
    have e := ents_len H'.sh
    have hk := H'.sh.kn
    have hl := H'.lo
    have key : ∀ l : List Nd, (∀ z ∈ l, Bt 2 4 h z) → l.length * 3 ^ (h + 1) ≤ sumE h l + l.length := by
      intro l
      induction l with
      | nil => intro _; simp
      | cons z l ih =>
        intro hz
        have i1 := ih fun u hu => hz u (by simp [hu])
        have i2 := ents_pow (hz z (by simp))
        simp only [sumE, List.map_cons, List.sum_cons, List.length_cons, Nat.succ_mul] at i1 ⊢
        omega
    have k1 := key x.kids H'.2.2
    have k2 : 2 * 3 ^ (h + 1) ≤ x.kids.length * 3 ^ (h + 1) := Nat.mul_le_mul_right _ (by omega)
    omega
theorem root_low {h : Nat} {x : Nd} (H : Tr h x) : h ≤ 6 := by
  have hl := H.len
  rcases root_pow H with h0 | h0
  · omega
  · rcases Nat.lt_or_ge h 7 with h7 | h7
    · omega
    · have := Nat.pow_le_pow_right (n := 3) (by omega) h7
      have e : 3 ^ 7 = 2187 := by decide
      omega

def lens (xs : List Nd) : List Int := xs.map fun y => (y.keys.length : Int)
def lvk : Nat → List Nd → List (List Int)
  | 0, _ => []
  | k + 1, xs => lens xs :: lvk k (xs.flatMap Nd.kids)
theorem lvk_len : ∀ (k : Nat) (xs : List Nd), (lvk k xs).length = k
  | 0, _ => rfl
  | k + 1, xs => by simp [lvk, lvk_len k]
/-- One level of a tree. -/
def Lv : Nat → List Nd → Prop
  | 0, xs => xs = []
  | k + 1, xs => xs ≠ [] ∧ xs.length ≤ 2000 ∧ (∀ y ∈ xs, Bt 0 4 k y) ∧ sumE k xs ≤ 2000
theorem Lv.top {h : Nat} {x : Nd} (H : Tr h x) : Lv (h + 1) [x] := ⟨by simp, by simp, fun y hy => by simp at hy; subst hy; exact H.bt.weaken (Nat.zero_le _) (Nat.le_refl _), by have := H.len; simpa [sumE] using this⟩
theorem kids_many {k : Nat} {ys : List Nd} (h : ∀ y ∈ ys, Bt 2 4 k y) : ys.length ≤ sumE k ys := by
  induction ys with
  | nil => simp
  | cons y ys ih =>
    have i1 := ih fun z hz => h z (by simp [hz])
    have i2 := ents_pow (h y (by simp))
    have i3 : 3 ^ 1 ≤ 3 ^ (k + 1) := Nat.pow_le_pow_right (by omega) (by omega)
    simp only [sumE, List.map_cons, List.sum_cons, List.length_cons] at i1 ⊢
    omega
theorem Lv.next {k : Nat} {xs : List Nd} (H : Lv (k + 1) xs) : Lv k (xs.flatMap Nd.kids) := by
  obtain ⟨h1, h2, h3, h4⟩ := H
  cases k with
  | zero => exact List.flatMap_eq_nil_iff.2 fun y hy => (h3 y hy).sh.kids
  | succ k =>
    have hk : ∀ z ∈ xs.flatMap Nd.kids, Bt 2 4 k z := fun z hz => by
      obtain ⟨y, hy, hz⟩ := List.mem_flatMap.1 hz
      exact (h3 y hy).2.2 z hz
    have e := sumE_succ (k := k) (xs := xs) fun y hy => (h3 y hy).sh
    have m := kids_many hk
    refine ⟨?_, by omega, fun z hz => (hk z hz).weaken (Nat.zero_le _) (Nat.le_refl _), by omega⟩
    intro e0
    cases xs with
    | nil => exact h1 rfl
    | cons y xs =>
      have := (h3 y (by simp)).sh.kn
      rw [List.flatMap_cons] at e0
      rw [(List.append_eq_nil_iff.1 e0).1] at this
      simp at this
end Go.Proofs.Ytnghaidnbicjjaa
