/- Plain facts that the slices' functions want. -/
import Derived.Test.YtpenbdpgpamcbaaGwSplice
import Derived.Test.YtpenbdpgpamcbaaGwTab
set_option linter.unusedVariables false
set_option linter.unusedSimpArgs false
namespace Go.Proofs.Ytpenbdpgpamcbaa
open Go Gw

/-- The first place where p holds; -1: none. -/
def idxF {α : Type} (p : α → Bool) : List α → Int
  | [] => -1
  | x :: xs => if p x then 0 else match idxF p xs with
    | .ofNat n => n + 1
    | .negSucc _ => -1
theorem idxF_cases {α : Type} (p : α → Bool) : ∀ (xs : List α), (idxF p xs = -1 ∧ ∀ x ∈ xs, p x = false) ∨ ∃ (i : Nat) (x : α), idxF p xs = i ∧ xs[i]? = some x ∧ p x = true ∧ ∀ j, j < i → ∀ x, xs[j]? = some x → p x = false
  | [] => .inl ⟨rfl, fun x h => nomatch h⟩
  | x :: xs => by
    by_cases hx : p x = true
    · exact .inr ⟨0, x, by simp [idxF, hx], rfl, hx, fun j hj => (by omega)⟩
    · have hx' : p x = false := by simpa using hx
      rcases idxF_cases p xs with ⟨h, hall⟩ | ⟨i, y, h, hi, hy, hno⟩
      · exact .inl ⟨by simp only [idxF, hx']; rw [h]; rfl, fun y hy => (List.mem_cons.1 hy).elim (fun e => e ▸ hx') (hall y)⟩
      · refine .inr ⟨i + 1, y, ?_, by simpa using hi, hy, fun j hj z hz => ?_⟩
        · simp only [idxF, hx']; rw [h]; rfl
        · cases j with
          | zero => simp at hz; subst hz; exact hx'
          | succ j => simp at hz; exact hno j (by omega) z hz
theorem idxF_hit {α : Type} {p : α → Bool} {xs : List α} {i : Nat} {x : α} (hno : ∀ j, j < i → ∀ x, xs[j]? = some x → p x = false) (hx : xs[i]? = some x) (he : p x = true) : idxF p xs = i := by
  rcases idxF_cases p xs with ⟨h, hall⟩ | ⟨k, y, h, hk, hy, hn⟩
  · have := hall x (List.mem_of_getElem? hx); rw [he] at this; cases this
  · rw [h]
    rcases Nat.lt_trichotomy i k with hl | hl | hl
    · have := hn i hl x hx; rw [he] at this; cases this
    · rw [hl]
    · have := hno k hl y hk; rw [hy] at this; cases this
theorem idxF_miss {α : Type} {p : α → Bool} {xs : List α} (h : ∀ x ∈ xs, p x = false) : idxF p xs = -1 := by
  rcases idxF_cases p xs with ⟨h, _⟩ | ⟨k, y, _, hk, hy, _⟩
  · exact h
  · have := h y (List.mem_of_getElem? hk); rw [hy] at this; cases this
theorem idxF_any {α : Type} (p : α → Bool) (xs : List α) : decide (0 ≤ idxF p xs) = xs.any p := by
  rcases idxF_cases p xs with ⟨h, hall⟩ | ⟨k, y, h, hk, hy, _⟩
  · rw [h]; simp; simpa using hall
  · rw [h]; have := List.mem_of_getElem? hk; simp; exact ⟨y, this, hy⟩
end Go.Proofs.Ytpenbdpgpamcbaa
