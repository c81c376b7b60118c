/- Rows of plain values: what the library's DeleteFunc wants of them. Conditions: each fact's own premises. -/
import Derived.Test.YtpenbdpgpamcbaaGwSplice
import Derived.Test.YtpenbdpgpamcbaaGwBlock
set_option linter.unusedVariables false
set_option linter.unusedSimpArgs false
namespace Go.Proofs.Ytpenbdpgpamcbaa.Gw
open Go
theorem take_snoc {α : Type} {l : List α} {i : Nat} {x : α} (hx : l[i]? = some x) : l.take (i + 1) = l.take i ++ [x] := by
  rw [List.take_add_one, hx]; rfl
theorem splice_app (P L xs : List Value) (j : Nat) : spliceL (P ++ L) (P.length + j) xs = P ++ spliceL L j xs := by
  unfold spliceL
  rw [take_app, show P.length + j + xs.length = P.length + (j + xs.length) by omega, drop_app]
  simp
theorem flat_take {α : Type} {enc : α → List Value} {sz : Nat} (hl : ∀ x, (enc x).length = sz) : ∀ (l : List α) (n : Nat), (l.flatMap enc).take (n * sz) = (l.take n).flatMap enc
  | [], n => by simp
  | x :: l, 0 => by simp
  | x :: l, n + 1 => by
    rw [List.flatMap_cons, List.take_succ_cons, List.flatMap_cons, show (n + 1) * sz = (enc x).length + n * sz by rw [hl, Nat.add_mul, Nat.one_mul, Nat.add_comm], take_app, flat_take hl l n]
theorem flat_setA {α : Type} {enc : α → List Value} {sz : Nat} (hl : ∀ x, (enc x).length = sz) : ∀ {l : List α} {i : Nat} {x : α}, i < l.length → spliceL (l.flatMap enc) (i * sz) (enc x) = (l.set i x).flatMap enc
  | [], i, x, h => by simp at h
  | y :: l, 0, x, h => by
    have e : (y :: l).flatMap enc = enc y ++ l.flatMap enc := rfl
    rw [e, Nat.zero_mul]
    simp only [spliceL, List.take_zero, List.nil_append, Nat.zero_add]
    rw [hl, ← hl y, List.drop_left]; rfl
  | y :: l, i + 1, x, h => by
    rw [List.set_cons_succ, List.flatMap_cons, List.flatMap_cons, show (i + 1) * sz = (enc y).length + i * sz by rw [hl, Nat.add_mul, Nat.one_mul, Nat.add_comm], splice_app, flat_setA hl (by simpa using h)]
end Go.Proofs.Ytpenbdpgpamcbaa.Gw
