/- What hangs on a row: taken apart and put together. Readers that read less. Conditions: none; plain facts on worlds. -/
import Derived.Test.YtpenbdpgpamcbaaGwBlock
set_option linter.unusedVariables false
set_option linter.unusedSimpArgs false
namespace Go.Proofs.Ytpenbdpgpamcbaa.Gw
open Go

/-- One datum in its cells. -/
def elem {α : Type} (r : Rdr α) (x : α) (cs : List Value) : Asn where
  p w S := r.R w S x cs
  loc := fun w w' S h hw => r.loc h hw
  dom := fun w S h => r.dom h

section
variable {α : Type} {r : Rdr α} {c : Ctx} {w : World} {Own Ro : List Asn} {xs ys : List α} {cs ds : List Value} {x : α}
theorem St.hang_join (h : St c w (hang r xs cs :: hang r ys ds :: Own) Ro) : St c w (hang r (xs ++ ys) (cs ++ ds) :: Own) Ro :=
  h.join fun S1 S2 h1 h2 hd => ⟨_, Elems.append h1 h2 hd, fun b hb => hb⟩
theorem St.hang_one (h : St c w (elem r x cs :: Own) Ro) : St c w (hang r [x] cs :: Own) Ro :=
  h.conv fun S hS => ⟨S, ⟨cs, [], S, fun _ => False, by simp, hS, ⟨rfl, fun _ h => h⟩, fun b => by simp, fun b _ h => h⟩, fun b hb => hb⟩
theorem St.hang_cut (h : St c w (hang r (xs ++ ys) cs :: Own) Ro) : St c w (hang r xs (cs.take (xs.length * r.sz)) :: hang r ys (cs.drop (xs.length * r.sz)) :: Own) Ro :=
  h.split fun S hS => by
    obtain ⟨S1, S2, h1, h2, h3, h4⟩ := Elems.cut hS
    exact ⟨S1, S2, h1, h2, fun b hb => (h3 b).2 (.inl hb), fun b hb => (h3 b).2 (.inr hb), h4⟩
theorem St.hang_out (h : St c w (hang r (x :: xs) cs :: Own) Ro) : St c w (elem r x (cs.take r.sz) :: hang r xs (cs.drop r.sz) :: Own) Ro :=
  h.split fun S hS => by
    obtain ⟨c1, c2, S1, S2, h, h1, h2, h3, h4⟩ := hS
    have hl := r.len h1
    subst h
    refine ⟨S1, S2, ?_, ?_, fun b hb => (h3 b).2 (.inl hb), fun b hb => (h3 b).2 (.inr hb), h4⟩
    · show r.R w S1 x _
      rw [← hl, List.take_left]; exact h1
    · show Elems r w xs _ S2
      rw [← hl, List.drop_left]; exact h2
theorem St.hang_in (h : St c w (elem r x cs :: hang r xs ds :: Own) Ro) : St c w (hang r (x :: xs) (cs ++ ds) :: Own) Ro :=
  h.join fun S1 S2 h1 h2 hd => ⟨fun b => S1 b ∨ S2 b, ⟨cs, ds, S1, S2, rfl, h1, h2, fun _ => Iff.rfl, hd⟩, fun b hb => hb⟩
theorem St.hang_nil (h : St c w Own Ro) : St c w (hang r [] [] :: Own) Ro := h.add (Like.refl w) (fun _ _ => rfl) ⟨fun _ => False, ⟨rfl, fun _ h => h⟩, fun _ h => h.elim⟩
theorem St.hang_len (h : St c w (hang r xs cs :: Own) Ro) : cs.length = xs.length * r.sz := by
  obtain ⟨S, hS⟩ := h.has (A := hang r xs cs) (by simp)
  exact Elems.len hS
end

/-- What one reader tells the other one tells too, in no more blocks. -/
structure Rdr.le {α : Type} (r r' : Rdr α) : Prop where
  sz : r.sz = r'.sz
  R : ∀ {w S x cs}, r.R w S x cs → ∃ S', r'.R w S' x cs ∧ ∀ b, S' b → S b
theorem Rdr.le.refl {α : Type} (r : Rdr α) : Rdr.le r r := ⟨rfl, fun h => ⟨_, h, fun _ h => h⟩⟩
theorem Seen.le {α : Type} {r r' : Rdr α} (hr : Rdr.le r r') {w : World} {S : Nat → Prop} {x : α} {cs : List Value} (h : Seen r w S x cs) : Seen r' w S x cs := by
  obtain ⟨S', h1, h2⟩ := h
  obtain ⟨S'', k1, k2⟩ := hr.R h1
  exact ⟨S'', k1, fun b hb => h2 b (k2 b hb)⟩
theorem SeenL.le {α : Type} {r r' : Rdr α} (hr : Rdr.le r r') {w : World} {S : Nat → Prop} : ∀ {xs : List α} {cs : List Value}, SeenL r w S xs cs → SeenL r' w S xs cs
  | [], cs, h => h
  | x :: xs, cs, ⟨c1, c2, h, h1, h2⟩ => ⟨c1, c2, h, h1.le hr, SeenL.le hr h2⟩
theorem ReadR.weaken {α : Type} {r r' : Rdr α} (hr : Rdr.le r r') {w : World} {S : Nat → Prop} {a : Option Addr} {cap : Nat} {xs : List α} (h : ReadR r w S a cap xs) : ReadR r' w S a cap xs := by
  refine ⟨h.le, h.max, h.dom, fun hx => ?_⟩
  obtain ⟨b, o, cur, e, fr, h1, h2, h3, h4, h5⟩ := h.at_ hx
  exact ⟨b, o, cur, e, fr, h1, h2, h3, by rw [← hr.sz]; exact h4, by rw [← hr.sz]; exact h5.le hr⟩
theorem Holds.weaken {α : Type} {r r' : Rdr α} (hr : Rdr.le r r') {w : World} {a : Option Addr} {cap : Nat} {xs : List α} (h : Holds w (rd r a cap xs)) : Holds w (rd r' a cap xs) := by
  obtain ⟨S, hS⟩ := h; exact ⟨S, ReadR.weaken hr hS⟩
/-- What is owned, as what is read. -/
theorem OwnR.read {α : Type} {e : Nat} {rr : Rdr α} {w : World} {S : Nat → Prop} {v : Value} {xs : List α} (h : OwnR e rr w S v xs) : ∃ a cap, v = .slice a xs.length cap ∧ ReadR rr w S a cap xs := by
  obtain ⟨cs, S1, S2, h1, h2, h3, h4⟩ := h
  obtain ⟨a, cap, rfl, hc, hm⟩ := h1.form
  refine ⟨a, cap, rfl, hc, hm, fun b hb => ((h3 b).1 hb).elim (h1.dom b) (h2.dom b), fun hx => ?_⟩
  rcases h1.at_ with ⟨_, h, _⟩ | ⟨g, o, cap', cur, k1, k2, k3, k4, k5, k6, k7⟩
  · exact absurd (List.eq_nil_of_length_eq_zero h) hx
  · simp only [Value.slice.injEq] at k1
    obtain ⟨rfl, _, rfl⟩ := k1
    refine ⟨g, o, cur, e, (0, 0), rfl, (h3 g).2 (.inl ((k7 g).2 rfl)), k2, ?_, ?_⟩
    · have := Nat.mul_le_mul_right rr.sz hc; omega
    · rw [k6]; exact h2.seen.mono fun b hb => (h3 b).2 (.inr hb)
theorem ReadR.more {α : Type} {r : Rdr α} {w : World} {S S' : Nat → Prop} {a : Option Addr} {cap : Nat} {xs : List α} (h : ReadR r w S a cap xs) (hs : ∀ b, S b → S' b) (hd : ∀ b, S' b → b < w.heap.size) : ReadR r w S' a cap xs := by
  refine ⟨h.le, h.max, hd, fun hx => ?_⟩
  obtain ⟨b, o, cur, e, fr, h1, h2, h3, h4, h5⟩ := h.at_ hx
  exact ⟨b, o, cur, e, fr, h1, hs b h2, h3, h4, h5.mono hs⟩
/-- The block of a part that is owned, as a row whose cells show. -/
theorem shows_blk {c : Ctx} {w : World} {Own Ro : List Asn} {b e sz m : Nat} {l : List Value} (H : St c w Own Ro) (hm : blk b e l ∈ Own ++ Ro) (hl : l.length = m * sz) (h1 : ∀ u ∈ l, u.oneCell' = true) : Shows w sz (some ⟨b, 0, none⟩) m l :=
  ⟨hl, h1, .inr ⟨_, rfl, blk_cells H hm (by simp)⟩⟩
end Go.Proofs.Ytpenbdpgpamcbaa.Gw
