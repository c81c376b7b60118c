/- Memory in parts: what is owned, each part in blocks of its own, and what is only read. Conditions: none; plain facts on worlds. -/
import Derived.Test.YtpenbdpgpamcbaaGwOps
set_option linter.unusedVariables false
set_option linter.unusedSimpArgs false
namespace Go.Proofs.Ytpenbdpgpamcbaa.Gw
open Go

/-- A part of memory: 'p w S': it holds in w, in the blocks S. -/
structure Asn where
  p : World → (Nat → Prop) → Prop
  loc : ∀ w w' S, p w S → (∀ b, S b → w'.heap[b]? = w.heap[b]?) → p w' S
  dom : ∀ w S, p w S → ∀ b, S b → b < w.heap.size

/-- Parts in blocks apart; O: all of these. -/
def Sep (w : World) : List Asn → (Nat → Prop) → Prop
  | [], O => ∀ b, ¬ O b
  | A :: l, O => ∃ S O', A.p w S ∧ Sep w l O' ∧ (∀ b, O b ↔ S b ∨ O' b) ∧ ∀ b, S b → ¬ O' b

/-- Where a call began, and which old blocks it may turn. -/
structure Ctx where
  w0 : World
  D : Nat → Prop

structure Like (w w' : World) : Prop where
  os : w'.os = w.os
  tape : w'.tape = w.tape
  output : w'.output = w.output
  drawn : w.drawn ≤ w'.drawn
  size : w.heap.size ≤ w'.heap.size

theorem Like.refl (w : World) : Like w w := ⟨rfl, rfl, rfl, Nat.le_refl _, Nat.le_refl _⟩
theorem Like.trans {a b c : World} (h : Like a b) (k : Like b c) : Like a c := ⟨k.os.trans h.os, k.tape.trans h.tape, k.output.trans h.output, Nat.le_trans h.drawn k.drawn, Nat.le_trans h.size k.size⟩

structure St (c : Ctx) (w : World) (Own Ro : List Asn) : Prop where
  like : Like c.w0 w
  frame : ∀ b, b < c.w0.heap.size → ¬ c.D b → w.heap[b]? = c.w0.heap[b]?
  sep : ∃ O, Sep w Own O ∧ (∀ b, O b → c.w0.heap.size ≤ b ∨ c.D b) ∧ ∀ A ∈ Ro, ∃ S, A.p w S ∧ ∀ b, S b → ¬ O b

theorem Sep.agree {w w' : World} : ∀ {l : List Asn} {O : Nat → Prop}, Sep w l O → (∀ b, O b → w'.heap[b]? = w.heap[b]?) → Sep w' l O
  | [], _, h, _ => h
  | A :: l, O, ⟨S, O', h1, h2, h3, h4⟩, hw => ⟨S, O', A.loc w w' S h1 (fun b hb => hw b ((h3 b).2 (.inl hb))), Sep.agree h2 (fun b hb => hw b ((h3 b).2 (.inr hb))), h3, h4⟩
theorem Sep.dom {w : World} : ∀ {l : List Asn} {O : Nat → Prop}, Sep w l O → ∀ b, O b → b < w.heap.size
  | [], _, h, b, hb => (h b hb).elim
  | A :: l, O, ⟨S, O', h1, h2, h3, h4⟩, b, hb => ((h3 b).1 hb).elim (A.dom w S h1 b) (Sep.dom h2 b)
theorem Sep.congr {w : World} {l : List Asn} {O O' : Nat → Prop} (h : Sep w l O) (he : ∀ b, O' b ↔ O b) : Sep w l O' := by
  have : O' = O := funext fun b => propext (he b)
  rw [this]; exact h
theorem Sep.swap {w : World} {A B : Asn} {l : List Asn} {O : Nat → Prop} (h : Sep w (A :: B :: l) O) : Sep w (B :: A :: l) O := by
  obtain ⟨S, O1, h1, ⟨S2, O2, g1, g2, g3, g4⟩, h3, h4⟩ := h
  refine ⟨S2, fun b => S b ∨ O2 b, g1, ⟨S, O2, h1, g2, fun b => Iff.rfl, fun b hb h => h4 b hb ((g3 b).2 (.inr h))⟩, fun b => ?_, fun b hb h => ?_⟩
  · rw [h3 b, g3 b]; constructor <;> (rintro (h | h | h) <;> simp [h])
  · rcases h with h | h
    · exact h4 b h ((g3 b).2 (.inl hb))
    · exact g4 b hb h
theorem Sep.perm {w : World} {l l' : List Asn} (hp : l.Perm l') : ∀ {O : Nat → Prop}, Sep w l O → Sep w l' O := by
  induction hp with
  | nil => exact fun h => h
  | cons A _ ih => rintro O ⟨S, O', h1, h2, h3, h4⟩; exact ⟨S, O', h1, ih h2, h3, h4⟩
  | swap A B l => exact fun h => Sep.swap h
  | trans _ _ ih1 ih2 => exact fun h => ih2 (ih1 h)
theorem Sep.mem {w : World} : ∀ {l : List Asn} {O : Nat → Prop} {A : Asn}, Sep w l O → A ∈ l → ∃ S, A.p w S ∧ ∀ b, S b → O b
  | B :: l, O, A, ⟨S, O', h1, h2, h3, h4⟩, hm => by
    rcases List.mem_cons.1 hm with rfl | hm
    · exact ⟨S, h1, fun b hb => (h3 b).2 (.inl hb)⟩
    · obtain ⟨S', k1, k2⟩ := Sep.mem h2 hm
      exact ⟨S', k1, fun b hb => (h3 b).2 (.inr (k2 b hb))⟩

theorem eraseIdx_perm {α : Type} : ∀ (l : List α) (i : Nat) (a : α), l[i]? = some a → l.Perm (a :: l.eraseIdx i)
  | [], i, a, h => by simp at h
  | x :: l, 0, a, h => by simp at h; subst h; exact .refl _
  | x :: l, i + 1, a, h => by
    simp at h
    exact ((eraseIdx_perm l i a h).cons x).trans (.swap a x _)

section
variable {c : Ctx} {w w' : World} {Own Ro : List Asn} {A B : Asn}

theorem St.perm {Own' : List Asn} (h : St c w Own Ro) (hp : Own.Perm Own') : St c w Own' Ro := by
  obtain ⟨O, h1, h2, h3⟩ := h.sep
  exact ⟨h.like, h.frame, O, Sep.perm hp h1, h2, h3⟩
theorem St.front {i : Nat} (h : St c w Own Ro) (hi : Own[i]? = some A) : St c w (A :: Own.eraseIdx i) Ro := by
  exact h.perm (eraseIdx_perm _ _ _ hi)
/-- The part at a place, and the others. -/
def takeK : List Asn → Nat → Option (Asn × List Asn)
  | [], _ => none
  | A :: l, 0 => some (A, l)
  | A :: l, n + 1 => match takeK l n with
    | some (B, l') => some (B, A :: l')
    | none => none
theorem takeK_perm : ∀ (l : List Asn) (i : Nat) (A : Asn) (l' : List Asn), takeK l i = some (A, l') → l.Perm (A :: l')
  | [], i, A, l', h => by cases h
  | B :: l, 0, A, l', h => by simp [takeK] at h; rw [h.1, h.2]
  | B :: l, i + 1, A, l', h => by
    simp only [takeK] at h
    split at h
    · rename_i C l2 h2
      simp at h
      obtain ⟨rfl, rfl⟩ := h
      exact ((takeK_perm l i C l2 h2).cons B).trans (.swap C B l2)
    · cases h
theorem St.to {i : Nat} {Own' : List Asn} (h : St c w Own Ro) (hi : takeK Own i = some (A, Own')) : St c w (A :: Own') Ro := h.perm (takeK_perm _ _ _ _ hi)
def cntAbove (x : Nat) : List Nat → Nat
  | [] => 0
  | y :: l => match Nat.blt x y with
    | true => cntAbove x l + 1
    | false => cntAbove x l
/-- These places' parts are brought to the front, in this order. -/
def bringK : List Asn → List Nat → List Nat → Option (List Asn)
  | l, [], _ => some l
  | l, x :: xs, moved => match takeK l (x + cntAbove x moved) with
    | some (A, l') => bringK (A :: l') xs (x :: moved)
    | none => none
theorem bringK_perm : ∀ (xs moved : List Nat) (l l' : List Asn), bringK l xs moved = some l' → l.Perm l'
  | [], moved, l, l', h => by simp [bringK] at h; rw [h]
  | x :: xs, moved, l, l', h => by
    unfold bringK at h
    split at h
    · rename_i A l2 h2
      exact (takeK_perm _ _ _ _ h2).trans (bringK_perm xs _ _ _ h)
    · cases h
def revK : List Nat → List Nat → List Nat
  | [], a => a
  | x :: l, a => revK l (x :: a)
theorem St.bring (is : List Nat) {Own' : List Asn} (h : St c w Own Ro) (hi : bringK Own (revK is []) [] = some Own') : St c w Own' Ro := h.perm (bringK_perm _ _ _ _ hi)
/-- What holds of a part. -/
theorem St.has (h : St c w Own Ro) (hm : A ∈ Own ++ Ro) : ∃ S, A.p w S := by
  obtain ⟨O, h1, h2, h3⟩ := h.sep
  rcases List.mem_append.1 hm with hm | hm
  · obtain ⟨S, hs, _⟩ := Sep.mem h1 hm; exact ⟨S, hs⟩
  · obtain ⟨S, hs, _⟩ := h3 A hm; exact ⟨S, hs⟩
/-- Nothing old is turned. -/
theorem St.ext (h : St c w Own Ro) (hl : Like w w') (hw : ∀ b, b < w.heap.size → w'.heap[b]? = w.heap[b]?) : St c w' Own Ro := by
  obtain ⟨O, h1, h2, h3⟩ := h.sep
  have hd := Sep.dom h1
  refine ⟨h.like.trans hl, fun b hb hD => (hw b (Nat.lt_of_lt_of_le hb h.like.size)).trans (h.frame b hb hD), O, Sep.agree h1 fun b hb => hw b (hd b hb), h2, fun A hA => ?_⟩
  obtain ⟨S, k1, k2⟩ := h3 A hA
  exact ⟨S, A.loc w w' S k1 fun b hb => hw b (A.dom w S k1 b hb), k2⟩
theorem St.drew (h : St c w Own Ro) : St c w.drew Own Ro := h.ext ⟨rfl, rfl, rfl, Nat.le_succ _, Nat.le_refl _⟩ fun _ _ => rfl
/-- Nothing old is turned, and a new part is made of new blocks. -/
theorem St.add (h : St c w Own Ro) (hl : Like w w') (hw : ∀ b, b < w.heap.size → w'.heap[b]? = w.heap[b]?) (hA : ∃ S, A.p w' S ∧ ∀ b, S b → w.heap.size ≤ b) : St c w' (A :: Own) Ro := by
  have h' := h.ext hl hw
  obtain ⟨O, h1, h2, h3⟩ := h.sep
  have hd := Sep.dom h1
  obtain ⟨S, hS, hn⟩ := hA
  refine ⟨h'.like, h'.frame, fun b => S b ∨ O b, ⟨S, O, hS, Sep.agree h1 fun b hb => hw b (hd b hb), fun _ => Iff.rfl, fun b hb ho => ?_⟩, fun b hb => ?_, fun B hB => ?_⟩
  · have := hn b hb; have := hd b ho; omega
  · rcases hb with hb | hb
    · exact .inl (Nat.le_trans h.like.size (hn b hb))
    · exact h2 b hb
  · obtain ⟨T, k1, k2⟩ := h3 B hB
    refine ⟨T, B.loc w w' T k1 fun b hb => hw b (B.dom w T k1 b hb), fun b hb ho => ?_⟩
    rcases ho with ho | ho
    · have := hn b ho; have := B.dom w T k1 b hb; omega
    · exact k2 b hb ho
/-- One part is turned, and may take new blocks in. -/
theorem St.head (h : St c w (A :: Own) Ro) (hl : Like w w')
    (hstep : ∀ S, A.p w S → (∃ S', B.p w' S' ∧ ∀ b, S' b → S b ∨ w.heap.size ≤ b) ∧ ∀ b, b < w.heap.size → ¬ S b → w'.heap[b]? = w.heap[b]?) : St c w' (B :: Own) Ro := by
  obtain ⟨O, ⟨S, O', g1, g2, g3, g4⟩, h2, h3⟩ := h.sep
  obtain ⟨⟨S', hS', hn⟩, hk⟩ := hstep S g1
  have hd := Sep.dom g2
  refine ⟨h.like.trans hl, fun b hb hD => ?_, fun b => S' b ∨ O' b, ⟨S', O', hS', Sep.agree g2 fun b hb => hk b (hd b hb) (fun hs => g4 b hs hb), fun _ => Iff.rfl, fun b hb ho => ?_⟩, fun b hb => ?_, fun C hC => ?_⟩
  · have hlt := Nat.lt_of_lt_of_le hb h.like.size
    refine (hk b hlt fun hs => ?_).trans (h.frame b hb hD)
    rcases h2 b ((g3 b).2 (.inl hs)) with h | h
    · omega
    · exact hD h
  · rcases hn b hb with hs | hs
    · exact g4 b hs ho
    · have := hd b ho; omega
  · rcases hb with hb | hb
    · rcases hn b hb with hs | hs
      · exact h2 b ((g3 b).2 (.inl hs))
      · exact .inl (Nat.le_trans h.like.size hs)
    · exact h2 b ((g3 b).2 (.inr hb))
  · obtain ⟨T, k1, k2⟩ := h3 C hC
    have hT := C.dom w T k1
    refine ⟨T, C.loc w w' T k1 fun b hb => hk b (hT b hb) fun hs => k2 b hb ((g3 b).2 (.inl hs)), fun b hb ho => ?_⟩
    rcases ho with ho | ho
    · rcases hn b ho with hs | hs
      · exact k2 b hb ((g3 b).2 (.inl hs))
      · have := hT b hb; omega
    · exact k2 b hb ((g3 b).2 (.inr ho))
theorem St.drop (h : St c w (A :: Own) Ro) : St c w Own Ro := by
  obtain ⟨O, ⟨S, O', g1, g2, g3, g4⟩, h2, h3⟩ := h.sep
  refine ⟨h.like, h.frame, O', g2, fun b hb => h2 b ((g3 b).2 (.inr hb)), fun C hC => ?_⟩
  obtain ⟨T, k1, k2⟩ := h3 C hC
  exact ⟨T, k1, fun b hb ho => k2 b hb ((g3 b).2 (.inr ho))⟩
theorem St.first (h : St c w (A :: Own) Ro) : St c w [A] Ro := by
  obtain ⟨O, ⟨S, O', g1, g2, g3, g4⟩, h2, h3⟩ := h.sep
  refine ⟨h.like, h.frame, S, ⟨S, fun _ => False, g1, fun _ h => h, fun b => by simp, fun _ _ h => h⟩, fun b hb => h2 b ((g3 b).2 (.inl hb)), fun C hC => ?_⟩
  obtain ⟨T, k1, k2⟩ := h3 C hC
  exact ⟨T, k1, fun b hb ho => k2 b hb ((g3 b).2 (.inl ho))⟩
/-- What is owned is only read from now on. -/
theorem St.freeze (h : St c w (A :: Own) Ro) : St c w Own (A :: Ro) := by
  obtain ⟨O, ⟨S, O', g1, g2, g3, g4⟩, h2, h3⟩ := h.sep
  refine ⟨h.like, h.frame, O', g2, fun b hb => h2 b ((g3 b).2 (.inr hb)), fun C hC => ?_⟩
  rcases List.mem_cons.1 hC with rfl | hC
  · exact ⟨S, g1, g4⟩
  · obtain ⟨T, k1, k2⟩ := h3 C hC
    exact ⟨T, k1, fun b hb ho => k2 b hb ((g3 b).2 (.inr ho))⟩
theorem St.ro {Ro' : List Asn} (h : St c w Own Ro) (hs : ∀ A ∈ Ro', A ∈ Ro) : St c w Own Ro' := by
  obtain ⟨O, h1, h2, h3⟩ := h.sep
  exact ⟨h.like, h.frame, O, h1, h2, fun A hA => h3 A (hs A hA)⟩
/-- A part is seen as another one, in no more blocks. -/
theorem St.conv (h : St c w (A :: Own) Ro) (hc : ∀ S, A.p w S → ∃ S', B.p w S' ∧ ∀ b, S' b → S b) : St c w (B :: Own) Ro :=
  h.head (Like.refl w) fun S hS => by
    obtain ⟨S', h1, h2⟩ := hc S hS
    exact ⟨⟨S', h1, fun b hb => .inl (h2 b hb)⟩, fun _ _ _ => rfl⟩
theorem St.ro_conv (h : St c w Own Ro) (hm : A ∈ Ro) (hc : ∀ S, A.p w S → ∃ S', B.p w S' ∧ ∀ b, S' b → S b) : St c w Own (B :: Ro) := by
  obtain ⟨O, h1, h2, h3⟩ := h.sep
  refine ⟨h.like, h.frame, O, h1, h2, fun C hC => ?_⟩
  rcases List.mem_cons.1 hC with rfl | hC
  · obtain ⟨T, k1, k2⟩ := h3 A hm
    obtain ⟨S', g1, g2⟩ := hc T k1
    exact ⟨S', g1, fun b hb => k2 b (g2 b hb)⟩
  · exact h3 C hC
/-- A part is seen as two. -/
theorem St.split {B1 B2 : Asn} (h : St c w (A :: Own) Ro) (hc : ∀ S, A.p w S → ∃ S1 S2, B1.p w S1 ∧ B2.p w S2 ∧ (∀ b, S1 b → S b) ∧ (∀ b, S2 b → S b) ∧ ∀ b, S1 b → ¬ S2 b) : St c w (B1 :: B2 :: Own) Ro := by
  obtain ⟨O, ⟨S, O', g1, g2, g3, g4⟩, h2, h3⟩ := h.sep
  obtain ⟨S1, S2, k1, k2, k3, k4, k5⟩ := hc S g1
  refine ⟨h.like, h.frame, fun b => S1 b ∨ S2 b ∨ O' b, ⟨S1, fun b => S2 b ∨ O' b, k1, ⟨S2, O', k2, g2, fun _ => Iff.rfl, fun b hb => g4 b (k4 b hb)⟩, fun _ => Iff.rfl, fun b hb ho => ?_⟩, fun b hb => ?_, fun C hC => ?_⟩
  · rcases ho with ho | ho
    · exact k5 b hb ho
    · exact g4 b (k3 b hb) ho
  · rcases hb with hb | hb | hb
    · exact h2 b ((g3 b).2 (.inl (k3 b hb)))
    · exact h2 b ((g3 b).2 (.inl (k4 b hb)))
    · exact h2 b ((g3 b).2 (.inr hb))
  · obtain ⟨T, q1, q2⟩ := h3 C hC
    refine ⟨T, q1, fun b hb ho => q2 b hb ((g3 b).2 ?_)⟩
    rcases ho with ho | ho | ho
    · exact .inl (k3 b ho)
    · exact .inl (k4 b ho)
    · exact .inr ho
/-- Two parts are seen as one. -/
theorem St.join {A1 A2 : Asn} (h : St c w (A1 :: A2 :: Own) Ro) (hc : ∀ S1 S2, A1.p w S1 → A2.p w S2 → (∀ b, S1 b → ¬ S2 b) → ∃ S, B.p w S ∧ ∀ b, S b → S1 b ∨ S2 b) : St c w (B :: Own) Ro := by
  obtain ⟨O, ⟨S1, O1, g1, ⟨S2, O2, k1, k2, k3, k4⟩, g3, g4⟩, h2, h3⟩ := h.sep
  obtain ⟨S, q1, q2⟩ := hc S1 S2 g1 k1 fun b hb hb2 => g4 b hb ((k3 b).2 (.inl hb2))
  refine ⟨h.like, h.frame, fun b => S b ∨ O2 b, ⟨S, O2, q1, k2, fun _ => Iff.rfl, fun b hb ho => ?_⟩, fun b hb => ?_, fun C hC => ?_⟩
  · rcases q2 b hb with hb | hb
    · exact g4 b hb ((k3 b).2 (.inr ho))
    · exact k4 b hb ho
  · rcases hb with hb | hb
    · rcases q2 b hb with hb | hb
      · exact h2 b ((g3 b).2 (.inl hb))
      · exact h2 b ((g3 b).2 (.inr ((k3 b).2 (.inl hb))))
    · exact h2 b ((g3 b).2 (.inr ((k3 b).2 (.inr hb))))
  · obtain ⟨T, r1, r2⟩ := h3 C hC
    refine ⟨T, r1, fun b hb ho => r2 b hb ((g3 b).2 ?_)⟩
    rcases ho with ho | ho
    · rcases q2 b ho with ho | ho
      · exact .inl ho
      · exact .inr ((k3 b).2 (.inl ho))
    · exact .inr ((k3 b).2 (.inr ho))
end

/-! ### A block whose content is known -/
def blk (b : Nat) (e : Nat) (l : List Value) : Asn where
  p w S := (∀ k, S k ↔ k = b) ∧ w.heap[b]? = some (.cells l.toArray e (0, 0))
  loc := fun w w' S ⟨h1, h2⟩ hw => ⟨h1, (hw b ((h1 b).2 rfl)).trans h2⟩
  dom := fun w S ⟨h1, h2⟩ k hk => by have := (h1 k).1 hk; subst this; exact (Array.getElem?_eq_some_iff.1 h2).1

theorem St.blk_heap {c : Ctx} {w : World} {Own Ro : List Asn} {b e : Nat} {l : List Value} (h : St c w Own Ro) (hm : blk b e l ∈ Own ++ Ro) : w.heap[b]? = some (.cells l.toArray e (0, 0)) := by
  obtain ⟨S, hS⟩ := h.has hm; exact hS.2

theorem like_alloc (w : World) (o : Obj) : Like w (w.alloc o) := ⟨rfl, rfl, rfl, Nat.le_refl _, by simp⟩
theorem St.alloc {c : Ctx} {w : World} {Own Ro : List Asn} (h : St c w Own Ro) (e : Nat) (l : List Value) : St c (w.alloc (.cells l.toArray e)) (blk w.heap.size e l :: Own) Ro :=
  h.add (like_alloc _ _) (fun b hb => Go.RowKit.Below.heap_alloc _ _ _ hb) ⟨fun k => k = w.heap.size, ⟨fun _ => Iff.rfl, heap_alloc_new w _⟩, fun b hb => by omega⟩
theorem St.blk_set {c : Ctx} {w : World} {Own Ro : List Asn} {b e : Nat} {l : List Value} (h : St c w (blk b e l :: Own) Ro) (l' : List Value) : St c (w.setRow b l'.toArray) (blk b e l' :: Own) Ro :=
  h.head ⟨rfl, rfl, rfl, Nat.le_refl _, by simp⟩ fun S hS => ⟨⟨S, ⟨hS.1, setRow_heap w b _ _ e _ hS.2⟩, fun b hb => .inl hb⟩, fun k _ hk => setRow_other w b k _ fun e => hk ((hS.1 k).2 e)⟩
end Go.Proofs.Ytpenbdpgpamcbaa.Gw
