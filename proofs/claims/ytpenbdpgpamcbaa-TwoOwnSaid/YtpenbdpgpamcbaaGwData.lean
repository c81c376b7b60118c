/- How data lie in memory: readers of values, rows that are owned with all that hangs on them, slices that are read. Conditions: none; plain facts on worlds. -/
import Derived.Test.YtpenbdpgpamcbaaGwStep
set_option linter.unusedVariables false
set_option linter.unusedSimpArgs false
namespace Go.Proofs.Ytpenbdpgpamcbaa.Gw
open Go

theorem drop_app {α : Type} (a b : List α) (k : Nat) : (a ++ b).drop (a.length + k) = b.drop k := by rw [← List.drop_drop]; simp
theorem take_app {α : Type} (a b : List α) (k : Nat) : (a ++ b).take (a.length + k) = a ++ b.take k := by
  rw [List.take_append, List.take_of_length_le (Nat.le_add_right _ _)]; simp

/-- How a datum lies in cells: 'R w S x cs': in world w the cells cs tell x, in the further blocks S. -/
structure Rdr (α : Type) where
  sz : Nat
  R : World → (Nat → Prop) → α → List Value → Prop
  len : ∀ {w S x cs}, R w S x cs → cs.length = sz
  loc : ∀ {w w' S x cs}, R w S x cs → (∀ b, S b → w'.heap[b]? = w.heap[b]?) → R w' S x cs
  dom : ∀ {w S x cs}, R w S x cs → ∀ b, S b → b < w.heap.size
  one : ∀ {w S x cs}, R w S x cs → ∀ v ∈ cs, v.oneCell' = true

/-- Plain values: nothing hangs on them. -/
def Rdr.flat {α : Type} (sz : Nat) (enc : α → List Value) (hl : ∀ x, (enc x).length = sz) (h1 : ∀ x, ∀ v ∈ enc x, v.oneCell' = true) : Rdr α where
  sz := sz
  R _ S x cs := (∀ b, ¬ S b) ∧ cs = enc x
  len := fun ⟨_, h⟩ => h ▸ hl _
  loc := fun h _ => h
  dom := fun ⟨h, _⟩ b hb => (h b hb).elim
  one := fun ⟨_, h⟩ => h ▸ h1 _

def i64 : Rdr Int := Rdr.flat 1 (fun x => [.int .i64 x]) (fun _ => rfl) (fun x v hv => by simp at hv; subst hv; rfl)
def boolR : Rdr Bool := Rdr.flat 1 (fun x => [.bool x]) (fun _ => rfl) (fun x v hv => by simp at hv; subst hv; rfl)
def strR : Rdr ByteArray := Rdr.flat 1 (fun x => [.string x]) (fun _ => rfl) (fun x v hv => by simp at hv; subst hv; rfl)
/-- Whatever values, of one cell each. -/
def valR : Rdr { v : Value // v.oneCell' = true } := Rdr.flat 1 (fun x => [x.1]) (fun _ => rfl) (fun x v hv => by simp at hv; subst hv; exact x.2)

/-- Two data side by side. -/
def Rdr.pair {α β : Type} (a : Rdr α) (b : Rdr β) : Rdr (α × β) where
  sz := a.sz + b.sz
  R w S x cs := ∃ c1 c2 S1 S2, cs = c1 ++ c2 ∧ a.R w S1 x.1 c1 ∧ b.R w S2 x.2 c2 ∧ (∀ k, S k ↔ S1 k ∨ S2 k) ∧ ∀ k, S1 k → ¬ S2 k
  len := fun ⟨c1, c2, S1, S2, h, h1, h2, _, _⟩ => by rw [h, List.length_append, a.len h1, b.len h2]
  loc := fun ⟨c1, c2, S1, S2, h, h1, h2, h3, h4⟩ hw => ⟨c1, c2, S1, S2, h, a.loc h1 fun k hk => hw k ((h3 k).2 (.inl hk)), b.loc h2 fun k hk => hw k ((h3 k).2 (.inr hk)), h3, h4⟩
  dom := fun ⟨c1, c2, S1, S2, h, h1, h2, h3, h4⟩ k hk => ((h3 k).1 hk).elim (a.dom h1 k) (b.dom h2 k)
  one := fun ⟨c1, c2, S1, S2, h, h1, h2, h3, h4⟩ v hv => by rw [h] at hv; exact (List.mem_append.1 hv).elim (a.one h1 v) (b.one h2 v)

def Rdr.iso {α β : Type} (a : Rdr α) (f : β → α) : Rdr β where
  sz := a.sz
  R w S x cs := a.R w S (f x) cs
  len := a.len
  loc := a.loc
  dom := a.dom
  one := a.one

/-- A row of data: the cells one behind another, what hangs on them in blocks apart. -/
def Elems {α : Type} (r : Rdr α) (w : World) : List α → List Value → (Nat → Prop) → Prop
  | [], cs, S => cs = [] ∧ ∀ b, ¬ S b
  | x :: xs, cs, S => ∃ c1 c2 S1 S2, cs = c1 ++ c2 ∧ r.R w S1 x c1 ∧ Elems r w xs c2 S2 ∧ (∀ k, S k ↔ S1 k ∨ S2 k) ∧ ∀ k, S1 k → ¬ S2 k

section
variable {α : Type} {r : Rdr α} {w w' : World}
theorem Elems.len : ∀ {xs : List α} {cs : List Value} {S : Nat → Prop}, Elems r w xs cs S → cs.length = xs.length * r.sz
  | [], cs, S, ⟨h, _⟩ => by subst h; simp
  | x :: xs, cs, S, ⟨c1, c2, S1, S2, h, h1, h2, _, _⟩ => by rw [h, List.length_append, r.len h1, Elems.len h2, List.length_cons, Nat.add_mul, Nat.one_mul, Nat.add_comm]
theorem Elems.loc : ∀ {xs : List α} {cs : List Value} {S : Nat → Prop}, Elems r w xs cs S → (∀ b, S b → w'.heap[b]? = w.heap[b]?) → Elems r w' xs cs S
  | [], cs, S, h, _ => h
  | x :: xs, cs, S, ⟨c1, c2, S1, S2, h, h1, h2, h3, h4⟩, hw => ⟨c1, c2, S1, S2, h, r.loc h1 fun k hk => hw k ((h3 k).2 (.inl hk)), Elems.loc h2 fun k hk => hw k ((h3 k).2 (.inr hk)), h3, h4⟩
theorem Elems.dom : ∀ {xs : List α} {cs : List Value} {S : Nat → Prop}, Elems r w xs cs S → ∀ b, S b → b < w.heap.size
  | [], cs, S, ⟨_, h⟩, b, hb => (h b hb).elim
  | x :: xs, cs, S, ⟨c1, c2, S1, S2, h, h1, h2, h3, h4⟩, b, hb => ((h3 b).1 hb).elim (r.dom h1 b) (Elems.dom h2 b)
theorem Elems.one : ∀ {xs : List α} {cs : List Value} {S : Nat → Prop}, Elems r w xs cs S → ∀ v ∈ cs, v.oneCell' = true
  | [], cs, S, ⟨h, _⟩, v, hv => by subst h; cases hv
  | x :: xs, cs, S, ⟨c1, c2, S1, S2, h, h1, h2, h3, h4⟩, v, hv => by rw [h] at hv; exact (List.mem_append.1 hv).elim (r.one h1 v) (Elems.one h2 v)
theorem Elems.append : ∀ {xs ys : List α} {cs ds : List Value} {S T : Nat → Prop}, Elems r w xs cs S → Elems r w ys ds T → (∀ b, S b → ¬ T b) → Elems r w (xs ++ ys) (cs ++ ds) fun b => S b ∨ T b
  | [], ys, cs, ds, S, T, ⟨h, hs⟩, h2, hd => by
    subst h
    have : (fun b => S b ∨ T b) = T := funext fun b => propext ⟨fun h => h.resolve_left (hs b), .inr⟩
    rw [this]; exact h2
  | x :: xs, ys, cs, ds, S, T, ⟨c1, c2, S1, S2, h, h1, h2, h3, h4⟩, k, hd => by
    refine ⟨c1, c2 ++ ds, S1, fun b => S2 b ∨ T b, by rw [h, List.append_assoc], h1, Elems.append h2 k fun b hb => hd b ((h3 b).2 (.inr hb)), fun b => ?_, fun b hb hc => ?_⟩
    · show S b ∨ T b ↔ S1 b ∨ (S2 b ∨ T b)
      rw [h3 b]; constructor
      · rintro ((h | h) | h) <;> simp [h]
      · rintro (h | h | h) <;> simp [h]
    · rcases hc with hc | hc
      · exact h4 b hb hc
      · exact hd b ((h3 b).2 (.inl hb)) hc
/-- A part of a row. -/
theorem Elems.cut : ∀ {xs ys : List α} {cs : List Value} {S : Nat → Prop}, Elems r w (xs ++ ys) cs S → ∃ S1 S2, Elems r w xs (cs.take (xs.length * r.sz)) S1 ∧ Elems r w ys (cs.drop (xs.length * r.sz)) S2 ∧ (∀ k, S k ↔ S1 k ∨ S2 k) ∧ ∀ k, S1 k → ¬ S2 k
  | [], ys, cs, S, h => ⟨fun _ => False, S, ⟨by simp, fun _ h => h⟩, by simpa using h, fun k => by simp, fun k hk => hk.elim⟩
  | x :: xs, ys, cs, S, ⟨c1, c2, S1, S2, h, h1, h2, h3, h4⟩ => by
    obtain ⟨T1, T2, k1, k2, k3, k4⟩ := Elems.cut h2
    have hl : (x :: xs).length * r.sz = c1.length + xs.length * r.sz := by rw [r.len h1, List.length_cons, Nat.add_mul, Nat.one_mul, Nat.add_comm]
    refine ⟨fun b => S1 b ∨ T1 b, T2, ⟨c1, _, S1, T1, ?_, h1, k1, fun _ => Iff.rfl, fun b hb hc => h4 b hb ((k3 b).2 (.inl hc))⟩, ?_, fun b => ?_, fun b hb hc => ?_⟩
    · rw [hl, h, take_app]
    · rw [hl, h, drop_app]; exact k2
    · rw [h3 b, k3 b]; constructor
      · rintro (h | h | h) <;> simp [h]
      · rintro ((h | h) | h) <;> simp [h]
    · rcases hb with hb | hb
      · exact h4 b hb ((k3 b).2 (.inr hc))
      · exact k4 b hb hc
theorem Elems.at {xs : List α} {cs : List Value} {S : Nat → Prop} {i : Nat} {x : α} (h : Elems r w xs cs S) (hi : xs[i]? = some x) :
    ∃ S1 S2, r.R w S1 x ((cs.drop (i * r.sz)).take r.sz) ∧ Elems r w (xs.eraseIdx i) (cs.take (i * r.sz) ++ cs.drop (i * r.sz + r.sz)) S2 ∧ (∀ k, S k ↔ S1 k ∨ S2 k) ∧ ∀ k, S1 k → ¬ S2 k := by
  induction xs generalizing cs S i with
  | nil => simp at hi
  | cons y xs ih =>
    obtain ⟨c1, c2, S1, S2, h, h1, h2, h3, h4⟩ := h
    have hl := r.len h1
    cases i with
    | zero =>
      simp at hi
      subst hi
      refine ⟨S1, S2, ?_, ?_, h3, h4⟩
      · subst h; simpa [← hl] using h1
      · subst h; simpa [← hl] using h2
    | succ i =>
      simp at hi
      obtain ⟨T1, T2, k1, k2, k3, k4⟩ := ih h2 hi
      have e : (i + 1) * r.sz = c1.length + i * r.sz := by rw [hl, Nat.add_mul, Nat.one_mul, Nat.add_comm]
      refine ⟨T1, fun b => S1 b ∨ T2 b, ?_, ⟨c1, _, S1, T2, ?_, h1, k2, fun _ => Iff.rfl, fun b hb hc => h4 b hb ((k3 b).2 (.inr hc))⟩, fun b => ?_, fun b hb hc => ?_⟩
      · subst h; rw [e, drop_app]; exact k1
      · subst h
        rw [e, take_app, Nat.add_assoc, drop_app, List.append_assoc]
      · rw [h3 b, k3 b]; constructor
        · rintro (h | h | h) <;> simp [h]
        · rintro (h | h | h) <;> simp [h]
      · rcases hc with hc | hc
        · exact h4 b hc ((k3 b).2 (.inl hb))
        · exact k4 b hb hc
/-- An element gives place to another one. -/
theorem Elems.set {xs : List α} {cs : List Value} {S : Nat → Prop} {i : Nat} {x y : α} (h : Elems r w xs cs S) (hi : xs[i]? = some x) :
    ∃ S1 S2 : Nat → Prop, r.R w S1 x ((cs.drop (i * r.sz)).take r.sz) ∧ (∀ k, S k ↔ S1 k ∨ S2 k) ∧ (∀ k, S1 k → ¬ S2 k) ∧ ∀ (w' : World) (S1' : Nat → Prop) (c : List Value), r.R w' S1' y c → (∀ k, S2 k → w'.heap[k]? = w.heap[k]?) → (∀ k, S1' k → ¬ S2 k) →
      Elems r w' (xs.set i y) (cs.take (i * r.sz) ++ (c ++ cs.drop (i * r.sz + r.sz))) fun k => S1' k ∨ S2 k := by
  induction xs generalizing cs S i with
  | nil => simp at hi
  | cons z xs ih =>
    obtain ⟨c1, c2, S1, S2, h, h1, h2, h3, h4⟩ := h
    have hl := r.len h1
    cases i with
    | zero =>
      simp at hi
      subst hi
      refine ⟨S1, S2, by subst h; simpa [← hl] using h1, h3, h4, fun w' S1' c hc hw hd => ?_⟩
      refine ⟨c, c2, S1', S2, by subst h; simp [← hl], hc, Elems.loc h2 hw, fun _ => Iff.rfl, hd⟩
    | succ i =>
      simp at hi
      obtain ⟨T1, T2, k1, k2, k3, k4⟩ := ih h2 hi
      have e : (i + 1) * r.sz = c1.length + i * r.sz := by rw [hl, Nat.add_mul, Nat.one_mul, Nat.add_comm]
      refine ⟨T1, fun b => S1 b ∨ T2 b, ?_, fun b => ?_, fun b hb hc => ?_, fun w' S1' c hc hw hd => ?_⟩
      · subst h; rw [e, drop_app]; exact k1
      · rw [h3 b, k2 b]; constructor
        · rintro (h | h | h) <;> simp [h]
        · rintro (h | h | h) <;> simp [h]
      · rcases hc with hc | hc
        · exact h4 b hc ((k2 b).2 (.inl hb))
        · exact k3 b hb hc
      · have := k4 w' S1' c hc (fun k hk => hw k (.inr hk)) (fun k hk hk2 => hd k hk (.inr hk2))
        refine ⟨c1, _, S1, fun k => S1' k ∨ T2 k, ?_, r.loc h1 fun k hk => hw k (.inl hk), this, fun b => ?_, fun b hb hc => ?_⟩
        · subst h
          rw [e, take_app, Nat.add_assoc, drop_app, List.append_assoc]
        · constructor
          · rintro (h | h | h) <;> simp [h]
          · rintro (h | h | h) <;> simp [h]
        · rcases hc with hc | hc
          · exact hd b hc (.inl hb)
          · exact h4 b hb ((k2 b).2 (.inr hc))
end

/-- A slice value and its row of cells: n elements of sz cells each; owned. -/
structure RawR (e sz : Nat) (w : World) (S : Nat → Prop) (v : Value) (n : Nat) (cs : List Value) : Prop where
  len : cs.length = n * sz
  one : ∀ u ∈ cs, u.oneCell' = true
  at_ : (v = .slice none 0 0 ∧ n = 0 ∧ ∀ b, ¬ S b) ∨
    ∃ g o cap cur, v = .slice (some ⟨g, o, none⟩) n cap ∧ w.heap[g]? = some (.cells cur e (0, 0)) ∧ n ≤ cap ∧ cap ≤ maxLen ∧ o + cap * sz ≤ cur.size ∧ (cur.toList.drop o).take (n * sz) = cs ∧ ∀ b, S b ↔ b = g

section
variable {e sz : Nat} {w w' : World} {S : Nat → Prop} {v : Value} {n : Nat} {cs : List Value}
theorem RawR.loc (h : RawR e sz w S v n cs) (hw : ∀ b, S b → w'.heap[b]? = w.heap[b]?) : RawR e sz w' S v n cs := by
  refine ⟨h.len, h.one, ?_⟩
  rcases h.at_ with h | ⟨g, o, cap, cur, h1, h2, h3, h4, h5, h6, h7⟩
  · exact .inl h
  · exact .inr ⟨g, o, cap, cur, h1, (hw g ((h7 g).2 rfl)).trans h2, h3, h4, h5, h6, h7⟩
theorem RawR.dom (h : RawR e sz w S v n cs) : ∀ b, S b → b < w.heap.size := by
  rcases h.at_ with ⟨_, _, h⟩ | ⟨g, o, cap, cur, h1, h2, h3, h4, h5, h6, h7⟩
  · exact fun b hb => (h b hb).elim
  · intro b hb
    obtain rfl := (h7 b).1 hb
    exact (Array.getElem?_eq_some_iff.1 h2).1
theorem RawR.form (h : RawR e sz w S v n cs) : ∃ a cap, v = .slice a n cap ∧ n ≤ cap ∧ cap ≤ maxLen := by
  rcases h.at_ with ⟨k, rfl, _⟩ | ⟨g, o, cap, cur, h1, h2, h3, h4, _⟩
  · exact ⟨none, 0, k, Nat.le_refl _, Nat.zero_le _⟩
  · exact ⟨_, cap, h1, h3, h4⟩
theorem RawR.nil (e sz : Nat) (w : World) : RawR e sz w (fun _ => False) (.slice none 0 0) 0 [] := ⟨by simp, (fun _ h => nomatch h), .inl ⟨rfl, rfl, fun _ h => h⟩⟩
end

def raw (e sz : Nat) (v : Value) (n : Nat) (cs : List Value) : Asn where
  p w S := RawR e sz w S v n cs
  loc := fun w w' S h hw => h.loc hw
  dom := fun w S h => h.dom

/-- What hangs on the cells of a row. -/
def hang {α : Type} (r : Rdr α) (xs : List α) (cs : List Value) : Asn where
  p w S := Elems r w xs cs S
  loc := fun w w' S h hw => h.loc hw
  dom := fun w S h => h.dom

/-- A slice value, its row, and all that hangs on it: owned. -/
def OwnR {α : Type} (e : Nat) (r : Rdr α) (w : World) (S : Nat → Prop) (v : Value) (xs : List α) : Prop :=
  ∃ cs S1 S2, RawR e r.sz w S1 v xs.length cs ∧ Elems r w xs cs S2 ∧ (∀ b, S b ↔ S1 b ∨ S2 b) ∧ ∀ b, S1 b → ¬ S2 b

section
variable {α : Type} {e : Nat} {r : Rdr α} {w w' : World} {S : Nat → Prop} {v : Value} {xs : List α}
theorem OwnR.loc (h : OwnR e r w S v xs) (hw : ∀ b, S b → w'.heap[b]? = w.heap[b]?) : OwnR e r w' S v xs := by
  obtain ⟨cs, S1, S2, h1, h2, h3, h4⟩ := h
  exact ⟨cs, S1, S2, h1.loc fun b hb => hw b ((h3 b).2 (.inl hb)), h2.loc fun b hb => hw b ((h3 b).2 (.inr hb)), h3, h4⟩
theorem OwnR.dom (h : OwnR e r w S v xs) : ∀ b, S b → b < w.heap.size := by
  obtain ⟨cs, S1, S2, h1, h2, h3, h4⟩ := h
  exact fun b hb => ((h3 b).1 hb).elim (h1.dom b) (h2.dom b)
theorem OwnR.form (h : OwnR e r w S v xs) : ∃ a cap, v = .slice a xs.length cap ∧ xs.length ≤ cap ∧ cap ≤ maxLen := by
  obtain ⟨cs, S1, S2, h1, h2, h3, h4⟩ := h
  exact h1.form
theorem OwnR.nil (e : Nat) (r : Rdr α) (w : World) : OwnR e r w (fun _ => False) (.slice none 0 0) [] := ⟨[], fun _ => False, fun _ => False, RawR.nil e r.sz w, ⟨rfl, fun _ h => h⟩, fun b => by simp, fun b h => h.elim⟩
end

/-- A slice value, all of whose row is owned, as a datum. -/
def Rdr.own {α : Type} (e : Nat) (r : Rdr α) : Rdr (List α) where
  sz := 1
  R w S xs cs := ∃ v, cs = [v] ∧ OwnR e r w S v xs
  len := fun ⟨v, h, _⟩ => by rw [h]; rfl
  loc := fun ⟨v, h, h2⟩ hw => ⟨v, h, h2.loc hw⟩
  dom := fun ⟨v, h, h2⟩ => h2.dom
  one := fun ⟨v, h, h2⟩ u hu => by
    subst h
    simp at hu
    subst hu
    obtain ⟨a, cap, rfl, _⟩ := h2.form
    rfl

def row {α : Type} (e : Nat) (r : Rdr α) (v : Value) (xs : List α) : Asn where
  p w S := OwnR e r w S v xs
  loc := fun w w' S h hw => h.loc hw
  dom := fun w S h => h.dom

section
variable {α : Type} {e sz : Nat} {r : Rdr α} {c : Ctx} {w : World} {Own Ro : List Asn} {v : Value} {xs : List α} {cs : List Value}
/-- A part that tells of something: what it tells of is taken out. -/
theorem St.ex {ι : Type} {A : Asn} {B : ι → Asn} (h : St c w (A :: Own) Ro) (hc : ∀ S, A.p w S → ∃ i, (B i).p w S) : ∃ i, St c w (B i :: Own) Ro := by
  obtain ⟨O, ⟨S, O', g1, g2, g3, g4⟩, h2, h3⟩ := h.sep
  obtain ⟨i, hi⟩ := hc S g1
  exact ⟨i, h.like, h.frame, O, ⟨S, O', hi, g2, g3, g4⟩, h2, h3⟩
/-- The parts of a row: its cells, and what hangs on them. -/
theorem St.open_row (h : St c w (row e r v xs :: Own) Ro) : ∃ cs, St c w (raw e r.sz v xs.length cs :: hang r xs cs :: Own) Ro := by
  obtain ⟨O, ⟨S, O', ⟨cs, S1, S2, k1, k2, k3, k4⟩, g2, g3, g4⟩, h2, h3⟩ := h.sep
  refine ⟨cs, h.like, h.frame, O, ⟨S1, fun b => S2 b ∨ O' b, k1, ⟨S2, O', k2, g2, fun _ => Iff.rfl, fun b hb => g4 b ((k3 b).2 (.inr hb))⟩, fun b => ?_, fun b hb hc => ?_⟩, h2, h3⟩
  · rw [g3 b, k3 b]; constructor
    · rintro ((h | h) | h) <;> simp [h]
    · rintro (h | h | h) <;> simp [h]
  · rcases hc with hc | hc
    · exact k4 b hb hc
    · exact g4 b ((k3 b).2 (.inl hb)) hc
theorem St.close_row (h : St c w (raw e r.sz v xs.length cs :: hang r xs cs :: Own) Ro) : St c w (row e r v xs :: Own) Ro :=
  h.join fun S1 S2 h1 h2 hd => ⟨fun b => S1 b ∨ S2 b, ⟨cs, S1, S2, h1, h2, fun _ => Iff.rfl, hd⟩, fun b hb => hb⟩
theorem St.open_raw {n : Nat} (h : St c w (raw e sz v n cs :: Own) Ro) : (v = .slice none 0 0 ∧ n = 0 ∧ cs = [] ∧ St c w Own Ro) ∨
    ∃ g o cap cur, v = .slice (some ⟨g, o, none⟩) n cap ∧ St c w (blk g e cur :: Own) Ro ∧ (cur.drop o).take (n * sz) = cs ∧ n ≤ cap ∧ cap ≤ maxLen ∧ o + cap * sz ≤ cur.length := by
  obtain ⟨O, ⟨S, O', g1, g2, g3, g4⟩, h2, h3⟩ := h.sep
  have hl := g1.len
  rcases g1.at_ with ⟨k1, k2, k3⟩ | ⟨g, o, cap, cur, k1, k2, k3, k4, k5, k6, k7⟩
  · refine .inl ⟨k1, k2, List.eq_nil_of_length_eq_zero (by rw [hl, k2, Nat.zero_mul]), h.drop⟩
  · exact .inr ⟨g, o, cap, cur.toList, k1, ⟨h.like, h.frame, O, ⟨S, O', ⟨k7, by simpa using k2⟩, g2, g3, g4⟩, h2, h3⟩, k6, k3, k4, by simpa using k5⟩
theorem St.raw_len {n : Nat} (h : St c w (raw e sz v n cs :: Own) Ro) : cs.length = n * sz ∧ (∀ u ∈ cs, u.oneCell' = true) ∧ ∃ a cap, v = .slice a n cap ∧ n ≤ cap ∧ cap ≤ maxLen := by
  obtain ⟨O, ⟨S, O', g1, g2, g3, g4⟩, h2, h3⟩ := h.sep
  exact ⟨g1.len, g1.one, g1.form⟩
theorem St.close_raw {n g o cap : Nat} {cur : List Value} (h : St c w (blk g e cur :: Own) Ro) (h1 : n ≤ cap) (h2 : cap ≤ maxLen) (h3 : o + cap * sz ≤ cur.length) (h4 : (cur.drop o).take (n * sz) = cs) (h5 : ∀ u ∈ cs, u.oneCell' = true) : St c w (raw e sz (.slice (some ⟨g, o, none⟩) n cap) n cs :: Own) Ro := by
  refine h.conv fun S hS => ⟨S, ⟨?_, h5, .inr ⟨g, o, cap, cur.toArray, rfl, hS.2, h1, h2, by simpa using h3, by simpa using h4, hS.1⟩⟩, fun b hb => hb⟩
  rw [← h4, List.length_take, List.length_drop]
  have := Nat.mul_le_mul_right sz h1
  omega
theorem St.add_nil (h : St c w Own Ro) (e : Nat) (r : Rdr α) : St c w (row e r (.slice none 0 0) [] :: Own) Ro :=
  h.add (Like.refl w) (fun _ _ => rfl) ⟨fun _ => False, OwnR.nil e r w, fun _ h => h.elim⟩
theorem St.add_nil_raw (h : St c w Own Ro) (e sz : Nat) : St c w (raw e sz (.slice none 0 0) 0 [] :: Own) Ro :=
  h.add (Like.refl w) (fun _ _ => rfl) ⟨fun _ => False, RawR.nil e sz w, fun _ h => h.elim⟩
end

/-! ### What is only read: in whatever blocks, shared or not -/
def Seen {α : Type} (r : Rdr α) (w : World) (S : Nat → Prop) (x : α) (cs : List Value) : Prop := ∃ S', r.R w S' x cs ∧ ∀ b, S' b → S b

def SeenL {α : Type} (r : Rdr α) (w : World) (S : Nat → Prop) : List α → List Value → Prop
  | [], cs => cs = []
  | x :: xs, cs => ∃ c1 c2, cs = c1 ++ c2 ∧ Seen r w S x c1 ∧ SeenL r w S xs c2

section
variable {α : Type} {r : Rdr α} {w w' : World} {S : Nat → Prop}
theorem Seen.len {x : α} {cs : List Value} (h : Seen r w S x cs) : cs.length = r.sz := by obtain ⟨S', h, _⟩ := h; exact r.len h
theorem Seen.loc {x : α} {cs : List Value} (h : Seen r w S x cs) (hw : ∀ b, S b → w'.heap[b]? = w.heap[b]?) : Seen r w' S x cs := by obtain ⟨S', h, hs⟩ := h; exact ⟨S', r.loc h fun b hb => hw b (hs b hb), hs⟩
theorem Seen.one {x : α} {cs : List Value} (h : Seen r w S x cs) : ∀ v ∈ cs, v.oneCell' = true := by obtain ⟨S', h, hs⟩ := h; exact r.one h
theorem Seen.mono {S2 : Nat → Prop} {x : α} {cs : List Value} (h : Seen r w S x cs) (hs : ∀ b, S b → S2 b) : Seen r w S2 x cs := by obtain ⟨S', h, h2⟩ := h; exact ⟨S', h, fun b hb => hs b (h2 b hb)⟩
theorem SeenL.len : ∀ {xs : List α} {cs : List Value}, SeenL r w S xs cs → cs.length = xs.length * r.sz
  | [], cs, h => by simp only [SeenL] at h; subst h; simp
  | x :: xs, cs, ⟨c1, c2, h, h1, h2⟩ => by rw [h, List.length_append, h1.len, SeenL.len h2, List.length_cons, Nat.add_mul, Nat.one_mul, Nat.add_comm]
theorem SeenL.loc : ∀ {xs : List α} {cs : List Value}, SeenL r w S xs cs → (∀ b, S b → w'.heap[b]? = w.heap[b]?) → SeenL r w' S xs cs
  | [], cs, h, _ => h
  | x :: xs, cs, ⟨c1, c2, h, h1, h2⟩, hw => ⟨c1, c2, h, h1.loc hw, SeenL.loc h2 hw⟩
theorem SeenL.mono {S2 : Nat → Prop} : ∀ {xs : List α} {cs : List Value}, SeenL r w S xs cs → (∀ b, S b → S2 b) → SeenL r w S2 xs cs
  | [], cs, h, _ => h
  | x :: xs, cs, ⟨c1, c2, h, h1, h2⟩, hw => ⟨c1, c2, h, h1.mono hw, SeenL.mono h2 hw⟩
theorem SeenL.one : ∀ {xs : List α} {cs : List Value}, SeenL r w S xs cs → ∀ v ∈ cs, v.oneCell' = true
  | [], cs, h, v, hv => by simp only [SeenL] at h; subst h; cases hv
  | x :: xs, cs, ⟨c1, c2, h, h1, h2⟩, v, hv => by rw [h] at hv; exact (List.mem_append.1 hv).elim (h1.one v) (SeenL.one h2 v)
theorem SeenL.at : ∀ {xs : List α} {cs : List Value} {i : Nat} {x : α}, SeenL r w S xs cs → xs[i]? = some x → Seen r w S x ((cs.drop (i * r.sz)).take r.sz)
  | [], cs, i, x, h, hi => by simp at hi
  | y :: xs, cs, 0, x, ⟨c1, c2, h, h1, h2⟩, hi => by simp at hi; subst hi; subst h; simpa [← h1.len] using h1
  | y :: xs, cs, i + 1, x, ⟨c1, c2, h, h1, h2⟩, hi => by
    simp at hi
    have e : (i + 1) * r.sz = c1.length + i * r.sz := by rw [h1.len, Nat.add_mul, Nat.one_mul, Nat.add_comm]
    subst h
    rw [e, drop_app]
    exact SeenL.at h2 hi
theorem SeenL.drop : ∀ {xs : List α} {cs : List Value} (i : Nat), SeenL r w S xs cs → SeenL r w S (xs.drop i) (cs.drop (i * r.sz))
  | xs, cs, 0, h => by simpa using h
  | [], cs, i + 1, h => by simp only [SeenL] at h; subst h; simp [SeenL]
  | y :: xs, cs, i + 1, ⟨c1, c2, h, h1, h2⟩ => by
    have e : (i + 1) * r.sz = c1.length + i * r.sz := by rw [h1.len, Nat.add_mul, Nat.one_mul, Nat.add_comm]
    subst h
    rw [e, drop_app]
    exact SeenL.drop i h2
theorem SeenL.take : ∀ {xs : List α} {cs : List Value} (i : Nat), SeenL r w S xs cs → SeenL r w S (xs.take i) (cs.take (i * r.sz))
  | xs, cs, 0, h => by simp [SeenL]
  | [], cs, i + 1, h => by simp only [SeenL] at h; subst h; simp [SeenL]
  | y :: xs, cs, i + 1, ⟨c1, c2, h, h1, h2⟩ => by
    have e : (i + 1) * r.sz = c1.length + i * r.sz := by rw [h1.len, Nat.add_mul, Nat.one_mul, Nat.add_comm]
    subst h
    rw [e, take_app]
    exact ⟨c1, c2.take (i * r.sz), rfl, h1, SeenL.take i h2⟩
theorem Elems.seen : ∀ {xs : List α} {cs : List Value} {S : Nat → Prop}, Elems r w xs cs S → SeenL r w S xs cs
  | [], cs, S, ⟨h, _⟩ => h
  | x :: xs, cs, S, ⟨c1, c2, S1, S2, h, h1, h2, h3, h4⟩ => ⟨c1, c2, h, ⟨S1, h1, fun b hb => (h3 b).2 (.inl hb)⟩, (Elems.seen h2).mono fun b hb => (h3 b).2 (.inr hb)⟩
end

/-- A slice that is read. -/
structure ReadR {α : Type} (r : Rdr α) (w : World) (S : Nat → Prop) (a : Option Addr) (cap : Nat) (xs : List α) : Prop where
  le : xs.length ≤ cap
  max : cap ≤ maxLen
  dom : ∀ b, S b → b < w.heap.size
  at_ : xs ≠ [] → ∃ b o cur e fr, a = some ⟨b, o, none⟩ ∧ S b ∧ w.heap[b]? = some (.cells cur e fr) ∧ o + xs.length * r.sz ≤ cur.size ∧ SeenL r w S xs ((cur.toList.drop o).take (xs.length * r.sz))
theorem ReadR.loc {α : Type} {r : Rdr α} {w w' : World} {S : Nat → Prop} {a : Option Addr} {cap : Nat} {xs : List α} (h : ReadR r w S a cap xs) (hw : ∀ b, S b → w'.heap[b]? = w.heap[b]?) : ReadR r w' S a cap xs := by
  refine ⟨h.le, h.max, fun b hb => ?_, fun hx => ?_⟩
  · have hlt := h.dom b hb
    have hg : w.heap[b]? = some w.heap[b] := Array.getElem?_eq_getElem hlt
    have := hw b hb
    rw [hg] at this
    exact (Array.getElem?_eq_some_iff.1 this).1
  · obtain ⟨b, o, cur, e, fr, h1, h2, h3, h4, h5⟩ := h.at_ hx
    exact ⟨b, o, cur, e, fr, h1, h2, (hw b h2).trans h3, h4, h5.loc hw⟩

def rd {α : Type} (r : Rdr α) (a : Option Addr) (cap : Nat) (xs : List α) : Asn where
  p w S := ReadR r w S a cap xs
  loc := fun w w' S h hw => h.loc hw
  dom := fun w S h => h.dom

/-- A slice as a datum that is read. -/
def Rdr.rd {α : Type} (r : Rdr α) : Rdr (List α) where
  sz := 1
  R w S xs cs := ∃ a cap, cs = [.slice a xs.length cap] ∧ ReadR r w S a cap xs
  len := fun ⟨a, cap, h, _⟩ => by rw [h]; rfl
  loc := fun ⟨a, cap, h, h2⟩ hw => ⟨a, cap, h, h2.loc hw⟩
  dom := fun ⟨a, cap, h, h2⟩ => h2.dom
  one := fun ⟨a, cap, h, h2⟩ u hu => by subst h; simp at hu; subst hu; rfl
end Go.Proofs.Ytpenbdpgpamcbaa.Gw
