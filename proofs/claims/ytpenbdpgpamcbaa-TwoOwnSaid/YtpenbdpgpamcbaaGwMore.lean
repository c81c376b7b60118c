/- Calls that turn nothing old; reading slices and rows; elements. Conditions: each fact's own premises. -/
import Derived.Test.YtpenbdpgpamcbaaGwRows
set_option linter.unusedVariables false
set_option linter.unusedSimpArgs false
namespace Go.Proofs.Ytpenbdpgpamcbaa.Gw
open Go

/-- Nothing old is turned. -/
structure Pure (w w' : World) : Prop where
  like : Like w w'
  same : ∀ b, b < w.heap.size → w'.heap[b]? = w.heap[b]?
theorem Pure.refl (w : World) : Pure w w := ⟨Like.refl w, fun _ _ => rfl⟩
theorem Pure.trans {a b c : World} (h : Pure a b) (k : Pure b c) : Pure a c := ⟨h.like.trans k.like, fun i hi => (k.same i (Nat.lt_of_lt_of_le hi h.like.size)).trans (h.same i hi)⟩

theorem Pure.drew (w : World) : Pure w w.drew := ⟨⟨rfl, rfl, rfl, Nat.le_succ _, Nat.le_refl _⟩, fun _ _ => rfl⟩

def Holds (w : World) (A : Asn) : Prop := ∃ S, A.p w S
theorem Holds.pure {w w' : World} {A : Asn} (h : Holds w A) (hp : Pure w w') : Holds w' A := by
  obtain ⟨S, hS⟩ := h
  exact ⟨S, A.loc w w' S hS fun b hb => hp.same b (A.dom w S hS b hb)⟩

theorem cell_pure {w w' : World} {a : Addr} {v : Value} (hp : Pure w w') (h : w.cell? a = some v) : w'.cell? a = some v := by
  unfold World.cell? at h ⊢
  have hlt : a.block < w.heap.size := by
    rcases Nat.lt_or_ge a.block w.heap.size with h' | h'
    · exact h'
    · rw [Array.getElem?_eq_none h'] at h; cases h
  rw [hp.same _ hlt]; exact h
theorem CellsAt.pure {w w' : World} {a : Addr} {cs : List Value} (h : CellsAt w a cs) (hp : Pure w w') : CellsAt w' a cs := fun j v hj => cell_pure hp (h j v hj)
theorem Shows.pure {w w' : World} {a : Option Addr} {sz m : Nat} {cs : List Value} (h : Shows w sz a m cs) (hp : Pure w w') : Shows w' sz a m cs := ⟨h.1, h.2.1, h.2.2.imp id fun ⟨b, hb, hc⟩ => ⟨b, hb, hc.pure hp⟩⟩

def at0 (w : World) : Ctx := ⟨w, fun _ => False⟩

section
variable {c : Ctx} {w w' : World} {Own Ro : List Asn}
theorem St.start (Ro : List Asn) (h : ∀ A ∈ Ro, Holds w A) : St (at0 w) w [] Ro :=
  ⟨Like.refl w, fun _ _ _ => rfl, fun _ => False, fun _ h => h, fun _ h => h.elim, fun A hA => by obtain ⟨S, hS⟩ := h A hA; exact ⟨S, hS, fun _ _ h => h⟩⟩
theorem St.pure (h : St (at0 w) w' Own Ro) : Pure w w' := ⟨h.like, fun b hb => h.frame b hb fun h => h⟩
theorem St.holds {A : Asn} (h : St c w Own Ro) (hm : A ∈ Own ++ Ro) : Holds w A := h.has hm
theorem St.after (h : St c w Own Ro) (hp : Pure w w') : St c w' Own Ro := h.ext hp.like hp.same
/-- What a call that turns nothing old has made is taken over. -/
theorem St.take {L Ro' : List Asn} (h : St c w Own Ro) (k : St (at0 w) w' L Ro') : St c w' (L ++ Own) Ro := by
  have hp := k.pure
  obtain ⟨O, h1, h2, h3⟩ := k.sep
  have key : ∀ (L : List Asn) (O : Nat → Prop), Sep w' L O → (∀ b, O b → w.heap.size ≤ b) → St c w' (L ++ Own) Ro := by
    intro L
    induction L with
    | nil => intro O _ _; exact h.after hp
    | cons A L ih =>
      intro O ⟨S, O', g1, g2, g3, g4⟩ hO
      have hL := ih O' g2 fun b hb => hO b ((g3 b).2 (.inr hb))
      obtain ⟨O1, k1, k2, k3⟩ := hL.sep
      -- the parts of Own lie in old blocks, those of L in O'
      have old : ∃ O2, Sep w' (L ++ Own) O2 ∧ (∀ b, O2 b → O' b ∨ b < w.heap.size) ∧ (∀ b, O2 b → c.w0.heap.size ≤ b ∨ c.D b) ∧ ∀ A ∈ Ro, ∃ S, A.p w' S ∧ (∀ b, S b → ¬ O2 b) ∧ ∀ b, S b → b < w.heap.size := by
        obtain ⟨Oo, q1, q2, q3⟩ := h.sep
        have qd := Sep.dom q1
        have qa := Sep.agree q1 fun b hb => hp.same b (qd b hb)
        have app : ∀ (L : List Asn) (O' : Nat → Prop), Sep w' L O' → (∀ b, O' b → w.heap.size ≤ b) → Sep w' (L ++ Own) fun b => O' b ∨ Oo b := by
          intro L
          induction L with
          | nil =>
            intro O' hn _
            exact Sep.congr qa fun b => ⟨fun h => h.resolve_left (hn b), .inr⟩
          | cons B L ih =>
            intro O' ⟨S, O'', r1, r2, r3, r4⟩ hO'
            refine ⟨S, _, r1, ih O'' r2 fun b hb => hO' b ((r3 b).2 (.inr hb)), fun b => ?_, fun b hb hc => ?_⟩
            · show O' b ∨ Oo b ↔ S b ∨ (O'' b ∨ Oo b)
              rw [r3 b]; constructor
              · rintro ((h | h) | h) <;> simp [h]
              · rintro (h | h | h) <;> simp [h]
            · rcases hc with hc | hc
              · exact r4 b hb hc
              · have := hO' b ((r3 b).2 (.inl hb)); have := qd b hc; omega
        have hO'f : ∀ b, O' b → w.heap.size ≤ b := fun b hb => hO b ((g3 b).2 (.inr hb))
        refine ⟨_, app L O' g2 hO'f, fun b hb => hb.imp id fun h => qd b h, fun b hb => ?_, fun A hA => ?_⟩
        · rcases hb with hb | hb
          · exact .inl (Nat.le_trans h.like.size (hO'f b hb))
          · exact q2 b hb
        · obtain ⟨S, s1, s2⟩ := q3 A hA
          have sd := A.dom w S s1
          refine ⟨S, A.loc w w' S s1 fun b hb => hp.same b (sd b hb), fun b hb hc => ?_, sd⟩
          rcases hc with hc | hc
          · have := hO'f b hc; have := sd b hb; omega
          · exact s2 b hb hc
      obtain ⟨O2, o1, o2, o3, o4⟩ := old
      have hS : ∀ b, S b → w.heap.size ≤ b := fun b hb => hO b ((g3 b).2 (.inl hb))
      refine ⟨hL.like, hL.frame, fun b => S b ∨ O2 b, ⟨S, O2, g1, o1, fun _ => Iff.rfl, fun b hb hc => ?_⟩, fun b hb => ?_, fun A hA => ?_⟩
      · rcases o2 b hc with hc | hc
        · exact g4 b hb hc
        · have := hS b hb; omega
      · rcases hb with hb | hb
        · exact .inl (Nat.le_trans h.like.size (hS b hb))
        · exact o3 b hb
      · obtain ⟨S', s1, s2, s3⟩ := o4 A hA
        refine ⟨S', s1, fun b hb hc => ?_⟩
        rcases hc with hc | hc
        · have := hS b hc; have := s3 b hb; omega
        · exact s2 b hb hc
  exact key L O h1 fun b hb => (h2 b hb).resolve_right fun h => h
end

/-! ### Reading slices -/
section
variable {α : Type} {rr : Rdr α} {w : World} {a : Option Addr} {cap : Nat} {xs : List α}
theorem Holds.le (h : Holds w (rd rr a cap xs)) : xs.length ≤ cap ∧ cap ≤ maxLen := by obtain ⟨S, hS⟩ := h; exact ⟨hS.le, hS.max⟩
theorem Holds.addr (h : Holds w (rd rr a cap xs)) (hn : 0 < xs.length) : ∃ b o, a = some ⟨b, o, none⟩ := by
  obtain ⟨S, hS⟩ := h
  obtain ⟨b, o, _, _, _, h1, _⟩ := hS.at_ (by intro e; subst e; simp at hn)
  exact ⟨b, o, h1⟩
/-- The cells of an element. -/
theorem Holds.elem {b o i : Nat} {x : α} (h : Holds w (rd rr (some ⟨b, o, none⟩) cap xs)) (hi : xs[i]? = some x) : ∃ S cs, Seen rr w S x cs ∧ CellsAt w ⟨b, o + i * rr.sz, none⟩ cs ∧ (∀ b, S b → b < w.heap.size) := by
  obtain ⟨S, hS⟩ := h
  have hlt := (List.getElem?_eq_some_iff.1 hi).1
  obtain ⟨b', o', cur, e, fr, h1, h2, h3, h4, h5⟩ := hS.at_ (by intro e; subst e; simp at hlt)
  simp only [Option.some.injEq, Addr.mk.injEq] at h1
  obtain ⟨rfl, rfl, _⟩ := h1
  have hs := h5.at hi
  refine ⟨S, _, hs, ?_, hS.dom⟩
  intro j v hj
  rw [Addr.add_lit, cell_of_row w b _ cur e fr h3]
  have hlen := hs.len
  have hj' : j < rr.sz := by rw [← hlen]; exact (List.getElem?_eq_some_iff.1 hj).1
  rw [List.getElem?_take, if_pos hj', List.getElem?_drop, List.getElem?_take] at hj
  split at hj
  · rw [List.getElem?_drop] at hj
    rw [← Array.getElem?_toList, ← hj]
    congr 1
    omega
  · cases hj
theorem Holds.shows (h : Holds w (rd rr a cap xs)) : ∃ cs S, Shows w rr.sz a xs.length cs ∧ SeenL rr w S xs cs ∧ ∀ b, S b → b < w.heap.size := by
  obtain ⟨S, hS⟩ := h
  by_cases hx : xs = []
  · subst hx; exact ⟨[], S, ⟨by simp, (fun _ h => nomatch h), .inl rfl⟩, rfl, hS.dom⟩
  · obtain ⟨b, o, cur, e, fr, h1, h2, h3, h4, h5⟩ := hS.at_ hx
    refine ⟨_, S, ⟨h5.len, h5.one, .inr ⟨_, h1, ?_⟩⟩, h5, hS.dom⟩
    intro j v hj
    rw [Addr.add_lit, cell_of_row w b _ cur e fr h3]
    rw [List.getElem?_take] at hj
    split at hj
    · rw [List.getElem?_drop] at hj
      rw [← Array.getElem?_toList]; exact hj
    · cases hj
theorem ReadR.take {S : Nat → Prop} {i : Nat} (hS : ReadR rr w S a cap xs) (hi : i ≤ xs.length) : ReadR rr w S a cap (xs.take i) := by
  refine ⟨by rw [List.length_take]; have := hS.le; omega, hS.max, hS.dom, fun hx => ?_⟩
  have hne : xs ≠ [] := by intro e; subst e; simp at hx
  obtain ⟨b, o, cur, e, fr, h1, h2, h3, h4, h5⟩ := hS.at_ hne
  have hl : (xs.take i).length = i := by rw [List.length_take]; omega
  refine ⟨b, o, cur, e, fr, h1, h2, h3, ?_, ?_⟩
  · rw [hl]; have := Nat.mul_le_mul_right rr.sz hi; omega
  · have := h5.take i
    rw [List.take_take] at this
    rw [hl]
    rwa [Nat.min_eq_left (Nat.mul_le_mul_right rr.sz hi)] at this
theorem Holds.take {i : Nat} (h : Holds w (rd rr a cap xs)) (hi : i ≤ xs.length) : Holds w (rd rr a cap (xs.take i)) := by
  obtain ⟨S, hS⟩ := h; exact ⟨S, ReadR.take hS hi⟩
/-- Where a slice lies that is cut at i. -/
@[reducible] def cutA (a : Option Addr) (cap i sz : Nat) : Option Addr := if cap = i then a else a.map (·.add (i * sz))
/-- 'xs[i:]' at the address that the walk gives it. -/
theorem ReadR.drop {S : Nat → Prop} {i : Nat} (hS : ReadR rr w S a cap xs) (hi : i ≤ xs.length) : ReadR rr w S (cutA a cap i rr.sz) (cap - i) (xs.drop i) := by
  have hle := hS.le
  refine ⟨by rw [List.length_drop]; omega, by have := hS.max; omega, hS.dom, fun hx => ?_⟩
  have hlt : i < xs.length := by
    rcases Nat.lt_or_ge i xs.length with h | h
    · exact h
    · exact absurd (List.drop_of_length_le h) hx
  have hne : xs ≠ [] := by intro e; subst e; simp at hlt
  obtain ⟨b, o, cur, e, fr, h1, h2, h3, h4, h5⟩ := hS.at_ hne
  have hm : i * rr.sz + (xs.drop i).length * rr.sz = xs.length * rr.sz := by rw [← Nat.add_mul, List.length_drop]; congr 1; omega
  refine ⟨b, o + i * rr.sz, cur, e, fr, ?_, h2, h3, by omega, ?_⟩
  · rw [cutA, if_neg (by omega), h1]; simp [Addr.add_lit]
  · have := h5.drop i
    rw [List.drop_take, List.drop_drop] at this
    rwa [show xs.length * rr.sz - i * rr.sz = (xs.drop i).length * rr.sz by omega] at this
theorem Holds.drop {i : Nat} (h : Holds w (rd rr a cap xs)) (hi : i ≤ xs.length) : Holds w (rd rr (cutA a cap i rr.sz) (cap - i) (xs.drop i)) := by
  obtain ⟨S, hS⟩ := h; exact ⟨S, ReadR.drop hS hi⟩
/-- A cut of what is read is read. -/
theorem St.roDrop {c : Ctx} {Own Ro : List Asn} {i : Nat} (h : St c w Own Ro) (hm : rd rr a cap xs ∈ Ro) (hi : i ≤ xs.length) : St c w Own (rd rr (cutA a cap i rr.sz) (cap - i) (xs.drop i) :: Ro) :=
  h.ro_conv hm fun S hS => ⟨S, ReadR.drop hS hi, fun _ h => h⟩
theorem St.roTake {c : Ctx} {Own Ro : List Asn} {i : Nat} (h : St c w Own Ro) (hm : rd rr a cap xs ∈ Ro) (hi : i ≤ xs.length) : St c w Own (rd rr a cap (xs.take i) :: Ro) :=
  h.ro_conv hm fun S hS => ⟨S, ReadR.take hS hi, fun _ h => h⟩
end

/-! ### A flat reader: what its cells are -/
section
variable {α : Type} {sz : Nat} {enc : α → List Value} {hl : ∀ x, (enc x).length = sz} {h1 : ∀ x, ∀ v ∈ enc x, v.oneCell' = true} {w : World}
theorem seen_flat {S : Nat → Prop} {x : α} {cs : List Value} (h : Seen (Rdr.flat sz enc hl h1) w S x cs) : cs = enc x := by obtain ⟨S', h, _⟩ := h; exact h.2
theorem seenL_flat {S : Nat → Prop} : ∀ {xs : List α} {cs : List Value}, SeenL (Rdr.flat sz enc hl h1) w S xs cs → cs = xs.flatMap enc
  | [], cs, h => by simp only [SeenL] at h; simp [h]
  | x :: xs, cs, ⟨c1, c2, h, k1, k2⟩ => by rw [h, seen_flat k1, seenL_flat k2]; rfl
theorem elems_flat : ∀ {xs : List α} {cs : List Value} {S : Nat → Prop}, Elems (Rdr.flat sz enc hl h1) w xs cs S → cs = xs.flatMap enc ∧ ∀ b, ¬ S b
  | [], cs, S, ⟨h, hs⟩ => ⟨by simp [h], hs⟩
  | x :: xs, cs, S, ⟨c1, c2, S1, S2, h, k1, k2, k3, k4⟩ => by
    obtain ⟨e, hs⟩ := elems_flat k2
    exact ⟨by rw [h, k1.2, e]; rfl, fun b hb => ((k3 b).1 hb).elim (k1.1 b) (hs b)⟩
theorem flat_elems : ∀ (xs : List α), Elems (Rdr.flat sz enc hl h1) w xs (xs.flatMap enc) fun _ => False
  | [] => ⟨rfl, fun _ h => h⟩
  | x :: xs => ⟨enc x, xs.flatMap enc, fun _ => False, fun _ => False, rfl, ⟨fun _ h => h, rfl⟩, flat_elems xs, fun b => by simp, fun b h => h.elim⟩
theorem flatMap_len (hl : ∀ x, (enc x).length = sz) : ∀ (xs : List α), (xs.flatMap enc).length = xs.length * sz
  | [] => by simp
  | x :: xs => by rw [List.flatMap_cons, List.length_append, hl, flatMap_len hl xs, List.length_cons, Nat.add_mul, Nat.one_mul, Nat.add_comm]
theorem flatMap_at (hl : ∀ x, (enc x).length = sz) : ∀ (xs : List α) (i : Nat) (x : α), xs[i]? = some x → ((xs.flatMap enc).drop (i * sz)).take sz = enc x
  | [], i, x, h => by simp at h
  | y :: xs, 0, x, h => by simp at h; subst h; simp [← hl y]
  | y :: xs, i + 1, x, h => by
    simp at h
    rw [List.flatMap_cons, show (i + 1) * sz = (enc y).length + i * sz by rw [hl, Nat.add_mul, Nat.one_mul, Nat.add_comm], drop_app]
    exact flatMap_at hl xs i x h
variable {c : Ctx} {Own Ro : List Asn} {e n : Nat} {v : Value} {xs : List α}
/-- A row of plain values and its cells are one thing. -/
theorem St.flat_open (h : St c w (row e (Rdr.flat sz enc hl h1) v xs :: Own) Ro) : St c w (raw e sz v xs.length (xs.flatMap enc) :: Own) Ro := by
  refine h.conv fun S hS => ?_
  obtain ⟨cs, S1, S2, k1, k2, k3, k4⟩ := hS
  obtain ⟨rfl, hn⟩ := elems_flat k2
  exact ⟨S1, k1, fun b hb => (k3 b).2 (.inl hb)⟩
theorem St.flat_close (h : St c w (raw e sz v xs.length (xs.flatMap enc) :: Own) Ro) : St c w (row e (Rdr.flat sz enc hl h1) v xs :: Own) Ro :=
  h.conv fun S hS => ⟨S, ⟨_, S, fun _ => False, hS, flat_elems xs, fun b => by simp, fun b _ h => h⟩, fun b hb => hb⟩
end

/-! ### What is owned can be read -/
theorem raw_shows {e sz n : Nat} {w : World} {v : Value} {cs : List Value} (h : Holds w (raw e sz v n cs)) : ∃ a cap, v = .slice a n cap ∧ n ≤ cap ∧ cap ≤ maxLen ∧ Shows w sz a n cs := by
  obtain ⟨S, hS⟩ := h
  obtain ⟨a, cap, rfl, h1, h2⟩ := hS.form
  refine ⟨a, cap, rfl, h1, h2, hS.len, hS.one, ?_⟩
  rcases hS.at_ with ⟨_, h, _⟩ | ⟨g, o, cap', cur, k1, k2, k3, k4, k5, k6, k7⟩
  · exact .inl h
  · simp only [Value.slice.injEq] at k1
    refine .inr ⟨_, k1.1, ?_⟩
    refine cellsAt_list (l := cur.toList) (by simpa using k2) ?_
    rw [hS.len]; exact k6
theorem row_rd {α : Type} {e : Nat} {rr : Rdr α} {w : World} {v : Value} {xs : List α} (h : Holds w (row e rr v xs)) : ∃ a cap, v = .slice a xs.length cap ∧ Holds w (rd rr a cap xs) := by
  obtain ⟨S, cs, S1, S2, h1, h2, h3, h4⟩ := h
  obtain ⟨a, cap, rfl, hc, hm⟩ := h1.form
  refine ⟨a, cap, rfl, fun b => S1 b ∨ S2 b, hc, hm, fun b hb => hb.elim (h1.dom b) (h2.dom b), fun hx => ?_⟩
  rcases h1.at_ with ⟨_, h, _⟩ | ⟨g, o, cap', cur, k1, k2, k3, k4, k5, k6, k7⟩
  · exact absurd (List.eq_nil_of_length_eq_zero h) hx
  · simp only [Value.slice.injEq] at k1
    obtain ⟨rfl, _, rfl⟩ := k1
    refine ⟨g, o, cur, e, (0, 0), rfl, .inl ((k7 g).2 rfl), k2, ?_, ?_⟩
    · have := Nat.mul_le_mul_right rr.sz hc; omega
    · rw [k6]; exact h2.seen.mono fun b hb => .inr hb

/-! ### Elements of plain values -/
section
variable {P : Program} {T : List TI} {r : Env} {o : Oper} {w : World} {K : Value → World → Prop} {α : Type} {sz : Nat} {enc : α → List Value} {hl : ∀ x, (enc x).length = sz} {h1 : ∀ x, ∀ v ∈ enc x, v.oneCell' = true}
theorem flat_cells {b o' i cap : Nat} {xs : List α} {x : α} (h : Holds w (rd (Rdr.flat sz enc hl h1) (some ⟨b, o', none⟩) cap xs)) (hi : xs[i]? = some x) : CellsAt w ⟨b, o' + i * sz, none⟩ (enc x) := by
  obtain ⟨S, cs, k1, k2, _⟩ := h.elem hi
  rw [seen_flat k1] at k2
  exact k2
/-- A whole element of a slice that is read. -/
theorem OpW.elemA (hT : TabOk P T) {t b o' i cap : Nat} {x : Operand} {ti : TI} {xs : List α} {y : α} (ho : o.op = .load t x) {off : Nat} (hx : Env.ev r x = some (.pointer (some ⟨b, off, none⟩))) (ht : nth T t = some ti) (hs : aggK ti.k = true)
    (h : Holds w (rd (Rdr.flat sz enc hl h1) (some ⟨b, o', none⟩) cap xs)) (hi : xs[i]? = some y) (hsz : ti.size = sz) (hoff : off = o' + i * sz) (hK : K (.agg (enc y).toArray) w) : OpW P o r w K :=
  OpW.loadcs hT ho hx ht hs (by rw [hl, hsz]) (by rw [hoff]; exact flat_cells h hi) hK
/-- One cell of an element. -/
theorem OpW.elem1 (hT : TabOk P T) {t b o' i j cap : Nat} {x : Operand} {ti : TI} {xs : List α} {y : α} {v : Value} (ho : o.op = .load t x) {off : Nat} (hx : Env.ev r x = some (.pointer (some ⟨b, off, none⟩))) (ht : nth T t = some ti) (hs : scalK ti.k = true)
    (h : Holds w (rd (Rdr.flat sz enc hl h1) (some ⟨b, o', none⟩) cap xs)) (hi : xs[i]? = some y) (hoff : off = o' + i * sz + j) (hv : (enc y)[j]? = some v) (hK : K v w) : OpW P o r w K :=
  OpW.loadc hT ho hx ht hs (by have := flat_cells h hi j v hv; rw [Addr.add_lit] at this; rw [hoff]; exact this) hK
end
end Go.Proofs.Ytpenbdpgpamcbaa.Gw
