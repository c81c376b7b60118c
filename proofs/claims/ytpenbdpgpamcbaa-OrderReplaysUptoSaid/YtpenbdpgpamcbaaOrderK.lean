/- order: stories, what hangs on what, and what an order is worth; no program in sight. Conditions: none; plain facts on lists. -/
import Derived.Test.YtpenbdpgpamcbaaGraphG
set_option linter.unusedVariables false
set_option linter.unusedSimpArgs false
namespace Go.Proofs.Ytpenbdpgpamcbaa

abbrev Tale := Int × List (Int × Int)
structure StoryOk (T : List Tale) (V : List (List Int)) : Prop where
  lt : T.length ≤ 12
  lv : V.length ≤ 20
  tx : ∀ t ∈ T, 0 ≤ t.1 ∧ t.1 < 12
  inc : T.Pairwise fun x y => x.1 < y.1
  rd : ∀ t ∈ T, ∀ g ∈ t.2, 0 ≤ g.1 ∧ g.1 < V.length ∧ g.2 ≠ t.1 ∧ (g.2 = -1 ∨ ∃ l, V[g.1.toNat]? = some l ∧ g.2 ∈ l)
  ver : ∀ l ∈ V, l.Nodup ∧ ∀ x ∈ l, ∃ t ∈ T, t.1 = x

/-- Where one stands in a list; -1: nowhere. -/
def idxZ (x : Int) : List Int → Int
  | [] => -1
  | y :: l => if x = y then 0 else if idxZ x l = -1 then -1 else idxZ x l + 1
/-- Who stands behind: from what is read the one that wrote next. -/
def after (l : List Int) (x : Int) : Option Int := l[(idxZ x l + 1).toNat]?

structure Dep (T : List Tale) (V : List (List Int)) (d : Int × Int × Int) : Prop where
  ne : d.1 ≠ d.2.1
  pos : 0 ≤ d.1
  is : (d.2.2 = 1 ∧ ∃ l ∈ V, ∃ i : Nat, l[i]? = some d.1 ∧ l[i + 1]? = some d.2.1) ∨ (d.2.2 = 2 ∧ ∃ t ∈ T, ∃ g ∈ t.2, g.2 = d.1 ∧ t.1 = d.2.1) ∨
    (d.2.2 = 3 ∧ ∃ t ∈ T, ∃ g ∈ t.2, ∃ l, V[g.1.toNat]? = some l ∧ t.1 = d.1 ∧ after l g.2 = some d.2.1)

theorem idxZ_ge (x : Int) : ∀ l : List Int, -1 ≤ idxZ x l
  | [] => by simp [idxZ]
  | y :: l => by have := idxZ_ge x l; unfold idxZ; split
                 · omega
                 · split <;> omega
theorem idxZ_none {x : Int} : ∀ {l : List Int}, x ∉ l → idxZ x l = -1
  | [], _ => rfl
  | y :: l, h => by
    have h1 : x ≠ y := fun e => h (by simp [e])
    have h2 := idxZ_none (l := l) fun hm => h (List.mem_cons_of_mem _ hm)
    simp [idxZ, h1, h2]
theorem idxZ_at {x : Int} : ∀ {l : List Int}, l.Nodup → ∀ {i : Nat}, l[i]? = some x → idxZ x l = i
  | [], _, i, h => by simp at h
  | y :: l, hd, 0, h => by simp at h; simp [idxZ, h]
  | y :: l, hd, i + 1, h => by
    simp at h
    have hd' := List.nodup_cons.1 hd
    have hne : x ≠ y := fun e => hd'.1 (by rw [← e]; exact List.mem_of_getElem? h)
    have := idxZ_at hd'.2 h
    simp only [idxZ, hne, if_false]
    rw [this, if_neg (by omega)]; simp

theorem Dep.bound {T : List Tale} {V : List (List Int)} (hS : StoryOk T V) {d : Int × Int × Int} (h : Dep T V d) : 0 ≤ d.1 ∧ d.1 < 12 ∧ 0 ≤ d.2.1 ∧ d.2.1 < 12 ∧ 1 ≤ d.2.2 ∧ d.2.2 ≤ 3 := by
  have inV : ∀ l ∈ V, ∀ x ∈ l, 0 ≤ x ∧ x < 12 := fun l hl x hx => by
    obtain ⟨t, ht, rfl⟩ := (hS.ver l hl).2 x hx
    exact hS.tx t ht
  rcases h.is with ⟨hk, l, hl, i, h1, h2⟩ | ⟨hk, t, ht, g, hg, h1, h2⟩ | ⟨hk, t, ht, g, hg, l, hl, h1, h2⟩
  · have a := inV l hl _ (List.mem_of_getElem? h1)
    have b := inV l hl _ (List.mem_of_getElem? h2)
    omega
  · have b := hS.tx t ht
    obtain ⟨_, _, _, hor⟩ := hS.rd t ht g hg
    have hp := h.pos
    rcases hor with h3 | ⟨l, hl, h3⟩
    · omega
    · have a := inV l (List.mem_of_getElem? hl) _ h3
      rw [h1] at a; omega
  · have a := hS.tx t ht
    have b := inV l (List.mem_of_getElem? hl) _ (List.mem_of_getElem? h2)
    omega

/-- As many as there may be. -/
theorem nodup_small {D : List (Int × Int × Int)} (hd : D.Nodup) (hb : ∀ d ∈ D, 0 ≤ d.1 ∧ d.1 < 12 ∧ 0 ≤ d.2.1 ∧ d.2.1 < 12 ∧ 1 ≤ d.2.2 ∧ d.2.2 ≤ 3) : D.length ≤ 576 := by
  have h := nodup_lt_len (n := 576) (l := D.map fun d => (d.1 * 48 + d.2.1 * 4 + d.2.2).toNat) ?_ ?_
  · simpa using h
  · rw [List.nodup_iff_pairwise_ne, List.pairwise_map]
    refine (List.nodup_iff_pairwise_ne.1 hd).imp_of_mem fun {a b} ha hb' hne e => hne ?_
    have h1 := hb a ha
    have h2 := hb b hb'
    obtain ⟨a1, a2, a3⟩ := a
    obtain ⟨b1, b2, b3⟩ := b
    simp only at h1 h2 e
    have : a1 = b1 ∧ a2 = b2 ∧ a3 = b3 := by omega
    obtain ⟨rfl, rfl, rfl⟩ := this; rfl
  · intro x hx
    obtain ⟨d, hd', rfl⟩ := List.mem_map.1 hx
    have := hb d hd'; omega

/-! ### Orders -/
theorem Topo.back {n : Nat} {E : List (Int × Int)} {xs : List Nat} (h : Topo n E xs) : xs.Pairwise fun (x y : Nat) => ((y : Int), (x : Int)) ∉ E := by
  rw [List.pairwise_iff_getElem]
  intro i j hi hj hij he
  obtain ⟨i2, j2, h2, h3, h4⟩ := h.ord _ _ he
  obtain ⟨k3, e3⟩ := List.getElem?_eq_some_iff.1 h3
  obtain ⟨k4, e4⟩ := List.getElem?_eq_some_iff.1 h4
  have := (List.getElem_inj h.nd).1 e3
  have := (List.getElem_inj h.nd).1 e4
  omega
theorem Topo.mem {n : Nat} {E : List (Int × Int)} {xs : List Nat} (h : Topo n E xs) {a : Nat} (ha : a < n) : a ∈ xs := by
  apply Classical.byContradiction
  intro hn
  have := nodup_lt_len (n := n) (l := a :: xs) (List.nodup_cons.2 ⟨hn, h.nd⟩) fun x hx => by
    rcases List.mem_cons.1 hx with rfl | hx
    · exact ha
    · exact h.lt x hx
  have := h.len
  simp at *; omega

/-- An order of a story's transactions. -/
structure Ser (T : List Tale) (V : List (List Int)) (t : List Nat) : Prop where
  nd : t.Nodup
  mem : ∀ a : Nat, a ∈ t ↔ ∃ x ∈ T, x.1 = (a : Int)
  back : t.Pairwise fun (x y : Nat) => ∀ k, ¬ Dep T V ((y : Int), (x : Int), k)
theorem Ser.of {T : List Tale} {V : List (List Int)} (hS : StoryOk T V) {E : List (Int × Int)} (hE : ∀ a b : Int, (a, b) ∈ E ↔ ∃ k, Dep T V (a, b, k)) {xs : List Nat} (h : Topo 12 E xs) (p : Nat → Bool) (hp : ∀ a : Nat, p a = true ↔ ∃ x ∈ T, x.1 = (a : Int)) : Ser T V (xs.filter p) := by
  refine ⟨h.nd.filter _, fun a => ?_, (h.back.filter _).imp fun {x y} hn k hd => hn ((hE _ _).2 ⟨k, hd⟩)⟩
  rw [List.mem_filter, hp a]
  refine ⟨fun h => h.2, fun hx => ⟨?_, hx⟩⟩
  obtain ⟨x, hx1, hx2⟩ := hx
  have := hS.tx x hx1
  exact h.mem (by omega)
theorem Ser.count {T : List Tale} {V : List (List Int)} (hS : StoryOk T V) {t : List Nat} (h : Ser T V t) : t.length = T.length := by
  have hd : (T.map fun x => x.1.toNat).Nodup := by
    rw [List.nodup_iff_pairwise_ne, List.pairwise_map]
    refine hS.inc.imp_of_mem fun {a b} ha hb hlt => ?_
    have := hS.tx a ha; have := hS.tx b hb; omega
  have := ((List.perm_ext_iff_of_nodup h.nd hd).2 fun a => by
    rw [h.mem a, List.mem_map]
    constructor
    · rintro ⟨x, hx, e⟩; exact ⟨x, hx, by omega⟩
    · rintro ⟨x, hx, e⟩; have := hS.tx x hx; exact ⟨x, hx, by omega⟩).length_eq
  simpa using this
/-- Whoever is hung on stands ahead. -/
theorem Ser.ahead {T : List Tale} {V : List (List Int)} {t : List Nat} (h : Ser T V t) {m x a : Nat} {k : Int} (hm : t[m]? = some x) (hd : Dep T V ((a : Int), (x : Int), k)) (ha : a ∈ t) : a ∈ t.take m := by
  obtain ⟨hml, rfl⟩ := List.getElem?_eq_some_iff.1 hm
  obtain ⟨j, hj, rfl⟩ := List.mem_iff_getElem.1 ha
  rcases Nat.lt_trichotomy j m with hlt | rfl | hgt
  · exact List.mem_take_iff_getElem.2 ⟨j, by omega, rfl⟩
  · exact absurd rfl hd.ne
  · exact absurd hd (List.pairwise_iff_getElem.1 h.back m j hml hj hgt k)
theorem Ser.behind {T : List Tale} {V : List (List Int)} {t : List Nat} (h : Ser T V t) {m x a : Nat} {k : Int} (hm : t[m]? = some x) (hd : Dep T V ((x : Int), (a : Int), k)) : a ∉ t.take m := by
  intro ha
  obtain ⟨j, hj, e⟩ := List.mem_take_iff_getElem.1 ha
  obtain ⟨hml, rfl⟩ := List.getElem?_eq_some_iff.1 hm
  subst e
  exact List.pairwise_iff_getElem.1 h.back j m (by omega) hml (by omega) k hd

/-- What stands last of a list, of those that are done. -/
def lastOf (l : List Int) (p : Nat) : Int := if p = 0 then -1 else l.getD (p - 1) (-1)
/-- Of an item the first p are done, and no others. -/
structure Upto (l : List Int) (t : List Nat) (p : Nat) : Prop where
  le : p ≤ l.length
  is : ∀ j x, l[j]? = some x → ((∃ a ∈ t, (a : Int) = x) ↔ j < p)
theorem Upto.start (l : List Int) : Upto l [] 0 := ⟨Nat.zero_le _, fun j x _ => ⟨(fun ⟨a, ha, _⟩ => nomatch ha), fun h => by omega⟩⟩

section
variable {T : List Tale} {V : List (List Int)} {t : List Nat}
theorem Ser.has (hS : StoryOk T V) (h : Ser T V t) {l : List Int} (hl : l ∈ V) {x : Int} (hx : x ∈ l) : ∃ a : Nat, (a : Int) = x ∧ a ∈ t := by
  obtain ⟨y, hy, rfl⟩ := (hS.ver l hl).2 x hx
  have := hS.tx y hy
  exact ⟨y.1.toNat, by omega, (h.mem _).2 ⟨y, hy, by omega⟩⟩
/-- The turn of m: in a list where it doesn't stand nothing turns. -/
theorem Upto.skip {l : List Int} {m x p : Nat} (hU : Upto l (t.take m) p) (hm : t[m]? = some x) (hx : (x : Int) ∉ l) : Upto l (t.take (m + 1)) p := by
  refine ⟨hU.le, fun j y hy => ?_⟩
  rw [← hU.is j y hy, List.take_add_one, hm]
  constructor
  · rintro ⟨a, ha, e⟩
    rcases List.mem_append.1 ha with ha | ha
    · exact ⟨a, ha, e⟩
    · simp at ha; subst ha; exact absurd (by rw [e]; exact List.mem_of_getElem? hy) hx
  · rintro ⟨a, ha, e⟩; exact ⟨a, List.mem_append.2 (.inl ha), e⟩
/-- Where it stands it is the next one. -/
theorem Upto.here (hS : StoryOk T V) (h : Ser T V t) {l : List Int} (hl : l ∈ V) {m x p k : Nat} (hU : Upto l (t.take m) p) (hm : t[m]? = some x) (hk : l[k]? = some (x : Int)) : p = k ∧ Upto l (t.take (m + 1)) (k + 1) := by
  have hnd := (hS.ver l hl).1
  have hxm : x ∉ t.take m := fun hx => by
    obtain ⟨j, hj, e⟩ := List.mem_take_iff_getElem.1 hx
    obtain ⟨hml, e2⟩ := List.getElem?_eq_some_iff.1 hm
    have := (List.getElem_inj h.nd).1 (e.trans e2.symm); omega
  have h1 : ¬ k < p := fun hlt => by
    obtain ⟨a, ha, e⟩ := (hU.is k _ hk).2 hlt
    have : a = x := by omega
    subst this; exact hxm ha
  have h2 : ¬ p < k := fun hlt => by
    -- the one at k - 1 is hung on
    have hkl := (List.getElem?_eq_some_iff.1 hk).1
    have hy := List.getElem?_eq_getElem (l := l) (i := k - 1) (by omega)
    obtain ⟨a, ea, hat⟩ := h.has hS hl (List.getElem_mem (l := l) (n := k - 1) (by omega))
    have hne : a ≠ x := by
      rintro rfl
      obtain ⟨hk', e'⟩ := List.getElem?_eq_some_iff.1 hk
      have := (List.getElem_inj hnd).1 (ea.symm.trans e'.symm); omega
    have hd : Dep T V ((a : Int), (x : Int), 1) := ⟨by simp only; omega, by simp only; omega, .inl ⟨rfl, l, hl, k - 1, by rw [hy, ea], by rw [show k - 1 + 1 = k by omega]; exact hk⟩⟩
    have := (hU.is (k - 1) _ hy).1 ⟨a, h.ahead hm hd hat, ea⟩
    omega
  have hpk : p = k := by omega
  subst hpk
  refine ⟨rfl, by have := (List.getElem?_eq_some_iff.1 hk).1; omega, fun j y hy => ?_⟩
  rw [List.take_add_one, hm]
  constructor
  · rintro ⟨a, ha, e⟩
    rcases List.mem_append.1 ha with ha | ha
    · have := (hU.is j y hy).1 ⟨a, ha, e⟩; omega
    · simp at ha; subst ha
      obtain ⟨hj, ej⟩ := List.getElem?_eq_some_iff.1 hy
      obtain ⟨hk', ek⟩ := List.getElem?_eq_some_iff.1 hk
      have := (List.getElem_inj hnd).1 (ej.trans (e.symm.trans ek.symm)); omega
  · intro hj
    rcases Nat.lt_succ_iff_lt_or_eq.1 hj with hj | rfl
    · obtain ⟨a, ha, e⟩ := (hU.is j y hy).2 hj
      exact ⟨a, List.mem_append.2 (.inl ha), e⟩
    · rw [hk] at hy; cases hy
      exact ⟨x, List.mem_append.2 (.inr (by simp)), rfl⟩
/-- What is read is what stands last. -/
theorem Upto.read (hS : StoryOk T V) (h : Ser T V t) {l : List Int} {m x p : Nat} {y : Tale} {g : Int × Int} (hU : Upto l (t.take m) p) (hm : t[m]? = some x) (hy : y ∈ T) (hyx : y.1 = (x : Int)) (hg : g ∈ y.2) (hl : V[g.1.toNat]? = some l) : lastOf l p = g.2 := by
  have hlV := List.mem_of_getElem? hl
  have hnd := (hS.ver l hlV).1
  obtain ⟨_, _, hne, hor⟩ := hS.rd y hy g hg
  have hxm : x ∉ t.take m := fun hx => by
    obtain ⟨j, hj, e⟩ := List.mem_take_iff_getElem.1 hx
    obtain ⟨hml, e2⟩ := List.getElem?_eq_some_iff.1 hm
    have := (List.getElem_inj h.nd).1 (e.trans e2.symm); omega
  -- the one behind what was read isn't done
  have hnext : ∀ j z, (idxZ g.2 l + 1).toNat = j → l[j]? = some z → p ≤ j := fun j z hj hz => by
    apply Classical.byContradiction
    intro hn
    obtain ⟨a, ha, e⟩ := (hU.is j z hz).2 (by omega)
    by_cases hax : a = x
    · subst hax; exact hxm ha
    · refine h.behind hm (k := 3) (a := a) ⟨by simp only; omega, by simp only; omega, .inr (.inr ⟨rfl, y, hy, g, hg, l, hl, hyx, ?_⟩)⟩ ha
      rw [after, hj, hz, e]
  rcases hor with h1 | ⟨l', hl', h2⟩
  · have hno : g.2 ∉ l := fun hm' => by
      obtain ⟨w, hw, e⟩ := (hS.ver l hlV).2 _ hm'
      have := hS.tx w hw; omega
    have hi := idxZ_none hno
    have hp : p = 0 := by
      rcases Nat.eq_zero_or_pos p with h0 | h0
      · exact h0
      · have hle := hU.le
        have := hnext 0 _ (by rw [hi]; rfl) (List.getElem?_eq_getElem (by omega)); omega
    rw [hp, h1]; rfl
  · rw [hl] at hl'; cases hl'
    obtain ⟨j, hj, e⟩ := List.mem_iff_getElem.1 h2
    have hjs : l[j]? = some g.2 := by rw [List.getElem?_eq_getElem hj, e]
    have hi := idxZ_at hnd hjs
    obtain ⟨a, ea, hat⟩ := h.has hS hlV h2
    have hd : Dep T V ((a : Int), (x : Int), 2) := ⟨by simp only; omega, by simp only; omega, .inr (.inl ⟨rfl, y, hy, g, hg, ea.symm, hyx⟩)⟩
    have h3 := (hU.is j _ hjs).1 ⟨a, h.ahead hm hd hat, ea⟩
    have h4 : p ≤ j + 1 := by
      rcases Nat.lt_or_ge (j + 1) l.length with h5 | h5
      · exact hnext (j + 1) _ (by rw [hi]; omega) (List.getElem?_eq_getElem h5)
      · have := hU.le; omega
    have hp : p = j + 1 := by omega
    rw [hp, lastOf, if_neg (by omega), show j + 1 - 1 = j by omega, List.getD_eq_getElem?_getD, hjs]; rfl
end
end Go.Proofs.Ytpenbdpgpamcbaa
