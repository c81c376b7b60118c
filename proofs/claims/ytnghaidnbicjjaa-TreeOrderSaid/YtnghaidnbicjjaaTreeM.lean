/- tree: keys in order: what is found, dropped, put. No program in sight. -/
import Derived.Test.YtnghaidnbicjjaaTreeL
set_option linter.unusedVariables false
set_option linter.unusedSimpArgs false
set_option maxRecDepth 20000
namespace Go.Proofs.Ytnghaidnbicjjaa
open Go Gw

def So (l : List En) : Prop := l.Pairwise fun a b => a.1 < b.1
def getS (l : List En) (key : Int) : Option ByteArray := (l.find? fun e => decide (e.1 = key)).map (·.2)
def dropS (l : List En) (key : Int) : List En := l.filter fun e => decide (e.1 ≠ key)
def updS (l : List En) (key : Int) (text : ByteArray) : List En := l.filter (fun e => decide (e.1 < key)) ++ (key, text) :: l.filter fun e => decide (key < e.1)

theorem So.parts {A B : List En} (H : So (A ++ B)) : So A ∧ So B ∧ ∀ a ∈ A, ∀ b ∈ B, a.1 < b.1 := List.pairwise_append.1 H
theorem So.mid {A B : List En} {e : En} (H : So (A ++ e :: B)) : (∀ a ∈ A, a.1 < e.1) ∧ (∀ b ∈ B, e.1 < b.1) ∧ So A ∧ So B := by
  obtain ⟨h1, h2, h3⟩ := H.parts
  obtain ⟨h4, h5⟩ := List.pairwise_cons.1 h2
  exact ⟨fun a ha => h3 a ha e (by simp), h4, h1, h5⟩

theorem filter_all {l : List En} {p : En → Bool} (h : ∀ e ∈ l, p e = true) : l.filter p = l := List.filter_eq_self.2 h
theorem filter_none {l : List En} {p : En → Bool} (h : ∀ e ∈ l, p e = false) : l.filter p = [] := List.filter_eq_nil_iff.2 fun e he => by simp [h e he]

/-- A list about a key: what is less, the middle, what is more. -/
theorem getS_about {A M B : List En} {key : Int} (ha : ∀ e ∈ A, e.1 < key) (hb : ∀ e ∈ B, key < e.1) : getS (A ++ (M ++ B)) key = getS M key := by
  unfold getS
  have h1 : A.find? (fun e => decide (e.1 = key)) = none := List.find?_eq_none.2 fun e he => by have := ha e he; simp; omega
  have h2 : B.find? (fun e => decide (e.1 = key)) = none := List.find?_eq_none.2 fun e he => by have := hb e he; simp; omega
  rw [List.find?_append, List.find?_append, h1, h2]
  simp
theorem dropS_about {A M B : List En} {key : Int} (ha : ∀ e ∈ A, e.1 < key) (hb : ∀ e ∈ B, key < e.1) : dropS (A ++ (M ++ B)) key = A ++ (dropS M key ++ B) := by
  unfold dropS
  rw [List.filter_append, List.filter_append, filter_all (l := A) fun e he => by have := ha e he; simp; omega, filter_all (l := B) fun e he => by have := hb e he; simp; omega]
theorem updS_about {A M B : List En} {key : Int} {text : ByteArray} (ha : ∀ e ∈ A, e.1 < key) (hb : ∀ e ∈ B, key < e.1) : updS (A ++ (M ++ B)) key text = A ++ (updS M key text ++ B) := by
  unfold updS
  rw [List.filter_append, List.filter_append, List.filter_append, List.filter_append, filter_all (l := A) fun e he => by have := ha e he; simp; omega, filter_none (l := B) fun e he => by have := hb e he; simp; omega,
    filter_none (l := A) fun e he => by have := ha e he; simp; omega, filter_all (l := B) fun e he => by have := hb e he; simp; omega]
  simp
theorem getS_one (key : Int) (text : ByteArray) : getS [(key, text)] key = some text := by simp [getS]
theorem dropS_one (key : Int) (text : ByteArray) : dropS [(key, text)] key = [] := by simp [dropS]
theorem updS_one (key : Int) (t text : ByteArray) : updS [(key, t)] key text = [(key, text)] := by simp [updS]
theorem updS_nil (key : Int) (text : ByteArray) : updS [] key text = [(key, text)] := by simp [updS]
theorem getS_none {l : List En} {key : Int} (h : ∀ e ∈ l, e.1 ≠ key) : getS l key = none := by
  unfold getS
  rw [List.find?_eq_none.2 fun e he => by simp [h e he]]
  rfl
theorem getS_mem {l : List En} {key : Int} {t : ByteArray} (h : getS l key = some t) : (key, t) ∈ l := by
  unfold getS at h
  obtain ⟨e, he, rfl⟩ := Option.map_eq_some_iff.1 h
  have h1 := List.find?_some he
  simp only [decide_eq_true_eq] at h1
  subst h1
  exact List.mem_of_find?_eq_some he
theorem mem_getS {l : List En} {e : En} (H : So l) (h : e ∈ l) : getS l e.1 = some e.2 := by
  obtain ⟨A, B, rfl⟩ := List.append_of_mem h
  obtain ⟨h1, h2, _⟩ := H.mid
  rw [show A ++ e :: B = A ++ ([(e.1, e.2)] ++ B) from rfl, getS_about h1 h2, getS_one]
theorem So.drop {l : List En} (H : So l) (key : Int) : So (dropS l key) := List.Pairwise.filter _ H
theorem So.upd {l : List En} (H : So l) (key : Int) (text : ByteArray) : So (updS l key text) := by
  refine List.pairwise_append.2 ⟨List.Pairwise.filter _ H, List.pairwise_cons.2 ⟨?_, List.Pairwise.filter _ H⟩, ?_⟩
  · intro e he
    simpa using (List.mem_filter.1 he).2
  · intro a ha b hb
    have h1 : a.1 < key := by simpa using (List.mem_filter.1 ha).2
    rcases List.mem_cons.1 hb with rfl | hb
    · exact h1
    · have h2 : key < b.1 := by simpa using (List.mem_filter.1 hb).2
      omega
theorem drop_count {l : List En} {key : Int} (H : So l) (h : getS l key ≠ none) : (dropS l key).length + 1 = l.length := by
  obtain ⟨t, ht⟩ := Option.ne_none_iff_exists'.1 h
  obtain ⟨A, B, rfl⟩ := List.append_of_mem (getS_mem ht)
  obtain ⟨h1, h2, _⟩ := H.mid
  rw [show A ++ (key, t) :: B = A ++ ([(key, t)] ++ B) from rfl, dropS_about h1 h2, dropS_one]
  simp
  omega
theorem upd_count {l : List En} {key : Int} {text : ByteArray} (H : So l) : (updS l key text).length = l.length + if (getS l key).isNone then 1 else 0 := by
  cases hg : getS l key with
  | some t =>
    obtain ⟨A, B, rfl⟩ := List.append_of_mem (getS_mem hg)
    obtain ⟨h1, h2, _⟩ := H.mid
    rw [show A ++ (key, t) :: B = A ++ ([(key, t)] ++ B) from rfl, updS_about h1 h2, updS_one]
    simp
  | none =>
    have hne : ∀ e ∈ l, e.1 ≠ key := fun e he h => by
      have := mem_getS H he
      rw [h, hg] at this
      cases this
    unfold updS
    clear H hg
    induction l with
    | nil => simp
    | cons a l ih =>
      have ih := ih fun e he => hne e (by simp [he])
      have ha := hne a (by simp)
      simp only [List.filter_cons, List.length_append, List.length_cons] at ih ⊢
      by_cases h1 : a.1 < key
      · have h2 : ¬ key < a.1 := by omega
        simp [h1, h2] at ih ⊢; omega
      · have h2 : key < a.1 := by omega
        simp [h1, h2] at ih ⊢; omega

/-- The place of a key. -/
theorem posF_lt {keys : List Int} {key : Int} {j : Nat} (h : j < posF keys key) {y : Int} (hy : keys[j]? = some y) : y < key := by
  obtain ⟨h1, rfl⟩ := List.getElem?_eq_some_iff.1 hy
  have := List.not_of_lt_findIdx (p := fun y => decide (key ≤ y)) (xs := keys) h
  simpa using this
theorem posF_ge {keys : List Int} {key y : Int} (hy : keys[posF keys key]? = some y) : key ≤ y := by
  obtain ⟨h1, rfl⟩ := List.getElem?_eq_some_iff.1 hy
  have := List.findIdx_getElem (p := fun y => decide (key ≤ y)) (xs := keys) (w := h1)
  exact of_decide_eq_true this
theorem take_posF {keys : List Int} {key : Int} : ∀ y ∈ keys.take (posF keys key), y < key := by
  intro y hy
  obtain ⟨i, hi⟩ := List.mem_iff_getElem?.1 hy
  have h1 : i < posF keys key := by
    have := (List.getElem?_eq_some_iff.1 hi).1
    simp at this; omega
  rw [List.getElem?_take_of_lt h1] at hi
  exact posF_lt h1 hi
theorem hasF_at {keys : List Int} {key : Int} (h : hasF' keys key = true) : kAt keys (posF keys key) = key := by
  have h1 := kAt_get (hasF_lt h)
  simp only [hasF', decide_eq_true_eq] at h
  rw [h] at h1
  exact (Option.some.inj h1).symm

theorem wl_lt {key : Int} : ∀ {A : List (List En)} {E : List En}, So (wl A E) → (∀ e ∈ E, e.1 < key) → ∀ e ∈ wl A E, e.1 < key
  | [], _, _, _, e, he => by simp [wl] at he
  | _ :: _, [], _, _, e, he => by simp [wl] at he
  | a :: A, b :: E, H, h, e, he => by
    obtain ⟨h1, _, _, h4⟩ := So.mid (A := a) (B := wl A E) (e := b) H
    have hb := h b (by simp)
    rcases List.mem_append.1 he with he | he
    · have := h1 e he; omega
    · rcases List.mem_cons.1 he with rfl | he
      · exact hb
      · exact wl_lt h4 (fun e he => h e (by simp [he])) e he
theorem eL_lt {h : Nat} {x : Nd} {key : Int} (H : So (eL h (posF x.keys key) x)) : ∀ e ∈ eL h (posF x.keys key) x, e.1 < key := by
  refine wl_lt H fun e he => take_posF (keys := x.keys) e.1 ?_
  exact (List.of_mem_zip (a := e.1) (b := e.2) he).1
theorem zip_drop {x : Nd} (H : x.texts.length = x.keys.length) {p : Nat} (h : p < x.keys.length) : (x.keys.drop p).zip (x.texts.drop p) = (kAt x.keys p, tAt x.texts p) :: (x.keys.drop (p + 1)).zip (x.texts.drop (p + 1)) := by
  have h1 := kAt_get h
  have h2 := tAt_get (l := x.texts) (i := p) (by omega)
  obtain ⟨h3, h1⟩ := List.getElem?_eq_some_iff.1 h1
  obtain ⟨h4, h2⟩ := List.getElem?_eq_some_iff.1 h2
  rw [List.drop_eq_getElem_cons h3, List.drop_eq_getElem_cons h4, h1, h2]
  rfl
theorem eR_gt {h j : Nat} {x : Nd} {key : Int} (ht : x.texts.length = x.keys.length) (hh : ¬ hasF' x.keys key = true) (H : So (eR h (posF x.keys key) j x)) : ∀ e ∈ eR h (posF x.keys key) j x, key < e.1 := by
  by_cases hp : posF x.keys key < x.keys.length
  · have h1 := posF_ge (kAt_get hp)
    have h2 : kAt x.keys (posF x.keys key) ≠ key := fun e => hh (by simp only [hasF', decide_eq_true_eq]; rw [kAt_get hp, e])
    unfold eR at H ⊢
    rw [zip_drop ht hp] at H ⊢
    obtain ⟨h3, _⟩ := List.pairwise_cons.1 H
    intro e he
    rcases List.mem_cons.1 he with rfl | he
    · show key < kAt _ _; omega
    · have : kAt x.keys (posF x.keys key) < e.1 := h3 e he
      omega
  · intro e he
    unfold eR at he
    rw [List.drop_eq_nil_of_le (Nat.le_of_not_lt hp)] at he
    simp [tw] at he

/-- A leaf about a key. -/
theorem leaf_ents {x : Nd} (ht : x.texts.length = x.keys.length) (p : Nat) : es x = (x.keys.take p).zip (x.texts.take p) ++ (x.keys.drop p).zip (x.texts.drop p) := by
  rw [← List.zip_append (by simp [ht]), List.take_append_drop, List.take_append_drop]; rfl
theorem leaf_lt {x : Nd} {key : Int} : ∀ e ∈ (x.keys.take (posF x.keys key)).zip (x.texts.take (posF x.keys key)), e.1 < key := fun e he => take_posF e.1 (List.of_mem_zip (a := e.1) (b := e.2) he).1
theorem leaf_gt {x : Nd} {key : Int} (ht : x.texts.length = x.keys.length) (hh : ¬ hasF' x.keys key = true) (H : So ((x.keys.drop (posF x.keys key)).zip (x.texts.drop (posF x.keys key)))) : ∀ e ∈ (x.keys.drop (posF x.keys key)).zip (x.texts.drop (posF x.keys key)), key < e.1 := by
  have e : eR 0 (posF x.keys key) x.kids.length x = (x.keys.drop (posF x.keys key)).zip (x.texts.drop (posF x.keys key)) := by
    unfold eR
    rw [List.drop_eq_nil_of_le (Nat.le_refl _)]
    cases (x.keys.drop (posF x.keys key)).zip (x.texts.drop (posF x.keys key)) <;> rfl
  rw [← e] at H ⊢
  exact eR_gt ht hh H

/-- A node about a key that it has: the key, and what stands before and behind. -/
theorem has_about {h lo hi : Nat} {x : Nd} {key : Int} (H : Bt lo hi h x) (hh : hasF' x.keys key = true) (So' : So (ents h x)) :
    ∃ A B, ents h x = A ++ ([(key, tAt x.texts (posF x.keys key))] ++ B) ∧ (∀ e ∈ A, e.1 < key) ∧ (∀ e ∈ B, key < e.1) := by
  have hlt := hasF_lt hh
  have e := ents_cut H.sh hlt
  rw [hasF_at hh] at e
  rw [e] at So'
  obtain ⟨h1, h2, _⟩ := So'.mid
  exact ⟨_, _, e, h1, h2⟩
theorem not_about {h lo hi : Nat} {x y : Nd} {key : Int} (H : Bt lo hi (h + 1) x) (hh : ¬ hasF' x.keys key = true) (So' : So (ents (h + 1) x)) (hy : x.kids[posF x.keys key]? = some y) :
    ents (h + 1) x = eL h (posF x.keys key) x ++ (ents h y ++ eR h (posF x.keys key) (posF x.keys key + 1) x) ∧ (∀ e ∈ eL h (posF x.keys key) x, e.1 < key) ∧ (∀ e ∈ eR h (posF x.keys key) (posF x.keys key + 1) x, key < e.1) ∧ So (ents h y) := by
  have e := ents_at H.sh (posF_le _ _) hy
  rw [e] at So'
  obtain ⟨h1, h2, _⟩ := So'.parts
  obtain ⟨h3, h4, _⟩ := h2.parts
  exact ⟨e, eL_lt h1, eR_gt H.sh.texts hh h4, h3⟩
theorem kid_at {h lo hi k : Nat} {x : Nd} (H : Bt lo hi (h + 1) x) (hk : k ≤ x.keys.length) : ∃ y, x.kids[k]? = some y ∧ Bt 2 4 h y := by
  have hkn := H.sh.kn
  exact ⟨_, List.getElem?_eq_getElem (by omega), H.2.2 _ (List.getElem_mem _)⟩

theorem get_law : ∀ {h lo hi : Nat} {x : Nd} {key : Int}, Bt lo hi h x → So (ents h x) → getF h x key = getS (ents h x) key
  | h, lo, hi, x, key, H, hs => by
    by_cases hh : hasF' x.keys key = true
    · obtain ⟨A, B, e, ha, hb⟩ := has_about H hh hs
      rw [e, getS_about ha hb, getS_one, getF_hit hh]
      exact tAt_get (by have := hasF_lt hh; have := H.sh.texts; omega)
    · cases h with
      | zero =>
        have e : ents 0 x = _ := leaf_ents H.sh.texts (posF x.keys key)
        rw [e] at hs
        rw [e, show ∀ a b : List En, a ++ b = a ++ ([] ++ b) from fun _ _ => rfl, getS_about leaf_lt (leaf_gt H.sh.texts hh hs.parts.2.1)]
        simp [getF, hh, getS]
      | succ h =>
        obtain ⟨y, hy, hb⟩ := kid_at H (posF_le x.keys key)
        obtain ⟨e, h1, h2, h3⟩ := not_about H hh hs hy
        rw [e, getS_about h1 h2, ← get_law hb h3]
        simp [getF, hh, hy]

theorem keys_sorted {h lo hi : Nat} {x : Nd} (H : Bt lo hi h x) (hs : So (ents h x)) : x.keys.Pairwise (· < ·) := by
  have key : ∀ i j, i < j → j < x.keys.length → kAt x.keys i < kAt x.keys j := by
    intro i j hij hj
    have e := ents_cut H.sh hj
    rw [e] at hs
    obtain ⟨h1, _⟩ := hs.mid
    have hl : (cutL j x).keys.length = j := cutL_keys (h := h) hj
    have e2 := ents_cut (cutL_sh H.sh hj) (i := i) (by omega)
    have hm : (kAt (cutL j x).keys i, tAt (cutL j x).texts i) ∈ ents h (cutL j x) := by rw [e2]; simp
    have := h1 _ hm
    have e3 : kAt (cutL j x).keys i = kAt x.keys i := by
      show (x.keys.take j).getD i 0 = x.keys.getD i 0
      simp [List.getD, List.getElem?_take_of_lt hij]
    rw [← e3]
    exact this
  rw [List.pairwise_iff_getElem]
  intro i j hi hj hij
  have := key i j hij hj
  have a1 := kAt_get hi
  have a2 := kAt_get hj
  rw [List.getElem?_eq_getElem hi] at a1
  rw [List.getElem?_eq_getElem hj] at a2
  rw [Option.some.inj a1, Option.some.inj a2]
  exact this
theorem So.eq_of {A B C : List En} {l : List En} (H : So l) (e : l = A ++ (B ++ C)) : So B := by subst e; exact H.parts.2.1.parts.1
theorem Bt.wk : ∀ {h lo hi : Nat} {x : Nd}, Bt lo hi h x → hi ≤ 1000 → So (ents h x) → Wk h x
  | 0, lo, hi, x, H, hh, hs => ⟨⟨H.sh.texts, by have := H.hi; omega, keys_sorted H hs⟩, H.sh.kids⟩
  | h + 1, lo, hi, x, H, hh, hs => ⟨⟨H.sh.texts, by have := H.hi; omega, keys_sorted H hs⟩, H.sh.kn, fun y hy => by
      obtain ⟨k, hk⟩ := List.mem_iff_getElem?.1 hy
      have hlt := (List.getElem?_eq_some_iff.1 hk).1
      have := H.sh.kn
      exact Bt.wk (H.2.2 y hy) (by omega) (hs.eq_of (ents_at H.sh (by omega) hk))⟩
end Go.Proofs.Ytnghaidnbicjjaa
