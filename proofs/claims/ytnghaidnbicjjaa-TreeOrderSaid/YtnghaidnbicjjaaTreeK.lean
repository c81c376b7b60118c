/- tree: what nodes hold, in order; shapes; what mending keeps. No program in sight. -/
import Derived.Test.YtnghaidnbicjjaaTreeJ
set_option linter.unusedVariables false
set_option linter.unusedSimpArgs false
set_option maxRecDepth 20000
namespace Go.Proofs.Ytnghaidnbicjjaa
open Go Gw

abbrev En := Int × ByteArray
def weave : List (List En) → List En → List En
  | [], es => es
  | k :: _, [] => k
  | k :: ks, e :: es => k ++ e :: weave ks es
/-- Kids, each with the key behind it. -/
def wl : List (List En) → List En → List En
  | a :: A, e :: E => a ++ e :: wl A E
  | _, _ => []
/-- Keys, each with the kid behind it. -/
def tw : List En → List (List En) → List En
  | [], _ => []
  | e :: F, B => e :: weave B F
theorem weave_cons (m : List En) (B : List (List En)) (F : List En) : weave (m :: B) F = m ++ tw F B := by cases F <;> simp [weave, tw]
theorem weave_app : ∀ (A : List (List En)) (E : List En) (B : List (List En)) (F : List En), A.length = E.length → weave (A ++ B) (E ++ F) = wl A E ++ weave B F
  | [], [], B, F, _ => rfl
  | a :: A, e :: E, B, F, h => by simp [weave, wl, weave_app A E B F (by simpa using h)]
theorem tw_cons (e : En) (F : List En) (b : List En) (B : List (List En)) : tw (e :: F) (b :: B) = e :: (b ++ tw F B) := by simp [tw, weave_cons]

def es (x : Nd) : List En := x.keys.zip x.texts
def ents : Nat → Nd → List En
  | 0, x => es x
  | h + 1, x => weave (x.kids.map (ents h)) (es x)

theorem ents_frame (h : Nat) (K1 K2 : List Int) (T1 T2 : List ByteArray) (A B : List Nd) (y : Nd) (hA : A.length = K1.length) (hT : T1.length = K1.length) :
    ents (h + 1) (.mk (K1 ++ K2) (T1 ++ T2) (A ++ y :: B)) = wl (A.map (ents h)) (K1.zip T1) ++ (ents h y ++ tw (K2.zip T2) (B.map (ents h))) := by
  show weave ((A ++ y :: B).map (ents h)) ((K1 ++ K2).zip (T1 ++ T2)) = _
  rw [List.zip_append hT.symm, List.map_append, List.map_cons, weave_app _ _ _ _ (by simp [hA, hT]), weave_cons]

/-- The shape of one node. -/
structure Sh (h : Nat) (x : Nd) : Prop where
  texts : x.texts.length = x.keys.length
  kids : match h with | 0 => x.kids = [] | _ + 1 => x.kids.length = x.keys.length + 1

def Bt (lo hi : Nat) : Nat → Nd → Prop
  | 0, x => Sh 0 x ∧ lo ≤ x.keys.length ∧ x.keys.length ≤ hi
  | h + 1, x => Sh (h + 1) x ∧ (lo ≤ x.keys.length ∧ x.keys.length ≤ hi) ∧ ∀ y ∈ x.kids, Bt 2 4 h y
theorem Bt.sh {lo hi h : Nat} {x : Nd} (H : Bt lo hi h x) : Sh h x := by cases h <;> exact H.1
theorem Bt.lo {lo hi h : Nat} {x : Nd} (H : Bt lo hi h x) : lo ≤ x.keys.length := by
  cases h with
  | zero => exact H.2.1
  | succ h => exact H.2.1.1
theorem Bt.hi {lo hi h : Nat} {x : Nd} (H : Bt lo hi h x) : x.keys.length ≤ hi := by
  cases h with
  | zero => exact H.2.2
  | succ h => exact H.2.1.2
/-- The kids, all in order; nothing if there are none. -/
def Ks : Nat → List Nd → Prop
  | 0, l => l = []
  | h + 1, l => ∀ y ∈ l, Bt 2 4 h y
theorem Bt.ks {lo hi h : Nat} {x : Nd} (H : Bt lo hi h x) : Ks h x.kids := by
  cases h with
  | zero => exact H.1.kids
  | succ h => exact H.2.2
theorem Bt.mk {lo hi h : Nat} {x : Nd} (H : Sh h x) (K : Ks h x.kids) (h1 : lo ≤ x.keys.length) (h2 : x.keys.length ≤ hi) : Bt lo hi h x := by
  cases h with
  | zero => exact ⟨H, h1, h2⟩
  | succ h => exact ⟨H, ⟨h1, h2⟩, K⟩
theorem Bt.weaken {lo hi lo' hi' h : Nat} {x : Nd} (H : Bt lo hi h x) (h1 : lo' ≤ lo) (h2 : hi ≤ hi') : Bt lo' hi' h x := Bt.mk H.sh H.ks (by have := H.lo; omega) (by have := H.hi; omega)
theorem Ks.sub {h : Nat} {l m : List Nd} (H : Ks h l) (hs : ∀ y ∈ m, y ∈ l) : Ks h m := by
  cases h with
  | zero =>
    have H : l = [] := H
    subst H
    cases m with
    | nil => rfl
    | cons a m => exact absurd (hs a (by simp)) (by simp)
  | succ h => exact fun y hy => H y (hs y hy)
theorem Ks.app {h : Nat} {l m : List Nd} (H : Ks h l) (K : Ks h m) : Ks h (l ++ m) := by
  cases h with
  | zero => have H : l = [] := H; have K : m = [] := K; subst H; subst K; rfl
  | succ h => exact fun y hy => (List.mem_append.1 hy).elim (H y) (K y)
theorem Sh.kn {h : Nat} {x : Nd} (H : Sh (h + 1) x) : x.kids.length = x.keys.length + 1 := H.kids

/-- Two nodes made one, with a key between them. -/
theorem ents_mrg {h : Nat} {y z : Nd} (e : En) (H : Sh h y) (K : Sh h z) : ents h (mrg e.1 e.2 y z) = ents h y ++ e :: ents h z := by
  cases h with
  | zero =>
    show (y.keys ++ [e.1] ++ z.keys).zip (y.texts ++ [e.2] ++ z.texts) = _
    rw [List.zip_append (by simp [H.texts]), List.zip_append (by simp [H.texts])]
    simp [ents, es]
  | succ h =>
    have hy := H.kn
    obtain ⟨A, q, e1⟩ : ∃ A q, y.kids = A ++ [q] := ⟨y.kids.dropLast, y.kids.getLast (by intro h; rw [h] at hy; simp at hy), (List.dropLast_concat_getLast _).symm⟩
    have hA : A.length = y.keys.length := by rw [e1] at hy; simpa using hy
    have e2 : mrg e.1 e.2 y z = .mk (y.keys ++ (e.1 :: z.keys)) (y.texts ++ (e.2 :: z.texts)) (A ++ q :: z.kids) := by simp [mrg, e1]
    rw [e2, ents_frame _ _ _ _ _ _ _ _ hA H.texts]
    have e3 : y = .mk (y.keys ++ []) (y.texts ++ []) (A ++ q :: []) := by cases y; simp only [Nd.kids] at e1; simp [Nd.keys, Nd.texts, e1]
    conv => rhs; rw [e3]
    rw [ents_frame _ _ _ _ _ _ _ _ hA H.texts]
    show wl _ _ ++ (ents h q ++ e :: weave (z.kids.map (ents h)) (es z)) = _
    simp [tw, ents]
theorem mrg_sh {h : Nat} {y z : Nd} {a : Int} {b : ByteArray} (H : Sh h y) (K : Sh h z) : Sh h (mrg a b y z) := by
  constructor
  · show (y.texts ++ [b] ++ z.texts).length = (y.keys ++ [a] ++ z.keys).length
    have := H.texts
    have := K.texts
    simp only [List.length_append, List.length_cons, List.length_nil]; omega
  · cases h with
    | zero => show y.kids ++ z.kids = []; rw [show y.kids = [] from H.kids, show z.kids = [] from K.kids]; rfl
    | succ h =>
      show (y.kids ++ z.kids).length = (y.keys ++ [a] ++ z.keys).length + 1
      have := H.kn
      have := K.kn
      simp only [List.length_append, List.length_cons, List.length_nil]; omega
/-- And cut in two, at a key. -/
def cutL (i : Nat) (y : Nd) : Nd := .mk (y.keys.take i) (y.texts.take i) (y.kids.take (i + 1))
def cutR (i : Nat) (y : Nd) : Nd := .mk (y.keys.drop (i + 1)) (y.texts.drop (i + 1)) (y.kids.drop (i + 1))
theorem cutL_sh {h i : Nat} {y : Nd} (H : Sh h y) (hi : i < y.keys.length) : Sh h (cutL i y) := by
  constructor
  · show (y.texts.take i).length = (y.keys.take i).length; simp [H.texts]
  · cases h with
    | zero => show y.kids.take (i + 1) = []; rw [show y.kids = [] from H.kids]; simp
    | succ h => show (y.kids.take (i + 1)).length = (y.keys.take i).length + 1; have := H.kn; simp; omega
theorem cutR_sh {h i : Nat} {y : Nd} (H : Sh h y) (hi : i < y.keys.length) : Sh h (cutR i y) := by
  constructor
  · show (y.texts.drop (i + 1)).length = (y.keys.drop (i + 1)).length; simp [H.texts]
  · cases h with
    | zero => show y.kids.drop (i + 1) = []; rw [show y.kids = [] from H.kids]; simp
    | succ h => show (y.kids.drop (i + 1)).length = (y.keys.drop (i + 1)).length + 1; have := H.kn; simp; omega
theorem split3 {α : Type} {l : List α} {i : Nat} {a : α} (h : l[i]? = some a) : l = l.take i ++ [a] ++ l.drop (i + 1) := by
  obtain ⟨h1, rfl⟩ := List.getElem?_eq_some_iff.1 h
  simp
theorem kAt_split {l : List Int} {i : Nat} (h : i < l.length) : l = l.take i ++ [kAt l i] ++ l.drop (i + 1) := split3 (kAt_get h)
theorem tAt_split {l : List ByteArray} {i : Nat} (h : i < l.length) : l = l.take i ++ [tAt l i] ++ l.drop (i + 1) := split3 (tAt_get h)
theorem cut_mrg {h i : Nat} {y : Nd} (H : Sh h y) (hi : i < y.keys.length) : y = mrg (kAt y.keys i) (tAt y.texts i) (cutL i y) (cutR i y) := by
  have h1 := kAt_split hi
  have h2 := tAt_split (l := y.texts) (i := i) (by have := H.texts; omega)
  cases y with
  | mk k t c =>
    simp only [Nd.keys, Nd.texts] at h1 h2
    simp only [mrg, cutL, cutR, Nd.keys, Nd.texts, Nd.kids, List.take_append_drop]
    rw [← h1, ← h2]
theorem ents_cut {h i : Nat} {y : Nd} (H : Sh h y) (hi : i < y.keys.length) : ents h y = ents h (cutL i y) ++ (kAt y.keys i, tAt y.texts i) :: ents h (cutR i y) := by
  conv => lhs; rw [cut_mrg H hi]
  exact ents_mrg (kAt y.keys i, tAt y.texts i) (cutL_sh H hi) (cutR_sh H hi)

/-- What lies before a kid, and what behind. -/
def eL (h k : Nat) (x : Nd) : List En := wl ((x.kids.take k).map (ents h)) ((x.keys.take k).zip (x.texts.take k))
def eR (h k j : Nat) (x : Nd) : List En := tw ((x.keys.drop k).zip (x.texts.drop k)) ((x.kids.drop j).map (ents h))
theorem ents_one {h k : Nat} {x : Nd} (H : Sh (h + 1) x) (hk : k ≤ x.keys.length) (y : Nd) : ents (h + 1) (.mk x.keys x.texts (x.kids.take k ++ y :: x.kids.drop (k + 1))) = eL h k x ++ (ents h y ++ eR h k (k + 1) x) := by
  have := ents_frame h (x.keys.take k) (x.keys.drop k) (x.texts.take k) (x.texts.drop k) (x.kids.take k) (x.kids.drop (k + 1)) y (by have := H.kn; simp; omega) (by simp [H.texts])
  rw [List.take_append_drop, List.take_append_drop] at this
  exact this
theorem ents_ins {h k : Nat} {x : Nd} (H : Sh (h + 1) x) (hk : k ≤ x.keys.length) (e : En) (y z : Nd) : ents (h + 1) (.mk (ins x.keys k e.1) (ins x.texts k e.2) (x.kids.take k ++ y :: z :: x.kids.drop (k + 1))) = eL h k x ++ (ents h y ++ e :: (ents h z ++ eR h k (k + 1) x)) := by
  have := ents_frame h (x.keys.take k) (e.1 :: x.keys.drop k) (x.texts.take k) (e.2 :: x.texts.drop k) (x.kids.take k) (z :: x.kids.drop (k + 1)) y (by have := H.kn; simp; omega) (by simp [H.texts])
  simp only [ins, List.append_assoc, List.cons_append, List.nil_append]
  rw [this]
  simp only [List.zip_cons_cons, List.map_cons, tw_cons]
  rfl
theorem set_split {α : Type} {l : List α} {k : Nat} (a : α) (h : k < l.length) : l.set k a = l.take k ++ a :: l.drop (k + 1) := by rw [List.set_eq_take_append_cons_drop, if_pos h]
theorem ents_set {h k : Nat} {x : Nd} (H : Sh (h + 1) x) (hk : k < x.keys.length) (e : En) (y z : Nd) : ents (h + 1) (.mk (x.keys.set k e.1) (x.texts.set k e.2) (x.kids.take k ++ y :: z :: x.kids.drop (k + 2))) = eL h k x ++ (ents h y ++ e :: (ents h z ++ eR h (k + 1) (k + 2) x)) := by
  have := ents_frame h (x.keys.take k) (e.1 :: x.keys.drop (k + 1)) (x.texts.take k) (e.2 :: x.texts.drop (k + 1)) (x.kids.take k) (z :: x.kids.drop (k + 2)) y (by have := H.kn; simp; omega) (by simp [H.texts])
  rw [set_split _ hk, set_split _ (by rw [H.texts]; exact hk), this]
  simp only [List.zip_cons_cons, List.map_cons, tw_cons]
  rfl
theorem ents_del {h k : Nat} {x : Nd} (H : Sh (h + 1) x) (hk : k < x.keys.length) (y : Nd) : ents (h + 1) (.mk (del x.keys k) (del x.texts k) (x.kids.take k ++ y :: x.kids.drop (k + 2))) = eL h k x ++ (ents h y ++ eR h (k + 1) (k + 2) x) := by
  have := ents_frame h (x.keys.take k) (x.keys.drop (k + 1)) (x.texts.take k) (x.texts.drop (k + 1)) (x.kids.take k) (x.kids.drop (k + 2)) y (by have := H.kn; simp; omega) (by simp [H.texts])
  exact this
theorem Nd.eta (x : Nd) : .mk x.keys x.texts x.kids = x := by cases x; rfl
theorem split4 {α : Type} {l : List α} {i : Nat} {a b : α} (h : l[i]? = some a) (h2 : l[i + 1]? = some b) : l = l.take i ++ a :: b :: l.drop (i + 2) := by
  obtain ⟨h1, rfl⟩ := List.getElem?_eq_some_iff.1 h
  obtain ⟨h3, rfl⟩ := List.getElem?_eq_some_iff.1 h2
  rw [← List.drop_eq_getElem_cons h3, ← List.drop_eq_getElem_cons h1, List.take_append_drop]
theorem ents_at {h k : Nat} {x y : Nd} (H : Sh (h + 1) x) (hk : k ≤ x.keys.length) (hy : x.kids[k]? = some y) : ents (h + 1) x = eL h k x ++ (ents h y ++ eR h k (k + 1) x) := by
  rw [← ents_one H hk y]
  have e := split3 hy
  simp only [List.append_assoc, List.cons_append, List.nil_append] at e
  rw [← e, Nd.eta]
theorem ents_two {h k : Nat} {x y z : Nd} (H : Sh (h + 1) x) (hk : k < x.keys.length) (hy : x.kids[k]? = some y) (hz : x.kids[k + 1]? = some z) : ents (h + 1) x = eL h k x ++ (ents h y ++ (kAt x.keys k, tAt x.texts k) :: (ents h z ++ eR h (k + 1) (k + 2) x)) := by
  rw [← ents_set H hk (kAt x.keys k, tAt x.texts k) y z, ← split4 hy hz]
  simp only [set_split _ hk, set_split (l := x.texts) (k := k) _ (by rw [H.texts]; exact hk)]
  have h1 := kAt_split hk
  have h2 := tAt_split (l := x.texts) (i := k) (by rw [H.texts]; exact hk)
  simp only [List.append_assoc, List.cons_append, List.nil_append] at h1 h2
  rw [← h1, ← h2, Nd.eta]
end Go.Proofs.Ytnghaidnbicjjaa
