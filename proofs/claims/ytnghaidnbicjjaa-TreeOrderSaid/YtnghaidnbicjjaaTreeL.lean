/- tree: what mending, taking the last and dropping keep. No program in sight. -/
import Derived.Test.YtnghaidnbicjjaaTreeK
set_option linter.unusedVariables false
set_option linter.unusedSimpArgs false
set_option maxRecDepth 20000
namespace Go.Proofs.Ytnghaidnbicjjaa
open Go Gw

theorem keys_mk (k : List Int) (t : List ByteArray) (c : List Nd) : (Nd.mk k t c).keys = k := rfl
theorem texts_mk (k : List Int) (t : List ByteArray) (c : List Nd) : (Nd.mk k t c).texts = t := rfl
theorem kids_mk (k : List Int) (t : List ByteArray) (c : List Nd) : (Nd.mk k t c).kids = c := rfl
theorem rotA_cut (y : Nd) : rotA y = cutL (lastI y) y := rfl
theorem rotB_cut {h : Nat} {y z : Nd} (a : Int) (b : ByteArray) (H : Sh h y) (hy : 1 ≤ y.keys.length) : rotB a b y z = mrg a b (cutR (lastI y) y) z := by
  have hl : y.keys.length = lastI y + 1 := by simp only [lastI]; omega
  unfold rotB mrg cutR
  simp only [keys_mk, texts_mk, kids_mk]
  have e1 : y.keys.drop (lastI y + 1) = [] := by apply List.drop_eq_nil_of_le; omega
  have e2 : y.texts.drop (lastI y + 1) = [] := by apply List.drop_eq_nil_of_le; rw [H.texts]; omega
  rw [e1, e2]
  simp only [ins, List.take_zero, List.drop_zero, List.nil_append]
  congr 1
  cases h with
  | zero => rw [show y.kids = [] from H.kids]; simp
  | succ h =>
    have hk := H.kn
    have h1 : lastI y + 1 < y.kids.length := by omega
    rw [List.getElem?_eq_getElem h1, List.drop_eq_getElem_cons h1, List.drop_eq_nil_of_le (by omega)]
theorem rotC_cut (a : Int) (b : ByteArray) (y z : Nd) : rotC a b y z = mrg a b y (cutL 0 z) := by
  unfold rotC mrg cutL
  simp only [keys_mk, texts_mk, kids_mk, List.take_zero, List.append_nil]
  congr 1
  cases z.kids <;> simp
theorem rotD_cut (z : Nd) : rotD z = cutR 0 z := rfl
theorem mrg_keys (a : Int) (b : ByteArray) (y z : Nd) : (mrg a b y z).keys.length = y.keys.length + 1 + z.keys.length := by simp [mrg, keys_mk]; omega
theorem mrg_ks {h : Nat} {a : Int} {b : ByteArray} {y z : Nd} (H : Ks h y.kids) (K : Ks h z.kids) : Ks h (mrg a b y z).kids := H.app K
theorem cutL_ks {h i : Nat} {y : Nd} (H : Ks h y.kids) : Ks h (cutL i y).kids := H.sub fun y hy => List.mem_of_mem_take hy
theorem cutR_ks {h i : Nat} {y : Nd} (H : Ks h y.kids) : Ks h (cutR i y).kids := H.sub fun y hy => List.mem_of_mem_drop hy
theorem cutL_keys {h i : Nat} {y : Nd} (hi : i < y.keys.length) : (cutL i y).keys.length = i := by simp [cutL, keys_mk]; omega
theorem cutR_keys (i : Nat) (y : Nd) : (cutR i y).keys.length = y.keys.length - (i + 1) := by simp [cutR, keys_mk]

/-- What mending gives. -/
structure Rs (h : Nat) (x r : Nd) : Prop where
  sh : Sh (h + 1) r
  kids : ∀ y ∈ r.kids, Bt 2 4 h y
  lo : x.keys.length - 1 ≤ r.keys.length
  hi : r.keys.length ≤ x.keys.length
  same : ents (h + 1) r = ents (h + 1) x

theorem two_set {h k : Nat} {x y z y' z' : Nd} {e : En} (H : Sh (h + 1) x) (hk : k < x.keys.length) (hy : x.kids[k]? = some y) (hz : x.kids[k + 1]? = some z)
    (hl : ∀ u ∈ x.kids.take k, Bt 2 4 h u) (hr : ∀ u ∈ x.kids.drop (k + 2), Bt 2 4 h u) (hy' : Bt 2 4 h y') (hz' : Bt 2 4 h z')
    (he : ents h y' ++ e :: ents h z' = ents h y ++ (kAt x.keys k, tAt x.texts k) :: ents h z) : Rs h x (.mk (x.keys.set k e.1) (x.texts.set k e.2) (x.kids.take k ++ y' :: z' :: x.kids.drop (k + 2))) := by
  refine ⟨⟨?_, ?_⟩, ?_, ?_, ?_, ?_⟩
  · show (x.texts.set k e.2).length = (x.keys.set k e.1).length; simp [H.texts]
  · show List.length (_ ++ _) = (x.keys.set k e.1).length + 1; have := H.kn; simp; omega
  · intro u hu
    have hu : u ∈ x.kids.take k ++ y' :: z' :: x.kids.drop (k + 2) := hu
    simp only [List.mem_append, List.mem_cons] at hu
    rcases hu with hu | rfl | rfl | hu
    · exact hl u hu
    · exact hy'
    · exact hz'
    · exact hr u hu
  · show _ ≤ (x.keys.set k e.1).length; simp
  · show (x.keys.set k e.1).length ≤ _; simp
  · rw [ents_set H hk e, ents_two H hk hy hz]
    rw [← List.cons_append, ← List.append_assoc (ents h y'), he]
    simp
theorem two_join {h k : Nat} {x y z m : Nd} (H : Sh (h + 1) x) (hk : k < x.keys.length) (hy : x.kids[k]? = some y) (hz : x.kids[k + 1]? = some z)
    (hl : ∀ u ∈ x.kids.take k, Bt 2 4 h u) (hr : ∀ u ∈ x.kids.drop (k + 2), Bt 2 4 h u) (hm : Bt 2 4 h m)
    (he : ents h m = ents h y ++ (kAt x.keys k, tAt x.texts k) :: ents h z) : Rs h x (.mk (del x.keys k) (del x.texts k) (x.kids.take k ++ m :: x.kids.drop (k + 2))) := by
  have d1 := del_len hk
  have d2 := del_len (l := x.texts) (k := k) (by rw [H.texts]; exact hk)
  refine ⟨⟨?_, ?_⟩, ?_, ?_, ?_, ?_⟩
  · show (del x.texts k).length = (del x.keys k).length; rw [d1, d2, H.texts]
  · show List.length (_ ++ _) = (del x.keys k).length + 1; have := H.kn; rw [d1]; simp; omega
  · intro u hu
    have hu : u ∈ x.kids.take k ++ m :: x.kids.drop (k + 2) := hu
    simp only [List.mem_append, List.mem_cons] at hu
    rcases hu with hu | rfl | hu
    · exact hl u hu
    · exact hm
    · exact hr u hu
  · show _ ≤ (del x.keys k).length; omega
  · show (del x.keys k).length ≤ _; omega
  · rw [ents_del H hk, ents_two H hk hy hz, he]
    simp

/-- What may be mended: the kid at k has one key at least. -/
structure Mq (h k : Nat) (x : Nd) : Prop where
  sh : Sh (h + 1) x
  pos : 1 ≤ x.keys.length
  le : k ≤ x.keys.length
  l : ∀ u ∈ x.kids.take k, Bt 2 4 h u
  r : ∀ u ∈ x.kids.drop (k + 1), Bt 2 4 h u
  m : ∃ y, x.kids[k]? = some y ∧ Bt 1 4 h y

theorem take_sub {α : Type} {l : List α} {i j : Nat} (h : i ≤ j) {u : α} (hu : u ∈ l.take i) : u ∈ l.take j := List.take_subset_take_left l h hu
theorem drop_sub {α : Type} {l : List α} {i j : Nat} (h : i ≤ j) {u : α} (hu : u ∈ l.drop j) : u ∈ l.drop i := List.drop_subset_drop_left l h hu
theorem mem_take_at {α : Type} {l : List α} {i j : Nat} {u : α} (h : l[i]? = some u) (hij : i < j) : u ∈ l.take j := by
  apply List.mem_of_getElem? (i := i); rw [List.getElem?_take_of_lt hij, h]
theorem mem_drop_at {α : Type} {l : List α} {i j : Nat} {u : α} (h : l[i]? = some u) (hij : j ≤ i) : u ∈ l.drop j := by
  apply List.mem_of_getElem? (i := i - j); rw [List.getElem?_drop]; rw [show j + (i - j) = i from by omega]; exact h

theorem rs_rotR {h k : Nat} {x y z : Nd} (H : Sh (h + 1) x) (hk : k < x.keys.length) (hy : x.kids[k]? = some y) (hz : x.kids[k + 1]? = some z)
    (hl : ∀ u ∈ x.kids.take k, Bt 2 4 h u) (hr : ∀ u ∈ x.kids.drop (k + 2), Bt 2 4 h u) (by' : Bt 3 4 h y) (bz : Bt 1 1 h z) : Rs h x (rotR k x y z) := by
  have hp := by'.lo
  have hq := by'.hi
  have hp1 := bz.lo
  have hp2 := bz.hi
  have hlast : lastI y < y.keys.length := by simp only [lastI]; omega
  have hl2 : lastI y + 1 = y.keys.length := by simp only [lastI]; omega
  refine two_set (e := (kAt y.keys (lastI y), tAt y.texts (lastI y))) H hk hy hz hl hr ?_ ?_ ?_
  · rw [rotA_cut]
    exact Bt.mk (cutL_sh by'.sh hlast) (cutL_ks by'.ks) (by rw [cutL_keys (h := h) hlast]; omega) (by rw [cutL_keys (h := h) hlast]; omega)
  · rw [rotB_cut _ _ by'.sh (by omega)]
    exact Bt.mk (mrg_sh (cutR_sh by'.sh hlast) bz.sh) (mrg_ks (cutR_ks by'.ks) bz.ks) (by rw [mrg_keys, cutR_keys]; omega) (by rw [mrg_keys, cutR_keys]; omega)
  · rw [rotA_cut, rotB_cut _ _ by'.sh (by omega), ents_mrg (kAt x.keys k, tAt x.texts k) (cutR_sh by'.sh hlast) bz.sh, ents_cut by'.sh hlast]
    simp
theorem rs_rotL {h k : Nat} {x y z : Nd} (H : Sh (h + 1) x) (hk : k < x.keys.length) (hy : x.kids[k]? = some y) (hz : x.kids[k + 1]? = some z)
    (hl : ∀ u ∈ x.kids.take k, Bt 2 4 h u) (hr : ∀ u ∈ x.kids.drop (k + 2), Bt 2 4 h u) (by' : Bt 1 1 h y) (bz : Bt 3 4 h z) : Rs h x (rotL k x y z) := by
  have hp := by'.lo
  have hq := by'.hi
  have hp1 := bz.lo
  have hp2 := bz.hi
  have h0 : 0 < z.keys.length := by omega
  refine two_set (e := (kAt z.keys 0, tAt z.texts 0)) H hk hy hz hl hr ?_ ?_ ?_
  · rw [rotC_cut]
    exact Bt.mk (mrg_sh by'.sh (cutL_sh bz.sh h0)) (mrg_ks by'.ks (cutL_ks bz.ks)) (by rw [mrg_keys, cutL_keys (h := h) h0]; omega) (by rw [mrg_keys, cutL_keys (h := h) h0]; omega)
  · rw [rotD_cut]
    exact Bt.mk (cutR_sh bz.sh h0) (cutR_ks bz.ks) (by rw [cutR_keys]; omega) (by rw [cutR_keys]; omega)
  · rw [rotC_cut, rotD_cut, ents_mrg (kAt x.keys k, tAt x.texts k) by'.sh (cutL_sh bz.sh h0), ents_cut bz.sh h0]
    simp
theorem rs_join {h k a b c d : Nat} {x y z : Nd} (H : Sh (h + 1) x) (hk : k < x.keys.length) (hy : x.kids[k]? = some y) (hz : x.kids[k + 1]? = some z)
    (hl : ∀ u ∈ x.kids.take k, Bt 2 4 h u) (hr : ∀ u ∈ x.kids.drop (k + 2), Bt 2 4 h u) (by' : Bt a b h y) (bz : Bt c d h z) (h1 : 2 ≤ a + 1 + c) (h2 : b + 1 + d ≤ 4) : Rs h x (joinN k x y z) := by
  have hp := by'.lo
  have hq := by'.hi
  have hp1 := bz.lo
  have hp2 := bz.hi
  refine two_join H hk hy hz hl hr ?_ ?_
  · exact Bt.mk (mrg_sh by'.sh bz.sh) (mrg_ks by'.ks bz.ks) (by rw [mrg_keys]; omega) (by rw [mrg_keys]; omega)
  · exact ents_mrg (kAt x.keys k, tAt x.texts k) by'.sh bz.sh

theorem two_eq {f : Nat → Nd → Nd → Nd → Nd} {k : Nat} {x y z : Nd} (hy : x.kids[k]? = some y) (hz : x.kids[k + 1]? = some z) : two f k x = f k x y z := by unfold two; rw [hy, hz]
theorem nkF_eq {k : Nat} {x y : Nd} (hy : x.kids[k]? = some y) : nkF x k = y.keys.length := by unfold nkF; rw [hy]
theorem Bt.bounds {lo hi lo' hi' h : Nat} {x : Nd} (H : Bt lo hi h x) (h1 : lo' ≤ x.keys.length) (h2 : x.keys.length ≤ hi') : Bt lo' hi' h x := Bt.mk H.sh H.ks h1 h2

theorem mend_law {h k : Nat} {x : Nd} (H : Mq h k x) : Rs h x (mendF k x) := by
  obtain ⟨y, hy, by'⟩ := H.m
  have hkn := H.sh.kn
  have hp := H.pos
  have hle := H.le
  have h1 := by'.lo
  have h4 := by'.hi
  unfold mendF
  split
  · rename_i h2
    rw [nkF_eq hy] at h2
    refine ⟨H.sh, fun u hu => ?_, by omega, by omega, rfl⟩
    rw [split3 hy] at hu
    simp only [List.mem_append, List.mem_cons, List.not_mem_nil, or_false] at hu
    rcases hu with (hu | rfl) | hu
    · exact H.l u hu
    · exact by'.bounds h2 h4
    · exact H.r u hu
  rename_i h2
  rw [nkF_eq hy] at h2
  have hone : Bt 1 1 h y := by'.bounds h1 (by omega)
  split
  · rename_i h3
    obtain ⟨h0, h3⟩ := h3
    obtain ⟨z, hz⟩ : ∃ z, x.kids[k - 1]? = some z := ⟨_, List.getElem?_eq_getElem (by omega)⟩
    rw [nkF_eq hz] at h3
    have hy' : x.kids[k - 1 + 1]? = some y := by rw [Nat.sub_add_cancel h0]; exact hy
    have bz := H.l z (mem_take_at hz (by omega))
    rw [two_eq hz hy']
    exact rs_rotR H.sh (by omega) hz hy' (fun u hu => H.l u (take_sub (by omega) hu)) (fun u hu => H.r u (drop_sub (by omega) hu)) (bz.bounds (by omega) bz.hi) hone
  rename_i h3
  split
  · rename_i h5
    obtain ⟨h0, h5⟩ := h5
    obtain ⟨z, hz⟩ : ∃ z, x.kids[k + 1]? = some z := ⟨_, List.getElem?_eq_getElem (by omega)⟩
    rw [nkF_eq hz] at h5
    have bz := H.r z (mem_drop_at hz (by omega))
    rw [two_eq hy hz]
    exact rs_rotL H.sh (by omega) hy hz (fun u hu => H.l u (take_sub (by omega) hu)) (fun u hu => H.r u (drop_sub (by omega) hu)) hone (bz.bounds (by omega) bz.hi)
  rename_i h5
  split
  · rename_i h0
    obtain ⟨z, hz⟩ : ∃ z, x.kids[k - 1]? = some z := ⟨_, List.getElem?_eq_getElem (by omega)⟩
    have h3 : ¬ 2 < nkF x (k - 1) := fun e => h3 ⟨h0, e⟩
    rw [nkF_eq hz] at h3
    have hy' : x.kids[k - 1 + 1]? = some y := by rw [Nat.sub_add_cancel h0]; exact hy
    have bz := H.l z (mem_take_at hz (by omega))
    rw [two_eq hz hy']
    exact rs_join H.sh (by omega) hz hy' (fun u hu => H.l u (take_sub (by omega) hu)) (fun u hu => H.r u (drop_sub (by omega) hu)) (bz.bounds bz.lo (show z.keys.length ≤ 2 by omega)) hone (by omega) (by omega)
  · rename_i h0
    obtain ⟨z, hz⟩ : ∃ z, x.kids[k + 1]? = some z := ⟨_, List.getElem?_eq_getElem (by omega)⟩
    have h5 : ¬ 2 < nkF x (k + 1) := fun e => h5 ⟨by omega, e⟩
    rw [nkF_eq hz] at h5
    have bz := H.r z (mem_drop_at hz (by omega))
    rw [two_eq hy hz]
    exact rs_join H.sh (by omega) hy hz (fun u hu => H.l u (take_sub (by omega) hu)) (fun u hu => H.r u (drop_sub (by omega) hu)) hone (bz.bounds bz.lo (show z.keys.length ≤ 2 by omega)) (by omega) (by omega)

/-- The node with another kid at k. -/
def kidSet (k : Nat) (x y : Nd) : Nd := .mk x.keys x.texts (x.kids.set k y)
theorem kidSet_mq {lo hi h k : Nat} {x y : Nd} (H : Bt lo hi (h + 1) x) (hp : 1 ≤ x.keys.length) (hk : k ≤ x.keys.length) (hy : Bt 1 4 h y) : Mq h k (kidSet k x y) := by
  have hkn := H.sh.kn
  refine ⟨⟨H.sh.texts, ?_⟩, hp, hk, fun u hu => ?_, fun u hu => ?_, y, ?_, hy⟩
  · show (x.kids.set k y).length = x.keys.length + 1; simp [hkn]
  · have hu : u ∈ (x.kids.set k y).take k := hu
    rw [List.take_set_of_le (Nat.le_refl k)] at hu
    exact H.2.2 u (List.mem_of_mem_take hu)
  · have hu : u ∈ (x.kids.set k y).drop (k + 1) := hu
    rw [List.drop_set_of_lt (by omega)] at hu
    exact H.2.2 u (List.mem_of_mem_drop hu)
  · show (x.kids.set k y)[k]? = some y
    rw [List.getElem?_set_self (by omega)]
theorem kidSet_ents {lo hi h k : Nat} {x y : Nd} (H : Bt lo hi (h + 1) x) (hk : k ≤ x.keys.length) : ents (h + 1) (kidSet k x y) = eL h k x ++ (ents h y ++ eR h k (k + 1) x) := by
  rw [← ents_one H.sh hk y]
  unfold kidSet
  rw [set_split _ (by have := H.sh.kn; omega)]

def lastF : Nat → Nd → Nd × En
  | 0, x => (.mk (x.keys.take (lastI x)) (x.texts.take (lastI x)) x.kids, (kAt x.keys (lastI x), tAt x.texts (lastI x)))
  | h + 1, x => match x.kids[lastI x + 1]? with
    | none => (x, (0, ⟨#[]⟩))
    | some y => (mendF (lastI x + 1) (kidSet (lastI x + 1) x (lastF h y).1), (lastF h y).2)
theorem last_law : ∀ {h lo hi : Nat} {x : Nd}, Bt lo hi h x → 1 ≤ x.keys.length → Bt (lo - 1) hi h (lastF h x).1 ∧ ents h x = ents h (lastF h x).1 ++ [(lastF h x).2]
  | 0, lo, hi, x, H, hp => by
    have hlast : lastI x < x.keys.length := by simp only [lastI]; omega
    have hl2 : lastI x + 1 = x.keys.length := by simp only [lastI]; omega
    have hk : x.kids = [] := H.sh.kids
    have e : (lastF 0 x).1 = cutL (lastI x) x := by simp [lastF, cutL, hk]
    have h1 := H.lo
    have h2 := H.hi
    rw [e]
    refine ⟨Bt.mk (cutL_sh H.sh hlast) (cutL_ks H.ks) (by rw [cutL_keys (h := 0) hlast]; omega) (by rw [cutL_keys (h := 0) hlast]; omega), ?_⟩
    rw [ents_cut H.sh hlast]
    have e2 : ents 0 (cutR (lastI x) x) = [] := by simp [ents, es, cutR, keys_mk, texts_mk, List.drop_eq_nil_of_le (show x.keys.length ≤ lastI x + 1 by omega)]
    rw [e2]
    rfl
  | h + 1, lo, hi, x, H, hp => by
    have hl2 : lastI x + 1 = x.keys.length := by simp only [lastI]; omega
    have hkn := H.sh.kn
    obtain ⟨y, hy⟩ : ∃ y, x.kids[lastI x + 1]? = some y := ⟨_, List.getElem?_eq_getElem (by omega)⟩
    have by' := H.2.2 y (List.mem_of_getElem? hy)
    obtain ⟨h1, h2⟩ := last_law by' (by have := by'.lo; omega)
    have e : lastF (h + 1) x = (mendF (lastI x + 1) (kidSet (lastI x + 1) x (lastF h y).1), (lastF h y).2) := by simp only [lastF, hy]
    rw [e]
    have hm := mend_law (kidSet_mq (k := lastI x + 1) H hp (by omega) (y := (lastF h y).1) h1)
    have hlo := H.lo
    have hhi := H.hi
    have a1 := hm.lo
    have a2 := hm.hi
    rw [show (kidSet (lastI x + 1) x (lastF h y).1).keys = x.keys from rfl] at a1 a2
    refine ⟨Bt.mk hm.sh hm.kids (by show _ ≤ (mendF _ _).keys.length; omega) (by show (mendF _ _).keys.length ≤ _; omega), ?_⟩
    show _ = ents (h + 1) (mendF _ _) ++ [(lastF h y).2]
    rw [hm.same, kidSet_ents H (by omega), ents_at H.sh (by omega) hy, h2]
    have e3 : eR h (lastI x + 1) (lastI x + 1 + 1) x = [] := by simp [eR, List.drop_eq_nil_of_le (show x.keys.length ≤ lastI x + 1 by omega), tw]
    rw [e3]
    simp
end Go.Proofs.Ytnghaidnbicjjaa
