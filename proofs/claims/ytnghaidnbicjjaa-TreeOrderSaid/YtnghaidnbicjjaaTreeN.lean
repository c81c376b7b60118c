/- tree: what dropping and putting give. No program in sight. -/
import Derived.Test.YtnghaidnbicjjaaTreeM
set_option linter.unusedVariables false
set_option linter.unusedSimpArgs false
set_option maxRecDepth 20000
namespace Go.Proofs.Ytnghaidnbicjjaa
open Go Gw

def keySet (p : Nat) (x : Nd) (e : En) (y : Nd) : Nd := .mk (x.keys.set p e.1) (x.texts.set p e.2) (x.kids.set p y)
def dropF : Nat → Nd → Int → Nd
  | 0, x, key => .mk (del x.keys (posF x.keys key)) (del x.texts (posF x.keys key)) x.kids
  | h + 1, x, key => match x.kids[posF x.keys key]? with
    | none => x
    | some y => mendF (posF x.keys key) (if hasF' x.keys key then keySet (posF x.keys key) x (lastF h y).2 (lastF h y).1 else kidSet (posF x.keys key) x (dropF h y key))

theorem keySet_mq {lo hi h k : Nat} {x y : Nd} {e : En} (H : Bt lo hi (h + 1) x) (hp : 1 ≤ x.keys.length) (hk : k ≤ x.keys.length) (hy : Bt 1 4 h y) : Mq h k (keySet k x e y) := by
  have M := kidSet_mq H hp hk hy
  refine ⟨⟨?_, ?_⟩, ?_, ?_, M.l, M.r, M.m⟩
  · show (x.texts.set k e.2).length = (x.keys.set k e.1).length; simp [H.sh.texts]
  · show (x.kids.set k y).length = (x.keys.set k e.1).length + 1; simp [H.sh.kn]
  · show _ ≤ (x.keys.set k e.1).length; simpa using hp
  · show _ ≤ (x.keys.set k e.1).length; simpa using hk
theorem set_take2 {α : Type} {l : List α} {k : Nat} {b : α} (a : α) (hb : l[k + 1]? = some b) : l.set k a = l.take k ++ a :: b :: l.drop (k + 2) := by
  obtain ⟨h1, rfl⟩ := List.getElem?_eq_some_iff.1 hb
  rw [set_split _ (by omega), List.drop_eq_getElem_cons h1]
theorem keySet_ents {lo hi h k : Nat} {x z : Nd} {e : En} (H : Bt lo hi (h + 1) x) (hk : k < x.keys.length) (hz : x.kids[k + 1]? = some z) (y : Nd) : ents (h + 1) (keySet k x e y) = eL h k x ++ (ents h y ++ e :: (ents h z ++ eR h (k + 1) (k + 2) x)) := by
  rw [← ents_set H.sh hk e y z]
  unfold keySet
  rw [set_take2 _ hz]

theorem drop_law : ∀ {h lo hi : Nat} {x : Nd} {key : Int}, Bt lo hi h x → 1 ≤ x.keys.length → So (ents h x) → getS (ents h x) key ≠ none → Bt (lo - 1) hi h (dropF h x key) ∧ ents h (dropF h x key) = dropS (ents h x) key
  | 0, lo, hi, x, key, H, hp, hs, hg => by
    have h1 := H.lo
    have h2 := H.hi
    have hh : hasF' x.keys key = true := by
      rw [← get_law H hs] at hg
      by_cases hh : hasF' x.keys key = true
      · exact hh
      · simp [getF, hh] at hg
    have hlt := hasF_lt hh
    have d1 := del_len hlt
    have d2 := del_len (l := x.texts) (k := posF x.keys key) (by rw [H.sh.texts]; exact hlt)
    have ht := H.sh.texts
    refine ⟨⟨⟨?_, H.sh.kids⟩, ?_, ?_⟩, ?_⟩
    · show (del x.texts _).length = (del x.keys _).length; omega
    · show _ ≤ (del x.keys _).length; omega
    · show (del x.keys _).length ≤ _; omega
    · have e := ents_cut H.sh hlt
      rw [hasF_at hh] at e
      rw [e] at hs
      obtain ⟨a1, a2, _⟩ := hs.mid
      rw [e, show ∀ (A B : List En) (u : En), A ++ u :: B = A ++ ([u] ++ B) from fun _ _ _ => rfl, dropS_about a1 a2, dropS_one]
      show (del x.keys _).zip (del x.texts _) = (x.keys.take _).zip (x.texts.take _) ++ (x.keys.drop _).zip (x.texts.drop _)
      rw [← List.zip_append (by simp [ht])]
      rfl
  | h + 1, lo, hi, x, key, H, hp, hs, hg => by
    have h1 := H.lo
    have h2 := H.hi
    obtain ⟨y, hy, hb⟩ := kid_at H (posF_le x.keys key)
    have hyp : 1 ≤ y.keys.length := by have := hb.lo; omega
    by_cases hh : hasF' x.keys key = true
    · have hlt := hasF_lt hh
      obtain ⟨z, hz⟩ : ∃ z, x.kids[posF x.keys key + 1]? = some z := ⟨_, List.getElem?_eq_getElem (by have := H.sh.kn; omega)⟩
      obtain ⟨l1, l2⟩ := last_law hb hyp
      have e : dropF (h + 1) x key = mendF (posF x.keys key) (keySet (posF x.keys key) x (lastF h y).2 (lastF h y).1) := by simp only [dropF, hy, hh, if_true]
      have hm := mend_law (keySet_mq (e := (lastF h y).2) H hp (posF_le x.keys key) l1)
      have a1 := hm.lo
      have a2 := hm.hi
      rw [show (keySet (posF x.keys key) x (lastF h y).2 (lastF h y).1).keys.length = x.keys.length from by show (x.keys.set _ _).length = _; simp] at a1 a2
      rw [e]
      refine ⟨Bt.mk hm.sh hm.kids (by omega) (by omega), ?_⟩
      rw [hm.same, keySet_ents H hlt hz]
      have e2 := ents_two H.sh hlt hy hz
      rw [hasF_at hh] at e2
      rw [e2, ← List.append_assoc] at hs
      obtain ⟨b1, b2, _⟩ := hs.mid
      have hd := dropS_about (M := [(key, tAt x.texts (posF x.keys key))]) b1 b2
      rw [dropS_one] at hd
      rw [e2, ← List.append_assoc (eL _ _ _) (ents h y)]
      refine Eq.trans ?_ hd.symm
      rw [l2]
      simp
    · obtain ⟨e1, b1, b2, b3⟩ := not_about H hh hs hy
      have e : dropF (h + 1) x key = mendF (posF x.keys key) (kidSet (posF x.keys key) x (dropF h y key)) := by simp only [dropF, hy, hh]; rfl
      rw [e1, getS_about b1 b2] at hg
      obtain ⟨l1, l2⟩ := drop_law hb hyp b3 hg
      have hm := mend_law (kidSet_mq H hp (posF_le x.keys key) l1)
      have a1 := hm.lo
      have a2 := hm.hi
      rw [show (kidSet (posF x.keys key) x (dropF h y key)).keys = x.keys from rfl] at a1 a2
      rw [e]
      refine ⟨Bt.mk hm.sh hm.kids (by omega) (by omega), ?_⟩
      rw [hm.same, kidSet_ents H (posF_le x.keys key), l2, e1, dropS_about b1 b2]

/-- A kid that has too many keys is lifted. -/
theorem lift_law {h k : Nat} {x y : Nd} (H : Sh (h + 1) x) (hk : k ≤ x.keys.length) (hl : ∀ u ∈ x.kids.take k, Bt 2 4 h u) (hr : ∀ u ∈ x.kids.drop (k + 1), Bt 2 4 h u) (hy : x.kids[k]? = some y) (hb : Bt 2 5 h y) :
    Bt x.keys.length (x.keys.length + 1) (h + 1) (liftF k x) ∧ ents (h + 1) (liftF k x) = ents (h + 1) x := by
  have h1 := hb.lo
  have h2 := hb.hi
  unfold liftF
  rw [hy]
  simp only
  split
  · rename_i h4
    refine ⟨⟨H, ⟨Nat.le_refl _, by omega⟩, fun u hu => ?_⟩, rfl⟩
    rw [split3 hy] at hu
    simp only [List.mem_append, List.mem_cons, List.not_mem_nil, or_false] at hu
    rcases hu with (hu | rfl) | hu
    · exact hl u hu
    · exact hb.bounds h1 h4
    · exact hr u hu
  · rename_i h4
    have hm : midF y < y.keys.length := by simp only [midF]; omega
    have hm2 : midF y = 2 := by simp only [midF]; omega
    have i1 := ins_len (x := keyM y) hk
    have i2 := ins_len (l := x.texts) (x := textM y) (k := k) (by rw [H.texts]; exact hk)
    have ht := H.texts
    have hkn := H.kn
    refine ⟨⟨⟨?_, ?_⟩, ⟨?_, ?_⟩, ?_⟩, ?_⟩
    · show (ins x.texts _ _).length = (ins x.keys _ _).length; omega
    · show List.length (_ ++ _) = (ins x.keys _ _).length + 1
      simp; omega
    · show _ ≤ (ins x.keys _ _).length; omega
    · show (ins x.keys _ _).length ≤ _; omega
    · intro u hu
      have hu : u ∈ x.kids.take k ++ lftF y :: rightF y :: x.kids.drop (k + 1) := hu
      simp only [List.mem_append, List.mem_cons] at hu
      rcases hu with hu | rfl | rfl | hu
      · exact hl u hu
      · exact Bt.mk (cutL_sh hb.sh hm) (cutL_ks hb.ks) (by rw [show (lftF y).keys.length = _ from cutL_keys (h := h) hm]; omega) (by rw [show (lftF y).keys.length = _ from cutL_keys (h := h) hm]; omega)
      · exact Bt.mk (cutR_sh hb.sh hm) (cutR_ks hb.ks) (by rw [show (rightF y).keys.length = _ from cutR_keys (midF y) y]; omega) (by rw [show (rightF y).keys.length = _ from cutR_keys (midF y) y]; omega)
      · exact hr u hu
    · rw [ents_ins H hk (keyM y, textM y), ents_at H hk hy, ents_cut hb.sh hm]
      simp only [List.append_assoc, List.cons_append]
      rfl

theorem put_law : ∀ {h lo hi : Nat} {x : Nd} {key : Int} {text : ByteArray}, Bt lo hi h x → So (ents h x) →
    Bt lo (hi + 1) h (putF h x key text).1 ∧ ents h (putF h x key text).1 = updS (ents h x) key text ∧ (putF h x key text).2 = (getS (ents h x) key).isNone
  | h, lo, hi, x, key, text, H, hs => by
    have h1 := H.lo
    have h2 := H.hi
    have ht := H.sh.texts
    by_cases hh : hasF' x.keys key = true
    · have hlt := hasF_lt hh
      have e : putF h x key text = (.mk x.keys (x.texts.set (posF x.keys key) text) x.kids, false) := by cases h <;> simp [putF, hh]
      rw [e]
      have e1 := ents_cut H.sh hlt
      rw [hasF_at hh] at e1
      rw [e1] at hs
      obtain ⟨a1, a2, _⟩ := hs.mid
      have hsh : Sh h (.mk x.keys (x.texts.set (posF x.keys key) text) x.kids) := ⟨by show (x.texts.set _ _).length = _; rw [List.length_set]; exact ht, H.sh.kids⟩
      refine ⟨Bt.mk hsh H.ks h1 (by show x.keys.length ≤ _; omega), ?_, ?_⟩
      · rw [e1, show ∀ (A B : List En) (u : En), A ++ u :: B = A ++ ([u] ++ B) from fun _ _ _ => rfl, updS_about a1 a2, updS_one]
        show ents h _ = _
        rw [ents_cut hsh (i := posF x.keys key) hlt]
        have c1 : cutL (posF x.keys key) (.mk x.keys (x.texts.set (posF x.keys key) text) x.kids) = cutL (posF x.keys key) x := by
          simp only [cutL, keys_mk, texts_mk, kids_mk]
          rw [List.take_set_of_le (Nat.le_refl _)]
        have c2 : cutR (posF x.keys key) (.mk x.keys (x.texts.set (posF x.keys key) text) x.kids) = cutR (posF x.keys key) x := by
          simp only [cutR, keys_mk, texts_mk, kids_mk]
          rw [List.drop_set_of_lt (by omega)]
        have c3 : tAt (x.texts.set (posF x.keys key) text) (posF x.keys key) = text := by
          simp [tAt, List.getD, List.getElem?_set_self (show posF x.keys key < x.texts.length by omega)]
        rw [c1, c2, keys_mk, texts_mk, c3, hasF_at hh]
        rfl
      · rw [e1, show ∀ (A B : List En) (u : En), A ++ u :: B = A ++ ([u] ++ B) from fun _ _ _ => rfl, getS_about a1 a2, getS_one]
        rfl
    · cases h with
      | zero =>
        have e : putF 0 x key text = (.mk (ins x.keys (posF x.keys key) key) (ins x.texts (posF x.keys key) text) x.kids, true) := by simp [putF, hh]
        rw [e]
        have hle := posF_le x.keys key
        have i1 := ins_len (x := key) hle
        have i2 := ins_len (l := x.texts) (x := text) (k := posF x.keys key) (by omega)
        have e1 : ents 0 x = _ := leaf_ents ht (posF x.keys key)
        rw [e1] at hs
        have a1 := leaf_gt ht hh hs.parts.2.1
        refine ⟨⟨⟨?_, H.sh.kids⟩, ?_, ?_⟩, ?_, ?_⟩
        · show (ins x.texts _ _).length = (ins x.keys _ _).length; omega
        · show _ ≤ (ins x.keys _ _).length; omega
        · show (ins x.keys _ _).length ≤ _; omega
        · rw [e1, show ∀ a b : List En, a ++ b = a ++ ([] ++ b) from fun _ _ => rfl, updS_about leaf_lt a1, updS_nil]
          show (ins x.keys _ _).zip (ins x.texts _ _) = _
          unfold ins
          rw [List.zip_append (by simp [ht]), List.zip_append (by simp [ht])]
          simp
        · rw [e1, show ∀ a b : List En, a ++ b = a ++ ([] ++ b) from fun _ _ => rfl, getS_about leaf_lt a1]
          rfl
      | succ h =>
        obtain ⟨y, hy, hb⟩ := kid_at H (posF_le x.keys key)
        obtain ⟨e1, b1, b2, b3⟩ := not_about H hh hs hy
        obtain ⟨p1, p2, p3⟩ := put_law (key := key) (text := text) hb b3
        have e : putF (h + 1) x key text = (liftF (posF x.keys key) (kidSet (posF x.keys key) x (putF h y key text).1), (putF h y key text).2) := by simp only [putF, hh, hy]; rfl
        rw [e]
        have hkn := H.sh.kn
        have hle := posF_le x.keys key
        have hL := lift_law (h := h) (k := posF x.keys key) (x := kidSet (posF x.keys key) x (putF h y key text).1) (y := (putF h y key text).1)
          ⟨ht, by show (x.kids.set _ _).length = x.keys.length + 1; simp [hkn]⟩ (posF_le x.keys key)
          (fun u hu => by
            have hu : u ∈ (x.kids.set (posF x.keys key) (putF h y key text).1).take (posF x.keys key) := hu
            rw [List.take_set_of_le (Nat.le_refl _)] at hu
            exact H.2.2 u (List.mem_of_mem_take hu))
          (fun u hu => by
            have hu : u ∈ (x.kids.set (posF x.keys key) (putF h y key text).1).drop (posF x.keys key + 1) := hu
            rw [List.drop_set_of_lt (by omega)] at hu
            exact H.2.2 u (List.mem_of_mem_drop hu))
          (by show (x.kids.set _ _)[posF x.keys key]? = _; rw [List.getElem?_set_self (by omega)]) p1
        rw [show (kidSet (posF x.keys key) x (putF h y key text).1).keys = x.keys from rfl] at hL
        refine ⟨hL.1.weaken h1 (by omega), ?_, ?_⟩
        · show ents (h + 1) (liftF _ _) = _
          rw [hL.2, kidSet_ents H hle, p2, e1, updS_about b1 b2]
        · rw [e1, getS_about b1 b2]
          exact p3
end Go.Proofs.Ytnghaidnbicjjaa
