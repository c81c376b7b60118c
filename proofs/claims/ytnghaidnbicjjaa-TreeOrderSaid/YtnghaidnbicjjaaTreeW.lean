/- tree: each. -/
import Derived.Test.YtnghaidnbicjjaaTreeV
import Derived.Test.YtnghaidnbicjjaaGwTurnD
set_option linter.unusedVariables false
set_option linter.unusedSimpArgs false
set_option maxRecDepth 20000
namespace Go.Proofs.Ytnghaidnbicjjaa
open Go Gw
open Go.RowKit (Below)

def fromS (frm : Int) (l : List En) : List En := l.filter fun e => decide (frm ≤ e.1)
/-- What is left to be told, from the kid i on. -/
def leftS (h i : Nat) (y : Nd) (frm : Int) : List En := match h with
  | 0 => fromS frm ((es y).drop i)
  | h + 1 => fromS frm (weave ((y.kids.drop i).map (ents h)) ((es y).drop i))
def kidS (h i : Nat) (y : Nd) (frm : Int) : List En := match h with
  | 0 => []
  | h + 1 => match y.kids[i]? with | some z => fromS frm (ents h z) | none => []
theorem fromS_app (frm : Int) (a b : List En) : fromS frm (a ++ b) = fromS frm a ++ fromS frm b := List.filter_append ..
theorem es_at {h : Nat} {y : Nd} (H : Sh h y) {i : Nat} (hi : i < y.keys.length) : (es y)[i]? = some (kAt y.keys i, tAt y.texts i) := by
  have h1 := kAt_get hi
  have h2 := tAt_get (l := y.texts) (i := i) (by rw [H.texts]; exact hi)
  unfold es
  exact (List.getElem?_zip_eq_some (z := (kAt y.keys i, tAt y.texts i))).2 ⟨h1, h2⟩
theorem leftS_at {h i : Nat} {y : Nd} {frm : Int} (H : Sh h y) (hi : i < y.keys.length) (hf : frm ≤ kAt y.keys i) : leftS h i y frm = kidS h i y frm ++ ((kAt y.keys i, tAt y.texts i) :: leftS h (i + 1) y frm) := by
  obtain ⟨h1, h2⟩ := List.getElem?_eq_some_iff.1 (es_at H hi)
  have hd : (es y).drop i = (kAt y.keys i, tAt y.texts i) :: (es y).drop (i + 1) := by rw [List.drop_eq_getElem_cons h1, h2]
  cases h with
  | zero =>
    show fromS frm ((es y).drop i) = [] ++ _ :: fromS frm ((es y).drop (i + 1))
    rw [hd]
    simp [fromS, hf]
  | succ h =>
    have hk := H.kn
    have h3 : i < y.kids.length := by omega
    show fromS frm (weave ((y.kids.drop i).map (ents h)) ((es y).drop i)) = (match y.kids[i]? with | some z => fromS frm (ents h z) | none => []) ++ _ :: fromS frm (weave ((y.kids.drop (i + 1)).map (ents h)) ((es y).drop (i + 1)))
    rw [hd, List.drop_eq_getElem_cons h3, List.map_cons, List.getElem?_eq_getElem h3]
    show fromS frm (ents h y.kids[i] ++ (_ :: weave _ _)) = _
    rw [fromS_app]
    congr 1
    simp [fromS, hf]
theorem leftS_end {h : Nat} {y : Nd} {frm : Int} (H : Sh h y) : leftS h y.keys.length y frm = kidS h y.keys.length y frm := by
  have hd : (es y).drop y.keys.length = [] := List.drop_eq_nil_of_le (by rw [es_len H]; exact Nat.le_refl _)
  cases h with
  | zero => show fromS frm ((es y).drop _) = []; rw [hd]; rfl
  | succ h =>
    have hk := H.kn
    have h3 : y.keys.length < y.kids.length := by omega
    show fromS frm (weave ((y.kids.drop _).map (ents h)) ((es y).drop _)) = (match y.kids[y.keys.length]? with | some z => fromS frm (ents h z) | none => [])
    rw [hd, List.drop_eq_getElem_cons h3, List.map_cons, List.getElem?_eq_getElem h3]
    rfl
theorem leftS_past {h : Nat} {y : Nd} {frm : Int} (H : Sh h y) : leftS h (y.keys.length + 1) y frm = [] := by
  have hd : (es y).drop (y.keys.length + 1) = [] := List.drop_eq_nil_of_le (by rw [es_len H]; omega)
  cases h with
  | zero => show fromS frm ((es y).drop _) = []; rw [hd]; rfl
  | succ h =>
    have hk := H.kn
    show fromS frm (weave ((y.kids.drop _).map (ents h)) ((es y).drop _)) = []
    rw [hd, List.drop_eq_nil_of_le (by omega)]
    rfl
theorem fromS_none {frm : Int} {l : List En} (h : ∀ e ∈ l, e.1 < frm) : fromS frm l = [] := filter_none fun e he => by have := h e he; simp; omega
theorem leftS_start {h lo hi : Nat} {y : Nd} {frm : Int} (H : Bt lo hi h y) (hs : So (ents h y)) : leftS h (posF y.keys frm) y frm = fromS frm (ents h y) := by
  cases h with
  | zero =>
    have e : ents 0 y = _ := leaf_ents H.sh.texts (posF y.keys frm)
    rw [e, fromS_app, fromS_none leaf_lt, List.nil_append]
    show fromS frm ((es y).drop _) = _
    unfold es
    simp only [List.zip, List.drop_zipWith]
  | succ h =>
    have hk := H.sh.kn
    have hle := posF_le y.keys frm
    have hlen := es_len H.sh
    have e : ents (h + 1) y = wl ((y.kids.take (posF y.keys frm)).map (ents h)) ((es y).take (posF y.keys frm)) ++ weave ((y.kids.drop (posF y.keys frm)).map (ents h)) ((es y).drop (posF y.keys frm)) := by
      rw [← weave_app _ _ _ _ (by simp; omega), ← List.map_append, List.take_append_drop, List.take_append_drop]
      rfl
    rw [e] at hs ⊢
    rw [fromS_app, fromS_none (wl_lt hs.parts.1 fun e he => ?_), List.nil_append]
    · rfl
    · refine take_posF (keys := y.keys) e.1 ?_
      have h2 : e ∈ (y.keys.take (posF y.keys frm)).zip (y.texts.take (posF y.keys frm)) := by
        have h3 : (es y).take (posF y.keys frm) = (y.keys.take (posF y.keys frm)).zip (y.texts.take (posF y.keys frm)) := by unfold es; simp only [List.zip, List.take_zipWith]
        rw [← h3]; exact he
      exact (List.of_mem_zip (a := e.1) (b := e.2) h2).1
end Go.Proofs.Ytnghaidnbicjjaa
