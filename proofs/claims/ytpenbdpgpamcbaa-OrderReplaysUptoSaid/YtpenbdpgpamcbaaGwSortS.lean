/- The library's SortFunc over a row of plain structs. Conditions: each fact's own premises. -/
import Derived.Test.YtpenbdpgpamcbaaGwNest
import Derived.Shelf.SlSortCmp.WholeK
set_option linter.unusedVariables false
set_option linter.unusedSimpArgs false
namespace Go.Proofs.Ytpenbdpgpamcbaa.Gw
open Go

theorem Pure.grown {w w' : World} (h : Pure w w') : ∃ (q : Nat) (os : Array Obj), w' = Go.Sort.grow (w.drewN q) os := by
  refine ⟨w'.drawn - w.drawn, w'.heap.extract w.heap.size w'.heap.size, ?_⟩
  have h1 := h.like.os
  have h2 := h.like.tape
  have h3 := h.like.output
  have h4 := h.like.drawn
  have h5 := h.like.size
  have h6 := h.same
  obtain ⟨heap, tape, drawn, os, out⟩ := w
  obtain ⟨heap', tape', drawn', os', out'⟩ := w'
  simp only at h1 h2 h3 h4 h5 h6
  subst h1; subst h2; subst h3
  simp only [Go.Sort.grow, World.drewN, World.mk.injEq, true_and, and_true]
  refine ⟨?_, by omega⟩
  apply Array.ext_getElem?
  intro k
  by_cases hk : k < heap.size
  · rw [Array.getElem?_append_left hk, h6 k hk]
  · rw [Array.getElem?_append_right (by omega)]
    simp only [Array.getElem?_extract]
    by_cases hk2 : k < heap'.size
    · rw [if_pos (by simp; omega), show heap.size + (k - heap.size) = k by omega]
    · rw [if_neg (by simp; omega), Array.getElem?_eq_none (by omega)]

theorem flatK_list {α : Type} [Inhabited α] {enc : α → List Value} {k : Nat} (hk : ∀ x, (enc x).length = k) (d : Array α) : (Go.Sort.flatK enc k d).toList = d.toList.flatMap enc := by
  have hl : (d.toList.flatMap enc).length = d.size * k := by rw [flatMap_len hk]; simp
  apply List.ext_getElem?
  intro t
  by_cases ht : t < d.size * k
  · have hk0 : 0 < k := by
      rcases Nat.eq_zero_or_pos k with h | h
      · subst h; simp at ht
      · exact h
    have hi : t / k < d.size := (Nat.div_lt_iff_lt_mul hk0).2 ht
    have hj : t % k < k := Nat.mod_lt _ hk0
    have h1 := flatMap_at hk d.toList (t / k) d[t / k] (by simp [hi])
    have h2 : ((d.toList.flatMap enc).drop (t / k * k)).take k = enc d[t / k] := h1
    have h3 : (d.toList.flatMap enc)[t]? = (enc d[t / k])[t % k]? := by
      rw [← h2, List.getElem?_take, if_pos hj, List.getElem?_drop, Nat.mul_comm, Nat.div_add_mod]
    rw [h3]
    have h4 := Go.Sort.get_flatK enc k d t ht
    rw [getElem!_pos _ t (by simpa using ht), getElem!_pos d _ hi] at h4
    rw [Array.getElem?_toList, Array.getElem?_eq_getElem (by simpa using ht), h4]
    have h5 : t % k < (enc d[t / k]).length := by rw [hk]; exact hj
    rw [List.getElem?_eq_getElem h5, getElem!_pos (enc d[t / k]) (t % k) h5]
  · rw [List.getElem?_eq_none (by rw [Array.length_toList, Go.Sort.size_flatK]; omega), List.getElem?_eq_none (by rw [hl]; omega)]

section
variable {α : Type} [Inhabited α] {sz : Nat} {enc : α → List Value} {hl : ∀ x, (enc x).length = sz} {h1 : ∀ x, ∀ v ∈ enc x, v.oneCell' = true} {c : Ctx} {w : World} {Own Ro : List Asn} {e : Nat} {v : Value} {xs : List α}
theorem sortS_row {P : Program} {fn g : FuncId} {cb : Array Value} (cf : α → α → Int)
    (hS : ∀ (blk off cap : Nat) (d : Array α) (w : World), CmpLays P g cb enc sz cf blk off d.size w → Go.Sort.HoldsK enc sz w blk off d → blk < w.heap.size → d.size < 4611686018427387904 →
      Calls P fn #[.slice (some ⟨blk, off, none⟩) d.size cap, .func (.func g) #[] cb] w fun e w' => e = .returned (.tuple #[]) ∧ ∃ d' n os, Go.Sort.PermIn 0 d.size d d' ∧ Go.Sort.SortedIn (ltOf cf) 0 d.size d' ∧ w' = sortWorldK enc sz w blk off n d' os)
    (h0 : ∀ (p : Option Addr) (cap : Nat) (w : World), Calls P fn #[.slice p 0 cap, .func (.func g) #[] cb] w fun e w' => e = .returned (.tuple #[]) ∧ w' = w)
    (hc : ∀ (w : World) (x y : α), Calls P g (#[.agg (enc x).toArray, .agg (enc y).toArray] ++ cb) w (Ret fun v w' => Pure w w' ∧ v = .int .i64 (cf x y)))
    (H : St c w (row e (Rdr.flat sz enc hl h1) v xs :: Own) Ro) (hlen : xs.length < 4611686018427387904) :
    Calls P fn #[v, .func (.func g) #[] cb] w (Ret fun u w' => u = .tuple #[] ∧ ∃ ys : List α, ys.Perm xs ∧ ys.Pairwise (fun a b => ¬ cf b a < 0) ∧ St c w' (row e (Rdr.flat sz enc hl h1) v ys :: Own) Ro) := by
  have H1 := H.flat_open
  rcases H1.open_raw with ⟨rfl, h, _, H2⟩ | ⟨g', o, cap, cur, rfl, H2, hcur, hnc, hcm, hfit⟩
  · have hx : xs = [] := List.eq_nil_of_length_eq_zero h
    subst hx
    refine (h0 none 0 w).mono ?_
    rintro e w' ⟨rfl, rfl⟩
    exact ⟨_, rfl, rfl, [], .refl _, .nil, H2.add_nil _ _⟩
  have hg := H2.blk_heap (b := g') (e := e) (l := cur) (by simp)
  have hfl : (Go.Sort.flatK enc sz xs.toArray).toList = xs.flatMap enc := by rw [flatK_list hl]
  have hfs : (Go.Sort.flatK enc sz xs.toArray).size = xs.length * sz := by simp
  have hH : Go.Sort.HoldsK enc sz w g' o xs.toArray := by
    have h := row_holds (enc := id) (d := xs.flatMap enc) hg (by rw [flatMap_len hl, hcur]; simp)
    rw [← hfl] at h
    simpa [Go.Sort.HoldsK] using h
  have hcmp : CmpLays P g cb enc sz cf g' o xs.toArray.size w := fun m os dk _ x y => (hc _ x y).mono fun e' w' ⟨u, he, hp, hu⟩ => by
    subst he; subst hu
    obtain ⟨q, os', rfl⟩ := hp.grown
    exact ⟨rfl, q, os', rfl⟩
  have hk := hS g' o cap xs.toArray w hcmp hH (Array.getElem?_eq_some_iff.1 hg).1 (by simpa using hlen)
  simp only [List.size_toArray] at hk
  refine hk.mono ?_
  rintro e' w' ⟨rfl, d', n, os, hperm, hsort, rfl⟩
  obtain ⟨hds, _, hpe⟩ := hperm
  simp only [List.size_toArray] at hds hsort
  have hσ : d'.toList.Perm xs := by
    have e1 : d'.extract 0 xs.length = d' := by rw [← hds]; simp
    have e2 : xs.toArray.extract 0 xs.length = xs.toArray := by simp
    rw [e1, e2] at hpe; simpa using hpe
  have hσl : d'.toList.length = xs.length := by simp [hds]
  refine ⟨_, rfl, rfl, d'.toList, hσ, ?_, ?_⟩
  · rw [List.pairwise_iff_getElem]
    intro i j hi hj hij
    have h := hsort i j (Nat.zero_le _) hij (by simpa [hds] using hj)
    rw [getElem!_pos d' i (by simpa using hi), getElem!_pos d' j (by simpa using hj)] at h
    simpa [ltOf] using h
  · have hfl2 : (Go.Sort.flatK enc sz d').toList = d'.toList.flatMap enc := flatK_list hl d'
    have hfs2 : (Go.Sort.flatK enc sz d').size = xs.length * sz := by simp [hds]
    have hmul := Nat.mul_le_mul_right sz hnc
    have H3 := H2.sorted (enc := id) (d0 := xs.flatMap enc) (d' := Go.Sort.flatK enc sz d') (o := o) (by rw [hfs2]; omega) n os
    simp only [List.map_id] at H3
    rw [hfl2] at H3
    have hdl : (d'.toList.flatMap enc).length = xs.length * sz := by rw [flatMap_len hl, hσl]
    have H4 := H3.close_raw (sz := sz) (n := xs.length) (o := o) (cap := cap) (cs := d'.toList.flatMap enc) hnc hcm (by rw [spliceL_len _ _ _ (by omega)]; exact hfit)
      (window_set hcur (by rw [flatMap_len hl]) hdl (by omega)) (fun u hu => by
        obtain ⟨x, _, hx⟩ := List.mem_flatMap.1 hu
        exact h1 x u hx)
    rw [← hσl] at H4
    have H5 := St.flat_close (hl := hl) (h1 := h1) H4
    rw [hσl] at H5
    exact H5
end
end Go.Proofs.Ytpenbdpgpamcbaa.Gw
