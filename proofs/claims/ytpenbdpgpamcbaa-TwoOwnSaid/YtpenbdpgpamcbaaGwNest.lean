/- Rows of natural numbers; rows of rows: an element taken out and put back; a row behind the library's sorts. Conditions: each fact's own premises. -/
import Derived.Test.YtpenbdpgpamcbaaGwRoom
import Derived.Test.YtpenbdpgpamcbaaGwHang
import Derived.Test.YtpenbdpgpamcbaaGwSplice
import Derived.Sort.Grow
import Derived.Lib.SlicesCompact
set_option linter.unusedVariables false
set_option linter.unusedSimpArgs false
namespace Go.Proofs.Ytpenbdpgpamcbaa.Gw
open Go

/-! ### Natural numbers -/
def encN (n : Nat) : List Value := [.int .i64 (n : Int)]
def natR : Rdr Nat := Rdr.flat 1 encN (fun _ => rfl) (fun x v hv => by simp [encN] at hv; subst hv; rfl)
theorem one_encN (l : List Nat) : ∀ u ∈ l.flatMap encN, u.oneCell' = true := by
  intro u hu
  obtain ⟨x, _, hx⟩ := List.mem_flatMap.1 hu
  simp [encN] at hx; subst hx; rfl
theorem encN_map (l : List Nat) : l.flatMap encN = l.map fun n => .int .i64 (n : Int) := by
  induction l with
  | nil => rfl
  | cons x l ih => rw [List.flatMap_cons, ih]; rfl
theorem encN_len (l : List Nat) : (l.flatMap encN).length = l.length := by rw [encN_map, List.length_map]
theorem encN_at {l : List Nat} {i x : Nat} (h : l[i]? = some x) : (l.flatMap encN)[i]? = some (.int .i64 (x : Int)) := by rw [encN_map, List.getElem?_map, h]; rfl
theorem encN_set {l : List Nat} {i : Nat} (x : Nat) (hi : i < l.length) : spliceL (l.flatMap encN) i [.int .i64 (x : Int)] = (l.set i x).flatMap encN := by
  rw [encN_map, encN_map, List.map_set]
  simp only [spliceL]
  rw [List.set_eq_take_append_cons_drop, if_pos (by simpa using hi)]
  simp

theorem St.nat_open {c : Ctx} {w : World} {Own Ro : List Asn} {e : Nat} {v : Value} {xs : List Nat} (h : St c w (row e natR v xs :: Own) Ro) : St c w (raw e 1 v xs.length (xs.flatMap encN) :: Own) Ro := h.flat_open
theorem St.nat_close {c : Ctx} {w : World} {Own Ro : List Asn} {e : Nat} {v : Value} {xs : List Nat} (h : St c w (raw e 1 v xs.length (xs.flatMap encN) :: Own) Ro) : St c w (row e natR v xs :: Own) Ro := h.flat_close

/-- Pairs of integers. -/
def encE (x : Int × Int) : List Value := [.int .i64 x.1, .int .i64 x.2]
def edgeR : Rdr (Int × Int) := Rdr.flat 2 encE (fun _ => rfl) (fun x v hv => by simp [encE] at hv; rcases hv with rfl | rfl <;> rfl)

/-- Natural numbers are integers. -/
theorem natInt {w : World} {a : Option Addr} {cap : Nat} {xs : List Nat} (h : Holds w (rd natR a cap xs)) : Holds w (rd i64 a cap (xs.map fun n : Nat => (n : Int))) := by
  obtain ⟨S, h1, h2, h3, h4⟩ := h
  have key : ∀ (xs : List Nat) (cs : List Value), SeenL natR w S xs cs → SeenL i64 w S (xs.map fun n : Nat => (n : Int)) cs := by
    intro xs
    induction xs with
    | nil => exact fun cs h => h
    | cons x xs ih => exact fun cs ⟨c1, c2, e, k1, k2⟩ => ⟨c1, c2, e, k1, ih c2 k2⟩
  refine ⟨S, by simpa using h1, h2, h3, fun hx => ?_⟩
  obtain ⟨b, o, cur, e, fr, k1, k2, k3, k4, k5⟩ := h4 (fun e => hx (by rw [e]; rfl))
  refine ⟨b, o, cur, e, fr, k1, k2, k3, ?_, ?_⟩
  · rw [List.length_map]; exact k4
  · rw [List.length_map]; exact key _ _ k5
theorem mem_natInt {xs : List Nat} {x : Nat} : ((x : Int) ∈ xs.map fun n : Nat => (n : Int)) ↔ x ∈ xs := by
  rw [List.mem_map]
  exact ⟨fun ⟨y, hy, e⟩ => by have : y = x := by omega
                              subst this; exact hy, fun h => ⟨x, h, rfl⟩⟩

theorem rowForm {α : Type} {e : Nat} {r : Rdr α} {c : Ctx} {w : World} {Own Ro : List Asn} {v : Value} {xs : List α} (H : St c w Own Ro) (hm : row e r v xs ∈ Own ++ Ro) : ∃ a cap, v = .slice a xs.length cap := by
  obtain ⟨S, hS⟩ := H.has hm
  obtain ⟨a, cap, h, _⟩ := OwnR.form hS
  exact ⟨a, cap, h⟩
theorem spliceOne {l : List Value} {i : Nat} {v : Value} (h : i < l.length) : spliceL l i [v] = l.set i v := by
  simp only [spliceL]
  rw [List.set_eq_take_append_cons_drop, if_pos h]
  simp

/-! ### Rows within rows -/
theorem ownRd {α : Type} (e : Nat) (r : Rdr α) : Rdr.le (Rdr.own e r) (Rdr.rd r) := ⟨rfl, fun {w S x cs} ⟨v, h, hO⟩ => by
  obtain ⟨a, cap, rfl, hr⟩ := hO.read
  exact ⟨_, ⟨a, cap, h, hr⟩, fun _ h => h⟩⟩
section
variable {α : Type} {e sz : Nat} {r : Rdr α} {c : Ctx} {w : World} {Own Ro : List Asn}
theorem St.own_out {x : List α} {v : Value} (h : St c w (elem (Rdr.own e r) x [v] :: Own) Ro) : St c w (row e r v x :: Own) Ro :=
  h.conv fun S ⟨u, hu, hS⟩ => ⟨S, by simp only [List.cons.injEq, and_true] at hu; subst hu; exact hS, fun _ h => h⟩
theorem St.own_in {x : List α} {v : Value} (h : St c w (row e r v x :: Own) Ro) : St c w (elem (Rdr.own e r) x [v] :: Own) Ro :=
  h.conv fun S hS => ⟨S, ⟨v, rfl, hS⟩, fun _ h => h⟩
theorem St.hang_cells {xs : List (List α)} {cs : List Value} (h : St c w (hang (Rdr.own e r) xs cs :: Own) Ro) : cs.length = xs.length := by
  have := h.hang_len
  rw [this]; show xs.length * 1 = _; omega
/-- The row at a place is taken out. -/
theorem St.nest_out {xs : List (List α)} {cs : List Value} {i : Nat} {x : List α} {v : Value} (h : St c w (hang (Rdr.own e r) xs cs :: Own) Ro) (hx : xs[i]? = some x) (hv : cs[i]? = some v) :
    St c w (row e r v x :: hang (Rdr.own e r) (xs.take i) (cs.take i) :: hang (Rdr.own e r) (xs.drop (i + 1)) (cs.drop (i + 1)) :: Own) Ro := by
  obtain ⟨hi, rfl⟩ := List.getElem?_eq_some_iff.1 hx
  have hl := h.hang_cells
  have h1 : xs = xs.take i ++ xs.drop i := (List.take_append_drop i xs).symm
  rw [h1] at h
  have h2 := h.hang_cut
  have hti : (xs.take i).length * (Rdr.own e r).sz = i := by rw [List.length_take]; show min i xs.length * 1 = i; omega
  rw [hti] at h2
  have h3 := h2.to (i := 1) rfl
  rw [List.drop_eq_getElem_cons hi] at h3
  have h4 := h3.hang_out
  have hc1 : (cs.drop i).take (Rdr.own e r).sz = [v] := by
    show (cs.drop i).take 1 = [v]
    obtain ⟨hi2, rfl⟩ := List.getElem?_eq_some_iff.1 hv
    rw [List.drop_eq_getElem_cons hi2]; rfl
  have hc2 : (cs.drop i).drop (Rdr.own e r).sz = cs.drop (i + 1) := by show (cs.drop i).drop 1 = _; rw [List.drop_drop]
  rw [hc1, hc2] at h4
  exact (h4.own_out).bring [0, 2, 1] rfl
/-- A row is put in at a place. -/
theorem St.nest_in {xs : List (List α)} {cs : List Value} {i : Nat} {x : List α} {v : Value} (hi : i < xs.length) (hc : i < cs.length)
    (h : St c w (row e r v x :: hang (Rdr.own e r) (xs.take i) (cs.take i) :: hang (Rdr.own e r) (xs.drop (i + 1)) (cs.drop (i + 1)) :: Own) Ro) : St c w (hang (Rdr.own e r) (xs.set i x) (cs.set i v) :: Own) Ro := by
  have h1 := (h.own_in.bring [0, 2, 1] rfl).hang_in
  have h2 := (h1.bring [1, 0] rfl).hang_join
  rw [List.set_eq_take_append_cons_drop, if_pos hi, List.set_eq_take_append_cons_drop, if_pos hc]
  exact h2
end

section
variable {α : Type} {e e2 : Nat} {r : Rdr α} {c : Ctx} {w : World} {Own Ro : List Asn}
/-- A block of rows, all of it. -/
theorem St.nest_close {xs : List (List α)} {cs : List Value} {g : Nat} (h : St c w (blk g e2 cs :: hang (Rdr.own e r) xs cs :: Own) Ro) (hm : xs.length ≤ maxLen) : St c w (row e2 (Rdr.own e r) (.slice (some ⟨g, 0, none⟩) xs.length xs.length) xs :: Own) Ro := by
  have hl := (h.to (i := 1) rfl).hang_cells
  have h1 : ∀ u ∈ cs, u.oneCell' = true := by
    obtain ⟨S, hS⟩ := h.has (A := hang (Rdr.own e r) xs cs) (by simp)
    exact Elems.one hS
  have h2 := h.close_raw (sz := 1) (n := xs.length) (o := 0) (cap := xs.length) (cs := cs) (Nat.le_refl _) hm (by omega) (by rw [List.drop_zero, Nat.mul_one, ← hl, List.take_length]) h1
  exact St.close_row (r := Rdr.own e r) h2
end

/-- A row of what is read: it is read itself. -/
theorem St.roSub {α : Type} {r : Rdr α} {c : Ctx} {w : World} {Own Ro : List Asn} {ta : Option Addr} {tc i : Nat} {xs : List (List α)} {x : List α} (H : St c w Own Ro) (hm : rd (Rdr.rd r) ta tc xs ∈ Ro) (hi : xs[i]? = some x) :
    ∃ b o a1 c1, ta = some ⟨b, o, none⟩ ∧ w.cell? ⟨b, o + i * 1, none⟩ = some (.slice a1 x.length c1) ∧ St c w Own (rd r a1 c1 x :: Ro) := by
  have hlt := (List.getElem?_eq_some_iff.1 hi).1
  have hne : xs ≠ [] := by intro e; subst e; simp at hlt
  obtain ⟨S, hS⟩ := H.has (A := rd (Rdr.rd r) ta tc xs) (List.mem_append.2 (.inr hm))
  have key : ∀ S, ReadR (Rdr.rd r) w S ta tc xs → ∃ b o, ta = some ⟨b, o, none⟩ ∧ ∃ a1 c1, w.cell? ⟨b, o + i * 1, none⟩ = some (.slice a1 x.length c1) ∧ ∃ S', ReadR r w S' a1 c1 x ∧ ∀ k, S' k → S k := by
    intro S hS
    obtain ⟨b, o, cur, e, fr, k1, k2, k3, k4, k5⟩ := hS.at_ hne
    obtain ⟨S', ⟨a1, c1, h1, h2⟩, hs⟩ := k5.at hi
    refine ⟨b, o, k1, a1, c1, ?_, S', h2, hs⟩
    rw [cell_of_row w b _ cur e fr k3]
    have h3 : (List.take (Rdr.rd r).sz (List.drop (i * (Rdr.rd r).sz) (List.take (xs.length * (Rdr.rd r).sz) (List.drop o cur.toList))))[0]? = some (.slice a1 x.length c1) := by rw [h1]; rfl
    rw [List.getElem?_take, if_pos (by show 0 < 1; omega), List.getElem?_drop, List.getElem?_take] at h3
    split at h3
    · rw [List.getElem?_drop] at h3
      rw [← Array.getElem?_toList, ← h3]
      rfl
    · cases h3
  obtain ⟨b, o, rfl, a1, c1, hc, _⟩ := key S hS
  refine ⟨b, o, a1, c1, rfl, hc, H.ro_conv hm fun S hS => ?_⟩
  obtain ⟨b', o', e, a2, c2, hc2, S', h1, h2⟩ := key S hS
  simp only [Option.some.injEq, Addr.mk.injEq] at e
  obtain ⟨rfl, rfl, _⟩ := e
  rw [hc] at hc2
  simp only [Option.some.injEq, Value.slice.injEq, true_and] at hc2
  obtain ⟨rfl, rfl⟩ := hc2
  exact ⟨S', h1, h2⟩

/-- A row of rows, from now on only read. -/
theorem St.toRead {α : Type} {e e2 : Nat} {r : Rdr α} {c : Ctx} {w : World} {Own Ro : List Asn} {v : Value} {xs : List (List α)} (H : St c w (row e2 (Rdr.own e r) v xs :: Own) Ro) : ∃ ta tc, v = .slice ta xs.length tc ∧ St c w Own (rd (Rdr.rd r) ta tc xs :: Ro) := by
  obtain ⟨S, hS⟩ := H.has (A := row e2 (Rdr.own e r) v xs) (by simp)
  obtain ⟨ta, tc, rfl, _⟩ := OwnR.read hS
  have h1 := H.freeze.ro_conv (A := row e2 (Rdr.own e r) (.slice ta xs.length tc) xs) (B := rd (Rdr.rd r) ta tc xs) (by simp) fun S hS => by
    obtain ⟨a, cap, e, h⟩ := OwnR.read hS
    simp only [Value.slice.injEq, true_and] at e
    obtain ⟨rfl, rfl⟩ := e
    exact ⟨S, ReadR.weaken (ownRd _ _) h, fun _ h => h⟩
  exact ⟨ta, tc, rfl, h1.ro fun A hA => by rcases List.mem_cons.1 hA with rfl | hA <;> simp_all⟩
theorem nat_shows {w : World} {a : Option Addr} {cap : Nat} {xs : List Nat} (h : Holds w (rd natR a cap xs)) : Shows w 1 a xs.length (xs.flatMap encN) := by
  obtain ⟨cs, S, hs, hseen, _⟩ := h.shows
  obtain rfl := seenL_flat hseen
  exact hs

/-! ### The library's sorts -/
section
variable {α : Type} [Inhabited α] {enc : α → Value} {c : Ctx} {w : World} {Own Ro : List Asn} {g e o : Nat} {cur : List Value}
theorem row_holds {d : List α} (h : w.heap[g]? = some (.cells cur.toArray e (0, 0))) (hw : (cur.drop o).take d.length = d.map enc) : Go.Sort.Holds enc w g o d.toArray := by
  intro j hj
  have hj' : j < d.length := by simpa using hj
  refine ⟨?_, by simp [World.frozen?, h]⟩
  rw [cell_list h]
  have h1 : ((cur.drop o).take d.length)[j]? = (d.map enc)[j]? := by rw [hw]
  rw [List.getElem?_take, if_pos hj', List.getElem?_drop, List.getElem?_map, List.getElem?_eq_getElem hj'] at h1
  rw [h1]
  simp [hj']
theorem St.sorted {d' : Array α} {d0 : List α} (H : St c w (blk g e cur :: Own) Ro) (hfit : o + d'.size ≤ cur.length) (n : Nat) (os : Array Obj) :
    St c (Go.Sort.grow (Go.Sort.putRow enc (Go.Sort.ahead w n) g o d') os) (blk g e (spliceL cur o (d'.toList.map enc)) :: Own) Ro := by
  have hb := H.blk_heap (b := g) (e := e) (l := cur) (by simp)
  have hlt : g < w.heap.size := (Array.getElem?_eq_some_iff.1 hb).1
  have hk : ∀ k, k < w.heap.size → (Go.Sort.grow (Go.Sort.putRow enc (Go.Sort.ahead w n) g o d') os).heap[k]? = if g = k then (w.heap[k]?).map (Go.Sort.onCells (Go.Sort.putCells enc o d')) else w.heap[k]? := by
    intro k hk
    simp only [Go.Sort.grow, Go.Sort.putRow, Go.Sort.mapBlock, Go.Sort.ahead]
    rw [Array.getElem?_append_left (by simpa using hk), Array.getElem?_modify]
  refine H.head ⟨rfl, rfl, rfl, Nat.le_add_right _ _, ?_⟩ fun S hS => ⟨⟨S, ⟨hS.1, ?_⟩, fun b hb => .inl hb⟩, fun k hk' hn => ?_⟩
  · simp [Go.Sort.grow, Go.Sort.putRow, Go.Sort.mapBlock, Go.Sort.ahead]
  · rw [hk g hlt, if_pos rfl, hb]
    simp only [Option.map_some, Go.Sort.onCells, Go.Sort.putCells, Option.some.injEq, Obj.cells.injEq, and_true]
    apply Array.ext_getElem?
    intro k
    simp only [Array.getElem?_mapIdx, List.getElem?_toArray]
    rw [splice_get (by simpa using hfit)]
    simp only [List.length_map, Array.length_toList]
    by_cases h1 : k < o
    · rw [if_pos h1]
      cases cur[k]? with
      | none => rfl
      | some x => simp only [Option.map_some]; rw [if_neg (by omega)]
    · rw [if_neg h1]
      by_cases h2 : k < o + d'.size
      · rw [if_pos h2, List.getElem?_eq_getElem (by omega)]
        simp only [Option.map_some]
        rw [if_pos (by omega), List.getElem?_map]
        have h3 : k - o < d'.size := by omega
        simp [h3]
      · rw [if_neg h2]
        cases cur[k]? with
        | none => rfl
        | some x => simp only [Option.map_some]; rw [if_neg (by omega)]
  · rw [hk k hk', if_neg fun e => hn ((hS.1 k).2 e.symm)]
end

theorem int_nat_map {zs : List Int} (h : ∀ z ∈ zs, 0 ≤ z) : (zs.map Int.toNat).map (fun n : Nat => (n : Int)) = zs := by
  rw [List.map_map]
  conv => rhs; rw [← List.map_id zs]
  exact List.map_congr_left fun z hz => by have := h z hz; simp; omega

theorem window_set {cur cs xs : List Value} {o C : Nat} (h : (cur.drop o).take C = cs) (hl : cs.length = C) (hx : xs.length = C) (hf : o + C ≤ cur.length) : ((spliceL cur o xs).drop o).take C = xs := by
  apply window_eq hx (by rw [spliceL_len _ _ _ (by omega)]; exact hf)
  intro j hj
  rw [splice_get (by omega), if_neg (by omega), if_pos (by omega), show o + j - o = j by omega]

section
variable {c : Ctx} {w : World} {Own Ro : List Asn} {e : Nat} {v : Value} {xs : List Nat}
/-- slices.Sort, by the kit's contract (hS, h0), over a row of natural numbers. -/
theorem sort_row {P : Program} {fn : FuncId} (hS : ∀ (blk off cap : Nat) (zs : List Int) (w : World), Go.Sort.Holds (Value.int .i64) w blk off zs.toArray → blk < w.heap.size → zs.length < 4611686018427387904 →
      Calls P fn #[.slice (some ⟨blk, off, none⟩) zs.length cap] w fun e w' => e = .returned (.tuple #[]) ∧ ∃ n os, w' = Go.Sort.grow (Go.Sort.putRow (Value.int .i64) (Go.Sort.ahead w n) blk off (zs.mergeSort fun x y => decide (x ≤ y)).toArray) os)
    (h0 : ∀ (p : Option Addr) (cap : Nat) (w : World), Calls P fn #[.slice p 0 cap] w fun e w' => e = .returned (.tuple #[]) ∧ w' = w)
    (H : St c w (row e natR v xs :: Own) Ro) (hlen : xs.length < 4611686018427387904) : Calls P fn #[v] w (Ret fun u w' => u = .tuple #[] ∧ ∃ ys : List Nat, ys.Perm xs ∧ ys.Pairwise (· ≤ ·) ∧ St c w' (row e natR v ys :: Own) Ro) := by
  have H1 := H.nat_open
  rcases H1.open_raw with ⟨rfl, h, _, H2⟩ | ⟨g, o, cap, cur, rfl, H2, hcur, hnc, hcm, hfit⟩
  · have hx : xs = [] := List.eq_nil_of_length_eq_zero h
    subst hx
    refine (h0 none 0 w).mono ?_
    rintro e w' ⟨rfl, rfl⟩
    exact ⟨_, rfl, rfl, [], .refl _, .nil, H2.add_nil _ _⟩
  · have hg := H2.blk_heap (b := g) (e := e) (l := cur) (by simp)
    let zs : List Int := xs.map fun n : Nat => (n : Int)
    have hzl : zs.length = xs.length := by simp [zs]
    have hwin : (cur.drop o).take zs.length = zs.map (Value.int .i64) := by
      rw [hzl, ← Nat.mul_one xs.length, hcur, encN_map]; simp [zs]
    have hH := row_holds (enc := Value.int .i64) (d := zs) hg hwin
    have hk := hS g o cap zs w hH (Array.getElem?_eq_some_iff.1 hg).1 (by rw [hzl]; exact hlen)
    rw [hzl] at hk
    refine hk.mono ?_
    rintro e' w' ⟨rfl, n, os, rfl⟩
    have hp := List.mergeSort_perm zs fun x y => decide (x ≤ y)
    have hpos : ∀ z ∈ zs.mergeSort (fun x y => decide (x ≤ y)), 0 ≤ z := fun z hz => by
      have := hp.mem_iff.1 hz
      obtain ⟨n, _, rfl⟩ := List.mem_map.1 this; omega
    have hlm : (zs.mergeSort fun x y => decide (x ≤ y)).length = xs.length := by rw [hp.length_eq, hzl]
    have hback := int_nat_map hpos
    refine ⟨_, rfl, rfl, (zs.mergeSort fun x y => decide (x ≤ y)).map Int.toNat, ?_, ?_, ?_⟩
    · have := hp.map Int.toNat
      rwa [show zs.map Int.toNat = xs by simp [zs, List.map_map, Function.comp_def]] at this
    · have hs := List.pairwise_mergeSort (le := fun x y : Int => decide (x ≤ y)) (fun a b c => by simp; omega) (fun a b => by simp; omega) zs
      rw [List.pairwise_map]
      exact hs.imp fun {a b} h => by simp at h; omega
    · have H3 := H2.sorted (enc := Value.int .i64) (d0 := zs) (d' := (zs.mergeSort fun x y => decide (x ≤ y)).toArray) (o := o) (by simp [hlm]; omega) n os
      have hcl : (zs.mergeSort fun x y => decide (x ≤ y)).map (Value.int .i64) = ((zs.mergeSort fun x y => decide (x ≤ y)).map Int.toNat).flatMap encN := by
        rw [encN_map]
        conv => lhs; rw [← hback]
        simp [List.map_map, Function.comp_def]
      simp only [List.toList_toArray] at H3
      rw [hcl] at H3
      have hl2 : ((zs.mergeSort fun x y => decide (x ≤ y)).map Int.toNat).length = xs.length := by rw [List.length_map, hlm]
      have H4 := H3.close_raw (sz := 1) (n := xs.length) (o := o) (cap := cap) (cs := ((zs.mergeSort fun x y => decide (x ≤ y)).map Int.toNat).flatMap encN) hnc hcm (by rw [spliceL_len _ _ _ (by rw [encN_len, hl2]; omega)]; exact hfit)
        (by rw [Nat.mul_one] at hcur ⊢; exact window_set hcur (by rw [encN_len]) (by rw [encN_len, hl2]) (by omega)) (one_encN _)
      rw [← hl2] at H4
      have H5 := H4.nat_close
      rw [hl2] at H5
      exact H5

theorem compactUpTo_mem {β : Type} [Inhabited β] [DecidableEq β] (d : Array β) : ∀ m, m ≤ d.size → ∀ j, j < m → d[j]! ∈ Go.Lib.compactUpTo d m
  | 0, _, j, hj => by omega
  | m + 1, hm, j, hj => by
    rw [Go.Lib.compactUpTo_succ]
    rcases Nat.lt_succ_iff_lt_or_eq.1 hj with h | rfl
    · exact List.mem_append.2 (.inl (compactUpTo_mem d m (by omega) j h))
    · by_cases hk : Go.Lib.keeps d j = true
      · simp [hk]
      · refine List.mem_append.2 (.inl ?_)
        simp only [Go.Lib.keeps, decide_eq_true_eq, not_or, Decidable.not_not] at hk
        rw [hk.2]
        exact compactUpTo_mem d j (by omega) (j - 1) (by omega)
theorem compact_sub {β : Type} [Inhabited β] [DecidableEq β] (zs : List β) : (Go.Lib.compact zs).Sublist zs := by
  have h := Go.Lib.range_map_get zs.toArray
  simp only [List.size_toArray] at h
  unfold Go.Lib.compact Go.Lib.compactUpTo
  conv => rhs; rw [← h]
  exact List.Sublist.map _ List.filter_sublist
theorem compact_mem {β : Type} [Inhabited β] [DecidableEq β] (zs : List β) (x : β) : x ∈ Go.Lib.compact zs ↔ x ∈ zs := by
  refine ⟨fun h => (compact_sub zs).subset h, fun h => ?_⟩
  obtain ⟨j, hj, rfl⟩ := List.mem_iff_getElem.1 h
  have := compactUpTo_mem zs.toArray zs.length (by simp) j hj
  simpa [Go.Lib.compact, hj] using this
/-- slices.Compact, the same. -/
theorem compact_row {P : Program} {fn : FuncId} (hS : ∀ (blk off cap : Nat) (zs : List Int) (w : World), Go.Sort.Holds (Value.int .i64) w blk off zs.toArray → zs.length ≤ 9223372036854775807 → zs.length ≤ cap →
      Calls P fn #[.slice (some ⟨blk, off, none⟩) zs.length cap] w fun e w' => e = .returned (.slice (some ⟨blk, off, none⟩) (Go.Lib.compact zs).length cap) ∧ ∃ q, w' = Go.Sort.putRow (Value.int .i64) (Go.Sort.ahead w q) blk off (Go.Lib.compact zs ++ List.replicate (zs.length - (Go.Lib.compact zs).length) 0).toArray)
    (h0 : ∀ (a : Option Addr) (cap : Nat) (w : World), Calls P fn #[.slice a 0 cap] w fun e w' => e = .returned (.slice a 0 cap) ∧ w' = w)
    (H : St c w (row e natR v xs :: Own) Ro) : Calls P fn #[v] w (Ret fun u w' => ∃ ys : List Nat, (∀ x, x ∈ ys ↔ x ∈ xs) ∧ ys.Sublist xs ∧ St c w' (row e natR u ys :: Own) Ro) := by
  have H1 := H.nat_open
  rcases H1.open_raw with ⟨rfl, h, _, H2⟩ | ⟨g, o, cap, cur, rfl, H2, hcur, hnc, hcm, hfit⟩
  · have hx : xs = [] := List.eq_nil_of_length_eq_zero h
    subst hx
    refine (h0 none 0 w).mono ?_
    rintro e w' ⟨rfl, rfl⟩
    exact ⟨_, rfl, [], fun _ => Iff.rfl, .refl _, H2.add_nil _ _⟩
  · have hg := H2.blk_heap (b := g) (e := e) (l := cur) (by simp)
    have hcm' := hcm
    simp only [maxLen] at hcm'
    let zs : List Int := xs.map fun n : Nat => (n : Int)
    have hzl : zs.length = xs.length := by simp [zs]
    have hwin : (cur.drop o).take zs.length = zs.map (Value.int .i64) := by
      rw [hzl, ← Nat.mul_one xs.length, hcur, encN_map]; simp [zs]
    have hH := row_holds (enc := Value.int .i64) (d := zs) hg hwin
    have hk := hS g o cap zs w hH (by rw [hzl]; omega) (by rw [hzl]; exact hnc)
    rw [hzl] at hk
    refine hk.mono ?_
    rintro e' w' ⟨rfl, q, rfl⟩
    have hsub := compact_sub zs
    have hpos : ∀ z ∈ Go.Lib.compact zs, 0 ≤ z := fun z hz => by
      obtain ⟨n, _, rfl⟩ := List.mem_map.1 (hsub.subset hz); omega
    have hback := int_nat_map hpos
    have hle := hsub.length_le
    rw [hzl] at hle
    have hl2 : ((Go.Lib.compact zs).map Int.toNat).length = (Go.Lib.compact zs).length := by rw [List.length_map]
    refine ⟨_, rfl, (Go.Lib.compact zs).map Int.toNat, fun x => ?_, ?_, ?_⟩
    · simp only [List.mem_map, compact_mem]
      constructor
      · rintro ⟨z, hz, rfl⟩; obtain ⟨n, hn, rfl⟩ := List.mem_map.1 hz; simpa using hn
      · intro hx; exact ⟨_, List.mem_map.2 ⟨x, hx, rfl⟩, by simp⟩
    · have := hsub.map Int.toNat
      rwa [show zs.map Int.toNat = xs by simp [zs, List.map_map, Function.comp_def]] at this
    · have H3 := H2.sorted (enc := Value.int .i64) (d0 := zs) (d' := (Go.Lib.compact zs ++ List.replicate (xs.length - (Go.Lib.compact zs).length) 0).toArray) (o := o) (by simp; omega) q #[]
      rw [Go.Sort.grow_empty] at H3
      simp only [List.toList_toArray, List.map_append] at H3
      have hcl : (Go.Lib.compact zs).map (Value.int .i64) = ((Go.Lib.compact zs).map Int.toNat).flatMap encN := by
        rw [encN_map]
        conv => lhs; rw [← hback]
        simp [List.map_map, Function.comp_def]
      rw [hcl] at H3
      have hall : (((Go.Lib.compact zs).map Int.toNat).flatMap encN ++ (List.replicate (xs.length - (Go.Lib.compact zs).length) 0).map (Value.int .i64)).length = xs.length := by
        rw [List.length_append, encN_len, hl2]; simp; omega
      have H4 := H3.close_raw (sz := 1) (n := (Go.Lib.compact zs).length) (o := o) (cap := cap) (cs := ((Go.Lib.compact zs).map Int.toNat).flatMap encN) (by omega) hcm (by rw [spliceL_len _ _ _ (by omega)]; exact hfit) ?_ (one_encN _)
      · rw [← hl2] at H4
        have H5 := H4.nat_close
        rw [hl2] at H5
        exact H5
      · apply window_eq (by rw [encN_len, hl2, Nat.mul_one]) (by rw [spliceL_len _ _ _ (by omega)]; omega)
        intro j hj
        rw [splice_get (by omega), if_neg (by omega), if_pos (by omega), show o + j - o = j by omega]
        rw [List.getElem?_append_left (by rw [encN_len, hl2]; omega)]
end

/-! ### make, of elements of one cell -/
theorem made_one (z : Value) (n : Nat) : (madeCells #[z] (n * 1)).toList = List.replicate n z := by
  rw [Nat.mul_one]
  apply List.ext_getElem?
  intro i
  simp only [madeCells]
  rw [List.getElem?_replicate]
  by_cases h : i < n
  · simp [h, Nat.mod_one]
  · simp [h]
theorem OpW.makeN {P : Program} {T : List TI} {r : Env} {o : Oper} {w : World} {K : Value → World → Prop} {c : Ctx} {Own Ro : List Asn} (hT : TabOk P T) {t e : Nat} {x y : Operand} {ti te : TI} {z : Value} {by_ : Nat} {n : Nat} (ho : o.op = .makeSlice t x y) (ht : nth T t = some ti) (hk : ti.k = .sl e) (he : nth T e = some te)
    (hz : (P.info? e).map (fun i => (i.zero, i.size, i.bytes)) = some (some z, 1, by_)) (hz1 : z.cells = #[z]) (hx : Env.ev r x = some (.int .i64 n)) (hy : Env.ev r y = some (.int .i64 n)) (hb : by_ * n ≤ 281474976710656) (hm : n ≤ maxLen) (H : St c w Own Ro)
    (hK : ∀ b w', St c w' (blk b e (List.replicate n z) :: Own) Ro → K (.slice (some ⟨b, 0, none⟩) n n) w') : OpW P o r w K :=
  OpW.make hT ho ht hk he hz hx hy (Nat.le_refl _) hb hm H fun b w' H' => hK b w' (by rw [hz1, made_one] at H'; exact H')
theorem rep_nat (n : Nat) : List.replicate n (Value.int .i64 0) = (List.replicate n 0).flatMap encN := by
  rw [encN_map, List.map_replicate]; rfl
theorem St.nest_new {α : Type} {e : Nat} {r : Rdr α} {c : Ctx} {w : World} {Own Ro : List Asn} (h : St c w Own Ro) : ∀ n, St c w (hang (Rdr.own e r) (List.replicate n []) (List.replicate n (.slice none 0 0)) :: Own) Ro
  | 0 => h.hang_nil
  | n + 1 => by
    have h1 := (St.nest_new (e := e) (r := r) h n).add_nil e r
    exact (h1.own_in).hang_in
end Go.Proofs.Ytpenbdpgpamcbaa.Gw
