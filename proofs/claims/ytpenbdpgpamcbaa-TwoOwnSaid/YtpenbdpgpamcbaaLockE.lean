/- lock: copies of tables; search; insertion. -/
import Derived.Test.YtpenbdpgpamcbaaLockD
set_option linter.unusedVariables false
set_option linter.unusedSimpArgs false
set_option maxRecDepth 20000
namespace Go.Proofs.Ytpenbdpgpamcbaa
open Go Gw
attribute [local irreducible] W WO WD

theorem cloneLock_ok (w : World) (a : Option Addr) (c : Nat) (xs : List (Int × Int)) (hH : Holds w (rd lockR a c xs)) (hlen : xs.length ≤ 1073741824) :
    Calls Try.prog 108 #[.slice a xs.length c] w (Ret fun v w' => St (at0 w) w' [row 145 lockR v xs] []) := by
  refine calls_W (args := [_]) Try.func108 rfl Try.ntmps108 rfl ?_
  have H := St.start [] (w := w) (by simp)
  (repeat (first | refine WO.run tabOk rfl rfl ?_ | refine WO.nil ?_ | refine WO.skip rfl rfl rfl ?_ | refine WO.pu tabOk rfl rfl rfl rfl ?_ | refine W.seq ?_ | refine W.region ?_ | refine W.block ?_ | refine W.skip ?_ | refine W.exit ?_))
  refine W.cond rfl (fun hn => ?_) (fun hn => ?_)
  · (repeat (first | refine WO.run tabOk rfl rfl ?_ | refine WO.nil ?_ | refine WO.skip rfl rfl rfl ?_ | refine WO.pu tabOk rfl rfl rfl rfl ?_ | refine W.seq ?_ | refine W.region ?_ | refine W.block ?_ | refine W.skip ?_ | refine W.exit ?_))
    refine W.ret (ret1 Try.results108 rfl ⟨_, rfl, ?_⟩)
    have hx : xs = [] := by
      rcases xs with _ | ⟨x, xs⟩
      · rfl
      · obtain ⟨b, o, e⟩ := hH.addr (by simp)
        rw [e] at hn; cases hn
    subst hx
    exact H.add_nil _ _
  · (repeat (first | refine WO.run tabOk rfl rfl ?_ | refine WO.nil ?_ | refine WO.skip rfl rfl rfl ?_ | refine WO.pu tabOk rfl rfl rfl rfl ?_ | refine W.seq ?_ | refine W.region ?_ | refine W.block ?_ | refine W.skip ?_ | refine W.exit ?_))
    refine WO.one rfl rfl rfl (OpW.buildSlice tabOk rfl rfl rfl rfl zero145 rfl rfl rfl H ?_)
    intro b w1 H1
    have H2 := H1.close_raw (sz := 2) (n := 0) (o := 0) (cap := 0) (cs := []) (Nat.le_refl _) (Nat.zero_le _) (by simp) (by simp) (by simp)
    (repeat (first | refine WO.run tabOk rfl rfl ?_ | refine WO.nil ?_ | refine WO.skip rfl rfl rfl ?_ | refine WO.pu tabOk rfl rfl rfl rfl ?_ | refine W.seq ?_ | refine W.region ?_ | refine W.block ?_ | refine W.skip ?_ | refine W.exit ?_))
    obtain ⟨cs, S, hs, hseen, _⟩ := (hH.pure H1.pure).shows
    obtain rfl := seenL_flat hseen
    refine WO.one rfl rfl rfl (OpW.append tabOk rfl rfl rfl zero145 rfl rfl rfl rfl H2 hs (by omega) (by simp only [maxLen]; omega) ?_)
    intro v w2 H3 _
    (repeat (first | refine WO.run tabOk rfl rfl ?_ | refine WO.nil ?_ | refine WO.skip rfl rfl rfl ?_ | refine WO.pu tabOk rfl rfl rfl rfl ?_ | refine W.seq ?_ | refine W.region ?_ | refine W.block ?_ | refine W.skip ?_ | refine W.exit ?_))
    refine W.ret (ret1 Try.results108 rfl ⟨_, rfl, ?_⟩)
    rw [Nat.zero_add, List.nil_append] at H3
    exact H3.flat_close

theorem itemO_le : Rdr.le itemO itemS := ⟨rfl, fun {w S x cs} ⟨v1, v2, S1, S2, h, h1, h2, h3, h4⟩ => by
  obtain ⟨a1, c1, rfl, k1⟩ := h1.read
  obtain ⟨a2, c2, rfl, k2⟩ := h2.read
  have hd : ∀ b, S b → b < w.heap.size := fun b hb => ((h3 b).1 hb).elim (k1.dom b) (k2.dom b)
  exact ⟨S, ⟨a1, c1, a2, c2, h, k1.more (fun b hb => (h3 b).2 (.inl hb)) hd, k2.more (fun b hb => (h3 b).2 (.inr hb)) hd⟩, fun _ h => h⟩⟩
theorem Gw.St.item_in {c : Ctx} {w : World} {Own Ro : List Asn} {i : Int} {v1 v2 : Value} {h q : List (Int × Int)} (H : St c w (row 145 lockR v1 h :: row 145 lockR v2 q :: Own) Ro) : St c w (elem itemO (i, h, q) [.int .i64 i, v1, v2] :: Own) Ro :=
  H.join fun S1 S2 h1 h2 hd => ⟨fun b => S1 b ∨ S2 b, ⟨v1, v2, S1, S2, rfl, h1, h2, fun _ => Iff.rfl, hd⟩, fun b hb => hb⟩
theorem Gw.St.item_out {c : Ctx} {w : World} {Own Ro : List Asn} {x : Item} {cs : List Value} (H : St c w (elem itemO x cs :: Own) Ro) : ∃ v1 v2, cs = [.int .i64 x.1, v1, v2] ∧ St c w (row 145 lockR v1 x.2.1 :: row 145 lockR v2 x.2.2 :: Own) Ro := by
  obtain ⟨S, v1, v2, S1, S2, h, _⟩ := H.has (A := elem itemO x cs) (by simp)
  refine ⟨v1, v2, h, H.split fun S hS => ?_⟩
  obtain ⟨u1, u2, S1, S2, h', h1, h2, h3, h4⟩ := hS
  rw [h] at h'
  simp only [List.cons.injEq, and_true, true_and] at h'
  obtain ⟨rfl, rfl⟩ := h'
  exact ⟨S1, S2, h1, h2, fun b hb => (h3 b).2 (.inl hb), fun b hb => (h3 b).2 (.inr hb), h4⟩
theorem row_form {α : Type} {e : Nat} {r : Rdr α} {c : Ctx} {w : World} {Own Ro : List Asn} {v : Value} {xs : List α} (H : St c w Own Ro) (hm : row e r v xs ∈ Own ++ Ro) : ∃ a cap, v = .slice a xs.length cap := by
  obtain ⟨S, hS⟩ := H.has hm
  obtain ⟨a, cap, h, _⟩ := OwnR.form hS
  exact ⟨a, cap, h⟩
/-- A table's lists are short. -/
def Short (t : List Item) : Prop := t.length ≤ 1073741824 ∧ ∀ x ∈ t, x.2.1.length ≤ 1073741824 ∧ x.2.2.length ≤ 1073741824

theorem copied_ok (w : World) (a : Option Addr) (c : Nat) (t : List Item) (hH : Holds w (rd itemS a c t)) (hs : Short t) :
    Calls Try.prog 78 #[.slice a t.length c] w (Ret fun v w' => St (at0 w) w' [row 142 itemO v t] []) := by
  refine calls_W (args := [_]) Try.func78 rfl Try.ntmps78 rfl ?_
  have H := St.start [] (w := w) (by simp)
  (repeat (first | refine WO.run tabOk rfl rfl ?_ | refine WO.nil ?_ | refine WO.skip rfl rfl rfl ?_ | refine WO.pu tabOk rfl rfl rfl rfl ?_ | refine W.seq ?_ | refine W.region ?_ | refine W.block ?_ | refine W.skip ?_ | refine W.exit ?_))
  refine W.loopS [3, 6, 7, 8] (fun s : Nat × Value => [(3, s.2), (6, .slice a t.length c), (7, .int .i64 t.length), (8, .int .i64 s.1)])
    (fun s w' => s.1 ≤ t.length ∧ St (at0 w) w' [row 142 itemO s.2 (t.take s.1)] []) (fun s => t.length - s.1) (0, .slice none 0 0) rfl ⟨Nat.zero_le _, H.add_nil _ _⟩ ?_
  clear H
  rintro ⟨i, v⟩ w3 ⟨hi, H⟩
  simp only at hi H
  (repeat (first | refine WO.run tabOk rfl rfl ?_ | refine WO.nil ?_ | refine WO.skip rfl rfl rfl ?_ | refine WO.pu tabOk rfl rfl rfl rfl ?_ | refine W.seq ?_ | refine W.region ?_ | refine W.block ?_ | refine W.skip ?_ | refine W.exit ?_))
  refine W.cond rfl (fun hlt => ?_) (fun hge => ?_)
  · have hlt : i < t.length := by simpa using hlt
    obtain ⟨b, o, rfl⟩ := hH.addr (by omega)
    have hle := hH.le
    simp only [maxLen] at hle
    (repeat (first | refine WO.run tabOk rfl rfl ?_ | refine WO.nil ?_ | refine WO.skip rfl rfl rfl ?_ | refine WO.pu tabOk rfl rfl rfl rfl ?_ | refine W.seq ?_ | refine W.region ?_ | refine W.block ?_ | refine W.skip ?_ | refine W.exit ?_))
    refine WO.pv rfl rfl rfl (PureV.idxN tabOk rfl rfl rfl rfl rfl rfl (by omega)) ?_
    have hx := List.getElem?_eq_getElem hlt
    generalize t[i] = x at hx
    have hm : x ∈ t := List.mem_of_getElem? hx
    obtain ⟨a1, c1, a2, c2, hcs, hh, hq⟩ := item_elem hH hx
    refine WO.one rfl rfl rfl (OpW.loadcs tabOk rfl rfl rfl rfl rfl (hcs.pure H.pure) ?_)
    refine WO.one rfl rfl rfl (OpW.alloc rfl zero142 rfl H ?_); intro b5 w4 H4
    refine WO.act rfl rfl (OpW.storeA (i := 0) tabOk rfl rfl rfl rfl H4 rfl rfl rfl rfl rfl ?_); intro w5 H5
    (repeat (first | refine WO.run tabOk rfl rfl ?_ | refine WO.nil ?_ | refine WO.skip rfl rfl rfl ?_ | refine WO.pu tabOk rfl rfl rfl rfl ?_ | refine W.seq ?_ | refine W.region ?_ | refine W.block ?_ | refine W.skip ?_ | refine W.exit ?_))
    refine W.regionD [2, 4, 7] (HA [blk b5 142 [.int .i64 x.1, .slice a1 x.2.1.length c1, .slice a2 x.2.2.length c2]]) [0, 1, 2, 3, 4, 6, 7, 5, 8, 9, 10, 11, 12] rfl (by kernel_rfl) (fun _ _ _ h => h) ?_
    have H6 := H5.drew
    have hA := H6.ha (L := [blk b5 142 [.int .i64 x.1, .slice a1 x.2.1.length c1, .slice a2 x.2.2.length c2]]) (by simp)
    (repeat (first | refine WD.run tabOk rfl rfl ?_ | refine WD.hv rfl rfl rfl rfl rfl hA (HeldV.load1 tabOk rfl rfl rfl rfl (by (repeat (first | exact .head _ | refine .tail _ ?_))) rfl) ?_ | refine WD.hv rfl rfl rfl rfl rfl hA (HeldV.loadA tabOk rfl rfl rfl rfl (by (repeat (first | exact .head _ | refine .tail _ ?_))) rfl rfl) ?_ | refine WD.pu tabOk rfl rfl rfl rfl rfl rfl ?_))
    refine WD.oneS rfl rfl rfl rfl rfl (OpW.call rfl Try.call108 rfl (Calls.ret (cloneLock_ok _ a1 c1 x.2.1 (hh.pure H6.pure) (hs.2 x hm).1) ?_))
    intro v1 w7 K7
    have H7 := H6.take K7
    refine ⟨H7.ha (by simp), ?_⟩
    refine WD.oneS rfl rfl rfl rfl rfl (OpW.call rfl Try.call108 rfl (Calls.ret (cloneLock_ok _ a2 c2 x.2.2 (hq.pure H7.pure) (hs.2 x hm).2) ?_))
    intro v2 w8 K8
    have H8 := H7.take K8
    refine ⟨H8.ha (by simp), ?_⟩
    obtain ⟨u1, d1, hv1⟩ := row_form H8 (v := v1) (e := 145) (r := lockR) (xs := x.2.1) (by simp)
    obtain ⟨u2, d2, hv2⟩ := row_form H8 (v := v2) (e := 145) (r := lockR) (xs := x.2.2) (by simp)
    refine WD.pv rfl rfl rfl rfl rfl (PureV.build tabOk rfl rfl rfl zero142 (l := [.int .i64 x.1, v1, v2]) (by rw [hv1, hv2]; rfl)) ?_
    have hones : ∀ u ∈ [Value.int .i64 x.1, v1, v2], u.oneCell' = true := by intro u hu; rw [hv1, hv2] at hu; simp at hu; rcases hu with rfl | rfl | rfl <;> rfl
    refine WD.oneS rfl rfl rfl rfl rfl (OpW.buildSlice tabOk rfl rfl rfl rfl zero142 rfl rfl (l := [.int .i64 x.1, v1, v2]) rfl H8 ?_)
    intro b9 w9 H9
    refine ⟨H9.ha (by simp), ?_⟩
    have hsh := shows_blk (sz := 3) (m := 1) (e := 142) H9 (b := b9) (by simp) rfl hones
    obtain ⟨cs, H10⟩ := (H9.to (i := 4) rfl).open_row
    have hcl := H10.raw_len.1
    have hlt2 := hs.1
    have htl : (t.take i).length = i := by rw [List.length_take]; omega
    refine WD.oneS rfl rfl rfl rfl rfl (OpW.append tabOk rfl rfl rfl zero142 rfl rfl rfl rfl H10 hsh (by rw [htl]; omega) (by rw [htl]; simp only [maxLen]; omega) ?_)
    intro v' w11 H11 _
    refine ⟨H11.ha (by simp), ?_⟩
    (repeat (first | refine WD.run tabOk rfl rfl ?_ | refine WD.nil ?_))
    (repeat (first | refine WO.run tabOk rfl rfl ?_ | refine WO.nil ?_ | refine WO.skip rfl rfl rfl ?_ | refine WO.pu tabOk rfl rfl rfl rfl ?_ | refine W.seq ?_ | refine W.region ?_ | refine W.block ?_ | refine W.skip ?_ | refine W.exit ?_))
    refine WO.pv rfl rfl rfl (PureV.addN rfl rfl rfl (by omega)) ?_
    (repeat (first | refine WO.run tabOk rfl rfl ?_ | refine WO.nil ?_ | refine WO.skip rfl rfl rfl ?_ | refine WO.pu tabOk rfl rfl rfl rfl ?_ | refine W.seq ?_ | refine W.region ?_ | refine W.block ?_ | refine W.skip ?_ | refine W.exit ?_))
    refine ⟨(i + 1, v'), rfl, ⟨by simp only; omega, ?_⟩, by simp only; omega⟩
    have H12 := ((((H11.to (i := 3) rfl).to (i := 4) rfl).item_in (i := x.1)).hang_one.to (i := 2) rfl).hang_join
    have H13 := H12.to (i := 1) rfl
    have e2 : (t.take i).length + 1 = (t.take i ++ [x]).length := by simp
    rw [e2] at H13
    have H14 := St.close_row (r := itemO) H13
    rw [← take_snoc hx] at H14
    exact (((H14.to (i := 1) rfl).drop).to (i := 1) rfl).drop
  · simp at hge
    (repeat (first | refine WO.run tabOk rfl rfl ?_ | refine WO.nil ?_ | refine WO.skip rfl rfl rfl ?_ | refine WO.pu tabOk rfl rfl rfl rfl ?_ | refine W.seq ?_ | refine W.region ?_ | refine W.block ?_ | refine W.skip ?_ | refine W.exit ?_))
    refine W.ret (ret1 Try.results78 rfl ⟨_, rfl, ?_⟩)
    rwa [show i = t.length by omega, List.take_length] at H

theorem askCmp_ok (w : World) (i item : Int) (u1 u2 : Value) (h0 : 0 ≤ i) (h1 : i < 20) (k0 : 0 ≤ item) (k1 : item < 20) :
    Calls Try.prog 80 (#[] ++ [.agg #[.int .i64 i, u1, u2], .int .i64 item].toArray ++ #[]) w (Ret fun v w' => Pure w w' ∧ v = .int .i64 (i - item)) := by
  show Calls Try.prog 80 #[.agg #[.int .i64 i, u1, u2], .int .i64 item] w _
  refine calls_W (args := [_, _]) Try.func80 rfl Try.ntmps80 rfl ?_
  have H := St.start [] (w := w) (by simp)
  (repeat (first | refine W.seq ?_ | refine W.block ?_ | refine W.skip ?_ | refine W.exit ?_ | refine W.region ?_))
  refine WO.one rfl rfl rfl (OpW.box rfl rfl rfl H ?_); intro b w1 H1
  (repeat (first | refine WO.run tabOk rfl rfl ?_ | refine WO.nil ?_ | refine WO.skip rfl rfl rfl ?_ | refine WO.pu tabOk rfl rfl rfl rfl ?_ | refine W.seq ?_ | refine W.region ?_ | refine W.block ?_ | refine W.skip ?_ | refine W.exit ?_ | refine WO.one rfl rfl rfl (OpW.load1 tabOk rfl rfl rfl rfl H1 (by (repeat (first | exact .head _ | refine .tail _ ?_))) rfl ?_)))
  refine WO.pv rfl rfl rfl (PureV.sub rfl rfl rfl (by omega) (by omega)) ?_
  (repeat (first | refine WO.run tabOk rfl rfl ?_ | refine WO.nil ?_ | refine WO.skip rfl rfl rfl ?_ | refine WO.pu tabOk rfl rfl rfl rfl ?_ | refine W.seq ?_ | refine W.region ?_ | refine W.block ?_ | refine W.skip ?_ | refine W.exit ?_))
  exact W.ret (ret1 Try.results80 rfl ⟨_, rfl, H1.pure, rfl⟩)

theorem sorted_lt {t : List Item} (h : t.Pairwise fun x y => x.1 < y.1) {i j : Nat} {x y : Item} (hx : t[i]? = some x) (hy : t[j]? = some y) (hij : i < j) : x.1 < y.1 := by
  obtain ⟨l1, e1⟩ := List.getElem?_eq_some_iff.1 hx
  obtain ⟨l2, e2⟩ := List.getElem?_eq_some_iff.1 hy
  have := List.pairwise_iff_getElem.1 h i j l1 l2 hij
  rwa [e1, e2] at this

/-- Where an item's place is, and whether it is there. -/
structure Place (t : List Item) (item : Int) (k : Nat) (found : Bool) : Prop where
  le : k ≤ t.length
  low : ∀ j x, j < k → t[j]? = some x → x.1 < item
  high : ∀ j x, k ≤ j → t[j]? = some x → item ≤ x.1
  found : found = true ↔ ∃ x, t[k]? = some x ∧ x.1 = item

theorem search_ok (w : World) (a : Option Addr) (c : Nat) (t : List Item) (item : Int) (hH : Holds w (rd itemS a c t)) (hl : t.length ≤ 20) (hr : ∀ x ∈ t, 0 ≤ x.1 ∧ x.1 < 20) (hs : t.Pairwise fun x y => x.1 < y.1) (k0 : 0 ≤ item) (k1 : item < 20) :
    Calls Try.prog 79 #[.slice a t.length c, .int .i64 item, .func (.func 80) #[] #[]] w (Ret fun v w' => Pure w w' ∧ ∃ (k : Nat) (f : Bool), v = .tuple #[.int .i64 k, .bool f] ∧ Place t item k f) := by
  refine calls_W (args := [_, _, _]) Try.func79 rfl Try.ntmps79 rfl ?_
  (repeat (first | refine WO.run tabOk rfl rfl ?_ | refine WO.nil ?_ | refine WO.skip rfl rfl rfl ?_ | refine WO.pu tabOk rfl rfl rfl rfl ?_ | refine W.seq ?_ | refine W.region ?_ | refine W.block ?_ | refine W.skip ?_ | refine W.exit ?_))
  refine W.loopS [0, 1, 2, 8, 9, 10] (fun s : Nat × Nat => [(0, .slice a t.length c), (1, .int .i64 item), (2, .func (.func 80) #[] #[]), (8, .int .i64 t.length), (9, .int .i64 s.1), (10, .int .i64 s.2)])
    (fun s w' => s.1 ≤ s.2 ∧ s.2 ≤ t.length ∧ (∀ j x, j < s.1 → t[j]? = some x → x.1 < item) ∧ (∀ j x, s.2 ≤ j → t[j]? = some x → item ≤ x.1) ∧ Pure w w') (fun s => s.2 - s.1) (0, t.length) rfl
    ⟨Nat.zero_le _, Nat.le_refl _, fun j x hj => (by omega), fun j x hj hx => (by have := (List.getElem?_eq_some_iff.1 hx).1; omega), Pure.refl w⟩ ?_
  rintro ⟨i, j⟩ w1 ⟨hij, hj, hlo, hhi, hp⟩
  simp only at hij hj hlo hhi
  (repeat (first | refine WO.run tabOk rfl rfl ?_ | refine WO.nil ?_ | refine WO.skip rfl rfl rfl ?_ | refine WO.pu tabOk rfl rfl rfl rfl ?_ | refine W.seq ?_ | refine W.region ?_ | refine W.block ?_ | refine W.skip ?_ | refine W.exit ?_))
  refine W.cond rfl (fun hlt => ?_) (fun hge => ?_)
  · have hlt : i < j := by simpa using hlt
    obtain ⟨b, o, rfl⟩ := hH.addr (by omega)
    (repeat (first | refine WO.run tabOk rfl rfl ?_ | refine WO.nil ?_ | refine WO.skip rfl rfl rfl ?_ | refine WO.pu tabOk rfl rfl rfl rfl ?_ | refine W.seq ?_ | refine W.region ?_ | refine W.block ?_ | refine W.skip ?_ | refine W.exit ?_))
    refine WO.pv rfl rfl rfl (PureV.add rfl rfl rfl (by omega) (by omega)) ?_
    refine WO.pv rfl rfl rfl (PureV.convI tabOk rfl rfl rfl rfl rfl rfl (wrapU64_in (by omega) (by omega))) ?_
    refine WO.pv rfl rfl rfl (PureV.shrU rfl rfl rfl (by omega) (by omega)) ?_
    refine WO.pv rfl rfl rfl (PureV.convI tabOk rfl rfl rfl rfl rfl rfl (wrap64_in (by simp; omega) (by simp; omega))) ?_
    obtain ⟨m, hm⟩ : ∃ m : Nat, ((i : Int) + j) / 2 ^ (1 : Int).toNat = m := ⟨(i + j) / 2, by simp⟩
    have hm1 : i ≤ m ∧ m < j := by simp at hm; omega
    rw [hm]
    (repeat (first | refine WO.run tabOk rfl rfl ?_ | refine WO.nil ?_ | refine WO.skip rfl rfl rfl ?_ | refine WO.pu tabOk rfl rfl rfl rfl ?_ | refine W.seq ?_ | refine W.region ?_ | refine W.block ?_ | refine W.skip ?_ | refine W.exit ?_))
    refine WO.pv rfl rfl rfl (PureV.idxN tabOk rfl rfl rfl rfl rfl rfl (by omega)) ?_
    have hx := List.getElem?_eq_getElem (l := t) (i := m) (by omega)
    generalize t[m] = x at hx
    obtain ⟨a1, c1, a2, c2, hcs, _, _⟩ := item_elem hH hx
    have hxr := hr x (List.mem_of_getElem? hx)
    refine WO.one rfl rfl rfl (OpW.loadcs tabOk rfl rfl rfl rfl rfl (hcs.pure hp) ?_)
    (repeat (first | refine WO.run tabOk rfl rfl ?_ | refine WO.nil ?_ | refine WO.skip rfl rfl rfl ?_ | refine WO.pu tabOk rfl rfl rfl rfl ?_ | refine W.seq ?_ | refine W.region ?_ | refine W.block ?_ | refine W.skip ?_ | refine W.exit ?_))
    refine WO.one rfl rfl rfl (OpW.callv (first := #[]) (cap := #[]) rfl rfl Try.call80 rfl (Calls.ret (askCmp_ok _ x.1 item _ _ hxr.1 hxr.2 k0 k1) ?_))
    rintro _ w2 ⟨hp2, rfl⟩
    (repeat (first | refine WO.run tabOk rfl rfl ?_ | refine WO.nil ?_ | refine WO.skip rfl rfl rfl ?_ | refine WO.pu tabOk rfl rfl rfl rfl ?_ | refine W.seq ?_ | refine W.region ?_ | refine W.block ?_ | refine W.skip ?_ | refine W.exit ?_))
    refine W.cond rfl (fun he => ?_) (fun hne => ?_)
    · (repeat (first | refine WO.run tabOk rfl rfl ?_ | refine WO.nil ?_ | refine WO.skip rfl rfl rfl ?_ | refine WO.pu tabOk rfl rfl rfl rfl ?_ | refine W.seq ?_ | refine W.region ?_ | refine W.block ?_ | refine W.skip ?_ | refine W.exit ?_))
      refine WO.pv rfl rfl rfl (PureV.addN rfl rfl rfl (by omega)) ?_
      (repeat (first | refine WO.run tabOk rfl rfl ?_ | refine WO.nil ?_ | refine WO.skip rfl rfl rfl ?_ | refine WO.pu tabOk rfl rfl rfl rfl ?_ | refine W.seq ?_ | refine W.region ?_ | refine W.block ?_ | refine W.skip ?_ | refine W.exit ?_))
      simp at he
      refine ⟨(m + 1, j), rfl, ⟨by simp only; omega, hj, fun k y hk hy => ?_, hhi, hp.trans hp2⟩, by simp only; omega⟩
      rcases Nat.lt_succ_iff_lt_or_eq.1 hk with h | rfl
      · have := sorted_lt hs hy hx h; omega
      · rw [hx] at hy; cases hy; omega
    · (repeat (first | refine WO.run tabOk rfl rfl ?_ | refine WO.nil ?_ | refine WO.skip rfl rfl rfl ?_ | refine WO.pu tabOk rfl rfl rfl rfl ?_ | refine W.seq ?_ | refine W.region ?_ | refine W.block ?_ | refine W.skip ?_ | refine W.exit ?_))
      simp at hne
      refine ⟨(i, m), rfl, ⟨by simp only; omega, by simp only; omega, hlo, fun k y hk hy => ?_, hp.trans hp2⟩, by simp only; omega⟩
      rcases Nat.eq_or_lt_of_le hk with rfl | h
      · rw [hx] at hy; cases hy; omega
      · have := sorted_lt hs hx hy h; omega
  · simp at hge
    obtain rfl : i = j := by omega
    (repeat (first | refine WO.run tabOk rfl rfl ?_ | refine WO.nil ?_ | refine WO.skip rfl rfl rfl ?_ | refine WO.pu tabOk rfl rfl rfl rfl ?_ | refine W.seq ?_ | refine W.region ?_ | refine W.block ?_ | refine W.skip ?_ | refine W.exit ?_))
    refine WO.caseG rfl rfl (fun g => ?_) (fun g => ?_)
    · simp at g
      have hlt : i < t.length := by omega
      obtain ⟨b, o, rfl⟩ := hH.addr (by omega)
      (repeat (first | refine WO.run tabOk rfl rfl ?_ | refine WO.nil ?_ | refine WO.skip rfl rfl rfl ?_ | refine WO.pu tabOk rfl rfl rfl rfl ?_ | refine W.seq ?_ | refine W.region ?_ | refine W.block ?_ | refine W.skip ?_ | refine W.exit ?_))
      refine WO.pv rfl rfl rfl (PureV.idxN tabOk rfl rfl rfl rfl rfl rfl (by omega)) ?_
      have hx := List.getElem?_eq_getElem hlt
      generalize t[i] = x at hx
      obtain ⟨a1, c1, a2, c2, hcs, _, _⟩ := item_elem hH hx
      have hxr := hr x (List.mem_of_getElem? hx)
      refine WO.one rfl rfl rfl (OpW.loadcs tabOk rfl rfl rfl rfl rfl (hcs.pure hp) ?_)
      (repeat (first | refine WO.run tabOk rfl rfl ?_ | refine WO.nil ?_ | refine WO.skip rfl rfl rfl ?_ | refine WO.pu tabOk rfl rfl rfl rfl ?_ | refine W.seq ?_ | refine W.region ?_ | refine W.block ?_ | refine W.skip ?_ | refine W.exit ?_))
      refine WO.one rfl rfl rfl (OpW.callv (first := #[]) (cap := #[]) rfl rfl Try.call80 rfl (Calls.ret (askCmp_ok _ x.1 item _ _ hxr.1 hxr.2 k0 k1) ?_))
      rintro _ w2 ⟨hp2, rfl⟩
      (repeat (first | refine WO.run tabOk rfl rfl ?_ | refine WO.nil ?_ | refine WO.skip rfl rfl rfl ?_ | refine WO.pu tabOk rfl rfl rfl rfl ?_ | refine W.seq ?_ | refine W.region ?_ | refine W.block ?_ | refine W.skip ?_ | refine W.exit ?_))
      refine W.ret (ret2 Try.results79 rfl rfl ⟨_, rfl, hp.trans hp2, i, _, rfl, hj, hlo, hhi, ?_⟩)
      rw [hx]
      simp
      omega
    · (repeat (first | refine WO.run tabOk rfl rfl ?_ | refine WO.nil ?_ | refine WO.skip rfl rfl rfl ?_ | refine WO.pu tabOk rfl rfl rfl rfl ?_ | refine W.seq ?_ | refine W.region ?_ | refine W.block ?_ | refine W.skip ?_ | refine W.exit ?_))
      simp at g
      refine W.ret (ret2 Try.results79 rfl rfl ⟨_, rfl, hp, i, _, rfl, hj, hlo, hhi, ?_⟩)
      rw [List.getElem?_eq_none (by omega)]
      simp
end Go.Proofs.Ytpenbdpgpamcbaa
