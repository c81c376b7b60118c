/- tree: TreeLevels. -/
import Derived.Test.YtnghaidnbicjjaaTreeU
set_option linter.unusedVariables false
set_option linter.unusedSimpArgs false
set_option maxRecDepth 20000
namespace Go.Proofs.Ytnghaidnbicjjaa
open Go Gw
attribute [local irreducible] W WO WD WF

theorem own_le {α : Type} (e : Nat) (r : Rdr α) : Rdr.le (Rdr.own e r) (Rdr.rd r) := ⟨rfl, fun {w S x cs} ⟨v, h, hO⟩ => by
  obtain ⟨a, cap, rfl, hr⟩ := hO.read
  exact ⟨_, ⟨a, cap, h, hr⟩, fun _ h => h⟩⟩
/-- A row of deeds, just built. -/
theorem deeds_blk {c : Ctx} {w : World} {Own Ro : List Asn} {b : Nat} {l : List Deed} (H : St c w (blk b 26 (l.flatMap encDeed) :: Own) Ro) (hl : l.length ≤ 1000) : Holds w (rd deedR (some ⟨b, 0, none⟩) l.length l) := by
  have hf : (l.flatMap encDeed).length = l.length * 3 := flatMap_len (sz := 3) (fun _ => rfl) l
  have H1 := (H.close_raw (sz := 3) (n := l.length) (o := 0) (cap := l.length) (cs := l.flatMap encDeed) (Nat.le_refl _) (by simp only [maxLen]; omega) (by omega) (by rw [List.drop_zero, ← hf, List.take_length]) (by
    intro u hu
    obtain ⟨d, _, hd⟩ := List.mem_flatMap.1 hu
    exact deedR.one (x := d) (w := w) (S := fun _ => False) ⟨fun _ h => h, rfl⟩ u hd))
  have H2 : St c w (row 26 deedR _ l :: _) Ro := H1.flat_close
  obtain ⟨a, cap, e, hh⟩ := row_rd (H2.holds (A := row 26 deedR (.slice (some ⟨b, 0, none⟩) l.length l.length) l) (by simp))
  simp only [Value.slice.injEq] at e
  obtain ⟨rfl, _, rfl⟩ := e
  exact hh

/-- The facts of a level, on the way down. -/
structure At (h i k : Nat) (x : Nd) (xs : List Nd) (n nodes : Nat) : Prop where
  ik : i + k = h + 1
  rows : (lvk (h + 1) [x]).drop i = lvk k xs
  lv : Lv k xs
  nodes : match k with | 0 => True | _ + 1 => nodes = xs.length
  n : match k with | 0 => n = (ents h x).length | k + 1 => n + sumE k xs = (ents h x).length
  each : match k with | 0 => True | k + 1 => ∀ y ∈ xs, Bt (if i = 0 then (if h = 0 then 0 else 1) else 2) 4 k y
theorem At.start {h : Nat} {x : Nd} (T : Tr h x) : At h 0 (h + 1) x [x] 0 1 :=
  ⟨by omega, rfl, Lv.top T, rfl, by simp [sumE], fun y hy => by simp at hy; subst hy; exact T.bt⟩
theorem At.next {h i k n nodes : Nat} {x : Nd} {xs : List Nd} (H : At h i (k + 1) x xs n nodes) : At h (i + 1) k x (xs.flatMap Nd.kids) (n + sumK xs) (sumK xs + xs.length) := by
  have hik := H.ik
  have hn : n + sumE k xs = _ := H.n
  have hev : ∀ y ∈ xs, Bt 0 4 k y := H.lv.2.2.1
  refine ⟨by omega, ?_, H.lv.next, ?_, ?_, ?_⟩
  · rw [← List.drop_drop, H.rows]
    rfl
  · cases k with
    | zero => trivial
    | succ k =>
      have key : ∀ l : List Nd, (∀ y ∈ l, Sh (k + 1) y) → sumK l + l.length = (l.flatMap Nd.kids).length := by
        intro l
        induction l with
        | nil => intro _; rfl
        | cons y l ih =>
          intro hl
          have i1 := ih fun z hz => hl z (by simp [hz])
          have i2 := (hl y (by simp)).kn
          rw [List.flatMap_cons, List.length_append]
          simp only [sumK, List.map_cons, List.sum_cons, List.length_cons] at i1 ⊢
          omega
      exact key xs fun y hy => (hev y hy).sh
  · cases k with
    | zero => show n + sumK xs = _; rw [← sumE_zero fun y hy => (hev y hy).sh]; exact hn
    | succ k => show n + sumK xs + sumE k _ = _; have := sumE_succ (k := k) (xs := xs) fun y hy => (hev y hy).sh; omega
  · cases k with
    | zero => trivial
    | succ k =>
      intro z hz
      obtain ⟨y, hy, hz⟩ := List.mem_flatMap.1 hz
      rw [if_neg (by omega)]
      exact (hev y hy).2.2 z hz

theorem sumK_take {xs : List Nd} {j : Nat} {y : Nd} (h : xs[j]? = some y) : sumK (xs.take (j + 1)) = sumK (xs.take j) + y.keys.length := by
  obtain ⟨h1, rfl⟩ := List.getElem?_eq_some_iff.1 h
  rw [← List.take_append_getElem h1]
  unfold sumK
  rw [List.map_append, List.sum_append]
  simp only [List.map_cons, List.map_nil, List.sum_cons, List.sum_nil, Nat.add_zero]
theorem sumK_le (xs : List Nd) (j : Nat) : sumK (xs.take j) ≤ sumK xs := by
  conv => rhs; rw [← List.take_append_drop j xs]
  unfold sumK
  rw [List.map_append, List.sum_append]
  omega
theorem sumK_sumE {k : Nat} {xs : List Nd} (h : ∀ y ∈ xs, Bt 0 4 k y) : sumK xs ≤ sumE k xs := by
  cases k with
  | zero => exact Nat.le_of_eq (sumE_zero fun y hy => (h y hy).sh).symm
  | succ k => have := sumE_succ (k := k) (xs := xs) fun y hy => (h y hy).sh; omega

theorem treeLevels_ok (w : World) (a : Option Addr) (c : Nat) (l : List Deed) (hH : Holds w (rd deedR a c l)) :
    Calls Try.prog 3 #[.slice a l.length c] w (Ret fun v w' => Pure w w' ∧ v = .bool true) := by
  refine calls_W (args := [_]) Try.func3 rfl Try.ntmps3 rfl ?_
  have H := St.start [] (w := w) (by simp)
  (repeat (first | refine WO.run tabOk rfl rfl ?_ | refine WO.nil ?_ | refine WO.skip rfl rfl rfl ?_ | refine WO.pu tabOk rfl rfl rfl rfl ?_ | refine W.seq ?_ | refine W.region ?_ | refine W.block ?_ | refine W.skip ?_ | refine W.exit ?_))
  refine WO.pv rfl rfl rfl (PureV.build tabOk rfl rfl rfl zero26 (l := [.int .i64 1, .int .i64 5, .string ⟨#[97]⟩]) rfl) ?_
  refine WO.one rfl rfl rfl (OpW.buildSlice tabOk rfl rfl rfl rfl zero26 rfl rfl (l := [.int .i64 1, .int .i64 5, .string ⟨#[97]⟩]) rfl H ?_)
  intro b1 w1 H1
  refine WO.one rfl rfl rfl (OpW.call rfl Try.call10 rfl (Calls.ret (treed_ok w1 _ _ [(1, 5, ⟨#[97]⟩)] (deeds_blk (b := b1) (l := [(1, 5, ⟨#[97]⟩)]) H1 (by simp))) ?_))
  rintro _ w2 ⟨bt, rfl, br, h, x, H2, T, he⟩
  have hone : (ents h x).length = 1 := by rw [he]; rfl
  have h0 : h = 0 := by
    rcases root_pow T with h0 | h0
    · exact h0
    · have : 3 ^ h ≤ 1 := by omega
      exact Nat.pow_lt_pow_iff_right (by omega : 1 < 3) |>.1 (by omega : 3 ^ h < 3 ^ 1) |> fun h => by omega
  subst h0
  (repeat (first | refine WO.run tabOk rfl rfl ?_ | refine WO.nil ?_ | refine WO.skip rfl rfl rfl ?_ | refine WO.pu tabOk rfl rfl rfl rfl ?_ | refine W.seq ?_ | refine W.region ?_ | refine W.block ?_ | refine W.skip ?_ | refine W.exit ?_))
  have e1 : ((treedS [(1, 5, ⟨#[97]⟩)]).length : Int) = 1 := by rw [← he, hone]; rfl
  rw [e1] at H2
  have hN2 : Holds w2 (blk bt 84 [.pointer (some ⟨br, 0, none⟩), .int .i64 1]) := H2.holds (by simp)
  refine WO.tell (d := 19) (u := .bool false) rfl rfl ?_
  (repeat (first | refine WO.run tabOk rfl rfl ?_ | refine WO.nil ?_ | refine WO.skip rfl rfl rfl ?_ | refine WO.pu tabOk rfl rfl rfl rfl ?_ | refine W.seq ?_ | refine W.region ?_ | refine W.block ?_ | refine W.skip ?_ | refine W.exit ?_))
  refine WO.one rfl rfl rfl (OpW.call rfl Try.call11 rfl (Calls.ret (len_ok w2 bt _ 1 hN2) ?_))
  rintro _ w9 ⟨e9, rfl⟩
  have e9 := e9.symm
  subst e9
  (repeat (first | refine WO.run tabOk rfl rfl ?_ | refine WO.nil ?_ | refine WO.skip rfl rfl rfl ?_ | refine WO.pu tabOk rfl rfl rfl rfl ?_ | refine W.seq ?_ | refine W.region ?_ | refine W.block ?_ | refine W.skip ?_ | refine W.exit ?_))
  refine WO.one rfl rfl rfl (OpW.call rfl Try.call12 rfl (Calls.ret (levels_ok w2 bt br 0 x 1 hN2 (H2.holds (A := nodeA 0 br x) (by simp)) T) ?_))
  intro v w3 K3
  obtain ⟨la, lc, rfl, _⟩ := row_rd (K3.holds (A := row 30 (Rdr.own 3 i64) v (lvk (0 + 1) [x])) (by simp))
  have hp3 : Pure w w3 := H1.pure.trans (H2.pure.trans K3.pure)
  rw [lvk_len]
  clear K3 hN2 H2 H1 e1 he T
  (repeat (first | refine WO.run tabOk rfl rfl ?_ | refine WO.nil ?_ | refine WO.skip rfl rfl rfl ?_ | refine WO.pu tabOk rfl rfl rfl rfl ?_ | refine W.seq ?_ | refine W.region ?_ | refine W.block ?_ | refine W.skip ?_ | refine W.exit ?_))
  refine W.cond_f rfl ?_
  (repeat (first | refine WO.run tabOk rfl rfl ?_ | refine WO.nil ?_ | refine WO.skip rfl rfl rfl ?_ | refine WO.pu tabOk rfl rfl rfl rfl ?_ | refine W.seq ?_ | refine W.region ?_ | refine W.block ?_ | refine W.skip ?_ | refine W.exit ?_))
  refine WO.one rfl rfl rfl (OpW.call rfl Try.call10 rfl (Calls.ret (treed_ok w3 a c l (hH.pure hp3)) ?_))
  rintro _ w4 ⟨bt, rfl, br, h, x, H4, T, he⟩
  rw [← he] at H4
  (repeat (first | refine WO.run tabOk rfl rfl ?_ | refine WO.nil ?_ | refine WO.skip rfl rfl rfl ?_ | refine WO.pu tabOk rfl rfl rfl rfl ?_ | refine W.seq ?_ | refine W.region ?_ | refine W.block ?_ | refine W.skip ?_ | refine W.exit ?_))
  refine WO.one rfl rfl rfl (OpW.call rfl Try.call12 rfl (Calls.ret (levels_ok w4 bt br h x ((ents h x).length : Int) (H4.holds (by simp)) (H4.holds (A := nodeA h br x) (by simp)) T) ?_))
  intro v w5 K5
  have hN5 : Holds w5 (blk bt 84 [.pointer (some ⟨br, 0, none⟩), .int .i64 ((ents h x).length : Int)]) := (H4.holds (by simp)).pure K5.pure
  obtain ⟨la, lc, rfl, hR⟩ := row_rd (K5.holds (A := row 30 (Rdr.own 3 i64) v (lvk (h + 1) [x])) (by simp))
  have hR : Holds w5 (rd (Rdr.rd i64) la lc (lvk (h + 1) [x])) := hR.weaken (own_le 3 i64)
  have hp5 : Pure w w5 := hp3.trans (H4.pure.trans K5.pure)
  have hlow := root_low T
  have hlen := T.len
  have hll := lvk_len (h + 1) [x]
  clear K5 H4 hp3 hH
  generalize hrw : lvk (h + 1) [x] = rows at hR hll
  rw [hll]
  (repeat (first | refine WO.run tabOk rfl rfl ?_ | refine WO.nil ?_ | refine WO.skip rfl rfl rfl ?_ | refine WO.pu tabOk rfl rfl rfl rfl ?_ | refine W.seq ?_ | refine W.region ?_ | refine W.block ?_ | refine W.skip ?_ | refine W.exit ?_))
  refine W.loopS [4, 5, 6, 7, 34, 35, 36] (fun s : Nat × Nat × List Nd × Nat × Nat => [(4, .pointer (some ⟨bt, 0, none⟩)), (5, .slice la (h + 1) lc), (6, .int .i64 s.2.2.2.1), (7, .int .i64 s.2.2.2.2), (34, .slice la (h + 1) lc), (35, .int .i64 ((h + 1 : Nat) : Int)), (36, .int .i64 s.1)])
    (fun s w' => At h s.1 s.2.1 x s.2.2.1 s.2.2.2.1 s.2.2.2.2 ∧ Pure w5 w') (fun s => s.2.1) (0, h + 1, [x], 0, 1) rfl ⟨At.start T, Pure.refl _⟩ ?_
  rintro ⟨i, k, xs, n, nodes⟩ w6 ⟨hA, hp6⟩
  simp only at hA
  have hik := hA.ik
  (repeat (first | refine WO.run tabOk rfl rfl ?_ | refine WO.nil ?_ | refine WO.skip rfl rfl rfl ?_ | refine WO.pu tabOk rfl rfl rfl rfl ?_ | refine W.seq ?_ | refine W.region ?_ | refine W.block ?_ | refine W.skip ?_ | refine W.exit ?_))
  refine W.cond rfl (fun hlt => ?_) (fun hge => ?_)
  · have hlt' : i < h + 1 := by simp at hlt; omega
    clear hlt
    obtain ⟨k, rfl⟩ : ∃ k', k = k' + 1 := ⟨k - 1, by omega⟩
    have hrow : rows[i]? = some (lens xs) := by
      have h1 := hA.rows
      rw [hrw] at h1
      have h2 : (rows.drop i)[0]? = some (lens xs) := by rw [h1]; rfl
      rw [List.getElem?_drop] at h2
      exact h2
    have hnodes : nodes = xs.length := hA.nodes
    have hn : n + sumE k xs = (ents h x).length := hA.n
    have heach : ∀ y ∈ xs, Bt (if i = 0 then (if h = 0 then 0 else 1) else 2) 4 k y := hA.each
    have hpos : 0 < xs.length := List.length_pos_iff.2 hA.lv.1
    have hxl := hA.lv.2.1
    have hsk := sumK_sumE hA.lv.2.2.1
    have hR6 := hR.pure hp6
    obtain ⟨rb, ro, rfl⟩ := hR6.addr (by omega)
    obtain ⟨a1, c1, hcell, hrow6⟩ := hR6.sub hrow
    obtain ⟨eb, eo, rfl⟩ := hrow6.addr (by rw [lens_len]; exact hpos)
    rw [lens_len] at hcell
    (repeat (first | refine WO.run tabOk rfl rfl ?_ | refine WO.nil ?_ | refine WO.skip rfl rfl rfl ?_ | refine WO.pu tabOk rfl rfl rfl rfl ?_ | refine W.seq ?_ | refine W.region ?_ | refine W.block ?_ | refine W.skip ?_ | refine W.exit ?_))
    refine WO.pv rfl rfl rfl (PureV.idxN (i := i) tabOk rfl rfl rfl rfl rfl rfl (by omega)) ?_
    refine WO.one rfl rfl rfl (OpW.loadc tabOk rfl rfl rfl rfl (Holds.cell hcell) ?_)
    (repeat (first | refine WO.run tabOk rfl rfl ?_ | refine WO.nil ?_ | refine WO.skip rfl rfl rfl ?_ | refine WO.pu tabOk rfl rfl rfl rfl ?_ | refine W.seq ?_ | refine W.region ?_ | refine W.block ?_ | refine W.skip ?_ | refine W.exit ?_))
    refine W.cond rfl (fun hbad => ?_) (fun _ => ?_)
    · exact absurd hbad (by simp; omega)
    (repeat (first | refine WO.run tabOk rfl rfl ?_ | refine WO.nil ?_ | refine WO.skip rfl rfl rfl ?_ | refine WO.pu tabOk rfl rfl rfl rfl ?_ | refine W.seq ?_ | refine W.region ?_ | refine W.block ?_ | refine W.skip ?_ | refine W.exit ?_))
    refine W.loopS [4, 5, 6, 7, 8, 34, 35, 36, 45, 46, 47] (fun j : Nat => [(4, .pointer (some ⟨bt, 0, none⟩)), (5, .slice (some ⟨rb, ro, none⟩) (h + 1) lc), (6, .int .i64 ((n + sumK (xs.take j) : Nat) : Int)), (7, .int .i64 ((sumK (xs.take j) + j : Nat) : Int)), (8, .int .i64 i), (34, .slice (some ⟨rb, ro, none⟩) (h + 1) lc), (35, .int .i64 ((h + 1 : Nat) : Int)), (36, .int .i64 i),
        (45, .slice (some ⟨eb, eo, none⟩) xs.length c1), (46, .int .i64 xs.length), (47, .int .i64 j)])
      (fun j w' => j ≤ xs.length ∧ Pure w6 w') (fun j => xs.length - j) 0 rfl ⟨Nat.zero_le _, Pure.refl _⟩ ?_
    rintro j w7 ⟨hj, hp7⟩
    (repeat (first | refine WO.run tabOk rfl rfl ?_ | refine WO.nil ?_ | refine WO.skip rfl rfl rfl ?_ | refine WO.pu tabOk rfl rfl rfl rfl ?_ | refine W.seq ?_ | refine W.region ?_ | refine W.block ?_ | refine W.skip ?_ | refine W.exit ?_))
    refine W.cond rfl (fun hlt => ?_) (fun hge => ?_)
    · have hlt : j < xs.length := by simpa using hlt
      have hy := List.getElem?_eq_getElem hlt
      generalize xs[j] = y at hy
      have hby := heach y (List.mem_of_getElem? hy)
      have hlo := hby.lo
      have hhi := hby.hi
      have hst := sumK_take hy
      have hsl := sumK_le xs (j + 1)
      have hly : (lens xs)[j]? = some (y.keys.length : Int) := by unfold lens; rw [List.getElem?_map, hy]; rfl
      (repeat (first | refine WO.run tabOk rfl rfl ?_ | refine WO.nil ?_ | refine WO.skip rfl rfl rfl ?_ | refine WO.pu tabOk rfl rfl rfl rfl ?_ | refine W.seq ?_ | refine W.region ?_ | refine W.block ?_ | refine W.skip ?_ | refine W.exit ?_))
      refine WO.pv rfl rfl rfl (PureV.idxN tabOk rfl rfl rfl rfl rfl rfl (by omega)) ?_
      refine WO.one rfl rfl rfl (OpW.elem1 (i := j) (j := 0) tabOk rfl rfl rfl rfl (hrow6.pure hp7) hly rfl rfl ?_)
      (repeat (first | refine WO.run tabOk rfl rfl ?_ | refine WO.nil ?_ | refine WO.skip rfl rfl rfl ?_ | refine WO.pu tabOk rfl rfl rfl rfl ?_ | refine W.seq ?_ | refine W.region ?_ | refine W.block ?_ | refine W.skip ?_ | refine W.exit ?_))
      refine W.cond rfl (fun hi0 => ?_) (fun hi0 => ?_)
      · have hi0 : i = 0 := by simpa using hi0
        rw [if_pos hi0] at hlo
        (repeat (first | refine WO.run tabOk rfl rfl ?_ | refine WO.nil ?_ | refine WO.skip rfl rfl rfl ?_ | refine WO.pu tabOk rfl rfl rfl rfl ?_ | refine W.seq ?_ | refine W.region ?_ | refine W.block ?_ | refine W.skip ?_ | refine W.exit ?_))
        refine WO.pv rfl rfl rfl (PureV.subN rfl rfl rfl (by omega) (by omega)) ?_
        (repeat (first | refine WO.run tabOk rfl rfl ?_ | refine WO.nil ?_ | refine WO.skip rfl rfl rfl ?_ | refine WO.pu tabOk rfl rfl rfl rfl ?_ | refine W.seq ?_ | refine W.region ?_ | refine W.block ?_ | refine W.skip ?_ | refine W.exit ?_))
        refine WO.tell (d := 60) (u := .bool false) rfl (congrArg Value.bool (decide_eq_false (by split at hlo <;> simp <;> omega))) ?_
        (repeat (first | refine WO.run tabOk rfl rfl ?_ | refine WO.nil ?_ | refine WO.skip rfl rfl rfl ?_ | refine WO.pu tabOk rfl rfl rfl rfl ?_ | refine W.seq ?_ | refine W.region ?_ | refine W.block ?_ | refine W.skip ?_ | refine W.exit ?_))
        refine W.cond rfl (fun hbad => ?_) (fun _ => ?_)
        · exact absurd hbad (by simp [pickV]; omega)
        (repeat (first | refine WO.run tabOk rfl rfl ?_ | refine WO.nil ?_ | refine WO.skip rfl rfl rfl ?_ | refine WO.pu tabOk rfl rfl rfl rfl ?_ | refine W.seq ?_ | refine W.region ?_ | refine W.block ?_ | refine W.skip ?_ | refine W.exit ?_))
        refine WO.pv rfl rfl rfl (PureV.add (a := ((n + sumK (xs.take j) : Nat) : Int)) (b := (y.keys.length : Int)) rfl rfl rfl (by omega) (by omega)) ?_
        refine WO.tell (d := 66) (u := .int .i64 ((n + sumK (xs.take (j + 1)) : Nat) : Int)) rfl (congrArg (Value.int .i64) (by omega)) ?_
        (repeat (first | refine WO.run tabOk rfl rfl ?_ | refine WO.nil ?_ | refine WO.skip rfl rfl rfl ?_ | refine WO.pu tabOk rfl rfl rfl rfl ?_ | refine W.seq ?_ | refine W.region ?_ | refine W.block ?_ | refine W.skip ?_ | refine W.exit ?_))
        refine WO.pv rfl rfl rfl (PureV.addN (n := y.keys.length) rfl rfl rfl (by omega)) ?_
        refine WO.pv rfl rfl rfl (PureV.add (a := ((sumK (xs.take j) + j : Nat) : Int)) (b := ((y.keys.length + 1 : Nat) : Int)) rfl rfl rfl (by omega) (by omega)) ?_
        refine WO.tell (d := 70) (u := .int .i64 ((sumK (xs.take (j + 1)) + (j + 1) : Nat) : Int)) rfl (congrArg (Value.int .i64) (by omega)) ?_
        (repeat (first | refine WO.run tabOk rfl rfl ?_ | refine WO.nil ?_ | refine WO.skip rfl rfl rfl ?_ | refine WO.pu tabOk rfl rfl rfl rfl ?_ | refine W.seq ?_ | refine W.region ?_ | refine W.block ?_ | refine W.skip ?_ | refine W.exit ?_))
        refine WO.pv rfl rfl rfl (PureV.addN rfl rfl rfl (by omega)) ?_
        (repeat (first | refine WO.run tabOk rfl rfl ?_ | refine WO.nil ?_ | refine WO.skip rfl rfl rfl ?_ | refine WO.pu tabOk rfl rfl rfl rfl ?_ | refine W.seq ?_ | refine W.region ?_ | refine W.block ?_ | refine W.skip ?_ | refine W.exit ?_))
        exact ⟨j + 1, rfl, ⟨by omega, hp7⟩, by omega⟩

      · have hi0 : i ≠ 0 := by simpa using hi0
        rw [if_neg hi0] at hlo
        (repeat (first | refine WO.run tabOk rfl rfl ?_ | refine WO.nil ?_ | refine WO.skip rfl rfl rfl ?_ | refine WO.pu tabOk rfl rfl rfl rfl ?_ | refine W.seq ?_ | refine W.region ?_ | refine W.block ?_ | refine W.skip ?_ | refine W.exit ?_))
        refine WO.tell (d := 60) (u := .bool false) rfl (congrArg Value.bool (decide_eq_false (by omega))) ?_
        (repeat (first | refine WO.run tabOk rfl rfl ?_ | refine WO.nil ?_ | refine WO.skip rfl rfl rfl ?_ | refine WO.pu tabOk rfl rfl rfl rfl ?_ | refine W.seq ?_ | refine W.region ?_ | refine W.block ?_ | refine W.skip ?_ | refine W.exit ?_))
        refine W.cond rfl (fun hbad => ?_) (fun _ => ?_)
        · exact absurd hbad (by simp [pickV]; omega)
        (repeat (first | refine WO.run tabOk rfl rfl ?_ | refine WO.nil ?_ | refine WO.skip rfl rfl rfl ?_ | refine WO.pu tabOk rfl rfl rfl rfl ?_ | refine W.seq ?_ | refine W.region ?_ | refine W.block ?_ | refine W.skip ?_ | refine W.exit ?_))
        refine WO.pv rfl rfl rfl (PureV.add (a := ((n + sumK (xs.take j) : Nat) : Int)) (b := (y.keys.length : Int)) rfl rfl rfl (by omega) (by omega)) ?_
        refine WO.tell (d := 66) (u := .int .i64 ((n + sumK (xs.take (j + 1)) : Nat) : Int)) rfl (congrArg (Value.int .i64) (by omega)) ?_
        (repeat (first | refine WO.run tabOk rfl rfl ?_ | refine WO.nil ?_ | refine WO.skip rfl rfl rfl ?_ | refine WO.pu tabOk rfl rfl rfl rfl ?_ | refine W.seq ?_ | refine W.region ?_ | refine W.block ?_ | refine W.skip ?_ | refine W.exit ?_))
        refine WO.pv rfl rfl rfl (PureV.addN (n := y.keys.length) rfl rfl rfl (by omega)) ?_
        refine WO.pv rfl rfl rfl (PureV.add (a := ((sumK (xs.take j) + j : Nat) : Int)) (b := ((y.keys.length + 1 : Nat) : Int)) rfl rfl rfl (by omega) (by omega)) ?_
        refine WO.tell (d := 70) (u := .int .i64 ((sumK (xs.take (j + 1)) + (j + 1) : Nat) : Int)) rfl (congrArg (Value.int .i64) (by omega)) ?_
        (repeat (first | refine WO.run tabOk rfl rfl ?_ | refine WO.nil ?_ | refine WO.skip rfl rfl rfl ?_ | refine WO.pu tabOk rfl rfl rfl rfl ?_ | refine W.seq ?_ | refine W.region ?_ | refine W.block ?_ | refine W.skip ?_ | refine W.exit ?_))
        refine WO.pv rfl rfl rfl (PureV.addN rfl rfl rfl (by omega)) ?_
        (repeat (first | refine WO.run tabOk rfl rfl ?_ | refine WO.nil ?_ | refine WO.skip rfl rfl rfl ?_ | refine WO.pu tabOk rfl rfl rfl rfl ?_ | refine W.seq ?_ | refine W.region ?_ | refine W.block ?_ | refine W.skip ?_ | refine W.exit ?_))
        exact ⟨j + 1, rfl, ⟨by omega, hp7⟩, by omega⟩

    · have hge : j = xs.length := by simp at hge; omega
      subst hge
      rw [List.take_length]
      (repeat (first | refine WO.run tabOk rfl rfl ?_ | refine WO.nil ?_ | refine WO.skip rfl rfl rfl ?_ | refine WO.pu tabOk rfl rfl rfl rfl ?_ | refine W.seq ?_ | refine W.region ?_ | refine W.block ?_ | refine W.skip ?_ | refine W.exit ?_))
      refine WO.pv rfl rfl rfl (PureV.addN rfl rfl rfl (by omega)) ?_
      (repeat (first | refine WO.run tabOk rfl rfl ?_ | refine WO.nil ?_ | refine WO.skip rfl rfl rfl ?_ | refine WO.pu tabOk rfl rfl rfl rfl ?_ | refine W.seq ?_ | refine W.region ?_ | refine W.block ?_ | refine W.skip ?_ | refine W.exit ?_))
      exact ⟨(i + 1, k, xs.flatMap Nd.kids, n + sumK xs, sumK xs + xs.length), rfl, ⟨hA.next, hp6.trans hp7⟩, Nat.lt_succ_self k⟩
  · have hk : k = 0 := by simp at hge; omega
    have hi : i = h + 1 := by omega
    subst hk
    have hn : n = (ents h x).length := hA.n
    clear hge
    (repeat (first | refine WO.run tabOk rfl rfl ?_ | refine WO.nil ?_ | refine WO.skip rfl rfl rfl ?_ | refine WO.pu tabOk rfl rfl rfl rfl ?_ | refine W.seq ?_ | refine W.region ?_ | refine W.block ?_ | refine W.skip ?_ | refine W.exit ?_))
    refine WO.pv rfl rfl rfl (PureV.subN rfl rfl rfl (by omega) (by omega)) ?_
    rw [Nat.add_sub_cancel]
    (repeat (first | refine WO.run tabOk rfl rfl ?_ | refine WO.nil ?_ | refine WO.skip rfl rfl rfl ?_ | refine WO.pu tabOk rfl rfl rfl rfl ?_ | refine W.seq ?_ | refine W.region ?_ | refine W.block ?_ | refine W.skip ?_ | refine W.exit ?_))
    refine W.loopS [4, 5, 6, 13, 75, 76] (fun m : Nat => [(4, .pointer (some ⟨bt, 0, none⟩)), (5, .slice la (h + 1) lc), (6, .int .i64 n), (13, .int .i64 ((3 ^ m : Nat) : Int)), (75, .int .i64 h), (76, .int .i64 m)])
      (fun m w' => m ≤ h ∧ Pure w6 w') (fun m => h - m) 0 rfl ⟨Nat.zero_le _, Pure.refl _⟩ ?_
    rintro m w7 ⟨hm, hp7⟩
    have hpow : 3 ^ m ≤ 3 ^ 6 := Nat.pow_le_pow_right (by omega) (by omega)
    have h36 : 3 ^ 6 = 729 := by decide
    rw [h36] at hpow
    generalize hq : 3 ^ m = q at hpow
    (repeat (first | refine WO.run tabOk rfl rfl ?_ | refine WO.nil ?_ | refine WO.skip rfl rfl rfl ?_ | refine WO.pu tabOk rfl rfl rfl rfl ?_ | refine W.seq ?_ | refine W.region ?_ | refine W.block ?_ | refine W.skip ?_ | refine W.exit ?_))
    refine W.cond rfl (fun hlt => ?_) (fun hge => ?_)
    · have hlt : m < h := by simpa using hlt
      (repeat (first | refine WO.run tabOk rfl rfl ?_ | refine WO.nil ?_ | refine WO.skip rfl rfl rfl ?_ | refine WO.pu tabOk rfl rfl rfl rfl ?_ | refine W.seq ?_ | refine W.region ?_ | refine W.block ?_ | refine W.skip ?_ | refine W.exit ?_))
      refine WO.pv rfl rfl rfl (PureV.mul (a := (q : Int)) (b := 3) rfl rfl rfl (by omega) (by omega)) ?_
      refine WO.tell (d := 79) (u := .int .i64 ((3 ^ (m + 1) : Nat) : Int)) rfl (congrArg (Value.int .i64) (by rw [Nat.pow_succ, hq]; omega)) ?_
      (repeat (first | refine WO.run tabOk rfl rfl ?_ | refine WO.nil ?_ | refine WO.skip rfl rfl rfl ?_ | refine WO.pu tabOk rfl rfl rfl rfl ?_ | refine W.seq ?_ | refine W.region ?_ | refine W.block ?_ | refine W.skip ?_ | refine W.exit ?_))
      refine WO.pv rfl rfl rfl (PureV.addN rfl rfl rfl (by omega)) ?_
      (repeat (first | refine WO.run tabOk rfl rfl ?_ | refine WO.nil ?_ | refine WO.skip rfl rfl rfl ?_ | refine WO.pu tabOk rfl rfl rfl rfl ?_ | refine W.seq ?_ | refine W.region ?_ | refine W.block ?_ | refine W.skip ?_ | refine W.exit ?_))
      exact ⟨m + 1, rfl, ⟨by omega, hp7⟩, by omega⟩
    · have hge : m = h := by simp at hge; omega
      subst hge
      have hN7 := hN5.pure (hp6.trans hp7)
      have hrp := root_pow T
      (repeat (first | refine WO.run tabOk rfl rfl ?_ | refine WO.nil ?_ | refine WO.skip rfl rfl rfl ?_ | refine WO.pu tabOk rfl rfl rfl rfl ?_ | refine W.seq ?_ | refine W.region ?_ | refine W.block ?_ | refine W.skip ?_ | refine W.exit ?_))
      refine WO.one rfl rfl rfl (OpW.call rfl Try.call11 rfl (Calls.ret (len_ok w7 bt _ ((ents m x).length : Int) hN7) ?_))
      rintro _ w9 ⟨e9, rfl⟩
      have e9 := e9.symm
      subst e9
      (repeat (first | refine WO.run tabOk rfl rfl ?_ | refine WO.nil ?_ | refine WO.skip rfl rfl rfl ?_ | refine WO.pu tabOk rfl rfl rfl rfl ?_ | refine W.seq ?_ | refine W.region ?_ | refine W.block ?_ | refine W.skip ?_ | refine W.exit ?_))
      refine WO.tell (d := 85) (u := .bool true) rfl (congrArg Value.bool (decide_eq_true (by omega))) ?_
      (repeat (first | refine WO.run tabOk rfl rfl ?_ | refine WO.nil ?_ | refine WO.skip rfl rfl rfl ?_ | refine WO.pu tabOk rfl rfl rfl rfl ?_ | refine W.seq ?_ | refine W.region ?_ | refine W.block ?_ | refine W.skip ?_ | refine W.exit ?_))
      refine WO.tell (d := 90) (u := .bool true) rfl (congrArg Value.bool (by simp [pickV])) ?_
      (repeat (first | refine WO.run tabOk rfl rfl ?_ | refine WO.nil ?_ | refine WO.skip rfl rfl rfl ?_ | refine WO.pu tabOk rfl rfl rfl rfl ?_ | refine W.seq ?_ | refine W.region ?_ | refine W.block ?_ | refine W.skip ?_ | refine W.exit ?_))
      by_cases hm0 : m = 0
      · refine WO.tell (d := 94) (u := .bool true) rfl (congrArg Value.bool (decide_eq_true (by omega))) ?_
        (repeat (first | refine WO.run tabOk rfl rfl ?_ | refine WO.nil ?_ | refine WO.skip rfl rfl rfl ?_ | refine WO.pu tabOk rfl rfl rfl rfl ?_ | refine W.seq ?_ | refine W.region ?_ | refine W.block ?_ | refine W.skip ?_ | refine W.exit ?_))
        exact W.ret (ret1 Try.results3 rfl ⟨_, rfl, hp5.trans (hp6.trans hp7), rfl⟩)
      · refine WO.tell (d := 94) (u := .bool false) rfl (congrArg Value.bool (decide_eq_false (by omega))) ?_
        (repeat (first | refine WO.run tabOk rfl rfl ?_ | refine WO.nil ?_ | refine WO.skip rfl rfl rfl ?_ | refine WO.pu tabOk rfl rfl rfl rfl ?_ | refine W.seq ?_ | refine W.region ?_ | refine W.block ?_ | refine W.skip ?_ | refine W.exit ?_))
        refine WO.pv rfl rfl rfl (PureV.mul (a := 2) (b := (q : Int)) rfl rfl rfl (by omega) (by omega)) ?_
        (repeat (first | refine WO.run tabOk rfl rfl ?_ | refine WO.nil ?_ | refine WO.skip rfl rfl rfl ?_ | refine WO.pu tabOk rfl rfl rfl rfl ?_ | refine W.seq ?_ | refine W.region ?_ | refine W.block ?_ | refine W.skip ?_ | refine W.exit ?_))
        refine WO.pv rfl rfl rfl (PureV.sub (a := 2 * (q : Int)) (b := 1) rfl rfl rfl (by omega) (by omega)) ?_
        (repeat (first | refine WO.run tabOk rfl rfl ?_ | refine WO.nil ?_ | refine WO.skip rfl rfl rfl ?_ | refine WO.pu tabOk rfl rfl rfl rfl ?_ | refine W.seq ?_ | refine W.region ?_ | refine W.block ?_ | refine W.skip ?_ | refine W.exit ?_))
        refine W.ret (ret1 Try.results3 rfl ⟨_, rfl, hp5.trans (hp6.trans hp7), ?_⟩)
        rw [hq] at hrp
        have : 2 * (q : Int) - 1 ≤ n := by omega
        simp [pickV, this]
end Go.Proofs.Ytnghaidnbicjjaa
