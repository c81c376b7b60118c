/- graph: next. Conditions: each fact's own premises. -/
import Derived.Test.YtpenbdpgpamcbaaGraphA
import Derived.Test.YtpenbdpgpamcbaaShelf
set_option linter.unusedVariables false
set_option linter.unusedSimpArgs false
set_option maxRecDepth 20000
namespace Go.Proofs.Ytpenbdpgpamcbaa
open Go Gw
attribute [local irreducible] W WO WD

/-- Of a graph: where each node goes. -/
structure NextOk (n : Nat) (E : List (Int × Int)) (to : List (List Nat)) : Prop where
  len : to.length = n
  ed : ∀ a b : Nat, Ed to a b ↔ ((a : Int), (b : Int)) ∈ E
  short : ∀ l ∈ to, l.length ≤ E.length
theorem NextOk.lt {n : Nat} {E : List (Int × Int)} {to : List (List Nat)} (h : NextOk n E to) (hG : GOk n E) {l : List Nat} (hl : l ∈ to) {b : Nat} (hb : b ∈ l) : b < n := by
  obtain ⟨a, ha, rfl⟩ := List.mem_iff_getElem.1 hl
  have := (h.ed a b).1 ⟨_, List.getElem?_eq_getElem ha, hb⟩
  have := (hG.ok _ this).2.2.2
  simp at this; omega

/-- What the first loop makes. -/
def rawTo (n : Nat) : List (Int × Int) → List (List Nat)
  | [] => List.replicate n []
  | _ => []
def addTo (xs : List (List Nat)) (e : Int × Int) : List (List Nat) := xs.set e.1.toNat ((xs[e.1.toNat]?).getD [] ++ [e.2.toNat])
theorem foldTo_facts {n : Nat} : ∀ (E : List (Int × Int)), (∀ e ∈ E, 0 ≤ e.1 ∧ e.1 < (n : Int) ∧ 0 ≤ e.2 ∧ e.2 < (n : Int)) → ∀ xs : List (List Nat), xs.length = n →
    (E.foldl addTo xs).length = n ∧ (∀ a b : Nat, Ed (E.foldl addTo xs) a b ↔ Ed xs a b ∨ ((a : Int), (b : Int)) ∈ E) ∧ ∀ k, (∀ l ∈ xs, l.length ≤ k) → ∀ l ∈ E.foldl addTo xs, l.length ≤ k + E.length
  | [], _, xs, hl => ⟨hl, fun a b => by simp, fun k hk l hl => by simpa using hk l hl⟩
  | e :: E, hE, xs, hl => by
    obtain ⟨e1, e2⟩ := e
    obtain ⟨h0, h1, h2, h3⟩ := hE _ (List.mem_cons_self ..)
    simp only at h0 h1 h2 h3
    have hlt : e1.toNat < xs.length := by omega
    obtain ⟨i1, i2, i3⟩ := foldTo_facts (n := n) E (fun e he => hE e (List.mem_cons_of_mem _ he)) (addTo xs (e1, e2)) (by simp [addTo, hl])
    refine ⟨i1, fun a b => ?_, fun k hk l hl' => ?_⟩
    · rw [List.foldl_cons, i2]
      have : Ed (addTo xs (e1, e2)) a b ↔ Ed xs a b ∨ ((a : Int), (b : Int)) = (e1, e2) := by
        simp only [Ed, addTo, List.getElem?_set, List.getElem?_eq_getElem hlt, Option.getD_some, Prod.mk.injEq]
        by_cases ha : e1.toNat = a
        · subst ha
          rw [if_pos rfl, if_pos hlt, List.getElem?_eq_getElem hlt]
          constructor
          · rintro ⟨l, hl, hb⟩
            cases hl
            rcases List.mem_append.1 hb with hb | hb
            · exact .inl ⟨_, rfl, hb⟩
            · simp at hb; exact .inr (by omega)
          · rintro (⟨l, hl, hb⟩ | h)
            · cases hl; exact ⟨_, rfl, List.mem_append.2 (.inl hb)⟩
            · exact ⟨_, rfl, List.mem_append.2 (.inr (by simp; omega))⟩
        · rw [if_neg ha]
          constructor
          · exact .inl
          · rintro (h | h)
            · exact h
            · exact absurd (by omega) ha
      rw [this, List.mem_cons, or_assoc]
    · have := i3 (k + 1) (fun l hl => ?_) l (by simpa using hl')
      · simp; omega
      · simp only [addTo, List.getElem?_eq_getElem hlt, Option.getD_some] at hl
        rcases List.mem_or_eq_of_mem_set hl with h | h
        · have := hk l h; omega
        · rw [h]; have := hk _ (List.getElem_mem hlt); simp; omega

theorem next_ok (w : World) (n : Nat) (a : Option Addr) (c : Nat) (E : List (Int × Int)) (hH : Holds w (rd edgeR a c E)) (hG : GOk n E) :
    Calls Try.prog 42 #[.int .i64 (n : Int), .slice a E.length c] w (Ret fun v w' => ∃ to, NextOk n E to ∧ St (at0 w) w' [row 31 (Rdr.own 3 natR) v to] []) := by
  refine calls_W (args := [_, _]) Try.func42 rfl Try.ntmps42 rfl ?_
  have hn := hG.hi
  have hlen := hG.len
  have H := St.start [] (w := w) (by simp)
  (repeat (first | refine WO.run tabOk rfl rfl ?_ | refine WO.nil ?_ | refine WO.skip rfl rfl rfl ?_ | refine WO.pu tabOk rfl rfl rfl rfl ?_ | refine W.seq ?_ | refine W.region ?_ | refine W.block ?_ | refine W.skip ?_ | refine W.exit ?_))
  refine WO.one rfl rfl rfl (OpW.makeN tabOk rfl rfl rfl rfl zero31 rfl rfl rfl (by omega) (by simp only [maxLen]; omega) H ?_)
  intro g w1 H1
  (repeat (first | refine WO.run tabOk rfl rfl ?_ | refine WO.nil ?_ | refine WO.skip rfl rfl rfl ?_ | refine WO.pu tabOk rfl rfl rfl rfl ?_ | refine W.seq ?_ | refine W.region ?_ | refine W.block ?_ | refine W.skip ?_ | refine W.exit ?_))
  have H1' := ((H1.nest_new (e := 3) (r := natR) n).to (i := 1) rfl)
  refine W.loopS [0, 5, 11, 12, 13] (fun s : Nat × List Value => [(0, .int .i64 (n : Int)), (5, .slice (some ⟨g, 0, none⟩) n n), (11, .slice a E.length c), (12, .int .i64 E.length), (13, .int .i64 s.1)])
    (fun s w' => s.1 ≤ E.length ∧ St (at0 w) w' [blk g 31 s.2, hang (Rdr.own 3 natR) ((E.take s.1).foldl addTo (List.replicate n [])) s.2] []) (fun s => E.length - s.1) (0, List.replicate n (.slice none 0 0)) rfl ⟨Nat.zero_le _, H1'⟩ ?_
  clear H H1 H1'
  rintro ⟨i, cs⟩ w3 ⟨hi, H⟩
  simp only at hi H
  (repeat (first | refine WO.run tabOk rfl rfl ?_ | refine WO.nil ?_ | refine WO.skip rfl rfl rfl ?_ | refine WO.pu tabOk rfl rfl rfl rfl ?_ | refine W.seq ?_ | refine W.region ?_ | refine W.block ?_ | refine W.skip ?_ | refine W.exit ?_))
  refine W.cond rfl (fun hlt => ?_) (fun hge => ?_)
  · have hlt : i < E.length := by simpa using hlt
    obtain ⟨b, o, rfl⟩ := hH.addr (by omega)
    have hle := hH.le
    simp only [maxLen] at hle
    (repeat (first | refine WO.run tabOk rfl rfl ?_ | refine WO.nil ?_ | refine WO.skip rfl rfl rfl ?_ | refine WO.pu tabOk rfl rfl rfl rfl ?_ | refine W.seq ?_ | refine W.region ?_ | refine W.block ?_ | refine W.skip ?_ | refine W.exit ?_))
    refine WO.pv rfl rfl rfl (PureV.idxN tabOk rfl rfl rfl rfl rfl rfl (by omega)) ?_
    have hx := List.getElem?_eq_getElem hlt
    generalize E[i] = x at hx
    have hm : x ∈ E := List.mem_of_getElem? hx
    obtain ⟨h0, h1, h2, h3⟩ := hG.ok x hm
    obtain ⟨x1, x2⟩ := x
    simp only at h0 h1 h2 h3
    obtain ⟨p, rfl⟩ := Int.eq_ofNat_of_zero_le h0
    obtain ⟨q, rfl⟩ := Int.eq_ofNat_of_zero_le h2
    have hpn : p < n := by omega
    obtain ⟨hfl, _, hfs⟩ := foldTo_facts (n := n) (E.take i) (fun e he => hG.ok e (List.mem_of_mem_take he)) (List.replicate n []) (by simp)
    have hfs := hfs 0 (fun l hl => by simp [List.eq_of_mem_replicate hl])
    have hstep : (E.take (i + 1)).foldl addTo (List.replicate n []) = addTo ((E.take i).foldl addTo (List.replicate n [])) ((p : Int), (q : Int)) := by rw [takeSnoc hx, List.foldl_append]; rfl
    generalize (E.take i).foldl addTo (List.replicate n []) = xs at H hfl hfs hstep
    refine WO.one rfl rfl rfl (OpW.elemA (i := i) tabOk rfl rfl rfl rfl (hH.pure (St.pure H)) hx rfl rfl ?_)
    refine WO.one rfl rfl rfl (OpW.alloc rfl zero71 rfl H ?_); intro b4 w4 H4
    refine WO.act rfl rfl (OpW.storeA (i := 0) tabOk rfl rfl rfl rfl H4 rfl rfl rfl rfl rfl ?_); intro w5 H5
    (repeat (first | refine WO.run tabOk rfl rfl ?_ | refine WO.nil ?_ | refine WO.skip rfl rfl rfl ?_ | refine WO.pu tabOk rfl rfl rfl rfl ?_ | refine W.seq ?_ | refine W.region ?_ | refine W.block ?_ | refine W.skip ?_ | refine W.exit ?_))
    have H6 := H5.drew
    have hcl := (H6.to (i := 2) rfl).hang_cells
    have hv := List.getElem?_eq_getElem (l := cs) (i := p) (by omega)
    have hy := List.getElem?_eq_getElem (l := xs) (i := p) (by omega)
    generalize cs[p] = v at hv
    have hym : xs[p] ∈ xs := List.getElem_mem _
    generalize xs[p] = y at hy hym
    have hA := H6.ha (L := [blk b4 71 [.int .i64 (p : Int), .int .i64 (q : Int)], blk g 31 cs]) (by simp)
    refine W.regionD [2, 5, 7, 9] (HA [blk b4 71 [.int .i64 (p : Int), .int .i64 (q : Int)], blk g 31 cs]) [0, 1, 2, 3, 4, 5, 6, 7, 8, 9, 10, 11, 12, 13] rfl (by kernel_rfl) (fun _ _ _ h => h) ?_
    (repeat (first | refine WD.run tabOk rfl rfl ?_ | refine WD.hv rfl rfl rfl rfl rfl hA (HeldV.load1 tabOk rfl rfl rfl rfl (by (repeat (first | exact .head _ | refine .tail _ ?_))) rfl) ?_ | refine WD.hv rfl rfl rfl rfl rfl hA (HeldV.loadA tabOk rfl rfl rfl rfl (by (repeat (first | exact .head _ | refine .tail _ ?_))) rfl rfl) ?_ | refine WD.pu tabOk rfl rfl rfl rfl rfl rfl ?_))
    refine WD.pv rfl rfl rfl rfl rfl (PureV.idxN tabOk rfl rfl rfl rfl rfl rfl (by omega)) ?_
    have hmg : cs[0 + p * 1]? = some v := by rw [Nat.zero_add, Nat.mul_one]; exact hv
    refine WD.hv rfl rfl rfl rfl rfl hA (HeldV.loadB tabOk rfl rfl rfl rfl (.tail _ (.head _)) hmg) ?_
    (repeat (first | refine WD.run tabOk rfl rfl ?_ | refine WD.hv rfl rfl rfl rfl rfl hA (HeldV.load1 tabOk rfl rfl rfl rfl (by (repeat (first | exact .head _ | refine .tail _ ?_))) rfl) ?_ | refine WD.hv rfl rfl rfl rfl rfl hA (HeldV.loadA tabOk rfl rfl rfl rfl (by (repeat (first | exact .head _ | refine .tail _ ?_))) rfl rfl) ?_ | refine WD.pu tabOk rfl rfl rfl rfl rfl rfl ?_))
    refine WD.oneS rfl rfl rfl rfl rfl (OpW.buildSlice tabOk rfl rfl rfl rfl zero3 rfl rfl (l := [.int .i64 (q : Int)]) rfl H6 ?_)
    intro b9 w9 H9
    refine ⟨H9.ha (by simp), ?_⟩
    have hsh := shows_blk (sz := 1) (m := 1) (e := 3) (l := [.int .i64 (q : Int)]) H9 (b := b9) (by simp) rfl (by intro u hu; simp at hu; subst hu; rfl)
    have H10 := ((H9.to (i := 3) rfl).nest_out hy hv).nat_open
    have hyl := hfs y hym
    have htl : (E.take i).length = i := by rw [List.length_take]; omega
    refine WD.oneS rfl rfl rfl rfl rfl (OpW.append tabOk rfl rfl rfl zero3 rfl rfl rfl rfl H10 hsh (by omega) (by simp only [maxLen]; omega) ?_)
    intro v' w11 H11 _
    refine ⟨H11.ha (by simp), ?_⟩
    have e1 : y.flatMap encN ++ [.int .i64 (q : Int)] = (y ++ [q]).flatMap encN := by simp [encN]
    have e2 : y.length + 1 = (y ++ [q]).length := by simp
    rw [e1, e2] at H11
    have H12 := H11.nat_close
    obtain ⟨u1, d1, hv1⟩ := rowForm H12 (v := v') (e := 3) (r := natR) (xs := y ++ [q]) (by simp)
    refine WD.pv rfl rfl rfl rfl rfl (PureV.idxN tabOk rfl rfl rfl rfl rfl rfl (by omega)) ?_
    refine WD.act rfl rfl rfl rfl (by kernel_rfl) (OpW.storeB (i := 5) tabOk rfl rfl rfl rfl H12 rfl (v := v') (by intro u hu; rw [hv1] at hu; simp [cellsL] at hu; subst hu; rfl) (by rw [hv1]; rfl) (by rw [hv1]; simp [cellsL]; omega) ?_)
    intro w13 H13
    (repeat (first | refine WD.run tabOk rfl rfl ?_ | refine WD.nil ?_))
    (repeat (first | refine WO.run tabOk rfl rfl ?_ | refine WO.nil ?_ | refine WO.skip rfl rfl rfl ?_ | refine WO.pu tabOk rfl rfl rfl rfl ?_ | refine W.seq ?_ | refine W.region ?_ | refine W.block ?_ | refine W.skip ?_ | refine W.exit ?_))
    refine WO.pv rfl rfl rfl (PureV.addN (n := i) rfl rfl rfl (by omega)) ?_
    (repeat (first | refine WO.run tabOk rfl rfl ?_ | refine WO.nil ?_ | refine WO.skip rfl rfl rfl ?_ | refine WO.pu tabOk rfl rfl rfl rfl ?_ | refine W.seq ?_ | refine W.region ?_ | refine W.block ?_ | refine W.skip ?_ | refine W.exit ?_))
    refine ⟨(i + 1, cs.set p v'), rfl, ⟨by simp only; omega, ?_⟩, by simp only; omega⟩
    have e3 : spliceL cs (0 + p * 1) (cellsL v') = cs.set p v' := by
      rw [hv1, Nat.zero_add, Nat.mul_one]; exact spliceOne (by omega)
    rw [e3] at H13
    have H14 := (H13.bring [1, 2, 3] rfl).nest_in (by omega) (by omega)
    simp only
    rw [hstep]
    have e4 : addTo xs ((p : Int), (q : Int)) = xs.set p (y ++ [q]) := by simp [addTo, hy]
    rw [e4]
    exact ((H14.bring [1, 0] rfl).bring [2, 3] rfl).drop.drop
  · simp at hge
    obtain rfl : i = E.length := by omega
    rw [List.take_length] at H
    obtain ⟨hfl, hfe, hfs⟩ := foldTo_facts (n := n) E hG.ok (List.replicate n []) (by simp)
    have hfs := hfs 0 (fun l hl => by simp [List.eq_of_mem_replicate hl])
    have hfe : ∀ a b : Nat, Ed (E.foldl addTo (List.replicate n [])) a b ↔ ((a : Int), (b : Int)) ∈ E := fun a b => by
      rw [hfe a b]
      refine ⟨fun h => h.elim (fun ⟨l, hl, hb⟩ => ?_) id, .inr⟩
      have := List.eq_of_mem_replicate (List.mem_of_getElem? hl)
      rw [this] at hb; cases hb
    generalize E.foldl addTo (List.replicate n []) = x0 at H hfl hfe hfs
    (repeat (first | refine WO.run tabOk rfl rfl ?_ | refine WO.nil ?_ | refine WO.skip rfl rfl rfl ?_ | refine WO.pu tabOk rfl rfl rfl rfl ?_ | refine W.seq ?_ | refine W.region ?_ | refine W.block ?_ | refine W.skip ?_ | refine W.exit ?_))
    refine W.loopS [5, 32, 33] (fun s : Nat × List Value × List (List Nat) => [(5, .slice (some ⟨g, 0, none⟩) n n), (32, .int .i64 (n : Int)), (33, .int .i64 s.1)])
      (fun s w' => s.1 ≤ n ∧ s.2.2.length = n ∧ (∀ a b : Nat, Ed s.2.2 a b ↔ ((a : Int), (b : Int)) ∈ E) ∧ (∀ l ∈ s.2.2, l.length ≤ E.length) ∧ St (at0 w) w' [blk g 31 s.2.1, hang (Rdr.own 3 natR) s.2.2 s.2.1] []) (fun s => n - s.1) (0, cs, x0) rfl ⟨Nat.zero_le _, hfl, hfe, fun l hl => by have := hfs l hl; omega, H⟩ ?_
    clear H hfl hfe hfs
    rintro ⟨i, cs, xs⟩ w4 ⟨hi, hl4, he4, hs4, H⟩
    simp only at hi hl4 he4 hs4 H
    (repeat (first | refine WO.run tabOk rfl rfl ?_ | refine WO.nil ?_ | refine WO.skip rfl rfl rfl ?_ | refine WO.pu tabOk rfl rfl rfl rfl ?_ | refine W.seq ?_ | refine W.region ?_ | refine W.block ?_ | refine W.skip ?_ | refine W.exit ?_))
    refine W.cond rfl (fun hlt => ?_) (fun hge => ?_)
    · have hlt : i < n := by simpa using hlt
      have hcl := (H.to (i := 1) rfl).hang_cells
      have hv := List.getElem?_eq_getElem (l := cs) (i := i) (by omega)
      have hy := List.getElem?_eq_getElem (l := xs) (i := i) (by omega)
      generalize cs[i] = v at hv
      have hym : xs[i] ∈ xs := List.getElem_mem _
      generalize xs[i] = y at hy hym
      have hyl := hs4 y hym
      (repeat (first | refine WO.run tabOk rfl rfl ?_ | refine WO.nil ?_ | refine WO.skip rfl rfl rfl ?_ | refine WO.pu tabOk rfl rfl rfl rfl ?_ | refine W.seq ?_ | refine W.region ?_ | refine W.block ?_ | refine W.skip ?_ | refine W.exit ?_))
      refine WO.pv rfl rfl rfl (PureV.idxN tabOk rfl rfl rfl rfl rfl rfl (by omega)) ?_
      have hmg : cs[0 + i * 1]? = some v := by rw [Nat.zero_add, Nat.mul_one]; exact hv
      refine WO.one rfl rfl rfl (OpW.loadB tabOk rfl rfl rfl rfl H (.head _) hmg ?_)
      (repeat (first | refine WO.run tabOk rfl rfl ?_ | refine WO.nil ?_ | refine WO.skip rfl rfl rfl ?_ | refine WO.pu tabOk rfl rfl rfl rfl ?_ | refine W.seq ?_ | refine W.region ?_ | refine W.block ?_ | refine W.skip ?_ | refine W.exit ?_))
      have H5 := (H.to (i := 1) rfl).nest_out hy hv
      refine WO.one rfl rfl rfl (OpW.call rfl Try.call56 rfl (Calls.ret (sort_row sh.slices_Sort_int sh.slices_Sort_int_none H5 (by omega)) ?_))
      rintro _ w6 ⟨rfl, y2, hp2, hs2, H6⟩
      (repeat (first | refine WO.run tabOk rfl rfl ?_ | refine WO.nil ?_ | refine WO.skip rfl rfl rfl ?_ | refine WO.pu tabOk rfl rfl rfl rfl ?_ | refine W.seq ?_ | refine W.region ?_ | refine W.block ?_ | refine W.skip ?_ | refine W.exit ?_))
      refine WO.pv rfl rfl rfl (PureV.idxN tabOk rfl rfl rfl rfl rfl rfl (by omega)) ?_
      refine WO.one rfl rfl rfl (OpW.loadB tabOk rfl rfl rfl rfl H6 (.tail _ (.tail _ (.tail _ (.head _)))) hmg ?_)
      (repeat (first | refine WO.run tabOk rfl rfl ?_ | refine WO.nil ?_ | refine WO.skip rfl rfl rfl ?_ | refine WO.pu tabOk rfl rfl rfl rfl ?_ | refine W.seq ?_ | refine W.region ?_ | refine W.block ?_ | refine W.skip ?_ | refine W.exit ?_))
      refine WO.one rfl rfl rfl (OpW.call rfl Try.call57 rfl (Calls.ret (compact_row sh.slices_Compact_int sh.slices_Compact_int_empty H6) ?_))
      rintro v' w7 ⟨y3, hm3, hs3, H7⟩
      obtain ⟨u1, d1, hv1⟩ := rowForm H7 (v := v') (e := 3) (r := natR) (xs := y3) (by simp)
      (repeat (first | refine WO.run tabOk rfl rfl ?_ | refine WO.nil ?_ | refine WO.skip rfl rfl rfl ?_ | refine WO.pu tabOk rfl rfl rfl rfl ?_ | refine W.seq ?_ | refine W.region ?_ | refine W.block ?_ | refine W.skip ?_ | refine W.exit ?_))
      refine WO.pv rfl rfl rfl (PureV.idxN tabOk rfl rfl rfl rfl rfl rfl (by omega)) ?_
      refine WO.act rfl rfl (OpW.storeB (i := 3) tabOk rfl rfl rfl rfl H7 rfl (v := v') (by intro u hu; rw [hv1] at hu; simp [cellsL] at hu; subst hu; rfl) (by rw [hv1]; rfl) (by rw [hv1]; simp [cellsL]; omega) ?_)
      intro w8 H8
      (repeat (first | refine WO.run tabOk rfl rfl ?_ | refine WO.nil ?_ | refine WO.skip rfl rfl rfl ?_ | refine WO.pu tabOk rfl rfl rfl rfl ?_ | refine W.seq ?_ | refine W.region ?_ | refine W.block ?_ | refine W.skip ?_ | refine W.exit ?_))
      refine WO.pv rfl rfl rfl (PureV.addN (n := i) rfl rfl rfl (by omega)) ?_
      (repeat (first | refine WO.run tabOk rfl rfl ?_ | refine WO.nil ?_ | refine WO.skip rfl rfl rfl ?_ | refine WO.pu tabOk rfl rfl rfl rfl ?_ | refine W.seq ?_ | refine W.region ?_ | refine W.block ?_ | refine W.skip ?_ | refine W.exit ?_))
      have e3 : spliceL cs (0 + i * 1) (cellsL v') = cs.set i v' := by
        rw [hv1, Nat.zero_add, Nat.mul_one]; exact spliceOne (by omega)
      rw [e3] at H8
      have H9 := ((H8.bring [1, 2, 3] rfl).nest_in (by omega) (by omega)).bring [1, 0] rfl
      have hmem : ∀ x, x ∈ y3 ↔ x ∈ y := fun x => (hm3 x).trans hp2.mem_iff
      refine ⟨(i + 1, cs.set i v', xs.set i y3), rfl, ⟨by simp only; omega, by simp [hl4], fun a b => ?_, fun l hl => ?_, H9⟩, by simp only; omega⟩
      · rw [← he4]
        simp only [Ed, List.getElem?_set]
        by_cases e : i = a
        · subst e
          rw [if_pos rfl, if_pos (by omega), hy]
          constructor
          · rintro ⟨l, hl, hb⟩; cases hl; exact ⟨_, rfl, (hmem b).1 hb⟩
          · rintro ⟨l, hl, hb⟩; cases hl; exact ⟨_, rfl, (hmem b).2 hb⟩
        · rw [if_neg e]
      · rcases List.mem_or_eq_of_mem_set hl with h | rfl
        · exact hs4 l h
        · have := hs3.length_le; have := hp2.length_eq; omega
    · simp at hge
      obtain rfl : i = n := by omega
      (repeat (first | refine WO.run tabOk rfl rfl ?_ | refine WO.nil ?_ | refine WO.skip rfl rfl rfl ?_ | refine WO.pu tabOk rfl rfl rfl rfl ?_ | refine W.seq ?_ | refine W.region ?_ | refine W.block ?_ | refine W.skip ?_ | refine W.exit ?_))
      refine W.ret (ret1 Try.results42 rfl ⟨_, rfl, xs, ⟨hl4, he4, hs4⟩, ?_⟩)
      have H5 := H.nest_close (by simp only [maxLen]; omega)
      rw [hl4] at H5
      exact H5
end Go.Proofs.Ytpenbdpgpamcbaa
