/- two: Play; Own, op. Conditions: each fact's own premises. -/
import Derived.Test.YtpenbdpgpamcbaaTwoG
import Derived.Laws.ResultCell
set_option linter.unusedVariables false
set_option linter.unusedSimpArgs false
set_option maxRecDepth 20000
namespace Go.Proofs.Ytpenbdpgpamcbaa
open Go Gw
attribute [local irreducible] W WO WD

theorem retCT2 {P : Program} {w : World} {r : Env} {T : List TI} {fn : Func} {R : Ending → World → Prop} {p u ty b e : Nat} {ti : TI} {cs : List Value} {x : Value} (hT : TabOk P T) (hr : fn.results = #[.cell p ty, .tmp u]) (hp : Env.get r p = some (.pointer (some ⟨b, 0, none⟩))) (hu : Env.get r u = some x)
    (ht : nth T ty = some ti) (hs : aggK ti.k = true) (hH : Holds w (blk b e cs)) (hl : cs.length = ti.size) (h : R (.returned (.tuple #[.agg cs.toArray, x])) w) : retE P fn R .ret r w := by
  intro a ha
  obtain ⟨S, hS⟩ := hH
  refine ⟨.tuple #[.agg cs.toArray, x], ?_, h⟩
  have hrun := run_load_cells (P := P) (w := w) hT ht hs hl (cellsAt_list (off := 0) (cs := cs) hS.2 (by simp))
  rw [results_cell_tmp hr, ha.get p _ hp, ha.get u x hu]
  simp [asAddr, hrun, Result.andThen]
theorem retC1 {P : Program} {w : World} {r : Env} {T : List TI} {fn : Func} {R : Ending → World → Prop} {p ty b e : Nat} {ti : TI} {cs : List Value} (hT : TabOk P T) (hr : fn.results = #[.cell p ty]) (hp : Env.get r p = some (.pointer (some ⟨b, 0, none⟩)))
    (ht : nth T ty = some ti) (hs : aggK ti.k = true) (hH : Holds w (blk b e cs)) (hl : cs.length = ti.size) (h : R (.returned (.agg cs.toArray)) w) : retE P fn R .ret r w := by
  intro a ha
  obtain ⟨S, hS⟩ := hH
  refine ⟨.agg cs.toArray, ?_, h⟩
  have hrun := run_load_cells (P := P) (w := w) hT ht hs hl (cellsAt_list (off := 0) (cs := cs) hS.2 (by simp))
  have hv : a.tmps[p]?.getD undef = .pointer (some ⟨b, 0, none⟩) := by simpa using ha.get p _ hp
  simp [results, hr, hv, asAddr, hrun]

theorem op_ok (w : World) (x y z : Int) : Calls Try.prog 12 #[.int .i64 x, .int .i64 y, .int .i64 z] w (Ret fun v w' => Pure w w' ∧ v = .agg #[.int .i64 x, .int .i64 y, .int .i64 z]) := by
  refine calls_W (args := [_, _, _]) Try.func12 rfl Try.ntmps12 rfl ?_
  have H := St.start [] (w := w) (by simp)
  (repeat (first | refine W.seq ?_ | refine W.block ?_ | refine W.skip ?_ | refine W.exit ?_ | refine W.region ?_))
  refine WO.one rfl rfl rfl (OpW.alloc rfl zero44 rfl H ?_); intro b6 w1 H1
  (repeat (first | refine WO.run tabOk rfl rfl ?_ | refine WO.nil ?_ | refine WO.skip rfl rfl rfl ?_ | refine WO.pu tabOk rfl rfl rfl rfl ?_ | refine W.seq ?_ | refine W.region ?_ | refine W.block ?_ | refine W.skip ?_ | refine W.exit ?_))
  refine WO.pv rfl rfl rfl (PureV.build tabOk rfl rfl rfl zero44 (l := [.int .i64 x, .int .i64 y, .int .i64 z]) rfl) ?_
  (repeat (first | refine WO.run tabOk rfl rfl ?_ | refine WO.nil ?_ | refine WO.skip rfl rfl rfl ?_ | refine WO.pu tabOk rfl rfl rfl rfl ?_ | refine W.seq ?_ | refine W.region ?_ | refine W.block ?_ | refine W.skip ?_ | refine W.exit ?_))
  refine WO.act rfl rfl (OpW.storeA (i := 0) tabOk rfl rfl rfl rfl H1 rfl rfl rfl rfl rfl ?_); intro w2 H2
  (repeat (first | refine WO.run tabOk rfl rfl ?_ | refine WO.nil ?_ | refine WO.skip rfl rfl rfl ?_ | refine WO.pu tabOk rfl rfl rfl rfl ?_ | refine W.seq ?_ | refine W.region ?_ | refine W.block ?_ | refine W.skip ?_ | refine W.exit ?_))
  exact W.ret (retC1 tabOk Try.results12 rfl rfl rfl (H2.holds (A := blk b6 44 [.int .i64 x, .int .i64 y, .int .i64 z]) (by simp)) rfl ⟨_, rfl, H2.pure, rfl⟩)

def ownL (u : Int) (l : List Act) : List Act := l.filter fun o => decide (o.1 = u)
theorem ownL_append (u : Int) (a b : List Act) : ownL u (a ++ b) = ownL u a ++ ownL u b := List.filter_append ..
theorem ownL_len (u : Int) (l : List Act) : (ownL u l).length ≤ l.length := List.length_filter_le _ _
theorem own_ok (w : World) (a : Option Addr) (c : Nat) (l : List Act) (u : Int) (hH : Holds w (rd actR a c l)) (hlen : l.length ≤ 1000) :
    Calls Try.prog 17 #[.slice a l.length c, .int .i64 u] w (Ret fun v w' => St (at0 w) w' [row 44 actR v (ownL u l)] []) := by
  refine calls_W (args := [_, _]) Try.func17 rfl Try.ntmps17 rfl ?_
  have H0 := (St.start [] (w := w) (by simp)).add_nil 44 actR
  (repeat (first | refine WO.run tabOk rfl rfl ?_ | refine WO.nil ?_ | refine WO.skip rfl rfl rfl ?_ | refine WO.pu tabOk rfl rfl rfl rfl ?_ | refine W.seq ?_ | refine W.region ?_ | refine W.block ?_ | refine W.skip ?_ | refine W.exit ?_))
  refine W.loopS [1, 5, 8, 9, 10] (fun s : Nat × Value => [(1, .int .i64 u), (5, s.2), (8, .slice a l.length c), (9, .int .i64 (l.length : Int)), (10, .int .i64 (s.1 : Int))])
    (fun s w' => s.1 ≤ l.length ∧ St (at0 w) w' [row 44 actR s.2 (ownL u (l.take s.1))] []) (fun s => l.length - s.1) (0, .slice none 0 0) rfl ⟨Nat.zero_le _, H0⟩ ?_
  clear H0
  rintro ⟨i, v⟩ w1 ⟨hi, H⟩
  simp only at hi H
  obtain ⟨va, vc, rfl⟩ := rowForm H (v := v) (e := 44) (r := actR) (xs := ownL u (l.take i)) (by simp)
  (repeat (first | refine WO.run tabOk rfl rfl ?_ | refine WO.nil ?_ | refine WO.skip rfl rfl rfl ?_ | refine WO.pu tabOk rfl rfl rfl rfl ?_ | refine W.seq ?_ | refine W.region ?_ | refine W.block ?_ | refine W.skip ?_ | refine W.exit ?_))
  refine W.cond rfl (fun hlt => ?_) (fun hge => ?_)
  · have hlt : i < l.length := by simpa using hlt
    have hkl := ownL_len u (l.take i)
    rw [List.length_take] at hkl
    obtain ⟨b, o, rfl⟩ := hH.addr (by omega)
    have hx := List.getElem?_eq_getElem hlt
    generalize l[i] = d at hx
    have htk : ownL u (l.take (i + 1)) = ownL u (l.take i) ++ ownL u [d] := by rw [take_snoc hx, ownL_append]
    obtain ⟨d1, d2, d3⟩ := d
    (repeat (first | refine WO.run tabOk rfl rfl ?_ | refine WO.nil ?_ | refine WO.skip rfl rfl rfl ?_ | refine WO.pu tabOk rfl rfl rfl rfl ?_ | refine W.seq ?_ | refine W.region ?_ | refine W.block ?_ | refine W.skip ?_ | refine W.exit ?_))
    refine WO.pv rfl rfl rfl (PureV.idxN tabOk rfl rfl rfl rfl rfl rfl (by omega)) ?_
    refine WO.one rfl rfl rfl (OpW.elemA (i := i) tabOk rfl rfl rfl rfl (hH.pure H.pure) hx rfl rfl ?_)
    refine WO.one rfl rfl rfl (OpW.alloc rfl zero44 rfl H ?_); intro b7 w2 H2
    refine WO.act rfl rfl (OpW.storeA (i := 0) tabOk rfl rfl rfl rfl H2 rfl rfl rfl rfl rfl ?_); intro w3 H3
    (repeat (first | refine WO.run tabOk rfl rfl ?_ | refine WO.nil ?_ | refine WO.skip rfl rfl rfl ?_ | refine WO.pu tabOk rfl rfl rfl rfl ?_ | refine W.seq ?_ | refine W.region ?_ | refine W.block ?_ | refine W.skip ?_ | refine W.exit ?_ | refine WO.one rfl rfl rfl (OpW.load1 tabOk rfl rfl rfl rfl H3 (by (repeat (first | exact .head _ | refine .tail _ ?_))) rfl ?_)))
    clear H H2
    refine W.cond rfl (fun hk => ?_) (fun hk => ?_)
    · have hk : d1 = u := by simpa using hk
      have htk : ownL u (l.take (i + 1)) = ownL u (l.take i) ++ [(d1, d2, d3)] := by rw [htk]; simp [ownL, hk]
      (repeat (first | refine WO.run tabOk rfl rfl ?_ | refine WO.nil ?_ | refine WO.skip rfl rfl rfl ?_ | refine WO.pu tabOk rfl rfl rfl rfl ?_ | refine W.seq ?_ | refine W.region ?_ | refine W.block ?_ | refine W.skip ?_ | refine W.exit ?_ | refine WO.one rfl rfl rfl (OpW.load1 tabOk rfl rfl rfl rfl H3 (by (repeat (first | exact .head _ | refine .tail _ ?_))) rfl ?_)))
      refine WO.one rfl rfl rfl (OpW.loadA tabOk rfl rfl rfl rfl H3 (by (repeat (first | exact .head _ | refine .tail _ ?_))) rfl rfl ?_)
      refine WO.one rfl rfl rfl (OpW.buildSlice tabOk rfl rfl rfl rfl zero44 rfl rfl (l := [.int .i64 d1, .int .i64 d2, .int .i64 d3]) rfl H3 ?_)
      intro b8 w8 H8
      have hsh := shows_blk (sz := 3) (m := 1) (e := 44) (l := [.int .i64 d1, .int .i64 d2, .int .i64 d3]) H8 (b := b8) (by simp) rfl (by intro u hu; simp at hu; rcases hu with rfl | rfl | rfl <;> rfl)
      have H9 := (H8.to (i := 2) rfl).flat_open
      refine WO.one rfl rfl rfl (OpW.append tabOk rfl rfl rfl zero44 rfl rfl rfl rfl H9 hsh (by omega) (by simp only [maxLen]; omega) ?_)
      intro v' w10 H10 _
      have e1 : (ownL u (l.take i)).flatMap encA ++ [.int .i64 d1, .int .i64 d2, .int .i64 d3] = (ownL u (l.take (i + 1))).flatMap encA := by rw [htk]; simp [encA]
      have e2 : (ownL u (l.take i)).length + 1 = (ownL u (l.take (i + 1))).length := by rw [htk]; simp
      rw [e1, e2] at H10
      have H11 : St (at0 w) w10 (row 44 actR v' (ownL u (l.take (i + 1))) :: _) [] := St.flat_close H10
      obtain ⟨ua, uc, rfl⟩ := rowForm H11 (v := v') (e := 44) (r := actR) (xs := ownL u (l.take (i + 1))) (by simp)
      (repeat (first | refine WO.run tabOk rfl rfl ?_ | refine WO.nil ?_ | refine WO.skip rfl rfl rfl ?_ | refine WO.pu tabOk rfl rfl rfl rfl ?_ | refine W.seq ?_ | refine W.region ?_ | refine W.block ?_ | refine W.skip ?_ | refine W.exit ?_))
      refine WO.pv rfl rfl rfl (PureV.addN (n := i) rfl rfl rfl (by omega)) ?_
      (repeat (first | refine WO.run tabOk rfl rfl ?_ | refine WO.nil ?_ | refine WO.skip rfl rfl rfl ?_ | refine WO.pu tabOk rfl rfl rfl rfl ?_ | refine W.seq ?_ | refine W.region ?_ | refine W.block ?_ | refine W.skip ?_ | refine W.exit ?_))
      exact ⟨(i + 1, _), rfl, ⟨by simp only; omega, H11.first⟩, by simp only; omega⟩
    · have hk : ¬ d1 = u := by simpa using hk
      have htk : ownL u (l.take (i + 1)) = ownL u (l.take i) := by rw [htk]; simp [ownL, hk]
      (repeat (first | refine WO.run tabOk rfl rfl ?_ | refine WO.nil ?_ | refine WO.skip rfl rfl rfl ?_ | refine WO.pu tabOk rfl rfl rfl rfl ?_ | refine W.seq ?_ | refine W.region ?_ | refine W.block ?_ | refine W.skip ?_ | refine W.exit ?_))
      refine WO.pv rfl rfl rfl (PureV.addN (n := i) rfl rfl rfl (by omega)) ?_
      (repeat (first | refine WO.run tabOk rfl rfl ?_ | refine WO.nil ?_ | refine WO.skip rfl rfl rfl ?_ | refine WO.pu tabOk rfl rfl rfl rfl ?_ | refine W.seq ?_ | refine W.region ?_ | refine W.block ?_ | refine W.skip ?_ | refine W.exit ?_))
      refine ⟨(i + 1, .slice va (ownL u (l.take i)).length vc), rfl, ⟨by simp only; omega, ?_⟩, by simp only; omega⟩
      simp only
      rw [htk]; exact H3.drop
  · have hil : i = l.length := by simp at hge; omega
    subst hil
    rw [List.take_length] at H ⊢
    (repeat (first | refine WO.run tabOk rfl rfl ?_ | refine WO.nil ?_ | refine WO.skip rfl rfl rfl ?_ | refine WO.pu tabOk rfl rfl rfl rfl ?_ | refine W.seq ?_ | refine W.region ?_ | refine W.block ?_ | refine W.skip ?_ | refine W.exit ?_))
    exact W.ret (ret1 Try.results17 rfl ⟨_, rfl, H⟩)

/-! ### Play -/
def twoS0 : TwoS := ⟨[], List.replicate 12 [], List.replicate 12 false, []⟩
def upTo (n : Nat) : List Int := (List.range n).map fun k : Nat => (k : Int)
def deadF (s : TwoS) (n : Nat) : List Int := (upTo n).filter fun u => s.dd u
def lateF (s : TwoS) (n : Nat) : List Int := (upTo n).filter fun u => decide (0 < (s.lt u).length)
theorem upTo_snoc (n : Nat) : upTo (n + 1) = upTo n ++ [(n : Int)] := by simp [upTo, List.range_succ]
theorem upTo_len (n : Nat) : (upTo n).length = n := by simp [upTo]
theorem deadF_yes {s : TwoS} {n : Nat} (h : s.dd (n : Int) = true) : deadF s (n + 1) = deadF s n ++ [(n : Int)] := by rw [deadF, upTo_snoc, List.filter_append]; simp [h, deadF]
theorem deadF_no {s : TwoS} {n : Nat} (h : s.dd (n : Int) = false) : deadF s (n + 1) = deadF s n := by rw [deadF, upTo_snoc, List.filter_append]; simp [h, deadF]
theorem lateF_yes {s : TwoS} {n : Nat} (h : 0 < (s.lt (n : Int)).length) : lateF s (n + 1) = lateF s n ++ [(n : Int)] := by rw [lateF, upTo_snoc, List.filter_append]; simp only [List.filter_cons, h, decide_true, if_true]; rfl
theorem lateF_no {s : TwoS} {n : Nat} (h : ¬ 0 < (s.lt (n : Int)).length) : lateF s (n + 1) = lateF s n := by rw [lateF, upTo_snoc, List.filter_append]; simp only [List.filter_cons, h, decide_false]; simp [lateF]
theorem deadF_len (s : TwoS) (n : Nat) : (deadF s n).length ≤ n := by have := List.length_filter_le (fun u => s.dd u) (upTo n); rw [upTo_len] at this; exact this
theorem lateF_len (s : TwoS) (n : Nat) : (lateF s n).length ≤ n := by have := List.length_filter_le (fun u => decide (0 < (s.lt u).length)) (upTo n); rw [upTo_len] at this; exact this
theorem inv0 {l : List Act} (h : ∀ o ∈ l, actOk o) (hl : l.length ≤ 200) : Inv twoS0 (l.map .take) := by
  have lt0 : ∀ u, twoS0.lt u = [] := fun u => by
    simp only [twoS0, TwoS.lt, List.getD_eq_getElem?_getD, List.getElem?_replicate]
    split <;> rfl
  refine ⟨valid_nil, rfl, rfl, by rw [takes_take]; exact h, by rw [wakes_take]; exact .nil, by rw [wakes_take]; exact (fun u h => nomatch h), fun u _ => ?_, fun u _ o ho => ?_, fun u _ _ => lt0 u, ?_⟩
  · rw [lt0, wakes_take]; exact ⟨fun h => absurd rfl h, (fun h => nomatch h)⟩
  · rw [lt0] at ho; cases ho
  · rw [takes_take]
    have e : twoS0.bud = 12 := rfl
    have e2 : twoS0.out.length = 0 := rfl
    omega

def PlayPost (w w' : World) (l : List Act) (v : Value) : Prop :=
  ∃ r d t e, v = .tuple #[.agg #[r, d, t], .int .i64 e] ∧ ((e ≠ 0 ∧ e = chkF l ∧ r = .slice none 0 0 ∧ d = .slice none 0 0 ∧ t = .slice none 0 0 ∧ Pure w w') ∨
    (e = 0 ∧ chkF l = 0 ∧ ∃ s, Steps (twoS0, l.map .take) (s, []) ∧ St (at0 w) w' [row 44 actR r s.out, row 3 i64 d (deadF s 12), row 3 i64 t (lateF s 12)] []))
theorem play_ok (w : World) (a : Option Addr) (c : Nat) (l : List Act) (hH : Holds w (rd actR a c l)) :
    Calls Try.prog 15 #[.slice a l.length c] w (Ret fun v w' => PlayPost w w' l v) := by
  refine calls_W (args := [_]) Try.func15 rfl Try.ntmps15 rfl ?_
  have H := St.start [] (w := w) (by simp)
  (repeat (first | refine W.seq ?_ | refine W.block ?_ | refine W.skip ?_ | refine W.exit ?_ | refine W.region ?_))
  refine WO.one rfl rfl rfl (OpW.alloc rfl zero55 rfl H ?_); intro b2 w1 H1
  (repeat (first | refine WO.run tabOk rfl rfl ?_ | refine WO.nil ?_ | refine WO.skip rfl rfl rfl ?_ | refine WO.pu tabOk rfl rfl rfl rfl ?_ | refine W.seq ?_ | refine W.region ?_ | refine W.block ?_ | refine W.skip ?_ | refine W.exit ?_))
  refine WO.one rfl rfl rfl (OpW.call rfl Try.call16 rfl (Calls.ret (rcheck_ok _ a c l (hH.pure H1.pure)) ?_))
  rintro _ w2 ⟨hp2, rfl⟩
  have H2 := H1.after hp2
  clear H H1
  (repeat (first | refine WO.run tabOk rfl rfl ?_ | refine WO.nil ?_ | refine WO.skip rfl rfl rfl ?_ | refine WO.pu tabOk rfl rfl rfl rfl ?_ | refine W.seq ?_ | refine W.region ?_ | refine W.block ?_ | refine W.skip ?_ | refine W.exit ?_))
  refine W.cond rfl (fun h => ?_) (fun h => ?_)
  · have h : chkF l ≠ 0 := by simpa using h
    (repeat (first | refine WO.run tabOk rfl rfl ?_ | refine WO.nil ?_ | refine WO.skip rfl rfl rfl ?_ | refine WO.pu tabOk rfl rfl rfl rfl ?_ | refine W.seq ?_ | refine W.region ?_ | refine W.block ?_ | refine W.skip ?_ | refine W.exit ?_))
    refine WO.pv rfl rfl rfl (PureV.build tabOk rfl rfl rfl zero55 (l := [.slice none 0 0, .slice none 0 0, .slice none 0 0]) rfl) ?_
    (repeat (first | refine WO.run tabOk rfl rfl ?_ | refine WO.nil ?_ | refine WO.skip rfl rfl rfl ?_ | refine WO.pu tabOk rfl rfl rfl rfl ?_ | refine W.seq ?_ | refine W.region ?_ | refine W.block ?_ | refine W.skip ?_ | refine W.exit ?_))
    refine WO.act rfl rfl (OpW.storeA (i := 0) tabOk rfl rfl rfl rfl H2 rfl rfl rfl rfl rfl ?_); intro w4 H4
    (repeat (first | refine WO.run tabOk rfl rfl ?_ | refine WO.nil ?_ | refine WO.skip rfl rfl rfl ?_ | refine WO.pu tabOk rfl rfl rfl rfl ?_ | refine W.seq ?_ | refine W.region ?_ | refine W.block ?_ | refine W.skip ?_ | refine W.exit ?_))
    exact W.ret (retCT2 tabOk Try.results15 rfl rfl rfl rfl (H4.holds (A := blk b2 55 [.slice none 0 0, .slice none 0 0, .slice none 0 0]) (by simp)) rfl ⟨_, rfl, _, _, _, _, rfl, .inl ⟨h, rfl, rfl, rfl, rfl, H4.pure⟩⟩)
  have hF : chkF l = 0 := by simpa using h
  have hlen : l.length ≤ 200 := by
    apply Classical.byContradiction
    intro hn
    rw [chkF, if_pos (by omega)] at hF; cases hF
  have hL : chkL [] l = 0 := by rw [chkF, if_neg (by omega)] at hF; exact hF
  have hI0 := inv0 (l := l) (fun o ho => ((chkL_ok hL).1 o ho).1) hlen
  (repeat (first | refine WO.run tabOk rfl rfl ?_ | refine WO.nil ?_ | refine WO.skip rfl rfl rfl ?_ | refine WO.pu tabOk rfl rfl rfl rfl ?_ | refine W.seq ?_ | refine W.region ?_ | refine W.block ?_ | refine W.skip ?_ | refine W.exit ?_))
  refine WO.one rfl rfl rfl (OpW.alloc rfl zero97 rfl H2 ?_); intro b5 w3 H3
  have H4 : St (at0 w) w3 (tabP b5 twoS0 (.slice none 0 0) (.slice none 0 0) (List.replicate 12 (.slice none 0 0)) [blk b2 55 [.slice none 0 0, .slice none 0 0, .slice none 0 0]]) [] :=
    (((H3.add_nil 142 itemO).nest_new (e := 44) (r := actR) 12).add_nil 44 actR).bring [3, 2, 1, 0, 4] rfl
  clear H3 H2
  (repeat (first | refine WO.run tabOk rfl rfl ?_ | refine WO.nil ?_ | refine WO.skip rfl rfl rfl ?_ | refine WO.pu tabOk rfl rfl rfl rfl ?_ | refine W.seq ?_ | refine W.region ?_ | refine W.block ?_ | refine W.skip ?_ | refine W.exit ?_))
  refine W.loopS [2, 5, 16, 17, 18] (fun z : Nat × TwoS × Value × Value × List Value => [(2, .pointer (some ⟨b2, 0, none⟩)), (5, .pointer (some ⟨b5, 0, none⟩)), (16, .slice a l.length c), (17, .int .i64 (l.length : Int)), (18, .int .i64 (z.1 : Int))])
    (fun z w' => z.1 ≤ l.length ∧ Steps (twoS0, l.map .take) (z.2.1, (l.drop z.1).map .take) ∧ St (at0 w) w' (tabP b5 z.2.1 z.2.2.1 z.2.2.2.1 z.2.2.2.2 [blk b2 55 [.slice none 0 0, .slice none 0 0, .slice none 0 0]]) []) (fun z => l.length - z.1) (0, twoS0, _, _, _) rfl ⟨Nat.zero_le _, .refl _, H4⟩ ?_
  clear H4
  rintro ⟨i, s, lv, ov, vs⟩ w4 ⟨hi, hst, H⟩
  simp only at hi hst H
  (repeat (first | refine WO.run tabOk rfl rfl ?_ | refine WO.nil ?_ | refine WO.skip rfl rfl rfl ?_ | refine WO.pu tabOk rfl rfl rfl rfl ?_ | refine W.seq ?_ | refine W.region ?_ | refine W.block ?_ | refine W.skip ?_ | refine W.exit ?_))
  refine W.cond rfl (fun hlt => ?_) (fun hge => ?_)
  · have hlt : i < l.length := by simpa using hlt
    obtain ⟨b, o, rfl⟩ := hH.addr (by omega)
    have hx := List.getElem?_eq_getElem hlt
    have hdr := List.drop_eq_getElem_cons hlt
    generalize l[i] = x at hx hdr
    rw [hdr, List.map_cons] at hst
    obtain ⟨hI1, _⟩ := hst.inv hI0
    obtain ⟨x1, x2, x3⟩ := x
    (repeat (first | refine WO.run tabOk rfl rfl ?_ | refine WO.nil ?_ | refine WO.skip rfl rfl rfl ?_ | refine WO.pu tabOk rfl rfl rfl rfl ?_ | refine W.seq ?_ | refine W.region ?_ | refine W.block ?_ | refine W.skip ?_ | refine W.exit ?_))
    refine WO.pv rfl rfl rfl (PureV.idxN tabOk rfl rfl rfl rfl rfl rfl (by omega)) ?_
    refine WO.one rfl rfl rfl (OpW.elemA (i := i) tabOk rfl rfl rfl rfl (hH.pure H.pure) hx rfl rfl ?_)
    refine WO.one rfl rfl rfl (OpW.alloc rfl zero44 rfl H ?_); intro b7 w5 H5
    refine WO.act rfl rfl (OpW.storeA (i := 0) tabOk rfl rfl rfl rfl H5 rfl rfl rfl rfl rfl ?_); intro w6 H6
    (repeat (first | refine WO.run tabOk rfl rfl ?_ | refine WO.nil ?_ | refine WO.skip rfl rfl rfl ?_ | refine WO.pu tabOk rfl rfl rfl rfl ?_ | refine W.seq ?_ | refine W.region ?_ | refine W.block ?_ | refine W.skip ?_ | refine W.exit ?_))
    refine WO.one rfl rfl rfl (OpW.loadA tabOk rfl rfl rfl rfl H6 (by (repeat (first | exact .head _ | refine .tail _ ?_))) rfl rfl ?_)
    have H7 : St (at0 w) w6 (tabP b5 s lv ov vs [blk b7 44 [.int .i64 x1, .int .i64 x2, .int .i64 x3], blk b2 55 [.slice none 0 0, .slice none 0 0, .slice none 0 0]]) [] := H6.bring [1, 2, 3, 4, 0] rfl
    refine WO.one rfl rfl rfl (OpW.call rfl Try.call34 rfl (Calls.ret (take_ok (at0 w) w6 _ [] b5 s (x1, x2, x3) _ lv ov vs hI1 H7) ?_))
    rintro _ w8 ⟨rfl, s3, lv2, ov2, vs2, hst2, H8⟩
    (repeat (first | refine WO.run tabOk rfl rfl ?_ | refine WO.nil ?_ | refine WO.skip rfl rfl rfl ?_ | refine WO.pu tabOk rfl rfl rfl rfl ?_ | refine W.seq ?_ | refine W.region ?_ | refine W.block ?_ | refine W.skip ?_ | refine W.exit ?_))
    refine WO.pv rfl rfl rfl (PureV.addN (n := i) rfl rfl rfl (by omega)) ?_
    (repeat (first | refine WO.run tabOk rfl rfl ?_ | refine WO.nil ?_ | refine WO.skip rfl rfl rfl ?_ | refine WO.pu tabOk rfl rfl rfl rfl ?_ | refine W.seq ?_ | refine W.region ?_ | refine W.block ?_ | refine W.skip ?_ | refine W.exit ?_))
    exact ⟨(i + 1, s3, lv2, ov2, vs2), rfl, ⟨by simp only; omega, hst.trans hst2, (H8.to (i := 4) rfl).drop⟩, by simp only; omega⟩
  have hil : i = l.length := by simp at hge; omega
  subst hil
  rw [List.drop_length, List.map_nil] at hst
  obtain ⟨hI, _⟩ := hst.inv hI0
  have hvl : vs.length = 12 := by rw [(H.to (i := 2) rfl).hang_cells]; exact hI.lateL
  have hdl := hI.deadL
  obtain ⟨oa, oc, rfl⟩ := rowForm H (v := ov) (e := 44) (r := actR) (xs := s.out) (by simp)
  (repeat (first | refine WO.run tabOk rfl rfl ?_ | refine WO.nil ?_ | refine WO.skip rfl rfl rfl ?_ | refine WO.pu tabOk rfl rfl rfl rfl ?_ | refine W.seq ?_ | refine W.region ?_ | refine W.block ?_ | refine W.skip ?_ | refine W.exit ?_))
  refine WO.one rfl rfl rfl (OpW.loadB tabOk rfl rfl rfl rfl H (.head _) (cellsT_o hvl hdl) ?_)
  refine WO.pv rfl rfl rfl (PureV.build tabOk rfl rfl rfl zero55 (l := [.slice oa s.out.length oc, .slice none 0 0, .slice none 0 0]) rfl) ?_
  refine WO.one rfl rfl rfl (OpW.alloc rfl zero55 rfl H ?_); intro b8 w5 H5
  refine WO.act rfl rfl (OpW.storeA (i := 0) tabOk rfl rfl rfl rfl H5 rfl rfl rfl rfl rfl ?_); intro w6 H6
  have H7 := ((H6.add_nil 3 i64).add_nil 3 i64).bring [2, 0, 1, 3, 4, 5, 6, 7] rfl
  clear H H5 H6
  (repeat (first | refine WO.run tabOk rfl rfl ?_ | refine WO.nil ?_ | refine WO.skip rfl rfl rfl ?_ | refine WO.pu tabOk rfl rfl rfl rfl ?_ | refine W.seq ?_ | refine W.region ?_ | refine W.block ?_ | refine W.skip ?_ | refine W.exit ?_))
  refine W.loopS [2, 5, 8, 28] (fun z : Nat × Value × Value => [(2, .pointer (some ⟨b2, 0, none⟩)), (5, .pointer (some ⟨b5, 0, none⟩)), (8, .pointer (some ⟨b8, 0, none⟩)), (28, .int .i64 (z.1 : Int))])
    (fun z w' => z.1 ≤ 12 ∧ St (at0 w) w' (blk b8 55 [.slice oa s.out.length oc, z.2.1, z.2.2] :: row 3 i64 z.2.1 (deadF s z.1) :: row 3 i64 z.2.2 (lateF s z.1) :: tabP b5 s lv (.slice oa s.out.length oc) vs [blk b2 55 [.slice none 0 0, .slice none 0 0, .slice none 0 0]]) []) (fun z => 12 - z.1) (0, .slice none 0 0, .slice none 0 0) rfl ⟨Nat.zero_le _, H7⟩ ?_
  clear H7
  rintro ⟨u, dv, tv⟩ w7 ⟨hu, H⟩
  simp only at hu H
  obtain ⟨da, dc, rfl⟩ := rowForm H (v := dv) (e := 3) (r := i64) (xs := deadF s u) (by simp)
  obtain ⟨ta, tc, rfl⟩ := rowForm H (v := tv) (e := 3) (r := i64) (xs := lateF s u) (by simp)
  (repeat (first | refine WO.run tabOk rfl rfl ?_ | refine WO.nil ?_ | refine WO.skip rfl rfl rfl ?_ | refine WO.pu tabOk rfl rfl rfl rfl ?_ | refine W.seq ?_ | refine W.region ?_ | refine W.block ?_ | refine W.skip ?_ | refine W.exit ?_))
  refine W.cond rfl (fun hlt => ?_) (fun hge => ?_)
  · have hlt : u < 12 := by simp at hlt; omega
    have hur : 0 ≤ (u : Int) ∧ (u : Int) < 12 := by omega
    have hdg := s.dd_get hdl hur
    have hlg := s.lt_get hI.lateL hur
    have hun : ((u : Int)).toNat < 12 := by omega
    have hvg := List.getElem?_eq_getElem (l := vs) (i := ((u : Int)).toNat) (by omega)
    generalize vs[((u : Int)).toNat]'_ = v at hvg
    obtain ⟨xa, xc, rfl⟩ := rowForm ((H.to (i := 5) rfl).nest_out hlg hvg) (v := v) (e := 44) (r := actR) (xs := s.lt (u : Int)) (by simp)
    (repeat (first | refine WO.run tabOk rfl rfl ?_ | refine WO.nil ?_ | refine WO.skip rfl rfl rfl ?_ | refine WO.pu tabOk rfl rfl rfl rfl ?_ | refine W.seq ?_ | refine W.region ?_ | refine W.block ?_ | refine W.skip ?_ | refine W.exit ?_))
    refine WO.pv rfl rfl rfl (PureV.idxAN tabOk rfl rfl rfl rfl rfl rfl hur.1 hur.2) ?_
    refine WO.one rfl rfl rfl (OpW.loadB tabOk rfl rfl rfl rfl H (.tail _ (.tail _ (.tail _ (.head _)))) (cellsT_d hvl hdl hun hdg) ?_)
    (repeat (first | refine WO.run tabOk rfl rfl ?_ | refine WO.nil ?_ | refine WO.skip rfl rfl rfl ?_ | refine WO.pu tabOk rfl rfl rfl rfl ?_ | refine W.seq ?_ | refine W.region ?_ | refine W.block ?_ | refine W.skip ?_ | refine W.exit ?_))
    refine W.mono (Q := fun e r w' => e = .normal ∧ ∃ da dc, Env.keep r [2, 5, 8, 9, 28] = [(2, .pointer (some ⟨b2, 0, none⟩)), (5, .pointer (some ⟨b5, 0, none⟩)), (8, .pointer (some ⟨b8, 0, none⟩)), (9, .int .i64 (u : Int)), (28, .int .i64 (u : Int))] ∧
      St (at0 w) w' (blk b8 55 [.slice oa s.out.length oc, .slice da (deadF s (u + 1)).length dc, .slice ta (lateF s u).length tc] :: row 3 i64 (.slice da (deadF s (u + 1)).length dc) (deadF s (u + 1)) :: row 3 i64 (.slice ta (lateF s u).length tc) (lateF s u) :: tabP b5 s lv (.slice oa s.out.length oc) vs [blk b2 55 [.slice none 0 0, .slice none 0 0, .slice none 0 0]]) []) ?_ ?_
    · refine W.cond rfl (fun hd => ?_) (fun hd => ?_)
      · (repeat (first | refine WO.run tabOk rfl rfl ?_ | refine WO.nil ?_ | refine WO.skip rfl rfl rfl ?_ | refine WO.pu tabOk rfl rfl rfl rfl ?_ | refine W.seq ?_ | refine W.region ?_ | refine W.block ?_ | refine W.skip ?_ | refine W.exit ?_ | refine WO.one rfl rfl rfl (OpW.load1 tabOk rfl rfl rfl rfl H (by (repeat (first | exact .head _ | refine .tail _ ?_))) rfl ?_)))
        refine WO.one rfl rfl rfl (OpW.buildSlice tabOk rfl rfl rfl rfl zero3 rfl rfl (l := [.int .i64 (u : Int)]) rfl H ?_)
        intro b9 w9 H9
        have hsh := shows_blk (sz := 1) (m := 1) (e := 3) (l := [.int .i64 (u : Int)]) H9 (b := b9) (by simp) rfl (by intro u hu; simp at hu; subst hu; rfl)
        have H10 := (H9.to (i := 2) rfl).flat_open
        have hlf := deadF_len s u
        refine WO.one rfl rfl rfl (OpW.append tabOk rfl rfl rfl zero3 rfl rfl rfl rfl H10 hsh (by omega) (by simp only [maxLen]; omega) ?_)
        intro v' w11 H11 _
        have e1 : (deadF s u).flatMap encZ ++ [.int .i64 (u : Int)] = (deadF s (u + 1)).flatMap encZ := by rw [deadF_yes hd]; simp [encZ]
        have e2 : (deadF s u).length + 1 = (deadF s (u + 1)).length := by rw [deadF_yes hd]; simp
        rw [show (deadF s u).flatMap (fun x => [Value.int .i64 x]) = (deadF s u).flatMap encZ from rfl, e1, e2] at H11
        have H12 : St (at0 w) w11 (row 3 i64 v' (deadF s (u + 1)) :: _) [] := St.flat_close H11
        obtain ⟨ua, uc, rfl⟩ := rowForm H12 (v := v') (e := 3) (r := i64) (xs := deadF s (u + 1)) (by simp)
        (repeat (first | refine WO.run tabOk rfl rfl ?_ | refine WO.nil ?_ | refine WO.skip rfl rfl rfl ?_ | refine WO.pu tabOk rfl rfl rfl rfl ?_ | refine W.seq ?_ | refine W.region ?_ | refine W.block ?_ | refine W.skip ?_ | refine W.exit ?_))

        refine WO.act rfl rfl (OpW.storeB (i := 2) tabOk rfl rfl rfl rfl H12 rfl (v := .slice ua (deadF s (u + 1)).length uc) (by intro u hu; simp [cellsL] at hu; subst hu; rfl) rfl (by simp [cellsL]) ?_)
        intro w13 H13
        (repeat (first | refine WO.run tabOk rfl rfl ?_ | refine WO.nil ?_ | refine WO.skip rfl rfl rfl ?_ | refine WO.pu tabOk rfl rfl rfl rfl ?_ | refine W.seq ?_ | refine W.region ?_ | refine W.block ?_ | refine W.skip ?_ | refine W.exit ?_))
        exact ⟨rfl, ua, uc, rfl, (H13.to (i := 2) rfl).drop⟩
      · (repeat (first | refine WO.run tabOk rfl rfl ?_ | refine WO.nil ?_ | refine WO.skip rfl rfl rfl ?_ | refine WO.pu tabOk rfl rfl rfl rfl ?_ | refine W.seq ?_ | refine W.region ?_ | refine W.block ?_ | refine W.skip ?_ | refine W.exit ?_))
        refine ⟨rfl, da, dc, rfl, ?_⟩
        rw [deadF_no hd]; exact H
    clear H
    rintro _ r w8 ⟨rfl, da, dc, hr, H⟩
    show W _ _ _ _ _ _
    refine W.keep [2, 5, 8, 9, 28] ?_
    rw [hr]
    clear hr r
    (repeat (first | refine WO.run tabOk rfl rfl ?_ | refine WO.nil ?_ | refine WO.skip rfl rfl rfl ?_ | refine WO.pu tabOk rfl rfl rfl rfl ?_ | refine W.seq ?_ | refine W.region ?_ | refine W.block ?_ | refine W.skip ?_ | refine W.exit ?_))
    refine WO.pv rfl rfl rfl (PureV.idxAN tabOk rfl rfl rfl rfl rfl rfl hur.1 hur.2) ?_
    refine WO.one rfl rfl rfl (OpW.loadB tabOk rfl rfl rfl rfl H (.tail _ (.tail _ (.tail _ (.head _)))) (cellsT_l hvl hun hvg) ?_)
    (repeat (first | refine WO.run tabOk rfl rfl ?_ | refine WO.nil ?_ | refine WO.skip rfl rfl rfl ?_ | refine WO.pu tabOk rfl rfl rfl rfl ?_ | refine W.seq ?_ | refine W.region ?_ | refine W.block ?_ | refine W.skip ?_ | refine W.exit ?_))
    refine W.cond rfl (fun hl => ?_) (fun hl => ?_)
    · have hl : 0 < (s.lt (u : Int)).length := by simpa using hl
      (repeat (first | refine WO.run tabOk rfl rfl ?_ | refine WO.nil ?_ | refine WO.skip rfl rfl rfl ?_ | refine WO.pu tabOk rfl rfl rfl rfl ?_ | refine W.seq ?_ | refine W.region ?_ | refine W.block ?_ | refine W.skip ?_ | refine W.exit ?_ | refine WO.one rfl rfl rfl (OpW.load1 tabOk rfl rfl rfl rfl H (by (repeat (first | exact .head _ | refine .tail _ ?_))) rfl ?_)))
      refine WO.one rfl rfl rfl (OpW.buildSlice tabOk rfl rfl rfl rfl zero3 rfl rfl (l := [.int .i64 (u : Int)]) rfl H ?_)
      intro b9 w9 H9
      have hsh := shows_blk (sz := 1) (m := 1) (e := 3) (l := [.int .i64 (u : Int)]) H9 (b := b9) (by simp) rfl (by intro u hu; simp at hu; subst hu; rfl)
      have H10 := (H9.to (i := 3) rfl).flat_open
      have hlf := lateF_len s u
      refine WO.one rfl rfl rfl (OpW.append tabOk rfl rfl rfl zero3 rfl rfl rfl rfl H10 hsh (by omega) (by simp only [maxLen]; omega) ?_)
      intro v' w11 H11 _
      have e1 : (lateF s u).flatMap encZ ++ [.int .i64 (u : Int)] = (lateF s (u + 1)).flatMap encZ := by rw [lateF_yes hl]; simp [encZ]
      have e2 : (lateF s u).length + 1 = (lateF s (u + 1)).length := by rw [lateF_yes hl]; simp
      rw [show (lateF s u).flatMap (fun x => [Value.int .i64 x]) = (lateF s u).flatMap encZ from rfl, e1, e2] at H11
      have H12 : St (at0 w) w11 (row 3 i64 v' (lateF s (u + 1)) :: _) [] := St.flat_close H11
      obtain ⟨ua, uc, rfl⟩ := rowForm H12 (v := v') (e := 3) (r := i64) (xs := lateF s (u + 1)) (by simp)
      (repeat (first | refine WO.run tabOk rfl rfl ?_ | refine WO.nil ?_ | refine WO.skip rfl rfl rfl ?_ | refine WO.pu tabOk rfl rfl rfl rfl ?_ | refine W.seq ?_ | refine W.region ?_ | refine W.block ?_ | refine W.skip ?_ | refine W.exit ?_))

      refine WO.act rfl rfl (OpW.storeB (i := 2) tabOk rfl rfl rfl rfl H12 rfl (v := .slice ua (lateF s (u + 1)).length uc) (by intro u hu; simp [cellsL] at hu; subst hu; rfl) rfl (by simp [cellsL]) ?_)
      intro w13 H13
      (repeat (first | refine WO.run tabOk rfl rfl ?_ | refine WO.nil ?_ | refine WO.skip rfl rfl rfl ?_ | refine WO.pu tabOk rfl rfl rfl rfl ?_ | refine W.seq ?_ | refine W.region ?_ | refine W.block ?_ | refine W.skip ?_ | refine W.exit ?_))
      refine WO.pv rfl rfl rfl (PureV.addN (n := u) rfl rfl rfl (by omega)) ?_
      (repeat (first | refine WO.run tabOk rfl rfl ?_ | refine WO.nil ?_ | refine WO.skip rfl rfl rfl ?_ | refine WO.pu tabOk rfl rfl rfl rfl ?_ | refine W.seq ?_ | refine W.region ?_ | refine W.block ?_ | refine W.skip ?_ | refine W.exit ?_))
      exact ⟨(u + 1, .slice da (deadF s (u + 1)).length dc, .slice ua (lateF s (u + 1)).length uc), rfl, ⟨by simp only; omega, (H13.bring [2, 0, 3, 1] rfl).drop⟩, by simp only; omega⟩
    · have hl : ¬ 0 < (s.lt (u : Int)).length := by simpa using hl
      (repeat (first | refine WO.run tabOk rfl rfl ?_ | refine WO.nil ?_ | refine WO.skip rfl rfl rfl ?_ | refine WO.pu tabOk rfl rfl rfl rfl ?_ | refine W.seq ?_ | refine W.region ?_ | refine W.block ?_ | refine W.skip ?_ | refine W.exit ?_))
      refine WO.pv rfl rfl rfl (PureV.addN (n := u) rfl rfl rfl (by omega)) ?_
      (repeat (first | refine WO.run tabOk rfl rfl ?_ | refine WO.nil ?_ | refine WO.skip rfl rfl rfl ?_ | refine WO.pu tabOk rfl rfl rfl rfl ?_ | refine W.seq ?_ | refine W.region ?_ | refine W.block ?_ | refine W.skip ?_ | refine W.exit ?_))
      refine ⟨(u + 1, .slice da (deadF s (u + 1)).length dc, .slice ta (lateF s u).length tc), rfl, ⟨by simp only; omega, ?_⟩, by simp only; omega⟩
      simp only
      rw [lateF_no hl]; exact H
  · have h12 : u = 12 := by simp at hge; omega
    subst h12
    (repeat (first | refine WO.run tabOk rfl rfl ?_ | refine WO.nil ?_ | refine WO.skip rfl rfl rfl ?_ | refine WO.pu tabOk rfl rfl rfl rfl ?_ | refine W.seq ?_ | refine W.region ?_ | refine W.block ?_ | refine W.skip ?_ | refine W.exit ?_))
    refine WO.one rfl rfl rfl (OpW.loadA tabOk rfl rfl rfl rfl H (by (repeat (first | exact .head _ | refine .tail _ ?_))) rfl rfl ?_)
    have H8 := H.bring [7, 0, 1, 2, 3, 4, 5, 6] rfl
    refine WO.act rfl rfl (OpW.storeA (i := 0) tabOk rfl rfl rfl rfl H8 rfl rfl rfl rfl rfl ?_); intro w9 H9
    (repeat (first | refine WO.run tabOk rfl rfl ?_ | refine WO.nil ?_ | refine WO.skip rfl rfl rfl ?_ | refine WO.pu tabOk rfl rfl rfl rfl ?_ | refine W.seq ?_ | refine W.region ?_ | refine W.block ?_ | refine W.skip ?_ | refine W.exit ?_))
    refine W.ret (retCT2 tabOk Try.results15 rfl rfl rfl rfl (H9.holds (A := blk b2 55 [.slice oa s.out.length oc, .slice da (deadF s 12).length dc, .slice ta (lateF s 12).length tc]) (by simp)) rfl ⟨_, rfl, _, _, _, _, rfl, .inr ⟨rfl, hF, s, hst, ?_⟩⟩)
    exact ((H9.bring [0, 1, 4, 5, 6, 7, 2, 3] rfl).drop.drop.drop.drop.drop).bring [0, 1, 2] rfl
end Go.Proofs.Ytpenbdpgpamcbaa
