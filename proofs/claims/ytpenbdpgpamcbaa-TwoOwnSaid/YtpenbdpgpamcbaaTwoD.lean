/- two: how the table lies in memory; mode, drop. Conditions: each fact's own premises. -/
import Derived.Test.YtpenbdpgpamcbaaTwoA
import Derived.Test.YtpenbdpgpamcbaaGwNest
set_option linter.unusedVariables false
set_option linter.unusedSimpArgs false
set_option maxRecDepth 20000
namespace Go.Proofs.Ytpenbdpgpamcbaa
open Go Gw
attribute [local irreducible] W WO WD

def encA (o : Act) : List Value := [.int .i64 o.1, .int .i64 o.2.1, .int .i64 o.2.2]
def actR : Rdr Act := Rdr.flat 3 encA (fun _ => rfl) (fun x v hv => by simp [encA] at hv; rcases hv with rfl | rfl | rfl <;> rfl)
abbrev actsR : Rdr (List Act) := Rdr.own 44 actR
theorem table_rd {c : Ctx} {w : World} {Own Ro : List Asn} {tv : Value} {t : List Item} (H : St c w Own Ro) (hm : row 142 itemO tv t ∈ Own ++ Ro) : ∃ a cap, tv = .slice a t.length cap ∧ Holds w (rd itemS a cap t) := by
  obtain ⟨a, cap, e, h⟩ := row_rd (H.holds hm)
  exact ⟨a, cap, e, h.weaken itemO_le⟩

def cellsT (lv : Value) (vs : List Value) (ds : List Bool) (ov : Value) : List Value := lv :: (vs ++ (ds.map .bool ++ [ov]))
section
variable {lv ov v : Value} {vs : List Value} {ds : List Bool}
theorem cellsT_len (h1 : vs.length = 12) (h2 : ds.length = 12) : (cellsT lv vs ds ov).length = 26 := by simp [cellsT, h1, h2]
theorem cellsT_0 : (cellsT lv vs ds ov)[0]? = some lv := rfl
theorem cellsT_l (h1 : vs.length = 12) {k : Nat} (hk : k < 12) (hv : vs[k]? = some v) : (cellsT lv vs ds ov)[1 + k * 1]? = some v := by
  rw [Nat.mul_one, Nat.add_comm 1 k, cellsT, List.getElem?_cons_succ, List.getElem?_append_left (by omega)]; exact hv
theorem cellsT_d (h1 : vs.length = 12) (h2 : ds.length = 12) {k : Nat} {b : Bool} (hk : k < 12) (hb : ds[k]? = some b) : (cellsT lv vs ds ov)[13 + k * 1]? = some (.bool b) := by
  rw [Nat.mul_one, show 13 + k = 12 + k + 1 by omega, cellsT, List.getElem?_cons_succ, List.getElem?_append_right (by omega), h1, show 12 + k - 12 = k by omega, List.getElem?_append_left (by simp [h2]; omega), List.getElem?_map, hb]; rfl
theorem cellsT_o (h1 : vs.length = 12) (h2 : ds.length = 12) : (cellsT lv vs ds ov)[25]? = some ov := by
  rw [show 25 = 24 + 1 by omega, cellsT, List.getElem?_cons_succ, List.getElem?_append_right (by omega), h1, List.getElem?_append_right (by simp [h2])]; simp [h2]
theorem cellsT_0s : (cellsT lv vs ds ov).set 0 v = cellsT v vs ds ov := rfl
theorem cellsT_ls (h1 : vs.length = 12) {k : Nat} (hk : k < 12) : (cellsT lv vs ds ov).set (1 + k * 1) v = cellsT lv (vs.set k v) ds ov := by
  rw [Nat.mul_one, Nat.add_comm 1 k, cellsT, List.set_cons_succ, List.set_append_left _ _ (by omega)]; rfl
theorem cellsT_ds (h1 : vs.length = 12) (h2 : ds.length = 12) {k : Nat} {b : Bool} (hk : k < 12) : (cellsT lv vs ds ov).set (13 + k * 1) (.bool b) = cellsT lv vs (ds.set k b) ov := by
  rw [Nat.mul_one, show 13 + k = 12 + k + 1 by omega, cellsT, List.set_cons_succ, List.set_append_right _ _ (by omega), h1, show 12 + k - 12 = k by omega, List.set_append_left _ _ (by simp [h2]; omega), ← List.map_set]; rfl
theorem cellsT_os (h1 : vs.length = 12) (h2 : ds.length = 12) : (cellsT lv vs ds ov).set 25 v = cellsT lv vs ds v := by
  rw [show 25 = 24 + 1 by omega, cellsT, List.set_cons_succ, List.set_append_right _ _ (by omega), h1, List.set_append_right _ _ (by simp [h2])]; simp [h2, cellsT]
end
/-- The table in memory, its parts. -/
abbrev tabP (bt : Nat) (s : TwoS) (lv ov : Value) (vs : List Value) (Own : List Asn) : List Asn :=
  blk bt 97 (cellsT lv vs s.dead ov) :: row 142 itemO lv s.locks :: hang actsR s.late vs :: row 44 actR ov s.out :: Own

def TakeOk (n : Nat) : Prop := ∀ (c : Ctx) (w : World) (Own Ro : List Asn) (bt : Nat) (s : TwoS) (o : Act) (K : List Task) (lv ov : Value) (vs : List Value), Inv s (.take o :: K) → s.bud + 1 ≤ n → St c w (tabP bt s lv ov vs Own) Ro →
  Calls Try.prog 34 #[.pointer (some ⟨bt, 0, none⟩), .agg (encA o).toArray] w (Ret fun v w' => v = .tuple #[] ∧ ∃ s' lv' ov' vs', Steps (s, .take o :: K) (s', K) ∧ St c w' (tabP bt s' lv' ov' vs' Own) Ro)
def WakeOk (n : Nat) : Prop := ∀ (c : Ctx) (w : World) (Own Ro : List Asn) (bt : Nat) (s : TwoS) (u : Int) (K : List Task) (lv ov : Value) (vs : List Value), Inv s (.wake u :: K) → s.bud ≤ n → St c w (tabP bt s lv ov vs Own) Ro →
  Calls Try.prog 73 #[.pointer (some ⟨bt, 0, none⟩), .int .i64 u] w (Ret fun v w' => v = .tuple #[] ∧ ∃ s' lv' ov' vs', Steps (s, .wake u :: K) (s', K) ∧ St c w' (tabP bt s' lv' ov' vs' Own) Ro)
def DropsOk (n : Nat) : Prop := ∀ (c : Ctx) (w : World) (Own Ro : List Asn) (bt : Nat) (s : TwoS) (u : Int) (K : List Task) (lv ov : Value) (vs : List Value), DropOk s.locks u → Inv (s.lock (dropF u s.locks).1) (givenT u s.locks ++ K) → s.bud ≤ n → St c w (tabP bt s lv ov vs Own) Ro →
  Calls Try.prog 51 #[.pointer (some ⟨bt, 0, none⟩), .int .i64 u] w (Ret fun v w' => v = .tuple #[] ∧ ∃ s' lv' ov' vs', Steps (s.lock (dropF u s.locks).1, givenT u s.locks ++ K) (s', K) ∧ St c w' (tabP bt s' lv' ov' vs' Own) Ro)
def FreeOk (n : Nat) : Prop := ∀ (c : Ctx) (w : World) (Own Ro : List Asn) (bt : Nat) (s : TwoS) (K : List Task) (lv ov : Value) (vs : List Value), Inv s (.free :: K) → s.bud ≤ n → St c w (tabP bt s lv ov vs Own) Ro →
  Calls Try.prog 54 #[.pointer (some ⟨bt, 0, none⟩)] w (Ret fun v w' => v = .tuple #[] ∧ ∃ s' lv' ov' vs', Steps (s, .free :: K) (s', K) ∧ St c w' (tabP bt s' lv' ov' vs' Own) Ro)

theorem mode_ok (w : World) (o : Act) : Calls Try.prog 53 #[.agg (encA o).toArray] w (Ret fun v w' => Pure w w' ∧ v = .int .i64 (modeF o)) := by
  refine calls_W (args := [_]) Try.func53 rfl Try.ntmps53 rfl ?_
  have H0 := St.start [] (w := w) (by simp)
  (repeat (first | refine W.seq ?_ | refine W.block ?_ | refine W.skip ?_ | refine W.exit ?_ | refine W.region ?_))
  refine WO.one rfl rfl rfl (OpW.box rfl rfl rfl H0 ?_); intro b1 w1 H1
  (repeat (first | refine WO.run tabOk rfl rfl ?_ | refine WO.nil ?_ | refine WO.skip rfl rfl rfl ?_ | refine WO.pu tabOk rfl rfl rfl rfl ?_ | refine W.seq ?_ | refine W.region ?_ | refine W.block ?_ | refine W.skip ?_ | refine W.exit ?_ | refine WO.one rfl rfl rfl (OpW.load1 tabOk rfl rfl rfl rfl H1 (by (repeat (first | exact .head _ | refine .tail _ ?_))) rfl ?_)))
  refine W.cond rfl (fun h => ?_) (fun h => ?_)
  · (repeat (first | refine WO.run tabOk rfl rfl ?_ | refine WO.nil ?_ | refine WO.skip rfl rfl rfl ?_ | refine WO.pu tabOk rfl rfl rfl rfl ?_ | refine W.seq ?_ | refine W.region ?_ | refine W.block ?_ | refine W.skip ?_ | refine W.exit ?_))
    exact W.ret (ret1 Try.results53 rfl ⟨_, rfl, H1.pure, by rw [modeF, if_pos (by simpa using h)]⟩)
  · (repeat (first | refine WO.run tabOk rfl rfl ?_ | refine WO.nil ?_ | refine WO.skip rfl rfl rfl ?_ | refine WO.pu tabOk rfl rfl rfl rfl ?_ | refine W.seq ?_ | refine W.region ?_ | refine W.block ?_ | refine W.skip ?_ | refine W.exit ?_))
    exact W.ret (ret1 Try.results53 rfl ⟨_, rfl, H1.pure, by rw [modeF, if_neg (by simpa using h)]⟩)

theorem drops_of {n : Nat} (hw : WakeOk n) : DropsOk n := by
  intro c w Own Ro bt s u K lv ov vs hd hI hbud H
  refine calls_W (args := [_, _]) Try.func51 rfl Try.ntmps51 rfl ?_
  obtain ⟨la, lc, rfl, hL⟩ := table_rd H (tv := lv) (t := s.locks) (by simp)
  (repeat (first | refine WO.run tabOk rfl rfl ?_ | refine WO.nil ?_ | refine WO.skip rfl rfl rfl ?_ | refine WO.pu tabOk rfl rfl rfl rfl ?_ | refine W.seq ?_ | refine W.region ?_ | refine W.block ?_ | refine W.skip ?_ | refine W.exit ?_ | refine WO.one rfl rfl rfl (OpW.load1 tabOk rfl rfl rfl rfl H (by (repeat (first | exact .head _ | refine .tail _ ?_))) rfl ?_)))
  refine WO.one rfl rfl rfl (OpW.call rfl Try.call72 rfl (Calls.ret (drop_ok w la lc s.locks u hL) ?_))
  rintro _ w2 ⟨tv, gv, e, rfl, ⟨_, hno, _⟩ | ⟨rfl, _, Kd⟩⟩
  · exact absurd hd hno
  have H2 := H.take Kd
  obtain ⟨ga, gc, rfl, hg⟩ := row_rd (H2.holds (A := row 3 i64 gv (dropF u s.locks).2) (by simp))
  obtain ⟨ta, tc, rfl, _⟩ := table_rd H2 (tv := tv) (t := (dropF u s.locks).1) (by simp)
  clear Kd H hL
  (repeat (first | refine WO.run tabOk rfl rfl ?_ | refine WO.nil ?_ | refine WO.skip rfl rfl rfl ?_ | refine WO.pu tabOk rfl rfl rfl rfl ?_ | refine W.seq ?_ | refine W.region ?_ | refine W.block ?_ | refine W.skip ?_ | refine W.exit ?_))
  refine WO.act rfl rfl (OpW.storeB (i := 2) tabOk rfl rfl rfl rfl H2 rfl (v := .slice ta (dropF u s.locks).1.length tc) (by intro u hu; simp [cellsL] at hu; subst hu; rfl) rfl (by simp [cellsT, cellsL]) ?_)
  intro w3 H3
  have e3 : spliceL (cellsT (.slice la s.locks.length lc) vs s.dead ov) 0 (cellsL (.slice ta (dropF u s.locks).1.length tc)) = cellsT (.slice ta (dropF u s.locks).1.length tc) vs s.dead ov := (spliceOne (by simp [cellsT])).trans cellsT_0s
  rw [e3] at H3
  have H4 : St c w3 (tabP bt (s.lock (dropF u s.locks).1) (.slice ta (dropF u s.locks).1.length tc) ov vs (row 3 i64 (.slice ga (dropF u s.locks).2.length gc) (dropF u s.locks).2 :: Own)) Ro := (H3.bring [3, 0, 1, 4, 5, 2] rfl).drop
  clear H2 H3 e3
  generalize hgv : (dropF u s.locks).2 = gs at *
  have hgt : givenT u s.locks = gs.map .wake := by rw [givenT, hgv]
  rw [hgt] at hI ⊢
  have hbud : (s.lock (dropF u s.locks).1).bud ≤ n := hbud
  generalize s.lock (dropF u s.locks).1 = s0 at *
  (repeat (first | refine WO.run tabOk rfl rfl ?_ | refine WO.nil ?_ | refine WO.skip rfl rfl rfl ?_ | refine WO.pu tabOk rfl rfl rfl rfl ?_ | refine W.seq ?_ | refine W.region ?_ | refine W.block ?_ | refine W.skip ?_ | refine W.exit ?_))
  refine W.loopS [0, 23, 24, 25] (fun z : Nat × TwoS × Value × Value × List Value => [(0, .pointer (some ⟨bt, 0, none⟩)), (23, .slice ga gs.length gc), (24, .int .i64 (gs.length : Int)), (25, .int .i64 (z.1 : Int))])
    (fun z w' => z.1 ≤ gs.length ∧ Steps (s0, gs.map .wake ++ K) (z.2.1, (gs.drop z.1).map .wake ++ K) ∧ St c w' (tabP bt z.2.1 z.2.2.1 z.2.2.2.1 z.2.2.2.2 (row 3 i64 (.slice ga gs.length gc) gs :: Own)) Ro) (fun z => gs.length - z.1) (0, s0, _, ov, vs) rfl ⟨Nat.zero_le _, .refl _, H4⟩ ?_
  clear H4
  rintro ⟨i, s1, lv1, ov1, vs1⟩ w4 ⟨hi, hst, H⟩
  simp only at hi hst H
  (repeat (first | refine WO.run tabOk rfl rfl ?_ | refine WO.nil ?_ | refine WO.skip rfl rfl rfl ?_ | refine WO.pu tabOk rfl rfl rfl rfl ?_ | refine W.seq ?_ | refine W.region ?_ | refine W.block ?_ | refine W.skip ?_ | refine W.exit ?_))
  refine W.cond rfl (fun hlt => ?_) (fun hge => ?_)
  · have hlt : i < gs.length := by simpa using hlt
    obtain ⟨_, _, e, hg⟩ := row_rd (H.holds (A := row 3 i64 (.slice ga gs.length gc) gs) (by simp))
    simp only [Value.slice.injEq, true_and] at e
    obtain ⟨rfl, rfl⟩ := e
    obtain ⟨b, o, rfl⟩ := hg.addr (by omega)
    have hgle := hg.le
    simp only [maxLen] at hgle
    have hx := List.getElem?_eq_getElem hlt
    have hdr := List.drop_eq_getElem_cons hlt
    generalize gs[i] = x at hx hdr
    rw [hdr, List.map_cons, List.cons_append] at hst
    obtain ⟨hI1, hb1⟩ := hst.inv hI
    have ht : ∀ l : List Int, takes (l.map .wake ++ K) = takes K := fun l => by rw [takes_append, takes_wake]; rfl
    have hb1 : s1.bud ≤ n := by
      simp only [ht] at hb1
      have : takes (.wake x :: ((gs.drop (i + 1)).map .wake ++ K)) = takes K := ht _
      rw [this] at hb1; omega
    (repeat (first | refine WO.run tabOk rfl rfl ?_ | refine WO.nil ?_ | refine WO.skip rfl rfl rfl ?_ | refine WO.pu tabOk rfl rfl rfl rfl ?_ | refine W.seq ?_ | refine W.region ?_ | refine W.block ?_ | refine W.skip ?_ | refine W.exit ?_))
    refine WO.pv rfl rfl rfl (PureV.idxN tabOk rfl rfl rfl rfl rfl rfl (by omega)) ?_
    refine WO.one rfl rfl rfl (OpW.elem1 (i := i) (j := 0) tabOk rfl rfl rfl rfl hg hx rfl rfl ?_)
    (repeat (first | refine WO.run tabOk rfl rfl ?_ | refine WO.nil ?_ | refine WO.skip rfl rfl rfl ?_ | refine WO.pu tabOk rfl rfl rfl rfl ?_ | refine W.seq ?_ | refine W.region ?_ | refine W.block ?_ | refine W.skip ?_ | refine W.exit ?_))
    refine WO.one rfl rfl rfl (OpW.call rfl Try.call73 rfl (Calls.ret (hw c w4 _ Ro bt s1 x _ lv1 ov1 vs1 hI1 hb1 H) ?_))
    rintro _ w5 ⟨rfl, s2, lv2, ov2, vs2, hst2, H5⟩
    (repeat (first | refine WO.run tabOk rfl rfl ?_ | refine WO.nil ?_ | refine WO.skip rfl rfl rfl ?_ | refine WO.pu tabOk rfl rfl rfl rfl ?_ | refine W.seq ?_ | refine W.region ?_ | refine W.block ?_ | refine W.skip ?_ | refine W.exit ?_))
    refine WO.pv rfl rfl rfl (PureV.addN (n := i) rfl rfl rfl (by omega)) ?_
    (repeat (first | refine WO.run tabOk rfl rfl ?_ | refine WO.nil ?_ | refine WO.skip rfl rfl rfl ?_ | refine WO.pu tabOk rfl rfl rfl rfl ?_ | refine W.seq ?_ | refine W.region ?_ | refine W.block ?_ | refine W.skip ?_ | refine W.exit ?_))
    exact ⟨(i + 1, s2, lv2, ov2, vs2), rfl, ⟨by simp only; omega, hst.trans hst2, H5⟩, by simp only; omega⟩
  · have hil : i = gs.length := by simp at hge; omega
    subst hil
    rw [List.drop_length] at hst
    (repeat (first | refine WO.run tabOk rfl rfl ?_ | refine WO.nil ?_ | refine WO.skip rfl rfl rfl ?_ | refine WO.pu tabOk rfl rfl rfl rfl ?_ | refine W.seq ?_ | refine W.region ?_ | refine W.block ?_ | refine W.skip ?_ | refine W.exit ?_))
    exact ret0n Try.results51 ⟨_, rfl, rfl, s1, lv1, ov1, vs1, hst, (H.to (i := 4) rfl).drop⟩
end Go.Proofs.Ytpenbdpgpamcbaa
