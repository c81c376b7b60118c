/- lock: one item of a table that is owned; Ask. -/
import Derived.Test.YtpenbdpgpamcbaaLockG
set_option linter.unusedVariables false
set_option linter.unusedSimpArgs false
set_option maxRecDepth 20000
namespace Go.Proofs.Ytpenbdpgpamcbaa
open Go Gw
attribute [local irreducible] W WO WD

/-! ### One item of a table that is owned -/
structure Opened (g o cap k : Nat) (t : List Item) (x : Item) (cur cs : List Value) (v1 v2 : Value) : Prop where
  at_ : t[k]? = some x
  win : (cur.drop o).take (t.length * 3) = cs
  cells : cs = cs.take (k * 3) ++ ([.int .i64 x.1, v1, v2] ++ cs.drop (k * 3 + 3))
  len : cs.length = t.length * 3
  le : t.length ≤ cap
  max : cap ≤ maxLen
  fit : o + cap * 3 ≤ cur.length
  one : ∀ u ∈ cs, u.oneCell' = true
theorem Opened.here {g o cap k : Nat} {t : List Item} {x : Item} {cur cs : List Value} {v1 v2 : Value} (h : Opened g o cap k t x cur cs v1 v2) : (cur.drop (o + k * 3)).take 3 = [.int .i64 x.1, v1, v2] := by
  have hk := (List.getElem?_eq_some_iff.1 h.at_).1
  have h1 : (cs.drop (k * 3)).take 3 = [.int .i64 x.1, v1, v2] := by
    have hl : (cs.take (k * 3)).length = k * 3 := by rw [List.length_take, h.len]; omega
    have e : (cs.drop (k * 3)).take 3 = ((cs.take (k * 3) ++ ([.int .i64 x.1, v1, v2] ++ cs.drop (k * 3 + 3))).drop (k * 3)).take 3 := congrArg (fun l : List Value => (l.drop (k * 3)).take 3) h.cells
    rw [e]
    conv => lhs; arg 2; arg 1; rw [← hl]
    rw [List.drop_left]; rfl
  rw [← h1, ← h.win, List.drop_take, List.drop_drop, List.take_take, Nat.min_eq_left (by omega)]
theorem open_item {c : Ctx} {w : World} {Own Ro : List Asn} {tv : Value} {t : List Item} {k : Nat} {x : Item} (H : St c w (row 142 itemO tv t :: Own) Ro) (hx : t[k]? = some x) :
    ∃ g o cap cur cs v1 v2, tv = .slice (some ⟨g, o, none⟩) t.length cap ∧ Opened g o cap k t x cur cs v1 v2 ∧
      St c w (blk g 142 cur :: row 145 lockR v1 x.2.1 :: row 145 lockR v2 x.2.2 :: hang itemO (t.take k) (cs.take (k * 3)) :: hang itemO (t.drop (k + 1)) (cs.drop (k * 3 + 3)) :: Own) Ro := by
  have hk := (List.getElem?_eq_some_iff.1 hx).1
  obtain ⟨cs, H1⟩ := H.open_row
  obtain ⟨hcl, hc1, _⟩ := H1.raw_len
  have et : t = t.take k ++ (x :: t.drop (k + 1)) := by
    obtain ⟨_, rfl⟩ := List.getElem?_eq_some_iff.1 hx
    rw [← List.drop_eq_getElem_cons, List.take_append_drop]
  have hkl : (t.take k).length = k := by rw [List.length_take]; omega
  have H2 := H1.to (i := 1) rfl
  have e3 : hang itemO t cs = hang itemO (t.take k ++ (x :: t.drop (k + 1))) cs := by rw [← et]
  rw [e3] at H2
  have H3 := H2.hang_cut
  rw [hkl] at H3
  obtain ⟨v1, v2, hv, H4⟩ := ((H3.to (i := 1) rfl).hang_out).item_out
  rcases (H4.to (i := 4) rfl).open_raw with ⟨_, h, _⟩ | ⟨g, o, cap, cur, rfl, H5, hcur, hnc, hcm, hfit⟩
  · omega
  change List.take 3 (List.drop (k * 3) cs) = _ at hv
  change St c w (blk g 142 cur :: row 145 lockR v1 x.2.1 :: row 145 lockR v2 x.2.2 :: hang itemO (t.drop (k + 1)) ((cs.drop (k * 3)).drop 3) :: hang itemO (t.take k) (cs.take (k * 3)) :: Own) Ro at H5
  rw [List.drop_drop] at H5
  refine ⟨g, o, cap, cur, cs, v1, v2, rfl, ⟨hx, hcur, ?_, hcl, hnc, hcm, hfit, hc1⟩, ?_⟩
  · rw [← hv, ← List.drop_drop, List.take_append_drop, List.take_append_drop]
  · exact (H5.perm (.cons _ (.cons _ (.cons _ (.swap _ _ _)))))
theorem close_item {c : Ctx} {w : World} {Own Ro : List Asn} {g o cap k : Nat} {t : List Item} {x : Item} {cur cur' cs : List Value} {v1 v2 u1 u2 : Value} {h q : List (Int × Int)} (hO : Opened g o cap k t x cur cs v1 v2)
    (H : St c w (blk g 142 cur' :: row 145 lockR u1 h :: row 145 lockR u2 q :: hang itemO (t.take k) (cs.take (k * 3)) :: hang itemO (t.drop (k + 1)) (cs.drop (k * 3 + 3)) :: Own) Ro)
    (hl : cur'.length = cur.length) (hw : (cur'.drop o).take (t.length * 3) = cs.take (k * 3) ++ ([.int .i64 x.1, u1, u2] ++ cs.drop (k * 3 + 3))) :
    St c w (row 142 itemO (.slice (some ⟨g, o, none⟩) t.length cap) (t.set k (x.1, h, q)) :: Own) Ro := by
  have hk := (List.getElem?_eq_some_iff.1 hO.at_).1
  obtain ⟨a1, c1, e1⟩ := row_form H (v := u1) (e := 145) (r := lockR) (xs := h) (by simp)
  obtain ⟨a2, c2, e2⟩ := row_form H (v := u2) (e := 145) (r := lockR) (xs := q) (by simp)
  have H1 := H.close_raw (sz := 3) (n := t.length) (o := o) (cap := cap) hO.le hO.max (by rw [hl]; exact hO.fit) hw (fun u hu => by
    simp only [List.mem_append, List.mem_cons, List.not_mem_nil, or_false] at hu
    rcases hu with hu | (rfl | rfl | rfl) | hu
    · exact hO.one u (List.mem_of_mem_take hu)
    · rfl
    · rw [e1]; rfl
    · rw [e2]; rfl
    · exact hO.one u (List.mem_of_mem_drop hu))
  have H2 := (H1.bring [1, 2, 4, 3, 0] rfl).item_in (i := x.1)
  have H3 := (H2.hang_in.bring [1, 0, 2] rfl).hang_join
  have et : t.set k (x.1, h, q) = t.take k ++ ((x.1, h, q) :: t.drop (k + 1)) := by rw [List.set_eq_take_append_cons_drop, if_pos hk]
  rw [← et] at H3
  have H4 := H3.bring [1, 0] rfl
  rw [show t.length = (t.set k (x.1, h, q)).length by simp] at H4 ⊢
  exact St.close_row (r := itemO) H4

theorem splice_app (P L xs : List Value) (j : Nat) : spliceL (P ++ L) (P.length + j) xs = P ++ spliceL L j xs := by
  unfold spliceL
  rw [take_app, show P.length + j + xs.length = P.length + (j + xs.length) by omega, drop_app]
  simp
theorem splice3b {P R : List Value} {a b d u : Value} {m : Nat} (hm : P.length = m) : spliceL (P ++ ([a, b, d] ++ R)) (m + 1) [u] = P ++ ([a, u, d] ++ R) := by
  subst hm
  rw [splice_app]
  simp [spliceL]
theorem splice3d {P R : List Value} {a b d u : Value} {m : Nat} (hm : P.length = m) : spliceL (P ++ ([a, b, d] ++ R)) (m + 2) [u] = P ++ ([a, b, u] ++ R) := by
  subst hm
  rw [splice_app]
  simp [spliceL]
theorem Opened.win1 {g o cap k : Nat} {t : List Item} {x : Item} {cur cs : List Value} {v1 v2 : Value} (h : Opened g o cap k t x cur cs v1 v2) (u : Value) :
    ((spliceL cur (o + k * 3 + 1) [u]).drop o).take (t.length * 3) = cs.take (k * 3) ++ ([.int .i64 x.1, u, v2] ++ cs.drop (k * 3 + 3)) ∧ (spliceL cur (o + k * 3 + 1) [u]).length = cur.length := by
  have hk := (List.getElem?_eq_some_iff.1 h.at_).1
  have hf := h.fit
  have hle := h.le
  refine ⟨?_, spliceL_len _ _ _ (by simp; omega)⟩
  rw [Nat.add_assoc, window_splice h.win (by omega) (by simp; omega)]
  have e : spliceL cs (k * 3 + 1) [u] = spliceL (cs.take (k * 3) ++ ([.int .i64 x.1, v1, v2] ++ cs.drop (k * 3 + 3))) (k * 3 + 1) [u] := congrArg (fun l => spliceL l (k * 3 + 1) [u]) h.cells
  rw [e, splice3b (by rw [List.length_take, h.len]; omega)]
theorem Opened.win2 {g o cap k : Nat} {t : List Item} {x : Item} {cur cs : List Value} {v1 v2 : Value} (h : Opened g o cap k t x cur cs v1 v2) (u : Value) :
    ((spliceL cur (o + k * 3 + 2) [u]).drop o).take (t.length * 3) = cs.take (k * 3) ++ ([.int .i64 x.1, v1, u] ++ cs.drop (k * 3 + 3)) ∧ (spliceL cur (o + k * 3 + 2) [u]).length = cur.length := by
  have hk := (List.getElem?_eq_some_iff.1 h.at_).1
  have hf := h.fit
  have hle := h.le
  refine ⟨?_, spliceL_len _ _ _ (by simp; omega)⟩
  rw [Nat.add_assoc, window_splice h.win (by omega) (by simp; omega)]
  have e : spliceL cs (k * 3 + 2) [u] = spliceL (cs.take (k * 3) ++ ([.int .i64 x.1, v1, v2] ++ cs.drop (k * 3 + 3))) (k * 3 + 2) [u] := congrArg (fun l => spliceL l (k * 3 + 2) [u]) h.cells
  rw [e, splice3d (by rw [List.length_take, h.len]; omega)]

/-! ### Ask -/
def hasF (hs : List (Int × Int)) (tx : Int) : Bool := hs.any fun h => decide (h.1 = tx)
def aheadF (x : Item) : Nat := (x.2.2.takeWhile fun q => hasF x.2.1 q.1).length
/-- What asking does to an item that is held. -/
def askItem (x : Item) (tx mode : Int) : Item × Bool :=
  if canF x.2.1 tx mode && (hasF x.2.1 tx || decide (x.2.2.length = 0)) then ((x.1, giveF x.2.1 tx mode, x.2.2), true)
  else if hasF x.2.1 tx then ((x.1, x.2.1, x.2.2.take (aheadF x) ++ [(tx, mode)] ++ x.2.2.drop (aheadF x)), false)
  else ((x.1, x.2.1, x.2.2 ++ [(tx, mode)]), false)
def askStep (tx item mode : Int) : List Item → List Item × Bool
  | [] => ([(item, [(tx, mode)], [])], true)
  | x :: l => if x.1 < item then (x :: (askStep tx item mode l).1, (askStep tx item mode l).2) else if x.1 = item then ((askItem x tx mode).1 :: l, (askItem x tx mode).2) else ((item, [(tx, mode)], []) :: x :: l, true)
structure AskOk (t : List Item) (tx item mode : Int) : Prop where
  valid : Valid t
  txOk : 0 ≤ tx ∧ tx < 12
  itemOk : 0 ≤ item ∧ item < 20
  modeOk : isModeF mode = true
  free : ∀ x ∈ t, ∀ q ∈ x.2.2, q.1 ≠ tx

theorem place_new {t : List Item} {tx item mode : Int} {k : Nat} (h : Place t item k false) : askStep tx item mode t = (t.take k ++ [(item, [(tx, mode)], [])] ++ t.drop k, true) := by
  induction t generalizing k with
  | nil => simp [askStep]
  | cons x l ih =>
    cases k with
    | zero =>
      have h1 := h.high 0 x (by omega) rfl
      have h2 : ¬ x.1 = item := fun e => by have := h.found.2 ⟨x, rfl, e⟩; cases this
      rw [askStep, if_neg (by omega), if_neg h2]; rfl
    | succ k =>
      have h1 := h.low 0 x (by omega) rfl
      rw [askStep, if_pos h1, ih ⟨by have := h.le; simp at this; exact this, fun j y hj hy => h.low (j + 1) y (by omega) (by simpa using hy), fun j y hj hy => h.high (j + 1) y (by omega) (by simpa using hy), by rw [h.found]; simp⟩]
      rfl
theorem place_hit {t : List Item} {tx item mode : Int} {k : Nat} {x : Item} (h : Place t item k true) (hx : t[k]? = some x) : askStep tx item mode t = (t.set k (askItem x tx mode).1, (askItem x tx mode).2) ∧ x.1 = item := by
  induction t generalizing k with
  | nil => simp at hx
  | cons y l ih =>
    cases k with
    | zero =>
      simp at hx
      subst hx
      obtain ⟨z, hz, he⟩ := h.found.1 rfl
      simp at hz
      subst hz
      exact ⟨by rw [askStep, if_neg (by omega), if_pos he]; rfl, he⟩
    | succ k =>
      simp at hx
      have h1 := h.low 0 y (by omega) rfl
      obtain ⟨e1, e2⟩ := ih ⟨by have := h.le; simp at this; exact this, fun j y hj hy => h.low (j + 1) y (by omega) (by simpa using hy), fun j y hj hy => h.high (j + 1) y (by omega) (by simpa using hy), by rw [h.found]; simp⟩ hx
      exact ⟨by rw [askStep, if_pos h1, e1]; rfl, e2⟩

theorem sameTx_ok (fid : Nat) (hfid : fid = 77 ∨ fid = 82) (w : World) (h : Int × Int) (tx : Int) (b5 : Nat) (h5 : Holds w (blk b5 3 [.int .i64 tx])) :
    Calls Try.prog fid (#[] ++ [Value.agg (encLock h).toArray].toArray ++ #[.pointer (some ⟨b5, 0, none⟩)]) w (Ret fun v w' => Pure w w' ∧ v = .bool (decide (h.1 = tx))) := by
  rcases hfid with rfl | rfl
  · show Calls Try.prog 77 #[.agg #[.int .i64 h.1, .int .i64 h.2], .pointer (some ⟨b5, 0, none⟩)] w _
    refine calls_W (args := [_, _]) Try.func77 rfl Try.ntmps77 rfl ?_
    have H := St.start [blk b5 3 [.int .i64 tx]] (w := w) (by simpa using h5)
    (repeat (first | refine W.seq ?_ | refine W.block ?_ | refine W.skip ?_ | refine W.exit ?_ | refine W.region ?_))
    refine WO.one rfl rfl rfl (OpW.box rfl rfl rfl H ?_); intro b w1 H1
    (repeat (first | refine WO.run tabOk rfl rfl ?_ | refine WO.nil ?_ | refine WO.skip rfl rfl rfl ?_ | refine WO.pu tabOk rfl rfl rfl rfl ?_ | refine W.seq ?_ | refine W.region ?_ | refine W.block ?_ | refine W.skip ?_ | refine W.exit ?_ | refine WO.one rfl rfl rfl (OpW.load1 tabOk rfl rfl rfl rfl H1 (by (repeat (first | exact .head _ | refine .tail _ ?_))) rfl ?_)))
    exact W.ret (ret1 Try.results77 rfl ⟨_, rfl, H1.pure, rfl⟩)
  · show Calls Try.prog 82 #[.agg #[.int .i64 h.1, .int .i64 h.2], .pointer (some ⟨b5, 0, none⟩)] w _
    refine calls_W (args := [_, _]) Try.func82 rfl Try.ntmps82 rfl ?_
    have H := St.start [blk b5 3 [.int .i64 tx]] (w := w) (by simpa using h5)
    (repeat (first | refine W.seq ?_ | refine W.block ?_ | refine W.skip ?_ | refine W.exit ?_ | refine W.region ?_))
    refine WO.one rfl rfl rfl (OpW.box rfl rfl rfl H ?_); intro b w1 H1
    (repeat (first | refine WO.run tabOk rfl rfl ?_ | refine WO.nil ?_ | refine WO.skip rfl rfl rfl ?_ | refine WO.pu tabOk rfl rfl rfl rfl ?_ | refine W.seq ?_ | refine W.region ?_ | refine W.block ?_ | refine W.skip ?_ | refine W.exit ?_ | refine WO.one rfl rfl rfl (OpW.load1 tabOk rfl rfl rfl rfl H1 (by (repeat (first | exact .head _ | refine .tail _ ?_))) rfl ?_)))
    exact W.ret (ret1 Try.results82 rfl ⟨_, rfl, H1.pure, rfl⟩)
end Go.Proofs.Ytpenbdpgpamcbaa
