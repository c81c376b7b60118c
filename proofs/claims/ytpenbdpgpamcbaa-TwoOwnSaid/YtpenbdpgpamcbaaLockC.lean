/- lock: line. -/
import Derived.Test.YtpenbdpgpamcbaaLockB
set_option linter.unusedVariables false
set_option linter.unusedSimpArgs false
set_option maxRecDepth 20000
namespace Go.Proofs.Ytpenbdpgpamcbaa
open Go Gw
attribute [local irreducible] W WO WD

def okSide (l : List (Int × Int)) : Bool := l.all (fun h => decide (0 ≤ h.1 ∧ h.1 < 12) && isModeF h.2) && decide (l.map (·.1)).Nodup
def pairsF (l : List (Int × Int)) : Bool := decide (l.Pairwise fun a b => clashF a.2 b.2 = false)
theorem okSide_mode {l : List (Int × Int)} (h : okSide l = true) : ∀ x ∈ l, isModeF x.2 = true := by
  intro x hx
  simp only [okSide, Bool.and_eq_true, List.all_eq_true] at h
  exact (h.1 x hx).2
def frontF (hs qs : List (Int × Int)) : Bool := match qs with | [] => true | q :: _ => !canF hs q.1 q.2
def lineF (hs qs : List (Int × Int)) : Bool := okSide hs && pairsF hs && okSide qs && frontF hs qs

theorem take_snoc {α : Type} {l : List α} {i : Nat} {x : α} (hx : l[i]? = some x) : l.take (i + 1) = l.take i ++ [x] := by
  rw [List.take_add_one, hx]; rfl
theorem okSide_append {a b : List (Int × Int)} (h : okSide (a ++ b) = true) : okSide a = true := by
  simp only [okSide, List.all_append, Bool.and_eq_true, List.map_append, decide_eq_true_eq, List.nodup_append] at h ⊢
  exact ⟨h.1.1, h.2.1⟩
theorem okSide_bad {l : List (Int × Int)} {i : Nat} {x : Int × Int} (hx : l[i]? = some x) (h : okSide (l.take i ++ [x]) = false) : okSide l = false := by
  rw [← Bool.not_eq_true] at h ⊢
  intro hl
  apply h
  rw [← take_snoc hx]
  rw [← List.take_append_drop (i + 1) l] at hl
  exact okSide_append hl
theorem okSide_snoc_tx {l : List (Int × Int)} {x : Int × Int} (h : ¬ (0 ≤ x.1 ∧ x.1 < 12)) : okSide (l ++ [x]) = false := by
  simp only [okSide, List.all_append, List.all_cons, h, decide_false, Bool.false_and, Bool.and_false]
theorem okSide_snoc_mode {l : List (Int × Int)} {x : Int × Int} (h : isModeF x.2 = false) : okSide (l ++ [x]) = false := by
  simp only [okSide, List.all_append, List.all_cons, h, Bool.false_and, Bool.and_false]
theorem okSide_snoc_dup {l : List (Int × Int)} {x : Int × Int} (h : x.1 ∈ l.map (·.1)) : okSide (l ++ [x]) = false := by
  rw [← Bool.not_eq_true]
  simp only [okSide, Bool.and_eq_true, List.map_append, decide_eq_true_eq, List.nodup_append]
  intro ⟨_, _, _, hd⟩
  exact hd _ h x.1 (by simp) rfl
theorem okSide_snoc {l : List (Int × Int)} {x : Int × Int} (hl : okSide l = true) (h : 0 ≤ x.1 ∧ x.1 < 12) (hm : isModeF x.2 = true) (hn : x.1 ∉ l.map (·.1)) : okSide (l ++ [x]) = true := by
  simp only [okSide, Bool.and_eq_true, List.map_append, decide_eq_true_eq, List.nodup_append, List.all_append, List.all_cons, List.all_nil, h, hm] at hl ⊢
  refine ⟨⟨hl.1, by simp⟩, hl.2, by simp, fun a ha b hb => ?_⟩
  simp at hb
  subst hb
  exact fun e => hn (e ▸ ha)

/-- An array of twelve, written at each transaction's place. -/
def arrOf (xs : List (Int × Int)) : List Int := xs.foldl (fun l h => l.set h.1.toNat h.2) (List.replicate 12 0)
def arr (xs : List (Int × Int)) : List Value := (arrOf xs).map (.int .i64)
theorem arrOf_len (xs : List (Int × Int)) : (arrOf xs).length = 12 := by
  unfold arrOf
  have : ∀ (xs : List (Int × Int)) (l : List Int), (xs.foldl (fun l h => l.set h.1.toNat h.2) l).length = l.length := by
    intro xs
    induction xs with
    | nil => intro l; rfl
    | cons x xs ih => intro l; rw [List.foldl_cons, ih]; simp
  rw [this]; simp
theorem arr_len (xs : List (Int × Int)) : (arr xs).length = 12 := by simp [arr, arrOf_len]
theorem arrOf_snoc (xs : List (Int × Int)) (x : Int × Int) : arrOf (xs ++ [x]) = (arrOf xs).set x.1.toNat x.2 := by simp [arrOf]
theorem splice_one {l : List Value} {i : Nat} {v : Value} (h : i < l.length) : spliceL l i [v] = l.set i v := by
  simp only [spliceL, List.length_singleton]
  rw [List.set_eq_take_append_cons_drop]
  simp [h]
theorem arr_snoc (xs : List (Int × Int)) (x : Int × Int) (h : x.1.toNat < 12) : spliceL (arr xs) x.1.toNat (cellsL (.int .i64 x.2)) = arr (xs ++ [x]) := by
  show spliceL _ _ [_] = _
  rw [splice_one (by rw [arr_len]; exact h), arr, arr, arrOf_snoc, List.map_set]
theorem snoc_ind {α : Type} {p : List α → Prop} (h0 : p []) (hs : ∀ l x, p l → p (l ++ [x])) : ∀ l, p l := by
  intro l
  have : ∀ n (l : List α), l.length = n → p l := by
    intro n
    induction n with
    | zero => intro l hl; rw [List.eq_nil_of_length_eq_zero hl]; exact h0
    | succ n ih =>
      intro l hl
      have hne : l ≠ [] := by intro e; subst e; simp at hl
      rw [← List.dropLast_concat_getLast hne]
      exact hs _ _ (ih _ (by simp [hl]))
  exact this _ l rfl
theorem arr_get {xs : List (Int × Int)} {t : Int} (hok : okSide xs = true) (h0 : 0 ≤ t) (h1 : t < 12) : ∃ v, (arr xs)[t.toNat]? = some (.int .i64 v) ∧ (0 < v ↔ t ∈ xs.map (·.1)) := by
  have key : ∃ v, (arrOf xs)[t.toNat]? = some v ∧ (0 < v ↔ t ∈ xs.map (·.1)) := by
    revert hok
    refine snoc_ind (p := fun xs => okSide xs = true → ∃ v, (arrOf xs)[t.toNat]? = some v ∧ (0 < v ↔ t ∈ xs.map (·.1))) ?_ ?_ xs
    · intro _
      refine ⟨0, ?_, by simp⟩
      show (List.replicate 12 (0 : Int))[t.toNat]? = some 0
      rw [List.getElem?_replicate, if_pos (by omega)]
    · intro l x ih hok
      obtain ⟨v, hv, hi⟩ := ih (okSide_append hok)
      rw [arrOf_snoc, List.getElem?_set, arrOf_len]
      have hx : (0 ≤ x.1 ∧ x.1 < 12) ∧ isModeF x.2 = true := by
        simp only [okSide, List.all_append, List.all_cons, List.all_nil, Bool.and_eq_true, decide_eq_true_eq] at hok
        exact hok.1.2.1
      by_cases e : x.1 = t
      · subst e
        rw [if_pos rfl, if_pos (by omega)]
        refine ⟨x.2, rfl, ?_⟩
        have : isModeF x.2 = true := hx.2
        simp [isModeF] at this
        simp; omega
      · rw [if_neg (by omega)]
        refine ⟨v, hv, ?_⟩
        rw [hi]
        simp [Ne.symm e]
  obtain ⟨v, hv, hi⟩ := key
  exact ⟨v, by rw [arr, List.getElem?_map, hv]; rfl, hi⟩

theorem line_ok (w : World) (item : Int) (ha qa : Option Addr) (hc qc : Nat) (hs qs : List (Int × Int)) (hH : Holds w (rd lockR ha hc hs)) (hQ : Holds w (rd lockR qa qc qs)) :
    Calls Try.prog 106 #[.agg #[.int .i64 item, .slice ha hs.length hc, .slice qa qs.length qc]] w (Ret fun v w' => Pure w w' ∧ v = .int .i64 (if lineF hs qs then 0 else 4)) := by
  refine calls_W (args := [_]) Try.func106 rfl Try.ntmps106 rfl ?_
  have H0 := St.start [rd lockR ha hc hs, rd lockR qa qc qs] (w := w) (by simpa using ⟨hH, hQ⟩)
  (repeat (first | refine W.seq ?_ | refine W.block ?_ | refine W.skip ?_ | refine W.exit ?_ | refine W.region ?_))
  refine WO.one rfl rfl rfl (OpW.box rfl rfl rfl H0 ?_); intro b1 w1 H1
  (repeat (first | refine WO.run tabOk rfl rfl ?_ | refine WO.nil ?_ | refine WO.skip rfl rfl rfl ?_ | refine WO.pu tabOk rfl rfl rfl rfl ?_ | refine W.seq ?_ | refine W.region ?_ | refine W.block ?_ | refine W.skip ?_ | refine W.exit ?_))
  refine WO.one rfl rfl rfl (OpW.alloc rfl zero197 rfl H1 ?_); intro b3 w2 H2
  refine WO.one rfl rfl rfl (OpW.alloc rfl zero197 rfl H2 ?_); intro b4 w3 H3
  replace H3 : St (at0 w) w3 [blk b4 197 (arr []), blk b3 197 (arr []), blk b1 142 [.int .i64 item, .slice ha hs.length hc, .slice qa qs.length qc]] [rd lockR ha hc hs, rd lockR qa qc qs] := H3
  (repeat (first | refine WO.run tabOk rfl rfl ?_ | refine WO.nil ?_ | refine WO.skip rfl rfl rfl ?_ | refine WO.pu tabOk rfl rfl rfl rfl ?_ | refine W.seq ?_ | refine W.region ?_ | refine W.block ?_ | refine W.skip ?_ | refine W.exit ?_ | refine WO.one rfl rfl rfl (OpW.load1 tabOk rfl rfl rfl rfl H3 (by (repeat (first | exact .head _ | refine .tail _ ?_))) rfl ?_)))
  refine W.loopS [1, 2, 3, 4, 14, 15, 16] (fun i : Nat => [(1, .pointer (some ⟨b1, 0, none⟩)), (2, .int .i64 0), (3, .pointer (some ⟨b3, 0, none⟩)), (4, .pointer (some ⟨b4, 0, none⟩)), (14, .slice ha hs.length hc), (15, .int .i64 hs.length), (16, .int .i64 i)])
    (fun i w' => i ≤ hs.length ∧ okSide (hs.take i) = true ∧ St (at0 w) w' [blk b4 197 (arr []), blk b3 197 (arr (hs.take i)), blk b1 142 [.int .i64 item, .slice ha hs.length hc, .slice qa qs.length qc]] [rd lockR ha hc hs, rd lockR qa qc qs]) (fun i => hs.length - i) 0 rfl ⟨Nat.zero_le _, rfl, H3⟩ ?_
  clear H3
  rintro i w3 ⟨hi, hok, H⟩
  (repeat (first | refine WO.run tabOk rfl rfl ?_ | refine WO.nil ?_ | refine WO.skip rfl rfl rfl ?_ | refine WO.pu tabOk rfl rfl rfl rfl ?_ | refine W.seq ?_ | refine W.region ?_ | refine W.block ?_ | refine W.skip ?_ | refine W.exit ?_))
  refine W.cond rfl (fun hlt => ?_) (fun hge => ?_)
  · have hlt : i < hs.length := by simpa using hlt
    have hHi := H.holds (A := rd lockR ha hc hs) (by simp)
    obtain ⟨bb, oo, rfl⟩ := hHi.addr (by omega)
    (repeat (first | refine WO.run tabOk rfl rfl ?_ | refine WO.nil ?_ | refine WO.skip rfl rfl rfl ?_ | refine WO.pu tabOk rfl rfl rfl rfl ?_ | refine W.seq ?_ | refine W.region ?_ | refine W.block ?_ | refine W.skip ?_ | refine W.exit ?_))
    refine WO.pv rfl rfl rfl (PureV.idxN tabOk rfl rfl rfl rfl rfl rfl (by omega)) ?_
    have hx := List.getElem?_eq_getElem hlt
    refine WO.one rfl rfl rfl (OpW.elemA (i := i) tabOk rfl rfl rfl rfl hHi hx rfl rfl ?_)
    generalize hs[i] = x at hx
    refine WO.one rfl rfl rfl (OpW.alloc rfl zero145 rfl H ?_); intro b6 w4 H4
    refine WO.act rfl rfl (OpW.storeA (i := 0) tabOk rfl rfl rfl rfl H4 rfl rfl rfl rfl rfl ?_); intro w5 H5
    (repeat (first | refine WO.run tabOk rfl rfl ?_ | refine WO.nil ?_ | refine WO.skip rfl rfl rfl ?_ | refine WO.pu tabOk rfl rfl rfl rfl ?_ | refine W.seq ?_ | refine W.region ?_ | refine W.block ?_ | refine W.skip ?_ | refine W.exit ?_ | refine WO.one rfl rfl rfl (OpW.load1 tabOk rfl rfl rfl rfl H5 (by (repeat (first | exact .head _ | refine .tail _ ?_))) rfl ?_)))
    have hbad : ∀ (hb : okSide (hs.take i ++ [x]) = false), okSide hs = false := fun hb => okSide_bad hx hb
    refine WO.caseG rfl rfl (fun g1 => ?_) (fun g1 => ?_)
    · (repeat (first | refine WO.run tabOk rfl rfl ?_ | refine WO.nil ?_ | refine WO.skip rfl rfl rfl ?_ | refine WO.pu tabOk rfl rfl rfl rfl ?_ | refine W.seq ?_ | refine W.region ?_ | refine W.block ?_ | refine W.skip ?_ | refine W.exit ?_))
      refine W.cond_t rfl ?_
      (repeat (first | refine WO.run tabOk rfl rfl ?_ | refine WO.nil ?_ | refine WO.skip rfl rfl rfl ?_ | refine WO.pu tabOk rfl rfl rfl rfl ?_ | refine W.seq ?_ | refine W.region ?_ | refine W.block ?_ | refine W.skip ?_ | refine W.exit ?_))
      refine W.ret (ret1 Try.results106 rfl ⟨_, rfl, H5.pure, ?_⟩)
      simp at g1
      have hb := hbad (okSide_snoc_tx (fun h => by omega))
      simp [lineF, hb]
    (repeat (first | refine WO.run tabOk rfl rfl ?_ | refine WO.nil ?_ | refine WO.skip rfl rfl rfl ?_ | refine WO.pu tabOk rfl rfl rfl rfl ?_ | refine W.seq ?_ | refine W.region ?_ | refine W.block ?_ | refine W.skip ?_ | refine W.exit ?_ | refine WO.one rfl rfl rfl (OpW.load1 tabOk rfl rfl rfl rfl H5 (by (repeat (first | exact .head _ | refine .tail _ ?_))) rfl ?_)))
    refine WO.caseG rfl rfl (fun g2 => ?_) (fun g2 => ?_)
    · (repeat (first | refine WO.run tabOk rfl rfl ?_ | refine WO.nil ?_ | refine WO.skip rfl rfl rfl ?_ | refine WO.pu tabOk rfl rfl rfl rfl ?_ | refine W.seq ?_ | refine W.region ?_ | refine W.block ?_ | refine W.skip ?_ | refine W.exit ?_))
      refine W.cond_t rfl ?_
      (repeat (first | refine WO.run tabOk rfl rfl ?_ | refine WO.nil ?_ | refine WO.skip rfl rfl rfl ?_ | refine WO.pu tabOk rfl rfl rfl rfl ?_ | refine W.seq ?_ | refine W.region ?_ | refine W.block ?_ | refine W.skip ?_ | refine W.exit ?_))
      refine W.ret (ret1 Try.results106 rfl ⟨_, rfl, H5.pure, ?_⟩)
      simp [pickV] at g1 g2
      have hb := hbad (okSide_snoc_tx (fun h => by omega))
      simp [lineF, hb]
    (repeat (first | refine WO.run tabOk rfl rfl ?_ | refine WO.nil ?_ | refine WO.skip rfl rfl rfl ?_ | refine WO.pu tabOk rfl rfl rfl rfl ?_ | refine W.seq ?_ | refine W.region ?_ | refine W.block ?_ | refine W.skip ?_ | refine W.exit ?_ | refine WO.one rfl rfl rfl (OpW.load1 tabOk rfl rfl rfl rfl H5 (by (repeat (first | exact .head _ | refine .tail _ ?_))) rfl ?_)))
    refine WO.one rfl rfl rfl (OpW.call rfl Try.call75 rfl (Calls.ret (isMode_ok _ _) ?_))
    rintro _ _ ⟨rfl, rfl⟩
    (repeat (first | refine WO.run tabOk rfl rfl ?_ | refine WO.nil ?_ | refine WO.skip rfl rfl rfl ?_ | refine WO.pu tabOk rfl rfl rfl rfl ?_ | refine W.seq ?_ | refine W.region ?_ | refine W.block ?_ | refine W.skip ?_ | refine W.exit ?_))
    refine WO.caseG rfl rfl (fun g3 => ?_) (fun g3 => ?_)
    · (repeat (first | refine WO.run tabOk rfl rfl ?_ | refine WO.nil ?_ | refine WO.skip rfl rfl rfl ?_ | refine WO.pu tabOk rfl rfl rfl rfl ?_ | refine W.seq ?_ | refine W.region ?_ | refine W.block ?_ | refine W.skip ?_ | refine W.exit ?_))
      refine W.cond_t rfl ?_
      (repeat (first | refine WO.run tabOk rfl rfl ?_ | refine WO.nil ?_ | refine WO.skip rfl rfl rfl ?_ | refine WO.pu tabOk rfl rfl rfl rfl ?_ | refine W.seq ?_ | refine W.region ?_ | refine W.block ?_ | refine W.skip ?_ | refine W.exit ?_))
      refine W.ret (ret1 Try.results106 rfl ⟨_, rfl, H5.pure, ?_⟩)
      simp [pickV] at g1 g2 g3
      have hb := hbad (okSide_snoc_mode (by simpa [g1, g2] using g3))
      simp [lineF, hb]
    (repeat (first | refine WO.run tabOk rfl rfl ?_ | refine WO.nil ?_ | refine WO.skip rfl rfl rfl ?_ | refine WO.pu tabOk rfl rfl rfl rfl ?_ | refine W.seq ?_ | refine W.region ?_ | refine W.block ?_ | refine W.skip ?_ | refine W.exit ?_ | refine WO.one rfl rfl rfl (OpW.load1 tabOk rfl rfl rfl rfl H5 (by (repeat (first | exact .head _ | refine .tail _ ?_))) rfl ?_)))
    simp [pickV] at g1 g2 g3
    have hg2 : x.1 < 12 := by simpa [g1] using g2
    have hg3 : isModeF x.2 = true := by simpa [g1, g2] using g3
    obtain ⟨u, hu, hu0⟩ := arr_get hok (t := x.1) g1 hg2
    refine WO.pv rfl rfl rfl (PureV.idxAN tabOk rfl rfl rfl rfl rfl rfl g1 hg2) ?_
    have hu2 : (arr (hs.take i))[0 + x.1.toNat * 1]? = some (.int .i64 u) := by rw [Nat.zero_add, Nat.mul_one]; exact hu
    refine WO.one rfl rfl rfl (OpW.loadB tabOk rfl rfl rfl rfl H5 (by (repeat (first | exact .head _ | refine .tail _ ?_))) hu2 ?_)
    (repeat (first | refine WO.run tabOk rfl rfl ?_ | refine WO.nil ?_ | refine WO.skip rfl rfl rfl ?_ | refine WO.pu tabOk rfl rfl rfl rfl ?_ | refine W.seq ?_ | refine W.region ?_ | refine W.block ?_ | refine W.skip ?_ | refine W.exit ?_))
    refine W.cond rfl (fun h4 => ?_) (fun h4 => ?_)
    · (repeat (first | refine WO.run tabOk rfl rfl ?_ | refine WO.nil ?_ | refine WO.skip rfl rfl rfl ?_ | refine WO.pu tabOk rfl rfl rfl rfl ?_ | refine W.seq ?_ | refine W.region ?_ | refine W.block ?_ | refine W.skip ?_ | refine W.exit ?_))
      refine W.ret (ret1 Try.results106 rfl ⟨_, rfl, H5.pure, ?_⟩)
      simp [pickV, g1, hg2, hg3] at h4
      have hb := hbad (okSide_snoc_dup (hu0.1 (by simpa using h4)))
      simp [lineF, hb]
    · simp [pickV, g1, hg2, hg3] at h4
      (repeat (first | refine WO.run tabOk rfl rfl ?_ | refine WO.nil ?_ | refine WO.skip rfl rfl rfl ?_ | refine WO.pu tabOk rfl rfl rfl rfl ?_ | refine W.seq ?_ | refine W.region ?_ | refine W.block ?_ | refine W.skip ?_ | refine W.exit ?_ | refine WO.one rfl rfl rfl (OpW.load1 tabOk rfl rfl rfl rfl H5 (by (repeat (first | exact .head _ | refine .tail _ ?_))) rfl ?_)))
      refine WO.pv rfl rfl rfl (PureV.idxAN tabOk rfl rfl rfl rfl rfl rfl g1 hg2) ?_
      refine WO.act rfl rfl (OpW.storeB (i := 2) tabOk rfl rfl rfl rfl H5 rfl (by simp [cellsL]; rfl) rfl (by simp [cellsL, arr_len]; omega) ?_)
      intro w6 H6
      have e : spliceL (arr (hs.take i)) (0 + x.1.toNat * 1) (cellsL (.int .i64 x.2)) = arr (hs.take (i + 1)) := by
        rw [take_snoc hx, Nat.zero_add, Nat.mul_one]; exact arr_snoc _ _ (by omega)
      rw [e] at H6
      have hle := hHi.le
      simp only [maxLen] at hle
      (repeat (first | refine WO.run tabOk rfl rfl ?_ | refine WO.nil ?_ | refine WO.skip rfl rfl rfl ?_ | refine WO.pu tabOk rfl rfl rfl rfl ?_ | refine W.seq ?_ | refine W.region ?_ | refine W.block ?_ | refine W.skip ?_ | refine W.exit ?_))
      refine WO.pv rfl rfl rfl (PureV.addN rfl rfl rfl (by omega)) ?_
      (repeat (first | refine WO.run tabOk rfl rfl ?_ | refine WO.nil ?_ | refine WO.skip rfl rfl rfl ?_ | refine WO.pu tabOk rfl rfl rfl rfl ?_ | refine W.seq ?_ | refine W.region ?_ | refine W.block ?_ | refine W.skip ?_ | refine W.exit ?_))
      refine ⟨i + 1, rfl, ⟨by omega, ?_, (H6.to (i := 1) rfl).drop.perm (.swap _ _ _)⟩, by omega⟩
      rw [take_snoc hx]
      exact okSide_snoc hok ⟨g1, hg2⟩ hg3 (fun hm => by have := hu0.2 hm; omega)

  simp at hge
  have hok : okSide hs = true := by rwa [show i = hs.length by omega, List.take_length] at hok
  have hmode := okSide_mode hok
  clear hge hi
  generalize arr (List.take i hs) = A3 at H
  (repeat (first | refine WO.run tabOk rfl rfl ?_ | refine WO.nil ?_ | refine WO.skip rfl rfl rfl ?_ | refine WO.pu tabOk rfl rfl rfl rfl ?_ | refine W.seq ?_ | refine W.region ?_ | refine W.block ?_ | refine W.skip ?_ | refine W.exit ?_ | refine WO.one rfl rfl rfl (OpW.load1 tabOk rfl rfl rfl rfl H (by (repeat (first | exact .head _ | refine .tail _ ?_))) rfl ?_)))
  refine W.loopS [1, 2, 4, 48, 49, 50] (fun i : Nat => [(1, .pointer (some ⟨b1, 0, none⟩)), (2, .int .i64 0), (4, .pointer (some ⟨b4, 0, none⟩)), (48, .slice ha hs.length hc), (49, .int .i64 hs.length), (50, .int .i64 i)])
    (fun i w' => i ≤ hs.length ∧ (∀ j k a b, j < i → j < k → hs[j]? = some a → hs[k]? = some b → clashF a.2 b.2 = false) ∧ St (at0 w) w' [blk b4 197 (arr []), blk b1 142 [.int .i64 item, .slice ha hs.length hc, .slice qa qs.length qc]] [rd lockR ha hc hs, rd lockR qa qc qs]) (fun i => hs.length - i) 0 rfl
    ⟨Nat.zero_le _, fun j k a b hj => (by omega), (H.to (i := 1) rfl).drop⟩ ?_
  clear H
  rintro i w3 ⟨hi, hno, H⟩
  (repeat (first | refine WO.run tabOk rfl rfl ?_ | refine WO.nil ?_ | refine WO.skip rfl rfl rfl ?_ | refine WO.pu tabOk rfl rfl rfl rfl ?_ | refine W.seq ?_ | refine W.region ?_ | refine W.block ?_ | refine W.skip ?_ | refine W.exit ?_))
  refine W.cond rfl (fun hlt => ?_) (fun hge => ?_)
  · have hlt : i < hs.length := by simpa using hlt
    have hHi := H.holds (A := rd lockR ha hc hs) (by simp)
    obtain ⟨bb, oo, rfl⟩ := hHi.addr (by omega)
    have hle := hHi.le
    simp only [maxLen] at hle
    (repeat (first | refine WO.run tabOk rfl rfl ?_ | refine WO.nil ?_ | refine WO.skip rfl rfl rfl ?_ | refine WO.pu tabOk rfl rfl rfl rfl ?_ | refine W.seq ?_ | refine W.region ?_ | refine W.block ?_ | refine W.skip ?_ | refine W.exit ?_))
    refine WO.pv rfl rfl rfl (PureV.idxN tabOk rfl rfl rfl rfl rfl rfl (by omega)) ?_
    have hx := List.getElem?_eq_getElem hlt
    refine WO.one rfl rfl rfl (OpW.elemA (i := i) tabOk rfl rfl rfl rfl hHi hx rfl rfl ?_)
    generalize hs[i] = x at hx
    refine WO.one rfl rfl rfl (OpW.alloc rfl zero145 rfl H ?_); intro b8 w4 H4
    (repeat (first | refine WO.run tabOk rfl rfl ?_ | refine WO.nil ?_ | refine WO.skip rfl rfl rfl ?_ | refine WO.pu tabOk rfl rfl rfl rfl ?_ | refine W.seq ?_ | refine W.region ?_ | refine W.block ?_ | refine W.skip ?_ | refine W.exit ?_))
    refine WO.act rfl rfl (OpW.storeA (i := 0) tabOk rfl rfl rfl rfl H4 rfl rfl rfl rfl rfl ?_); intro w5 H5
    (repeat (first | refine WO.run tabOk rfl rfl ?_ | refine WO.nil ?_ | refine WO.skip rfl rfl rfl ?_ | refine WO.pu tabOk rfl rfl rfl rfl ?_ | refine W.seq ?_ | refine W.region ?_ | refine W.block ?_ | refine W.skip ?_ | refine W.exit ?_ | refine WO.one rfl rfl rfl (OpW.load1 tabOk rfl rfl rfl rfl H5 (by (repeat (first | exact .head _ | refine .tail _ ?_))) rfl ?_)))
    refine WO.pv rfl rfl rfl (PureV.addN rfl rfl rfl (by omega)) ?_
    refine WO.pv rfl rfl rfl (PureV.slcFrom (n' := (hs.drop (i + 1)).length) tabOk rfl rfl rfl rfl rfl rfl (by omega) (by omega) (by simp)) ?_
    have H6 := H5.roDrop (i := i + 1) (rr := lockR) (a := some ⟨bb, oo, none⟩) (cap := hc) (xs := hs) (by simp) (by omega)
    change St _ _ _ (rd lockR (cutA (some ⟨bb, oo, none⟩) hc (i + 1) 2) (hc - (i + 1)) (hs.drop (i + 1)) :: _) at H6
    have hxs : ∀ k, (hs.drop (i + 1))[k]? = hs[i + 1 + k]? := fun k => by rw [List.getElem?_drop]
    generalize hs.drop (i + 1) = xs at H6 hxs
    generalize cutA (some ⟨bb, oo, none⟩) hc (i + 1) 2 = xa at H6
    generalize hc - (i + 1) = xc at H6
    clear H5 H4 H hHi
    (repeat (first | refine WO.run tabOk rfl rfl ?_ | refine WO.nil ?_ | refine WO.skip rfl rfl rfl ?_ | refine WO.pu tabOk rfl rfl rfl rfl ?_ | refine W.seq ?_ | refine W.region ?_ | refine W.block ?_ | refine W.skip ?_ | refine W.exit ?_ | refine WO.one rfl rfl rfl (OpW.load1 tabOk rfl rfl rfl rfl H6 (by (repeat (first | exact .head _ | refine .tail _ ?_))) rfl ?_)))
    refine W.loopS [1, 2, 4, 8, 48, 49, 50, 59, 60, 61] (fun j : Nat => [(1, .pointer (some ⟨b1, 0, none⟩)), (2, .int .i64 0), (4, .pointer (some ⟨b4, 0, none⟩)), (8, .pointer (some ⟨b8, 0, none⟩)), (48, .slice (some ⟨bb, oo, none⟩) hs.length hc), (49, .int .i64 hs.length), (50, .int .i64 i), (59, .slice xa xs.length xc), (60, .int .i64 xs.length), (61, .int .i64 j)])
      (fun j w' => j ≤ xs.length ∧ (∀ k b, k < j → xs[k]? = some b → clashF x.2 b.2 = false) ∧ St (at0 w) w' [blk b8 145 [.int .i64 x.1, .int .i64 x.2], blk b4 197 (arr []), blk b1 142 [.int .i64 item, .slice (some ⟨bb, oo, none⟩) hs.length hc, .slice qa qs.length qc]] [rd lockR xa xc xs, rd lockR (some ⟨bb, oo, none⟩) hc hs, rd lockR qa qc qs]) (fun j => xs.length - j) 0 rfl
      ⟨Nat.zero_le _, fun k b hk => (by omega), H6⟩ ?_
    clear H6
    rintro j w3 ⟨hj, hnj, H⟩
    (repeat (first | refine WO.run tabOk rfl rfl ?_ | refine WO.nil ?_ | refine WO.skip rfl rfl rfl ?_ | refine WO.pu tabOk rfl rfl rfl rfl ?_ | refine W.seq ?_ | refine W.region ?_ | refine W.block ?_ | refine W.skip ?_ | refine W.exit ?_))
    refine W.cond rfl (fun hlt2 => ?_) (fun hge2 => ?_)
    · have hlt2 : j < xs.length := by simpa using hlt2
      have hHj := H.holds (A := rd lockR xa xc xs) (by simp)
      obtain ⟨bj, oj, rfl⟩ := hHj.addr (by omega)
      (repeat (first | refine WO.run tabOk rfl rfl ?_ | refine WO.nil ?_ | refine WO.skip rfl rfl rfl ?_ | refine WO.pu tabOk rfl rfl rfl rfl ?_ | refine W.seq ?_ | refine W.region ?_ | refine W.block ?_ | refine W.skip ?_ | refine W.exit ?_))
      refine WO.pv rfl rfl rfl (PureV.idxN tabOk rfl rfl rfl rfl rfl rfl (by omega)) ?_
      have hy := List.getElem?_eq_getElem hlt2
      refine WO.one rfl rfl rfl (OpW.elemA (i := j) tabOk rfl rfl rfl rfl hHj hy rfl rfl ?_)
      generalize xs[j] = y at hy
      refine WO.one rfl rfl rfl (OpW.alloc rfl zero145 rfl H ?_); intro b10 w4 H4
      refine WO.act rfl rfl (OpW.storeA (i := 0) tabOk rfl rfl rfl rfl H4 rfl rfl rfl rfl rfl ?_); intro w5 H5
      (repeat (first | refine WO.run tabOk rfl rfl ?_ | refine WO.nil ?_ | refine WO.skip rfl rfl rfl ?_ | refine WO.pu tabOk rfl rfl rfl rfl ?_ | refine W.seq ?_ | refine W.region ?_ | refine W.block ?_ | refine W.skip ?_ | refine W.exit ?_ | refine WO.one rfl rfl rfl (OpW.load1 tabOk rfl rfl rfl rfl H5 (by (repeat (first | exact .head _ | refine .tail _ ?_))) rfl ?_)))
      refine W.regionD [1, 4] (HA [blk b10 145 [.int .i64 y.1, .int .i64 y.2], blk b8 145 [.int .i64 x.1, .int .i64 x.2]]) [0, 1, 3, 4, 2, 5, 6, 7] rfl (by kernel_rfl) (fun _ _ _ h => h) ?_
      have hA := H5.drew.ha (L := [blk b10 145 [.int .i64 y.1, .int .i64 y.2], blk b8 145 [.int .i64 x.1, .int .i64 x.2]]) (by simp)
      (repeat (first | refine WD.run tabOk rfl rfl ?_ | refine WD.hv rfl rfl rfl rfl rfl hA (HeldV.load1 tabOk rfl rfl rfl rfl (by (repeat (first | exact .head _ | refine .tail _ ?_))) rfl) ?_ | refine WD.hv rfl rfl rfl rfl rfl hA (HeldV.loadA tabOk rfl rfl rfl rfl (by (repeat (first | exact .head _ | refine .tail _ ?_))) rfl rfl) ?_ | refine WD.pu tabOk rfl rfl rfl rfl rfl rfl ?_))
      refine WD.oneS rfl rfl rfl rfl rfl (OpW.call rfl Try.call113 rfl (Calls.ret (fits_ok _ _) ?_))
      rintro _ _ ⟨rfl, rfl⟩
      refine ⟨hA, ?_⟩
      have hy2 : hs[i + 1 + j]? = some y := by rw [← hxs]; exact hy
      have hm2 := hmode y (List.mem_of_getElem? hy2)
      simp only [isModeF, decide_eq_true_eq] at hm2
      refine WD.pv rfl rfl rfl rfl rfl (PureV.shr rfl rfl rfl (by omega) (by omega)) ?_
      (repeat (first | refine WD.run tabOk rfl rfl ?_ | refine WD.nil ?_))
      refine W.cond rfl (fun h4 => ?_) (fun h4 => ?_)
      · (repeat (first | refine WO.run tabOk rfl rfl ?_ | refine WO.nil ?_ | refine WO.skip rfl rfl rfl ?_ | refine WO.pu tabOk rfl rfl rfl rfl ?_ | refine W.seq ?_ | refine W.region ?_ | refine W.block ?_ | refine W.skip ?_ | refine W.exit ?_))
        refine W.ret (ret1 Try.results106 rfl ⟨_, rfl, H5.drew.pure, ?_⟩)
        have hb : pairsF hs = false := by
          rw [← Bool.not_eq_true]
          intro hp
          simp only [pairsF, decide_eq_true_eq] at hp
          obtain ⟨l1, e1⟩ := List.getElem?_eq_some_iff.1 hx
          obtain ⟨l2, e2⟩ := List.getElem?_eq_some_iff.1 hy2
          have := List.pairwise_iff_getElem.1 hp i (i + 1 + j) l1 l2 (by omega)
          rw [e1, e2] at this
          rw [clashF, h4] at this
          cases this
        simp [lineF, hb]
      · have hle2 := hHj.le
        simp only [maxLen] at hle2
        (repeat (first | refine WO.run tabOk rfl rfl ?_ | refine WO.nil ?_ | refine WO.skip rfl rfl rfl ?_ | refine WO.pu tabOk rfl rfl rfl rfl ?_ | refine W.seq ?_ | refine W.region ?_ | refine W.block ?_ | refine W.skip ?_ | refine W.exit ?_))
        refine WO.pv rfl rfl rfl (PureV.addN rfl rfl rfl (by omega)) ?_
        (repeat (first | refine WO.run tabOk rfl rfl ?_ | refine WO.nil ?_ | refine WO.skip rfl rfl rfl ?_ | refine WO.pu tabOk rfl rfl rfl rfl ?_ | refine W.seq ?_ | refine W.region ?_ | refine W.block ?_ | refine W.skip ?_ | refine W.exit ?_))
        refine ⟨j + 1, rfl, ⟨by omega, ?_, H5.drew.drop⟩, by omega⟩
        intro k b hk hb
        rcases Nat.lt_succ_iff_lt_or_eq.1 hk with h | rfl
        · exact hnj k b h hb
        · rw [hy] at hb; cases hb; exact h4
    · (repeat (first | refine WO.run tabOk rfl rfl ?_ | refine WO.nil ?_ | refine WO.skip rfl rfl rfl ?_ | refine WO.pu tabOk rfl rfl rfl rfl ?_ | refine W.seq ?_ | refine W.region ?_ | refine W.block ?_ | refine W.skip ?_ | refine W.exit ?_))
      refine WO.pv rfl rfl rfl (PureV.addN rfl rfl rfl (by omega)) ?_
      (repeat (first | refine WO.run tabOk rfl rfl ?_ | refine WO.nil ?_ | refine WO.skip rfl rfl rfl ?_ | refine WO.pu tabOk rfl rfl rfl rfl ?_ | refine W.seq ?_ | refine W.region ?_ | refine W.block ?_ | refine W.skip ?_ | refine W.exit ?_))
      refine ⟨i + 1, rfl, ⟨by omega, ?_, (H.drop).ro (by simp)⟩, by omega⟩
      intro j' k a b hj' hk ha hb
      rcases Nat.lt_succ_iff_lt_or_eq.1 hj' with h | rfl
      · exact hno j' k a b h hk ha hb
      · rw [hx] at ha; cases ha
        simp at hge2
        obtain ⟨l2, e2⟩ := List.getElem?_eq_some_iff.1 hb
        have h2 : xs[k - (j' + 1)]? = some b := by rw [hxs, ← hb]; congr 1; omega
        exact hnj _ b (by have := (List.getElem?_eq_some_iff.1 h2).1; omega) h2
  simp at hge
  have hpairs : pairsF hs = true := by
    simp only [pairsF, decide_eq_true_eq]
    refine List.pairwise_iff_getElem.2 fun j k l1 l2 hjk => ?_
    exact hno j k _ _ (by omega) hjk (List.getElem?_eq_getElem l1) (List.getElem?_eq_getElem l2)
  clear hge hi hno
  have hokh := hok
  clear hok
  (repeat (first | refine WO.run tabOk rfl rfl ?_ | refine WO.nil ?_ | refine WO.skip rfl rfl rfl ?_ | refine WO.pu tabOk rfl rfl rfl rfl ?_ | refine W.seq ?_ | refine W.region ?_ | refine W.block ?_ | refine W.skip ?_ | refine W.exit ?_ | refine WO.one rfl rfl rfl (OpW.load1 tabOk rfl rfl rfl rfl H (by (repeat (first | exact .head _ | refine .tail _ ?_))) rfl ?_)))
  refine W.loopS [1, 2, 4, 76, 77, 78] (fun i : Nat => [(1, .pointer (some ⟨b1, 0, none⟩)), (2, .int .i64 0), (4, .pointer (some ⟨b4, 0, none⟩)), (76, .slice qa qs.length qc), (77, .int .i64 qs.length), (78, .int .i64 i)])
    (fun i w' => i ≤ qs.length ∧ okSide (qs.take i) = true ∧ St (at0 w) w' [blk b4 197 (arr (qs.take i)), blk b1 142 [.int .i64 item, .slice ha hs.length hc, .slice qa qs.length qc]] [rd lockR ha hc hs, rd lockR qa qc qs]) (fun i => qs.length - i) 0 rfl ⟨Nat.zero_le _, rfl, H⟩ ?_
  clear H
  rintro i w3 ⟨hi, hok, H⟩
  (repeat (first | refine WO.run tabOk rfl rfl ?_ | refine WO.nil ?_ | refine WO.skip rfl rfl rfl ?_ | refine WO.pu tabOk rfl rfl rfl rfl ?_ | refine W.seq ?_ | refine W.region ?_ | refine W.block ?_ | refine W.skip ?_ | refine W.exit ?_))
  refine W.cond rfl (fun hlt => ?_) (fun hge => ?_)
  · have hlt : i < qs.length := by simpa using hlt
    have hHi := H.holds (A := rd lockR qa qc qs) (by simp)
    obtain ⟨bb, oo, rfl⟩ := hHi.addr (by omega)
    (repeat (first | refine WO.run tabOk rfl rfl ?_ | refine WO.nil ?_ | refine WO.skip rfl rfl rfl ?_ | refine WO.pu tabOk rfl rfl rfl rfl ?_ | refine W.seq ?_ | refine W.region ?_ | refine W.block ?_ | refine W.skip ?_ | refine W.exit ?_))
    refine WO.pv rfl rfl rfl (PureV.idxN tabOk rfl rfl rfl rfl rfl rfl (by omega)) ?_
    have hx := List.getElem?_eq_getElem hlt
    refine WO.one rfl rfl rfl (OpW.elemA (i := i) tabOk rfl rfl rfl rfl hHi hx rfl rfl ?_)
    generalize qs[i] = x at hx
    refine WO.one rfl rfl rfl (OpW.alloc rfl zero145 rfl H ?_); intro b6 w4 H4
    refine WO.act rfl rfl (OpW.storeA (i := 0) tabOk rfl rfl rfl rfl H4 rfl rfl rfl rfl rfl ?_); intro w5 H5
    (repeat (first | refine WO.run tabOk rfl rfl ?_ | refine WO.nil ?_ | refine WO.skip rfl rfl rfl ?_ | refine WO.pu tabOk rfl rfl rfl rfl ?_ | refine W.seq ?_ | refine W.region ?_ | refine W.block ?_ | refine W.skip ?_ | refine W.exit ?_ | refine WO.one rfl rfl rfl (OpW.load1 tabOk rfl rfl rfl rfl H5 (by (repeat (first | exact .head _ | refine .tail _ ?_))) rfl ?_)))
    have hbad : ∀ (hb : okSide (qs.take i ++ [x]) = false), okSide qs = false := fun hb => okSide_bad hx hb
    refine WO.caseG rfl rfl (fun g1 => ?_) (fun g1 => ?_)
    · (repeat (first | refine WO.run tabOk rfl rfl ?_ | refine WO.nil ?_ | refine WO.skip rfl rfl rfl ?_ | refine WO.pu tabOk rfl rfl rfl rfl ?_ | refine W.seq ?_ | refine W.region ?_ | refine W.block ?_ | refine W.skip ?_ | refine W.exit ?_))
      refine W.cond_t rfl ?_
      (repeat (first | refine WO.run tabOk rfl rfl ?_ | refine WO.nil ?_ | refine WO.skip rfl rfl rfl ?_ | refine WO.pu tabOk rfl rfl rfl rfl ?_ | refine W.seq ?_ | refine W.region ?_ | refine W.block ?_ | refine W.skip ?_ | refine W.exit ?_))
      refine W.ret (ret1 Try.results106 rfl ⟨_, rfl, H5.pure, ?_⟩)
      simp at g1
      have hb := hbad (okSide_snoc_tx (fun h => by omega))
      simp [lineF, hb]
    (repeat (first | refine WO.run tabOk rfl rfl ?_ | refine WO.nil ?_ | refine WO.skip rfl rfl rfl ?_ | refine WO.pu tabOk rfl rfl rfl rfl ?_ | refine W.seq ?_ | refine W.region ?_ | refine W.block ?_ | refine W.skip ?_ | refine W.exit ?_ | refine WO.one rfl rfl rfl (OpW.load1 tabOk rfl rfl rfl rfl H5 (by (repeat (first | exact .head _ | refine .tail _ ?_))) rfl ?_)))
    refine WO.caseG rfl rfl (fun g2 => ?_) (fun g2 => ?_)
    · (repeat (first | refine WO.run tabOk rfl rfl ?_ | refine WO.nil ?_ | refine WO.skip rfl rfl rfl ?_ | refine WO.pu tabOk rfl rfl rfl rfl ?_ | refine W.seq ?_ | refine W.region ?_ | refine W.block ?_ | refine W.skip ?_ | refine W.exit ?_))
      refine W.cond_t rfl ?_
      (repeat (first | refine WO.run tabOk rfl rfl ?_ | refine WO.nil ?_ | refine WO.skip rfl rfl rfl ?_ | refine WO.pu tabOk rfl rfl rfl rfl ?_ | refine W.seq ?_ | refine W.region ?_ | refine W.block ?_ | refine W.skip ?_ | refine W.exit ?_))
      refine W.ret (ret1 Try.results106 rfl ⟨_, rfl, H5.pure, ?_⟩)
      simp [pickV] at g1 g2
      have hb := hbad (okSide_snoc_tx (fun h => by omega))
      simp [lineF, hb]
    (repeat (first | refine WO.run tabOk rfl rfl ?_ | refine WO.nil ?_ | refine WO.skip rfl rfl rfl ?_ | refine WO.pu tabOk rfl rfl rfl rfl ?_ | refine W.seq ?_ | refine W.region ?_ | refine W.block ?_ | refine W.skip ?_ | refine W.exit ?_ | refine WO.one rfl rfl rfl (OpW.load1 tabOk rfl rfl rfl rfl H5 (by (repeat (first | exact .head _ | refine .tail _ ?_))) rfl ?_)))
    refine WO.one rfl rfl rfl (OpW.call rfl Try.call75 rfl (Calls.ret (isMode_ok _ _) ?_))
    rintro _ _ ⟨rfl, rfl⟩
    (repeat (first | refine WO.run tabOk rfl rfl ?_ | refine WO.nil ?_ | refine WO.skip rfl rfl rfl ?_ | refine WO.pu tabOk rfl rfl rfl rfl ?_ | refine W.seq ?_ | refine W.region ?_ | refine W.block ?_ | refine W.skip ?_ | refine W.exit ?_))
    refine WO.caseG rfl rfl (fun g3 => ?_) (fun g3 => ?_)
    · (repeat (first | refine WO.run tabOk rfl rfl ?_ | refine WO.nil ?_ | refine WO.skip rfl rfl rfl ?_ | refine WO.pu tabOk rfl rfl rfl rfl ?_ | refine W.seq ?_ | refine W.region ?_ | refine W.block ?_ | refine W.skip ?_ | refine W.exit ?_))
      refine W.cond_t rfl ?_
      (repeat (first | refine WO.run tabOk rfl rfl ?_ | refine WO.nil ?_ | refine WO.skip rfl rfl rfl ?_ | refine WO.pu tabOk rfl rfl rfl rfl ?_ | refine W.seq ?_ | refine W.region ?_ | refine W.block ?_ | refine W.skip ?_ | refine W.exit ?_))
      refine W.ret (ret1 Try.results106 rfl ⟨_, rfl, H5.pure, ?_⟩)
      simp [pickV] at g1 g2 g3
      have hb := hbad (okSide_snoc_mode (by simpa [g1, g2] using g3))
      simp [lineF, hb]
    (repeat (first | refine WO.run tabOk rfl rfl ?_ | refine WO.nil ?_ | refine WO.skip rfl rfl rfl ?_ | refine WO.pu tabOk rfl rfl rfl rfl ?_ | refine W.seq ?_ | refine W.region ?_ | refine W.block ?_ | refine W.skip ?_ | refine W.exit ?_ | refine WO.one rfl rfl rfl (OpW.load1 tabOk rfl rfl rfl rfl H5 (by (repeat (first | exact .head _ | refine .tail _ ?_))) rfl ?_)))
    simp [pickV] at g1 g2 g3
    have hg2 : x.1 < 12 := by simpa [g1] using g2
    have hg3 : isModeF x.2 = true := by simpa [g1, g2] using g3
    obtain ⟨u, hu, hu0⟩ := arr_get hok (t := x.1) g1 hg2
    refine WO.pv rfl rfl rfl (PureV.idxAN tabOk rfl rfl rfl rfl rfl rfl g1 hg2) ?_
    have hu2 : (arr (qs.take i))[0 + x.1.toNat * 1]? = some (.int .i64 u) := by rw [Nat.zero_add, Nat.mul_one]; exact hu
    refine WO.one rfl rfl rfl (OpW.loadB tabOk rfl rfl rfl rfl H5 (by (repeat (first | exact .head _ | refine .tail _ ?_))) hu2 ?_)
    (repeat (first | refine WO.run tabOk rfl rfl ?_ | refine WO.nil ?_ | refine WO.skip rfl rfl rfl ?_ | refine WO.pu tabOk rfl rfl rfl rfl ?_ | refine W.seq ?_ | refine W.region ?_ | refine W.block ?_ | refine W.skip ?_ | refine W.exit ?_))
    refine W.cond rfl (fun h4 => ?_) (fun h4 => ?_)
    · (repeat (first | refine WO.run tabOk rfl rfl ?_ | refine WO.nil ?_ | refine WO.skip rfl rfl rfl ?_ | refine WO.pu tabOk rfl rfl rfl rfl ?_ | refine W.seq ?_ | refine W.region ?_ | refine W.block ?_ | refine W.skip ?_ | refine W.exit ?_))
      refine W.ret (ret1 Try.results106 rfl ⟨_, rfl, H5.pure, ?_⟩)
      simp [pickV, g1, hg2, hg3] at h4
      have hb := hbad (okSide_snoc_dup (hu0.1 (by simpa using h4)))
      simp [lineF, hb]
    · simp [pickV, g1, hg2, hg3] at h4
      (repeat (first | refine WO.run tabOk rfl rfl ?_ | refine WO.nil ?_ | refine WO.skip rfl rfl rfl ?_ | refine WO.pu tabOk rfl rfl rfl rfl ?_ | refine W.seq ?_ | refine W.region ?_ | refine W.block ?_ | refine W.skip ?_ | refine W.exit ?_ | refine WO.one rfl rfl rfl (OpW.load1 tabOk rfl rfl rfl rfl H5 (by (repeat (first | exact .head _ | refine .tail _ ?_))) rfl ?_)))
      refine WO.pv rfl rfl rfl (PureV.idxAN tabOk rfl rfl rfl rfl rfl rfl g1 hg2) ?_
      refine WO.act rfl rfl (OpW.storeB (i := 1) tabOk rfl rfl rfl rfl H5 rfl (by simp [cellsL]; rfl) rfl (by simp [cellsL, arr_len]; omega) ?_)
      intro w6 H6
      have e : spliceL (arr (qs.take i)) (0 + x.1.toNat * 1) (cellsL (.int .i64 x.2)) = arr (qs.take (i + 1)) := by
        rw [take_snoc hx, Nat.zero_add, Nat.mul_one]; exact arr_snoc _ _ (by omega)
      rw [e] at H6
      have hle := hHi.le
      simp only [maxLen] at hle
      (repeat (first | refine WO.run tabOk rfl rfl ?_ | refine WO.nil ?_ | refine WO.skip rfl rfl rfl ?_ | refine WO.pu tabOk rfl rfl rfl rfl ?_ | refine W.seq ?_ | refine W.region ?_ | refine W.block ?_ | refine W.skip ?_ | refine W.exit ?_))
      refine WO.pv rfl rfl rfl (PureV.addN rfl rfl rfl (by omega)) ?_
      (repeat (first | refine WO.run tabOk rfl rfl ?_ | refine WO.nil ?_ | refine WO.skip rfl rfl rfl ?_ | refine WO.pu tabOk rfl rfl rfl rfl ?_ | refine W.seq ?_ | refine W.region ?_ | refine W.block ?_ | refine W.skip ?_ | refine W.exit ?_))
      refine ⟨i + 1, rfl, ⟨by omega, ?_, (H6.to (i := 1) rfl).drop⟩, by omega⟩
      rw [take_snoc hx]
      exact okSide_snoc hok ⟨g1, hg2⟩ hg3 (fun hm => by have := hu0.2 hm; omega)

  simp at hge
  have hok : okSide qs = true := by rwa [show i = qs.length by omega, List.take_length] at hok
  clear hge hi
  generalize arr (List.take i qs) = A3 at H
  (repeat (first | refine WO.run tabOk rfl rfl ?_ | refine WO.nil ?_ | refine WO.skip rfl rfl rfl ?_ | refine WO.pu tabOk rfl rfl rfl rfl ?_ | refine W.seq ?_ | refine W.region ?_ | refine W.block ?_ | refine W.skip ?_ | refine W.exit ?_))
  refine W.regionD [1, 5, 7, 9] (HA [blk b1 142 [.int .i64 item, .slice ha hs.length hc, .slice qa qs.length qc], rd lockR qa qc qs]) [0, 1, 2, 3, 4, 5, 6, 7, 8, 9, 10, 11] rfl (by kernel_rfl) (fun _ _ _ h => h) ?_
  have hA := H.drew.ha (L := [blk b1 142 [.int .i64 item, .slice ha hs.length hc, .slice qa qs.length qc], rd lockR qa qc qs]) (by simp)
  (repeat (first | refine WD.run tabOk rfl rfl ?_ | refine WD.hv rfl rfl rfl rfl rfl hA (HeldV.load1 tabOk rfl rfl rfl rfl (by (repeat (first | exact .head _ | refine .tail _ ?_))) rfl) ?_ | refine WD.hv rfl rfl rfl rfl rfl hA (HeldV.loadA tabOk rfl rfl rfl rfl (by (repeat (first | exact .head _ | refine .tail _ ?_))) rfl rfl) ?_ | refine WD.pu tabOk rfl rfl rfl rfl rfl rfl ?_))
  cases qs with
  | nil =>
    refine WD.caseG rfl rfl rfl (fun hg => (by simp at hg)) (fun hg => ?_)
    (repeat (first | refine WD.skip rfl rfl rfl rfl rfl ?_ | refine WD.skipS rfl rfl rfl rfl ‹HA _ _› ?_))
    (repeat (first | refine WD.run tabOk rfl rfl ?_ | refine WD.nil ?_))
    refine W.cond_f rfl ?_
    (repeat (first | refine WO.run tabOk rfl rfl ?_ | refine WO.nil ?_ | refine WO.skip rfl rfl rfl ?_ | refine WO.pu tabOk rfl rfl rfl rfl ?_ | refine W.seq ?_ | refine W.region ?_ | refine W.block ?_ | refine W.skip ?_ | refine W.exit ?_))
    refine W.ret (ret1 Try.results106 rfl ⟨_, rfl, H.drew.pure, ?_⟩)
    simp [lineF, hokh, hpairs, hok, frontF]
  | cons q qs =>
    refine WD.caseG rfl rfl rfl (fun hg => ?_) (fun hg => (by simp at hg))
    (repeat (first | refine WD.run tabOk rfl rfl ?_ | refine WD.hv rfl rfl rfl rfl rfl hA (HeldV.load1 tabOk rfl rfl rfl rfl (by (repeat (first | exact .head _ | refine .tail _ ?_))) rfl) ?_ | refine WD.hv rfl rfl rfl rfl rfl hA (HeldV.loadA tabOk rfl rfl rfl rfl (by (repeat (first | exact .head _ | refine .tail _ ?_))) rfl rfl) ?_ | refine WD.pu tabOk rfl rfl rfl rfl rfl rfl ?_))
    have hHi := H.holds (A := rd lockR qa qc (q :: qs)) (by simp)
    obtain ⟨bb, oo, rfl⟩ := hHi.addr (by simp)
    refine WD.pv rfl rfl rfl rfl rfl (PureV.idxN (i := 0) tabOk rfl rfl rfl rfl rfl rfl (by simp)) ?_
    refine WD.hv rfl rfl rfl rfl rfl hA (HeldV.elemA (i := 0) tabOk rfl rfl rfl rfl (.tail _ (.head _)) rfl rfl rfl) ?_
    refine WD.oneS rfl rfl rfl rfl rfl (OpW.call rfl Try.call83 rfl (Calls.ret (can_ok _ item ha hc hs _ rfl q.1 q.2 (H.drew.holds (A := rd lockR ha hc hs) (by simp)) (okSide_mode hokh)) ?_))
    rintro _ w5 ⟨hp5, rfl⟩
    have H5 := H.drew.after hp5
    refine ⟨H5.ha (by simp), ?_⟩
    (repeat (first | refine WD.run tabOk rfl rfl ?_ | refine WD.nil ?_))
    refine W.cond rfl (fun h4 => ?_) (fun h4 => ?_)
    · (repeat (first | refine WO.run tabOk rfl rfl ?_ | refine WO.nil ?_ | refine WO.skip rfl rfl rfl ?_ | refine WO.pu tabOk rfl rfl rfl rfl ?_ | refine W.seq ?_ | refine W.region ?_ | refine W.block ?_ | refine W.skip ?_ | refine W.exit ?_))
      refine W.ret (ret1 Try.results106 rfl ⟨_, rfl, H5.pure, ?_⟩)
      simp [pickV] at h4
      have : frontF hs (q :: qs) = false := by simp [frontF]; simpa using h4
      simp [lineF, this]
    · (repeat (first | refine WO.run tabOk rfl rfl ?_ | refine WO.nil ?_ | refine WO.skip rfl rfl rfl ?_ | refine WO.pu tabOk rfl rfl rfl rfl ?_ | refine W.seq ?_ | refine W.region ?_ | refine W.block ?_ | refine W.skip ?_ | refine W.exit ?_))
      refine W.ret (ret1 Try.results106 rfl ⟨_, rfl, H5.pure, ?_⟩)
      simp [pickV] at h4
      have : frontF hs (q :: qs) = true := by simp [frontF]; simpa using h4
      simp [lineF, this, hokh, hok, hpairs]
end Go.Proofs.Ytpenbdpgpamcbaa
