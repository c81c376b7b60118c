/- graph: the slices' functions over numbers; Check. Conditions: each fact's own premises. -/
import Derived.Test.YtpenbdpgpamcbaaGraphK
import Derived.Test.YtpenbdpgpamcbaaSlicesA
import Derived.Test.YtpenbdpgpamcbaaGwTab
import Derived.Test.YtpenbdpgpamcbaaGwZero
set_option linter.unusedVariables false
set_option linter.unusedSimpArgs false
set_option maxRecDepth 20000
namespace Go.Proofs.Ytpenbdpgpamcbaa
open Go Gw
attribute [local irreducible] W WO WD

theorem idxI_ok (w : World) (a : Option Addr) (c : Nat) (xs : List Int) (u : Int) (hH : Holds w (rd i64 a c xs)) :
    Calls Try.prog 10 #[.slice a xs.length c, .int .i64 u] w (Ret fun v w' => Pure w w' ∧ v = .int .i64 (idxF (fun x => decide (u = x)) xs)) := by
  refine calls_W (args := [_, _]) Try.func10 rfl Try.ntmps10 rfl ?_
  (repeat (first | refine WO.run tabOk rfl rfl ?_ | refine WO.nil ?_ | refine WO.skip rfl rfl rfl ?_ | refine WO.pu tabOk rfl rfl rfl rfl ?_ | refine W.seq ?_ | refine W.region ?_ | refine W.block ?_ | refine W.skip ?_ | refine W.exit ?_))
  refine W.loopS [0, 1, 7, 8] (fun i : Nat => [(0, .slice a xs.length c), (1, .int .i64 u), (7, .int .i64 xs.length), (8, .int .i64 i)])
    (fun i w' => i ≤ xs.length ∧ (∀ j, j < i → ∀ x, xs[j]? = some x → decide (u = x) = false) ∧ Pure w w') (fun i => xs.length - i) 0 rfl ⟨Nat.zero_le _, fun j hj => (by omega), Pure.refl w⟩ ?_
  rintro i w1 ⟨hi, hno, hp⟩
  have hH1 := hH.pure hp
  (repeat (first | refine WO.run tabOk rfl rfl ?_ | refine WO.nil ?_ | refine WO.skip rfl rfl rfl ?_ | refine WO.pu tabOk rfl rfl rfl rfl ?_ | refine W.seq ?_ | refine W.region ?_ | refine W.block ?_ | refine W.skip ?_ | refine W.exit ?_))
  refine W.cond rfl (fun hlt => ?_) (fun hge => ?_)
  · have hlt : i < xs.length := by simpa using hlt
    obtain ⟨b, o, rfl⟩ := hH1.addr (by omega)
    (repeat (first | refine WO.run tabOk rfl rfl ?_ | refine WO.nil ?_ | refine WO.skip rfl rfl rfl ?_ | refine WO.pu tabOk rfl rfl rfl rfl ?_ | refine W.seq ?_ | refine W.region ?_ | refine W.block ?_ | refine W.skip ?_ | refine W.exit ?_))
    refine WO.pv rfl rfl rfl (PureV.idxN tabOk rfl rfl rfl rfl rfl rfl (by omega)) ?_
    have hx := List.getElem?_eq_getElem hlt
    generalize xs[i] = x at hx
    refine WO.one rfl rfl rfl (OpW.elem1 (i := i) (j := 0) tabOk rfl rfl rfl rfl hH1 hx rfl rfl ?_)
    (repeat (first | refine WO.run tabOk rfl rfl ?_ | refine WO.nil ?_ | refine WO.skip rfl rfl rfl ?_ | refine WO.pu tabOk rfl rfl rfl rfl ?_ | refine W.seq ?_ | refine W.region ?_ | refine W.block ?_ | refine W.skip ?_ | refine W.exit ?_))
    refine W.cond rfl (fun he => ?_) (fun hne => ?_)
    · (repeat (first | refine WO.run tabOk rfl rfl ?_ | refine WO.nil ?_ | refine WO.skip rfl rfl rfl ?_ | refine WO.pu tabOk rfl rfl rfl rfl ?_ | refine W.seq ?_ | refine W.region ?_ | refine W.block ?_ | refine W.skip ?_ | refine W.exit ?_))
      refine W.ret (ret1 Try.results10 rfl ⟨_, rfl, hp, ?_⟩)
      rw [idxF_hit hno hx he]
    · (repeat (first | refine WO.run tabOk rfl rfl ?_ | refine WO.nil ?_ | refine WO.skip rfl rfl rfl ?_ | refine WO.pu tabOk rfl rfl rfl rfl ?_ | refine W.seq ?_ | refine W.region ?_ | refine W.block ?_ | refine W.skip ?_ | refine W.exit ?_))
      have hle := hH1.le
      simp only [maxLen] at hle
      refine WO.pv rfl rfl rfl (PureV.addN rfl rfl rfl (by omega)) ?_
      (repeat (first | refine WO.run tabOk rfl rfl ?_ | refine WO.nil ?_ | refine WO.skip rfl rfl rfl ?_ | refine WO.pu tabOk rfl rfl rfl rfl ?_ | refine W.seq ?_ | refine W.region ?_ | refine W.block ?_ | refine W.skip ?_ | refine W.exit ?_))
      refine ⟨i + 1, rfl, ⟨by omega, ?_, hp⟩, by omega⟩
      intro j hj y hy
      rcases Nat.lt_succ_iff_lt_or_eq.1 hj with h | rfl
      · exact hno j h y hy
      · rw [hx] at hy; cases hy; exact hne
  · (repeat (first | refine WO.run tabOk rfl rfl ?_ | refine WO.nil ?_ | refine WO.skip rfl rfl rfl ?_ | refine WO.pu tabOk rfl rfl rfl rfl ?_ | refine W.seq ?_ | refine W.region ?_ | refine W.block ?_ | refine W.skip ?_ | refine W.exit ?_))
    simp at hge
    refine W.ret (ret1 Try.results10 rfl ⟨_, rfl, hp, ?_⟩)
    rw [idxF_miss]
    intro x hx
    obtain ⟨j, hj, hx'⟩ := List.mem_iff_getElem.1 hx
    exact hno j (by omega) x (by rw [List.getElem?_eq_getElem hj, hx'])

theorem hasI_ok (w : World) (a : Option Addr) (c : Nat) (xs : List Int) (u : Int) (hH : Holds w (rd i64 a c xs)) :
    Calls Try.prog 18 #[.slice a xs.length c, .int .i64 u] w (Ret fun v w' => Pure w w' ∧ v = .bool (decide (u ∈ xs))) := by
  refine calls_W (args := [_, _]) Try.func18 rfl Try.ntmps18 rfl ?_
  (repeat (first | refine WO.run tabOk rfl rfl ?_ | refine WO.nil ?_ | refine WO.skip rfl rfl rfl ?_ | refine WO.pu tabOk rfl rfl rfl rfl ?_ | refine W.seq ?_ | refine W.region ?_ | refine W.block ?_ | refine W.skip ?_ | refine W.exit ?_))
  refine WO.one rfl rfl rfl (OpW.call rfl Try.call10 rfl (Calls.ret (idxI_ok w a c xs u hH) ?_))
  rintro _ w1 ⟨hp, rfl⟩
  (repeat (first | refine WO.run tabOk rfl rfl ?_ | refine WO.nil ?_ | refine WO.skip rfl rfl rfl ?_ | refine WO.pu tabOk rfl rfl rfl rfl ?_ | refine W.seq ?_ | refine W.region ?_ | refine W.block ?_ | refine W.skip ?_ | refine W.exit ?_))
  refine W.ret (ret1 Try.results18 rfl ⟨_, rfl, hp, ?_⟩)
  rw [idxF_any]
  congr 1
  rw [Bool.eq_iff_iff]
  simp

theorem cloneI_ok (w : World) (a : Option Addr) (m c : Nat) (cs : List Value) (hs : Shows w 1 a m cs) (hlen : m ≤ 1073741824) :
    Calls Try.prog 148 #[.slice a m c] w (Ret fun v w' => St (at0 w) w' [raw 3 1 v m cs] []) := by
  refine calls_W (args := [_]) Try.func148 rfl Try.ntmps148 rfl ?_
  have H := St.start [] (w := w) (by simp)
  (repeat (first | refine WO.run tabOk rfl rfl ?_ | refine WO.nil ?_ | refine WO.skip rfl rfl rfl ?_ | refine WO.pu tabOk rfl rfl rfl rfl ?_ | refine W.seq ?_ | refine W.region ?_ | refine W.block ?_ | refine W.skip ?_ | refine W.exit ?_))
  refine W.cond rfl (fun hn => ?_) (fun hn => ?_)
  · (repeat (first | refine WO.run tabOk rfl rfl ?_ | refine WO.nil ?_ | refine WO.skip rfl rfl rfl ?_ | refine WO.pu tabOk rfl rfl rfl rfl ?_ | refine W.seq ?_ | refine W.region ?_ | refine W.block ?_ | refine W.skip ?_ | refine W.exit ?_))
    refine W.ret (ret1 Try.results148 rfl ⟨_, rfl, ?_⟩)
    have ha : a = none := by simpa using hn
    have hm : m = 0 := hs.2.2.resolve_right fun ⟨b, hb, _⟩ => by rw [ha] at hb; cases hb
    subst hm
    have : cs = [] := List.eq_nil_of_length_eq_zero (by simp [hs.1])
    subst this
    exact H.add_nil_raw _ _
  · (repeat (first | refine WO.run tabOk rfl rfl ?_ | refine WO.nil ?_ | refine WO.skip rfl rfl rfl ?_ | refine WO.pu tabOk rfl rfl rfl rfl ?_ | refine W.seq ?_ | refine W.region ?_ | refine W.block ?_ | refine W.skip ?_ | refine W.exit ?_))
    refine WO.one rfl rfl rfl (OpW.buildSlice tabOk rfl rfl rfl rfl zero3 rfl rfl rfl H ?_)
    intro b w1 H1
    have H2 := H1.close_raw (sz := 1) (n := 0) (o := 0) (cap := 0) (cs := []) (Nat.le_refl _) (Nat.zero_le _) (by simp) (by simp) (by simp)
    (repeat (first | refine WO.run tabOk rfl rfl ?_ | refine WO.nil ?_ | refine WO.skip rfl rfl rfl ?_ | refine WO.pu tabOk rfl rfl rfl rfl ?_ | refine W.seq ?_ | refine W.region ?_ | refine W.block ?_ | refine W.skip ?_ | refine W.exit ?_))
    refine WO.one rfl rfl rfl (OpW.append tabOk rfl rfl rfl zero3 rfl rfl rfl rfl H2 (hs.pure H1.pure) (by omega) (by simp only [maxLen]; omega) ?_)
    intro v w2 H3 _
    (repeat (first | refine WO.run tabOk rfl rfl ?_ | refine WO.nil ?_ | refine WO.skip rfl rfl rfl ?_ | refine WO.pu tabOk rfl rfl rfl rfl ?_ | refine W.seq ?_ | refine W.region ?_ | refine W.block ?_ | refine W.skip ?_ | refine W.exit ?_))
    refine W.ret (ret1 Try.results148 rfl ⟨_, rfl, ?_⟩)
    rwa [Nat.zero_add, List.nil_append] at H3


theorem takeSnoc {α : Type} {l : List α} {i : Nat} {x : α} (hx : l[i]? = some x) : l.take (i + 1) = l.take i ++ [x] := by
  rw [List.take_add_one, hx]; rfl
theorem hasN_ok (w : World) (a : Option Addr) (c : Nat) (xs : List Nat) (u : Nat) (hH : Holds w (rd natR a c xs)) :
    Calls Try.prog 18 #[.slice a xs.length c, .int .i64 (u : Int)] w (Ret fun v w' => Pure w w' ∧ v = .bool (decide (u ∈ xs))) := by
  have h := hasI_ok w a c _ (u : Int) (natInt hH)
  rw [List.length_map] at h
  refine Calls.ret h ?_
  rintro v w' ⟨hp, rfl⟩
  refine ⟨hp, ?_⟩
  congr 1
  rw [Bool.eq_iff_iff, decide_eq_true_eq, decide_eq_true_eq]
  exact mem_natInt
theorem idxN_ok (w : World) (a : Option Addr) (c : Nat) (xs : List Nat) (u : Nat) (hH : Holds w (rd natR a c xs)) :
    Calls Try.prog 10 #[.slice a xs.length c, .int .i64 (u : Int)] w (Ret fun v w' => Pure w w' ∧ v = .int .i64 (idxF (fun x => decide (u = x)) xs)) := by
  have h := idxI_ok w a c _ (u : Int) (natInt hH)
  rw [List.length_map] at h
  refine Calls.ret h ?_
  rintro v w' ⟨hp, rfl⟩
  refine ⟨hp, ?_⟩
  congr 1
  clear h hH
  induction xs with
  | nil => rfl
  | cons x xs ih =>
    simp only [List.map_cons, idxF]
    rw [ih]
    by_cases e : u = x
    · subst e; simp
    · have : ¬ ((u : Int) = (x : Int)) := by omega
      simp [e, this]

/-- A graph that is taken. -/
structure GOk (n : Int) (E : List (Int × Int)) : Prop where
  lo : 0 ≤ n
  hi : n ≤ 60
  len : E.length ≤ 2000
  ok : ∀ e ∈ E, 0 ≤ e.1 ∧ e.1 < n ∧ 0 ≤ e.2 ∧ e.2 < n

theorem gcheck_ok (w : World) (n : Int) (a : Option Addr) (c : Nat) (E : List (Int × Int)) (hH : Holds w (rd edgeR a c E)) :
    Calls Try.prog 41 #[.int .i64 n, .slice a E.length c] w (Ret fun v w' => Pure w w' ∧ ∃ e, v = .int .i64 e ∧ (e = 0 ↔ GOk n E)) := by
  refine calls_W (args := [_, _]) Try.func41 rfl Try.ntmps41 rfl ?_
  have H := St.start [rd edgeR a c E] (w := w) (by simpa using hH)
  have fin : ∀ {w' : World} {e : Int}, Pure w w' → e ≠ 0 → (GOk n E → False) → Pure w w' ∧ ∃ e', (Value.int .i64 e) = .int .i64 e' ∧ (e' = 0 ↔ GOk n E) := fun hp he hv => ⟨hp, _, rfl, fun h => absurd h he, fun h => (hv h).elim⟩
  (repeat (first | refine WO.run tabOk rfl rfl ?_ | refine WO.nil ?_ | refine WO.skip rfl rfl rfl ?_ | refine WO.pu tabOk rfl rfl rfl rfl ?_ | refine W.seq ?_ | refine W.region ?_ | refine W.block ?_ | refine W.skip ?_ | refine W.exit ?_))
  refine WO.caseG rfl rfl (fun g1 => ?_) (fun g1 => ?_)
  · (repeat (first | refine WO.run tabOk rfl rfl ?_ | refine WO.nil ?_ | refine WO.skip rfl rfl rfl ?_ | refine WO.pu tabOk rfl rfl rfl rfl ?_ | refine W.seq ?_ | refine W.region ?_ | refine W.block ?_ | refine W.skip ?_ | refine W.exit ?_))
    refine W.cond_t rfl ?_
    (repeat (first | refine WO.run tabOk rfl rfl ?_ | refine WO.nil ?_ | refine WO.skip rfl rfl rfl ?_ | refine WO.pu tabOk rfl rfl rfl rfl ?_ | refine W.seq ?_ | refine W.region ?_ | refine W.block ?_ | refine W.skip ?_ | refine W.exit ?_))
    refine W.ret (ret1 Try.results41 rfl ⟨_, rfl, fin H.pure (by decide) fun hv => ?_⟩)
    have := hv.lo; simp at g1; omega
  (repeat (first | refine WO.run tabOk rfl rfl ?_ | refine WO.nil ?_ | refine WO.skip rfl rfl rfl ?_ | refine WO.pu tabOk rfl rfl rfl rfl ?_ | refine W.seq ?_ | refine W.region ?_ | refine W.block ?_ | refine W.skip ?_ | refine W.exit ?_))
  refine W.cond rfl (fun g2 => ?_) (fun g2 => ?_)
  · (repeat (first | refine WO.run tabOk rfl rfl ?_ | refine WO.nil ?_ | refine WO.skip rfl rfl rfl ?_ | refine WO.pu tabOk rfl rfl rfl rfl ?_ | refine W.seq ?_ | refine W.region ?_ | refine W.block ?_ | refine W.skip ?_ | refine W.exit ?_))
    refine W.ret (ret1 Try.results41 rfl ⟨_, rfl, fin H.pure (by decide) fun hv => ?_⟩)
    have := hv.hi; simp [pickV] at g2; omega
  simp [pickV] at g2
  simp at g1
  (repeat (first | refine WO.run tabOk rfl rfl ?_ | refine WO.nil ?_ | refine WO.skip rfl rfl rfl ?_ | refine WO.pu tabOk rfl rfl rfl rfl ?_ | refine W.seq ?_ | refine W.region ?_ | refine W.block ?_ | refine W.skip ?_ | refine W.exit ?_))
  refine W.cond rfl (fun g3 => ?_) (fun g3 => ?_)
  · (repeat (first | refine WO.run tabOk rfl rfl ?_ | refine WO.nil ?_ | refine WO.skip rfl rfl rfl ?_ | refine WO.pu tabOk rfl rfl rfl rfl ?_ | refine W.seq ?_ | refine W.region ?_ | refine W.block ?_ | refine W.skip ?_ | refine W.exit ?_))
    refine W.ret (ret1 Try.results41 rfl ⟨_, rfl, fin H.pure (by decide) fun hv => ?_⟩)
    have := hv.len; simp at g3; omega
  simp at g3
  (repeat (first | refine WO.run tabOk rfl rfl ?_ | refine WO.nil ?_ | refine WO.skip rfl rfl rfl ?_ | refine WO.pu tabOk rfl rfl rfl rfl ?_ | refine W.seq ?_ | refine W.region ?_ | refine W.block ?_ | refine W.skip ?_ | refine W.exit ?_))
  refine W.loopS [0, 16, 17, 18] (fun i : Nat => [(0, .int .i64 n), (16, .slice a E.length c), (17, .int .i64 E.length), (18, .int .i64 i)])
    (fun i w' => i ≤ E.length ∧ (∀ j x, j < i → E[j]? = some x → 0 ≤ x.1 ∧ x.1 < n ∧ 0 ≤ x.2 ∧ x.2 < n) ∧ St (at0 w) w' [] [rd edgeR a c E]) (fun i => E.length - i) 0 rfl ⟨Nat.zero_le _, fun j x hj => (by omega), H⟩ ?_
  clear H
  rintro i w3 ⟨hi, hok, H⟩
  (repeat (first | refine WO.run tabOk rfl rfl ?_ | refine WO.nil ?_ | refine WO.skip rfl rfl rfl ?_ | refine WO.pu tabOk rfl rfl rfl rfl ?_ | refine W.seq ?_ | refine W.region ?_ | refine W.block ?_ | refine W.skip ?_ | refine W.exit ?_))
  refine W.cond rfl (fun hlt => ?_) (fun hge => ?_)
  · have hlt : i < E.length := by simpa using hlt
    obtain ⟨b, o, rfl⟩ := hH.addr (by omega)
    (repeat (first | refine WO.run tabOk rfl rfl ?_ | refine WO.nil ?_ | refine WO.skip rfl rfl rfl ?_ | refine WO.pu tabOk rfl rfl rfl rfl ?_ | refine W.seq ?_ | refine W.region ?_ | refine W.block ?_ | refine W.skip ?_ | refine W.exit ?_))
    refine WO.pv rfl rfl rfl (PureV.idxN tabOk rfl rfl rfl rfl rfl rfl (by omega)) ?_
    have hx := List.getElem?_eq_getElem hlt
    generalize E[i] = x at hx
    have hm : x ∈ E := List.mem_of_getElem? hx
    refine WO.one rfl rfl rfl (OpW.elemA (i := i) tabOk rfl rfl rfl rfl (hH.pure H.pure) hx rfl rfl ?_)
    refine WO.one rfl rfl rfl (OpW.alloc rfl zero71 rfl H ?_); intro b4 w4 H4
    refine WO.act rfl rfl (OpW.storeA (i := 0) tabOk rfl rfl rfl rfl H4 rfl rfl rfl rfl rfl ?_); intro w5 H5
    (repeat (first | refine WO.run tabOk rfl rfl ?_ | refine WO.nil ?_ | refine WO.skip rfl rfl rfl ?_ | refine WO.pu tabOk rfl rfl rfl rfl ?_ | refine W.seq ?_ | refine W.region ?_ | refine W.block ?_ | refine W.skip ?_ | refine W.exit ?_ | refine WO.one rfl rfl rfl (OpW.load1 tabOk rfl rfl rfl rfl H5 (by (repeat (first | exact .head _ | refine .tail _ ?_))) rfl ?_)))
    have bad : ∀ {Q : Prop}, (GOk n E → 0 ≤ x.1 ∧ x.1 < n ∧ 0 ≤ x.2 ∧ x.2 < n) := fun {_} hv => hv.ok x hm
    refine WO.caseG rfl rfl (fun g1 => ?_) (fun g1 => ?_)
    · (repeat (first | refine WO.run tabOk rfl rfl ?_ | refine WO.nil ?_ | refine WO.skip rfl rfl rfl ?_ | refine WO.pu tabOk rfl rfl rfl rfl ?_ | refine W.seq ?_ | refine W.region ?_ | refine W.block ?_ | refine W.skip ?_ | refine W.exit ?_ | refine WO.one rfl rfl rfl (OpW.load1 tabOk rfl rfl rfl rfl H5 (by (repeat (first | exact .head _ | refine .tail _ ?_))) rfl ?_)))
      refine W.cond_t rfl ?_
      (repeat (first | refine WO.run tabOk rfl rfl ?_ | refine WO.nil ?_ | refine WO.skip rfl rfl rfl ?_ | refine WO.pu tabOk rfl rfl rfl rfl ?_ | refine W.seq ?_ | refine W.region ?_ | refine W.block ?_ | refine W.skip ?_ | refine W.exit ?_))
      refine W.ret (ret1 Try.results41 rfl ⟨_, rfl, fin H5.pure (by decide) fun hv => ?_⟩)
      have := hv.ok x hm; simp at g1; omega
    (repeat (first | refine WO.run tabOk rfl rfl ?_ | refine WO.nil ?_ | refine WO.skip rfl rfl rfl ?_ | refine WO.pu tabOk rfl rfl rfl rfl ?_ | refine W.seq ?_ | refine W.region ?_ | refine W.block ?_ | refine W.skip ?_ | refine W.exit ?_ | refine WO.one rfl rfl rfl (OpW.load1 tabOk rfl rfl rfl rfl H5 (by (repeat (first | exact .head _ | refine .tail _ ?_))) rfl ?_)))
    refine WO.tell (d := 31) (u := .bool (decide (x.1 ≥ n))) rfl (by simp [pickV]) ?_
    refine WO.caseG rfl rfl (fun g2 => ?_) (fun g2 => ?_)
    · (repeat (first | refine WO.run tabOk rfl rfl ?_ | refine WO.nil ?_ | refine WO.skip rfl rfl rfl ?_ | refine WO.pu tabOk rfl rfl rfl rfl ?_ | refine W.seq ?_ | refine W.region ?_ | refine W.block ?_ | refine W.skip ?_ | refine W.exit ?_ | refine WO.one rfl rfl rfl (OpW.load1 tabOk rfl rfl rfl rfl H5 (by (repeat (first | exact .head _ | refine .tail _ ?_))) rfl ?_)))
      refine W.cond_t rfl ?_
      (repeat (first | refine WO.run tabOk rfl rfl ?_ | refine WO.nil ?_ | refine WO.skip rfl rfl rfl ?_ | refine WO.pu tabOk rfl rfl rfl rfl ?_ | refine W.seq ?_ | refine W.region ?_ | refine W.block ?_ | refine W.skip ?_ | refine W.exit ?_))
      refine W.ret (ret1 Try.results41 rfl ⟨_, rfl, fin H5.pure (by decide) fun hv => ?_⟩)
      have := hv.ok x hm; simp at g2; omega
    (repeat (first | refine WO.run tabOk rfl rfl ?_ | refine WO.nil ?_ | refine WO.skip rfl rfl rfl ?_ | refine WO.pu tabOk rfl rfl rfl rfl ?_ | refine W.seq ?_ | refine W.region ?_ | refine W.block ?_ | refine W.skip ?_ | refine W.exit ?_ | refine WO.one rfl rfl rfl (OpW.load1 tabOk rfl rfl rfl rfl H5 (by (repeat (first | exact .head _ | refine .tail _ ?_))) rfl ?_)))
    refine WO.tell (d := 36) (u := .bool (decide (x.2 < 0))) rfl (by simp [pickV]) ?_
    refine WO.caseG rfl rfl (fun g3 => ?_) (fun g3 => ?_)
    · (repeat (first | refine WO.run tabOk rfl rfl ?_ | refine WO.nil ?_ | refine WO.skip rfl rfl rfl ?_ | refine WO.pu tabOk rfl rfl rfl rfl ?_ | refine W.seq ?_ | refine W.region ?_ | refine W.block ?_ | refine W.skip ?_ | refine W.exit ?_ | refine WO.one rfl rfl rfl (OpW.load1 tabOk rfl rfl rfl rfl H5 (by (repeat (first | exact .head _ | refine .tail _ ?_))) rfl ?_)))
      refine W.cond_t rfl ?_
      (repeat (first | refine WO.run tabOk rfl rfl ?_ | refine WO.nil ?_ | refine WO.skip rfl rfl rfl ?_ | refine WO.pu tabOk rfl rfl rfl rfl ?_ | refine W.seq ?_ | refine W.region ?_ | refine W.block ?_ | refine W.skip ?_ | refine W.exit ?_))
      refine W.ret (ret1 Try.results41 rfl ⟨_, rfl, fin H5.pure (by decide) fun hv => ?_⟩)
      have := hv.ok x hm; simp at g3; omega
    (repeat (first | refine WO.run tabOk rfl rfl ?_ | refine WO.nil ?_ | refine WO.skip rfl rfl rfl ?_ | refine WO.pu tabOk rfl rfl rfl rfl ?_ | refine W.seq ?_ | refine W.region ?_ | refine W.block ?_ | refine W.skip ?_ | refine W.exit ?_ | refine WO.one rfl rfl rfl (OpW.load1 tabOk rfl rfl rfl rfl H5 (by (repeat (first | exact .head _ | refine .tail _ ?_))) rfl ?_)))
    refine W.cond rfl (fun g4 => ?_) (fun g4 => ?_)
    · (repeat (first | refine WO.run tabOk rfl rfl ?_ | refine WO.nil ?_ | refine WO.skip rfl rfl rfl ?_ | refine WO.pu tabOk rfl rfl rfl rfl ?_ | refine W.seq ?_ | refine W.region ?_ | refine W.block ?_ | refine W.skip ?_ | refine W.exit ?_))
      refine W.ret (ret1 Try.results41 rfl ⟨_, rfl, fin H5.pure (by decide) fun hv => ?_⟩)
      have := hv.ok x hm; simp [pickV] at g4; omega
    simp at g1 g2 g3
    simp [pickV] at g4
    have hle := hH.le
    simp only [maxLen] at hle
    (repeat (first | refine WO.run tabOk rfl rfl ?_ | refine WO.nil ?_ | refine WO.skip rfl rfl rfl ?_ | refine WO.pu tabOk rfl rfl rfl rfl ?_ | refine W.seq ?_ | refine W.region ?_ | refine W.block ?_ | refine W.skip ?_ | refine W.exit ?_))
    refine WO.pv rfl rfl rfl (PureV.addN (n := i) rfl rfl rfl (by omega)) ?_
    (repeat (first | refine WO.run tabOk rfl rfl ?_ | refine WO.nil ?_ | refine WO.skip rfl rfl rfl ?_ | refine WO.pu tabOk rfl rfl rfl rfl ?_ | refine W.seq ?_ | refine W.region ?_ | refine W.block ?_ | refine W.skip ?_ | refine W.exit ?_))
    refine ⟨i + 1, rfl, ⟨by omega, fun j y hj hy => ?_, H5.drop⟩, by omega⟩
    rcases Nat.lt_succ_iff_lt_or_eq.1 hj with h | rfl
    · exact hok j y h hy
    · rw [hx] at hy; cases hy; omega
  · simp at hge
    (repeat (first | refine WO.run tabOk rfl rfl ?_ | refine WO.nil ?_ | refine WO.skip rfl rfl rfl ?_ | refine WO.pu tabOk rfl rfl rfl rfl ?_ | refine W.seq ?_ | refine W.region ?_ | refine W.block ?_ | refine W.skip ?_ | refine W.exit ?_))
    refine W.ret (ret1 Try.results41 rfl ⟨_, rfl, H.pure, _, rfl, ?_⟩)
    refine ⟨fun _ => ⟨by omega, by omega, by omega, fun x hx => ?_⟩, fun _ => rfl⟩
    obtain ⟨j, hj, rfl⟩ := List.mem_iff_getElem.1 hx
    exact hok j _ (by omega) (List.getElem?_eq_getElem hj)
end Go.Proofs.Ytpenbdpgpamcbaa
