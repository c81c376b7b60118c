/- two: the law TwoOwn. Conditions: each fact's own premises. -/
import Derived.Test.YtpenbdpgpamcbaaTwoJ
set_option linter.unusedVariables false
set_option linter.unusedSimpArgs false
set_option maxRecDepth 20000
namespace Go.Proofs.Ytpenbdpgpamcbaa
open Go Gw
attribute [local irreducible] W WO WD

theorem eqAct (x y : Act) (w : World) : (Op.equalIn 10000 44 (.agg (encA x).toArray) (.agg (encA y).toArray)).run Try.prog w = .ok (decide (x = y)) w := by
  have u3 := Try.underlying3
  have a3 := Try.isAgg3
  have z3 := Try.sizeOf3
  have hS : Try.prog.underlying 44 = some (.struct (Try.prog.fieldsOf 44)) := by kernel_rfl
  have hp : Try.prog.stoodInHeld 44 = false := by kernel_rfl
  obtain ⟨x1, x2, x3⟩ := x
  obtain ⟨y1, y2, y3⟩ := y
  simp only [encA]
  rw [show (10000 : Nat) = 9999 + 1 from rfl, run_equalIn_agg w 9999 44 _ _ hS hp]
  simp only [Program.fieldsOf, Try.underlying44]
  go_simp
  by_cases h1 : x1 = y1 <;> by_cases h2 : x2 = y2 <;> by_cases h3 : x3 = y3 <;> simp [h1, h2, h3]
theorem equalA_ok (w : World) (a1 a2 : Option Addr) (c1 c2 : Nat) (xs ys : List Act) (h1 : Holds w (rd actR a1 c1 xs)) (h2 : Holds w (rd actR a2 c2 ys)) :
    Calls Try.prog 19 #[.slice a1 xs.length c1, .slice a2 ys.length c2] w (Ret fun v w' => Pure w w' ∧ v = .bool (decide (xs = ys))) := by
  refine calls_W (args := [_, _]) Try.func19 rfl Try.ntmps19 rfl ?_
  (repeat (first | refine WO.run tabOk rfl rfl ?_ | refine WO.nil ?_ | refine WO.skip rfl rfl rfl ?_ | refine WO.pu tabOk rfl rfl rfl rfl ?_ | refine W.seq ?_ | refine W.region ?_ | refine W.block ?_ | refine W.skip ?_ | refine W.exit ?_))
  refine W.cond rfl (fun hl => ?_) (fun hl => ?_)
  · (repeat (first | refine WO.run tabOk rfl rfl ?_ | refine WO.nil ?_ | refine WO.skip rfl rfl rfl ?_ | refine WO.pu tabOk rfl rfl rfl rfl ?_ | refine W.seq ?_ | refine W.region ?_ | refine W.block ?_ | refine W.skip ?_ | refine W.exit ?_))
    refine W.ret (ret1 Try.results19 rfl ⟨_, rfl, Pure.refl w, ?_⟩)
    simp at hl
    have : xs ≠ ys := fun e => hl (by rw [e])
    simp [this]
  have hl : xs.length = ys.length := by simp at hl; omega
  (repeat (first | refine WO.run tabOk rfl rfl ?_ | refine WO.nil ?_ | refine WO.skip rfl rfl rfl ?_ | refine WO.pu tabOk rfl rfl rfl rfl ?_ | refine W.seq ?_ | refine W.region ?_ | refine W.block ?_ | refine W.skip ?_ | refine W.exit ?_))
  refine W.loopS [0, 1, 12, 13] (fun i : Nat => [(0, .slice a1 xs.length c1), (1, .slice a2 ys.length c2), (12, .int .i64 xs.length), (13, .int .i64 i)])
    (fun i w' => i ≤ xs.length ∧ (∀ j, j < i → xs[j]? = ys[j]?) ∧ Pure w w') (fun i => xs.length - i) 0 rfl ⟨Nat.zero_le _, fun j hj => (by omega), Pure.refl w⟩ ?_
  rintro i w1 ⟨hi, hno, hp⟩
  have hle := h1.le
  simp only [maxLen] at hle
  (repeat (first | refine WO.run tabOk rfl rfl ?_ | refine WO.nil ?_ | refine WO.skip rfl rfl rfl ?_ | refine WO.pu tabOk rfl rfl rfl rfl ?_ | refine W.seq ?_ | refine W.region ?_ | refine W.block ?_ | refine W.skip ?_ | refine W.exit ?_))
  refine W.cond rfl (fun hlt => ?_) (fun hge => ?_)
  · have hlt : i < xs.length := by simpa using hlt
    obtain ⟨b1, o1, rfl⟩ := h1.addr (by omega)
    obtain ⟨b2, o2, rfl⟩ := h2.addr (by omega)
    (repeat (first | refine WO.run tabOk rfl rfl ?_ | refine WO.nil ?_ | refine WO.skip rfl rfl rfl ?_ | refine WO.pu tabOk rfl rfl rfl rfl ?_ | refine W.seq ?_ | refine W.region ?_ | refine W.block ?_ | refine W.skip ?_ | refine W.exit ?_))
    refine W.regionD [3, 7] (HA [rd actR (some ⟨b1, o1, none⟩) c1 xs, rd actR (some ⟨b2, o2, none⟩) c2 ys]) [0, 1, 2, 3, 4, 5, 6, 7, 8] rfl (by kernel_rfl) (fun _ _ _ h => h) ?_
    have hp1 := hp.trans (Pure.drew w1)
    have hA : HA [rd actR (some ⟨b1, o1, none⟩) c1 xs, rd actR (some ⟨b2, o2, none⟩) c2 ys] w1.drew := HA.cons (h1.pure hp1) (HA.cons (h2.pure hp1) (HA.nil _))
    have hx := List.getElem?_eq_getElem hlt
    have hy := List.getElem?_eq_getElem (l := ys) (i := i) (by omega)
    generalize xs[i] = x at hx
    generalize ys[i] = y at hy
    (repeat (first | refine WD.run tabOk rfl rfl ?_ | refine WD.hv rfl rfl rfl rfl rfl hA (HeldV.load1 tabOk rfl rfl rfl rfl (by (repeat (first | exact .head _ | refine .tail _ ?_))) rfl) ?_ | refine WD.hv rfl rfl rfl rfl rfl hA (HeldV.loadA tabOk rfl rfl rfl rfl (by (repeat (first | exact .head _ | refine .tail _ ?_))) rfl rfl) ?_ | refine WD.pu tabOk rfl rfl rfl rfl rfl rfl ?_))
    refine WD.pv rfl rfl rfl rfl rfl (PureV.idxN tabOk rfl rfl rfl rfl rfl rfl (by omega)) ?_
    (repeat (first | refine WD.run tabOk rfl rfl ?_ | refine WD.hv rfl rfl rfl rfl rfl hA (HeldV.load1 tabOk rfl rfl rfl rfl (by (repeat (first | exact .head _ | refine .tail _ ?_))) rfl) ?_ | refine WD.hv rfl rfl rfl rfl rfl hA (HeldV.loadA tabOk rfl rfl rfl rfl (by (repeat (first | exact .head _ | refine .tail _ ?_))) rfl rfl) ?_ | refine WD.pu tabOk rfl rfl rfl rfl rfl rfl ?_))
    refine WD.hv rfl rfl rfl rfl rfl hA (HeldV.elemA (i := i) tabOk rfl rfl rfl rfl (.head _) hx rfl rfl) ?_
    (repeat (first | refine WD.run tabOk rfl rfl ?_ | refine WD.hv rfl rfl rfl rfl rfl hA (HeldV.load1 tabOk rfl rfl rfl rfl (by (repeat (first | exact .head _ | refine .tail _ ?_))) rfl) ?_ | refine WD.hv rfl rfl rfl rfl rfl hA (HeldV.loadA tabOk rfl rfl rfl rfl (by (repeat (first | exact .head _ | refine .tail _ ?_))) rfl rfl) ?_ | refine WD.pu tabOk rfl rfl rfl rfl rfl rfl ?_))
    refine WD.pv rfl rfl rfl rfl rfl (PureV.idxN tabOk rfl rfl rfl rfl rfl rfl (by omega)) ?_
    (repeat (first | refine WD.run tabOk rfl rfl ?_ | refine WD.hv rfl rfl rfl rfl rfl hA (HeldV.load1 tabOk rfl rfl rfl rfl (by (repeat (first | exact .head _ | refine .tail _ ?_))) rfl) ?_ | refine WD.hv rfl rfl rfl rfl rfl hA (HeldV.loadA tabOk rfl rfl rfl rfl (by (repeat (first | exact .head _ | refine .tail _ ?_))) rfl rfl) ?_ | refine WD.pu tabOk rfl rfl rfl rfl rfl rfl ?_))
    refine WD.hv rfl rfl rfl rfl rfl hA (HeldV.elemA (i := i) tabOk rfl rfl rfl rfl (.tail _ (.head _)) hy rfl rfl) ?_
    (repeat (first | refine WD.run tabOk rfl rfl ?_ | refine WD.hv rfl rfl rfl rfl rfl hA (HeldV.load1 tabOk rfl rfl rfl rfl (by (repeat (first | exact .head _ | refine .tail _ ?_))) rfl) ?_ | refine WD.hv rfl rfl rfl rfl rfl hA (HeldV.loadA tabOk rfl rfl rfl rfl (by (repeat (first | exact .head _ | refine .tail _ ?_))) rfl rfl) ?_ | refine WD.pu tabOk rfl rfl rfl rfl rfl rfl ?_))
    refine WD.pv rfl rfl rfl rfl rfl (PureV.neA rfl rfl rfl (by kernel_rfl) (eqAct x y)) ?_
    (repeat (first | refine WD.run tabOk rfl rfl ?_ | refine WD.nil ?_))
    refine W.cond rfl (fun he => ?_) (fun he => ?_)
    · (repeat (first | refine WO.run tabOk rfl rfl ?_ | refine WO.nil ?_ | refine WO.skip rfl rfl rfl ?_ | refine WO.pu tabOk rfl rfl rfl rfl ?_ | refine W.seq ?_ | refine W.region ?_ | refine W.block ?_ | refine W.skip ?_ | refine W.exit ?_))
      refine W.ret (ret1 Try.results19 rfl ⟨_, rfl, hp1, ?_⟩)
      have : xs ≠ ys := fun e => by
        subst e
        rw [hx] at hy; cases hy
        simp at he
      simp [this]
    · (repeat (first | refine WO.run tabOk rfl rfl ?_ | refine WO.nil ?_ | refine WO.skip rfl rfl rfl ?_ | refine WO.pu tabOk rfl rfl rfl rfl ?_ | refine W.seq ?_ | refine W.region ?_ | refine W.block ?_ | refine W.skip ?_ | refine W.exit ?_))
      refine WO.pv rfl rfl rfl (PureV.addN rfl rfl rfl (by omega)) ?_
      (repeat (first | refine WO.run tabOk rfl rfl ?_ | refine WO.nil ?_ | refine WO.skip rfl rfl rfl ?_ | refine WO.pu tabOk rfl rfl rfl rfl ?_ | refine W.seq ?_ | refine W.region ?_ | refine W.block ?_ | refine W.skip ?_ | refine W.exit ?_))
      refine ⟨i + 1, rfl, ⟨by omega, ?_, hp1⟩, by omega⟩
      intro j hj
      rcases Nat.lt_succ_iff_lt_or_eq.1 hj with h | rfl
      · exact hno j h
      · rw [hx, hy]
        simp at he
        first | rw [he] | exact congrArg some (by omega)
  · simp at hge
    (repeat (first | refine WO.run tabOk rfl rfl ?_ | refine WO.nil ?_ | refine WO.skip rfl rfl rfl ?_ | refine WO.pu tabOk rfl rfl rfl rfl ?_ | refine W.seq ?_ | refine W.region ?_ | refine W.block ?_ | refine W.skip ?_ | refine W.exit ?_))
    refine W.ret (ret1 Try.results19 rfl ⟨_, rfl, hp, ?_⟩)
    have : xs = ys := List.ext_getElem? fun j => by
      rcases Nat.lt_or_ge j i with h | h
      · exact hno j h
      · rw [List.getElem?_eq_none (by omega), List.getElem?_eq_none (by omega)]
    simp [this]

theorem equalI_ok (w : World) (a1 a2 : Option Addr) (c1 c2 : Nat) (xs ys : List Int) (h1 : Holds w (rd i64 a1 c1 xs)) (h2 : Holds w (rd i64 a2 c2 ys)) :
    Calls Try.prog 9 #[.slice a1 xs.length c1, .slice a2 ys.length c2] w (Ret fun v w' => Pure w w' ∧ v = .bool (decide (xs = ys))) := by
  refine calls_W (args := [_, _]) Try.func9 rfl Try.ntmps9 rfl ?_
  (repeat (first | refine WO.run tabOk rfl rfl ?_ | refine WO.nil ?_ | refine WO.skip rfl rfl rfl ?_ | refine WO.pu tabOk rfl rfl rfl rfl ?_ | refine W.seq ?_ | refine W.region ?_ | refine W.block ?_ | refine W.skip ?_ | refine W.exit ?_))
  refine W.cond rfl (fun hl => ?_) (fun hl => ?_)
  · (repeat (first | refine WO.run tabOk rfl rfl ?_ | refine WO.nil ?_ | refine WO.skip rfl rfl rfl ?_ | refine WO.pu tabOk rfl rfl rfl rfl ?_ | refine W.seq ?_ | refine W.region ?_ | refine W.block ?_ | refine W.skip ?_ | refine W.exit ?_))
    refine W.ret (ret1 Try.results9 rfl ⟨_, rfl, Pure.refl w, ?_⟩)
    simp at hl
    have : xs ≠ ys := fun e => hl (by rw [e])
    simp [this]
  have hl : xs.length = ys.length := by simp at hl; omega
  (repeat (first | refine WO.run tabOk rfl rfl ?_ | refine WO.nil ?_ | refine WO.skip rfl rfl rfl ?_ | refine WO.pu tabOk rfl rfl rfl rfl ?_ | refine W.seq ?_ | refine W.region ?_ | refine W.block ?_ | refine W.skip ?_ | refine W.exit ?_))
  refine W.loopS [0, 1, 12, 13] (fun i : Nat => [(0, .slice a1 xs.length c1), (1, .slice a2 ys.length c2), (12, .int .i64 xs.length), (13, .int .i64 i)])
    (fun i w' => i ≤ xs.length ∧ (∀ j, j < i → xs[j]? = ys[j]?) ∧ Pure w w') (fun i => xs.length - i) 0 rfl ⟨Nat.zero_le _, fun j hj => (by omega), Pure.refl w⟩ ?_
  rintro i w1 ⟨hi, hno, hp⟩
  have hle := h1.le
  simp only [maxLen] at hle
  (repeat (first | refine WO.run tabOk rfl rfl ?_ | refine WO.nil ?_ | refine WO.skip rfl rfl rfl ?_ | refine WO.pu tabOk rfl rfl rfl rfl ?_ | refine W.seq ?_ | refine W.region ?_ | refine W.block ?_ | refine W.skip ?_ | refine W.exit ?_))
  refine W.cond rfl (fun hlt => ?_) (fun hge => ?_)
  · have hlt : i < xs.length := by simpa using hlt
    obtain ⟨b1, o1, rfl⟩ := h1.addr (by omega)
    obtain ⟨b2, o2, rfl⟩ := h2.addr (by omega)
    (repeat (first | refine WO.run tabOk rfl rfl ?_ | refine WO.nil ?_ | refine WO.skip rfl rfl rfl ?_ | refine WO.pu tabOk rfl rfl rfl rfl ?_ | refine W.seq ?_ | refine W.region ?_ | refine W.block ?_ | refine W.skip ?_ | refine W.exit ?_))
    refine W.regionD [3, 7] (HA [rd i64 (some ⟨b1, o1, none⟩) c1 xs, rd i64 (some ⟨b2, o2, none⟩) c2 ys]) [0, 1, 2, 3, 4, 5, 6, 7, 8] rfl (by kernel_rfl) (fun _ _ _ h => h) ?_
    have hp1 := hp.trans (Pure.drew w1)
    have hA : HA [rd i64 (some ⟨b1, o1, none⟩) c1 xs, rd i64 (some ⟨b2, o2, none⟩) c2 ys] w1.drew := HA.cons (h1.pure hp1) (HA.cons (h2.pure hp1) (HA.nil _))
    have hx := List.getElem?_eq_getElem hlt
    have hy := List.getElem?_eq_getElem (l := ys) (i := i) (by omega)
    generalize xs[i] = x at hx
    generalize ys[i] = y at hy
    (repeat (first | refine WD.run tabOk rfl rfl ?_ | refine WD.hv rfl rfl rfl rfl rfl hA (HeldV.load1 tabOk rfl rfl rfl rfl (by (repeat (first | exact .head _ | refine .tail _ ?_))) rfl) ?_ | refine WD.hv rfl rfl rfl rfl rfl hA (HeldV.loadA tabOk rfl rfl rfl rfl (by (repeat (first | exact .head _ | refine .tail _ ?_))) rfl rfl) ?_ | refine WD.pu tabOk rfl rfl rfl rfl rfl rfl ?_))
    refine WD.pv rfl rfl rfl rfl rfl (PureV.idxN tabOk rfl rfl rfl rfl rfl rfl (by omega)) ?_
    (repeat (first | refine WD.run tabOk rfl rfl ?_ | refine WD.hv rfl rfl rfl rfl rfl hA (HeldV.load1 tabOk rfl rfl rfl rfl (by (repeat (first | exact .head _ | refine .tail _ ?_))) rfl) ?_ | refine WD.hv rfl rfl rfl rfl rfl hA (HeldV.loadA tabOk rfl rfl rfl rfl (by (repeat (first | exact .head _ | refine .tail _ ?_))) rfl rfl) ?_ | refine WD.pu tabOk rfl rfl rfl rfl rfl rfl ?_))
    refine WD.hv rfl rfl rfl rfl rfl hA (HeldV.elem1 (j := 0) (i := i) tabOk rfl rfl rfl rfl (.head _) hx rfl rfl) ?_
    (repeat (first | refine WD.run tabOk rfl rfl ?_ | refine WD.hv rfl rfl rfl rfl rfl hA (HeldV.load1 tabOk rfl rfl rfl rfl (by (repeat (first | exact .head _ | refine .tail _ ?_))) rfl) ?_ | refine WD.hv rfl rfl rfl rfl rfl hA (HeldV.loadA tabOk rfl rfl rfl rfl (by (repeat (first | exact .head _ | refine .tail _ ?_))) rfl rfl) ?_ | refine WD.pu tabOk rfl rfl rfl rfl rfl rfl ?_))
    refine WD.pv rfl rfl rfl rfl rfl (PureV.idxN tabOk rfl rfl rfl rfl rfl rfl (by omega)) ?_
    (repeat (first | refine WD.run tabOk rfl rfl ?_ | refine WD.hv rfl rfl rfl rfl rfl hA (HeldV.load1 tabOk rfl rfl rfl rfl (by (repeat (first | exact .head _ | refine .tail _ ?_))) rfl) ?_ | refine WD.hv rfl rfl rfl rfl rfl hA (HeldV.loadA tabOk rfl rfl rfl rfl (by (repeat (first | exact .head _ | refine .tail _ ?_))) rfl rfl) ?_ | refine WD.pu tabOk rfl rfl rfl rfl rfl rfl ?_))
    refine WD.hv rfl rfl rfl rfl rfl hA (HeldV.elem1 (j := 0) (i := i) tabOk rfl rfl rfl rfl (.tail _ (.head _)) hy rfl rfl) ?_
    (repeat (first | refine WD.run tabOk rfl rfl ?_ | refine WD.hv rfl rfl rfl rfl rfl hA (HeldV.load1 tabOk rfl rfl rfl rfl (by (repeat (first | exact .head _ | refine .tail _ ?_))) rfl) ?_ | refine WD.hv rfl rfl rfl rfl rfl hA (HeldV.loadA tabOk rfl rfl rfl rfl (by (repeat (first | exact .head _ | refine .tail _ ?_))) rfl rfl) ?_ | refine WD.pu tabOk rfl rfl rfl rfl rfl rfl ?_))
    skip
    (repeat (first | refine WD.run tabOk rfl rfl ?_ | refine WD.nil ?_))
    refine W.cond rfl (fun he => ?_) (fun he => ?_)
    · (repeat (first | refine WO.run tabOk rfl rfl ?_ | refine WO.nil ?_ | refine WO.skip rfl rfl rfl ?_ | refine WO.pu tabOk rfl rfl rfl rfl ?_ | refine W.seq ?_ | refine W.region ?_ | refine W.block ?_ | refine W.skip ?_ | refine W.exit ?_))
      refine W.ret (ret1 Try.results9 rfl ⟨_, rfl, hp1, ?_⟩)
      have : xs ≠ ys := fun e => by
        subst e
        rw [hx] at hy; cases hy
        simp at he
      simp [this]
    · (repeat (first | refine WO.run tabOk rfl rfl ?_ | refine WO.nil ?_ | refine WO.skip rfl rfl rfl ?_ | refine WO.pu tabOk rfl rfl rfl rfl ?_ | refine W.seq ?_ | refine W.region ?_ | refine W.block ?_ | refine W.skip ?_ | refine W.exit ?_))
      refine WO.pv rfl rfl rfl (PureV.addN rfl rfl rfl (by omega)) ?_
      (repeat (first | refine WO.run tabOk rfl rfl ?_ | refine WO.nil ?_ | refine WO.skip rfl rfl rfl ?_ | refine WO.pu tabOk rfl rfl rfl rfl ?_ | refine W.seq ?_ | refine W.region ?_ | refine W.block ?_ | refine W.skip ?_ | refine W.exit ?_))
      refine ⟨i + 1, rfl, ⟨by omega, ?_, hp1⟩, by omega⟩
      intro j hj
      rcases Nat.lt_succ_iff_lt_or_eq.1 hj with h | rfl
      · exact hno j h
      · rw [hx, hy]
        simp at he
        first | rw [he] | exact congrArg some (by omega)
  · simp at hge
    (repeat (first | refine WO.run tabOk rfl rfl ?_ | refine WO.nil ?_ | refine WO.skip rfl rfl rfl ?_ | refine WO.pu tabOk rfl rfl rfl rfl ?_ | refine W.seq ?_ | refine W.region ?_ | refine W.block ?_ | refine W.skip ?_ | refine W.exit ?_))
    refine W.ret (ret1 Try.results9 rfl ⟨_, rfl, hp, ?_⟩)
    have : xs = ys := List.ext_getElem? fun j => by
      rcases Nat.lt_or_ge j i with h | h
      · exact hno j h
      · rw [List.getElem?_eq_none (by omega), List.getElem?_eq_none (by omega)]
    simp [this]


theorem mem_deadF {s : TwoS} {u : Nat} (hu : u < 12) : (u : Int) ∈ deadF s 12 ↔ s.dd (u : Int) = true := by
  simp only [deadF, upTo, List.mem_filter, List.mem_map, List.mem_range]
  exact ⟨fun h => h.2, fun h => ⟨⟨u, hu, rfl⟩, h⟩⟩
theorem mem_lateF {s : TwoS} {u : Nat} (hu : u < 12) : (u : Int) ∈ lateF s 12 ↔ s.lt (u : Int) ≠ [] := by
  simp only [lateF, upTo, List.mem_filter, List.mem_map, List.mem_range, decide_eq_true_eq]
  rw [List.length_pos_iff]
  exact ⟨fun h => h.2, fun h => ⟨⟨u, hu, rfl⟩, h⟩⟩
theorem exOwn_chk : chkF exOwn = 0 := by decide

theorem twoOwn_ok (w : World) (a : Option Addr) (c : Nat) (l : List Act) (hH : Holds w (rd actR a c l)) :
    Calls Try.prog 6 #[.slice a l.length c] w (Ret fun v w' => Pure w w' ∧ v = .bool true) := by
  refine calls_W (args := [_]) Try.func6 rfl Try.ntmps6 rfl ?_
  have H := St.start [] (w := w) (by simp)
  (repeat (first | refine WO.run tabOk rfl rfl ?_ | refine WO.nil ?_ | refine WO.skip rfl rfl rfl ?_ | refine WO.pu tabOk rfl rfl rfl rfl ?_ | refine W.seq ?_ | refine W.region ?_ | refine W.block ?_ | refine W.skip ?_ | refine W.exit ?_))
  refine WO.one rfl rfl rfl (OpW.call rfl Try.call12 rfl (Calls.ret (op_ok _ 0 2 1) ?_))
  rintro _ w1 ⟨hp1, rfl⟩
  (repeat (first | refine WO.run tabOk rfl rfl ?_ | refine WO.nil ?_ | refine WO.skip rfl rfl rfl ?_ | refine WO.pu tabOk rfl rfl rfl rfl ?_ | refine W.seq ?_ | refine W.region ?_ | refine W.block ?_ | refine W.skip ?_ | refine W.exit ?_))
  refine WO.one rfl rfl rfl (OpW.call rfl Try.call12 rfl (Calls.ret (op_ok _ 1 2 2) ?_))
  rintro _ w2 ⟨hp2, rfl⟩
  (repeat (first | refine WO.run tabOk rfl rfl ?_ | refine WO.nil ?_ | refine WO.skip rfl rfl rfl ?_ | refine WO.pu tabOk rfl rfl rfl rfl ?_ | refine W.seq ?_ | refine W.region ?_ | refine W.block ?_ | refine W.skip ?_ | refine W.exit ?_))
  refine WO.one rfl rfl rfl (OpW.call rfl Try.call12 rfl (Calls.ret (op_ok _ 0 2 2) ?_))
  rintro _ w3 ⟨hp3, rfl⟩
  (repeat (first | refine WO.run tabOk rfl rfl ?_ | refine WO.nil ?_ | refine WO.skip rfl rfl rfl ?_ | refine WO.pu tabOk rfl rfl rfl rfl ?_ | refine W.seq ?_ | refine W.region ?_ | refine W.block ?_ | refine W.skip ?_ | refine W.exit ?_))
  refine WO.one rfl rfl rfl (OpW.call rfl Try.call12 rfl (Calls.ret (op_ok _ 1 2 1) ?_))
  rintro _ w4 ⟨hp4, rfl⟩
  have H4 := (((H.after hp1).after hp2).after hp3).after hp4
  clear H
  (repeat (first | refine WO.run tabOk rfl rfl ?_ | refine WO.nil ?_ | refine WO.skip rfl rfl rfl ?_ | refine WO.pu tabOk rfl rfl rfl rfl ?_ | refine W.seq ?_ | refine W.region ?_ | refine W.block ?_ | refine W.skip ?_ | refine W.exit ?_))
  refine WO.one rfl rfl rfl (OpW.buildSlice tabOk rfl rfl rfl rfl zero44 rfl rfl (l := exOwn.flatMap encA) rfl H4 ?_)
  intro g1 w5 H5
  have hx : Holds w5 (rd actR (some ⟨g1, 0, none⟩) 4 exOwn) := flat_blk (l := exOwn) (H5.holds (A := blk g1 44 (exOwn.flatMap encA)) (.head _)) (by decide)
  have hc : Calls Try.prog 15 #[.slice (some ⟨g1, 0, none⟩) 4 4] w5 (Ret fun v w' => PlayPost w5 w' exOwn v) := play_ok w5 (some ⟨g1, 0, none⟩) 4 exOwn hx
  refine WO.one rfl rfl rfl (OpW.call rfl Try.call15 rfl (Calls.ret hc ?_))
  rintro _ w6 ⟨r, d, t, e, rfl, ⟨he, hek, _⟩ | ⟨rfl, _, z, hz, K⟩⟩
  · exact absurd (hek.trans exOwn_chk) he
  obtain ⟨hzd, hzl⟩ := ex_own hz
  rw [hzd, hzl] at K
  have H6 := H5.take K
  obtain ⟨ra, rc, rfl⟩ := rowForm H6 (v := r) (e := 44) (r := actR) (xs := z.out) (by simp)
  obtain ⟨da, dc, rfl⟩ := rowForm H6 (v := d) (e := 3) (r := i64) (xs := [1]) (by simp)
  obtain ⟨ta, tc, rfl⟩ := rowForm H6 (v := t) (e := 3) (r := i64) (xs := []) (by simp)
  clear K hc hx H5 H4 hz
  (repeat (first | refine WO.run tabOk rfl rfl ?_ | refine WO.nil ?_ | refine WO.skip rfl rfl rfl ?_ | refine WO.pu tabOk rfl rfl rfl rfl ?_ | refine W.seq ?_ | refine W.region ?_ | refine W.block ?_ | refine W.skip ?_ | refine W.exit ?_))
  refine WO.one rfl rfl rfl (OpW.alloc rfl zero55 rfl H6 ?_); intro b3 w7 H7
  refine WO.act rfl rfl (OpW.storeA (i := 0) tabOk rfl rfl rfl rfl H7 rfl rfl rfl rfl rfl ?_); intro w8 H8
  clear H6 H7
  (repeat (first | refine WO.run tabOk rfl rfl ?_ | refine WO.nil ?_ | refine WO.skip rfl rfl rfl ?_ | refine WO.pu tabOk rfl rfl rfl rfl ?_ | refine W.seq ?_ | refine W.region ?_ | refine W.block ?_ | refine W.skip ?_ | refine W.exit ?_ | refine WO.one rfl rfl rfl (OpW.load1 tabOk rfl rfl rfl rfl H8 (by (repeat (first | exact .head _ | refine .tail _ ?_))) rfl ?_)))
  refine WO.one rfl rfl rfl (OpW.buildSlice tabOk rfl rfl rfl rfl zero3 rfl rfl (l := [.int .i64 1]) rfl H8 ?_)
  intro g2 w9 H9
  have hd9 : Holds w9 (rd i64 da dc [1]) := rd_of H9 (e := 3) (by simp)
  have hk9 : Holds w9 (rd i64 (some ⟨g2, 0, none⟩) 1 [1]) := flat_blk (l := [1]) (H9.holds (A := blk g2 3 ([1].flatMap encZ)) (.head _)) (by simp)
  have hc2 : Calls Try.prog 9 #[.slice da 1 dc, .slice (some ⟨g2, 0, none⟩) 1 1] w9 (Ret fun v w' => Pure w9 w' ∧ v = .bool (decide (([1] : List Int) = [1]))) := equalI_ok w9 da (some ⟨g2, 0, none⟩) dc 1 [1] [1] hd9 hk9
  refine WO.one rfl rfl rfl (OpW.call rfl Try.call9 rfl (Calls.ret hc2 ?_))
  rintro _ w10 ⟨hp10, rfl⟩
  have H10 := H9.after hp10
  clear hc2 hd9 hk9 H8 H9
  (repeat (first | refine WO.run tabOk rfl rfl ?_ | refine WO.nil ?_ | refine WO.skip rfl rfl rfl ?_ | refine WO.pu tabOk rfl rfl rfl rfl ?_ | refine W.seq ?_ | refine W.region ?_ | refine W.block ?_ | refine W.skip ?_ | refine W.exit ?_ | refine WO.one rfl rfl rfl (OpW.load1 tabOk rfl rfl rfl rfl H10 (by (repeat (first | exact .head _ | refine .tail _ ?_))) rfl ?_)))
  refine W.cond rfl (fun h => by simp [pickV] at h) (fun _ => ?_)
  have hp := H10.pure
  have hH0 := hH
  have hH := hH.pure hp
  clear H10
  (repeat (first | refine WO.run tabOk rfl rfl ?_ | refine WO.nil ?_ | refine WO.skip rfl rfl rfl ?_ | refine WO.pu tabOk rfl rfl rfl rfl ?_ | refine W.seq ?_ | refine W.region ?_ | refine W.block ?_ | refine W.skip ?_ | refine W.exit ?_))
  refine WO.one rfl rfl rfl (OpW.call rfl Try.call15 rfl (Calls.ret (play_ok w10 a c l hH) ?_))
  rintro _ w11 ⟨r, d, t, e, rfl, hpost⟩
  rcases hpost with ⟨he, hek, rfl, rfl, rfl, hp11⟩ | ⟨rfl, hF, s, hst, K⟩
  · have H11 := (St.start [] (w := w) (by simp)).after (hp.trans hp11)
    (repeat (first | refine WO.run tabOk rfl rfl ?_ | refine WO.nil ?_ | refine WO.skip rfl rfl rfl ?_ | refine WO.pu tabOk rfl rfl rfl rfl ?_ | refine W.seq ?_ | refine W.region ?_ | refine W.block ?_ | refine W.skip ?_ | refine W.exit ?_))
    refine WO.one rfl rfl rfl (OpW.alloc rfl zero55 rfl H11 ?_); intro b5 w12 H12
    refine WO.act rfl rfl (OpW.storeA (i := 0) tabOk rfl rfl rfl rfl H12 rfl rfl rfl rfl rfl ?_); intro w13 H13
    (repeat (first | refine WO.run tabOk rfl rfl ?_ | refine WO.nil ?_ | refine WO.skip rfl rfl rfl ?_ | refine WO.pu tabOk rfl rfl rfl rfl ?_ | refine W.seq ?_ | refine W.region ?_ | refine W.block ?_ | refine W.skip ?_ | refine W.exit ?_))
    refine W.cond rfl (fun _ => ?_) (fun h => by simp at h; exact absurd h he)
    (repeat (first | refine WO.run tabOk rfl rfl ?_ | refine WO.nil ?_ | refine WO.skip rfl rfl rfl ?_ | refine WO.pu tabOk rfl rfl rfl rfl ?_ | refine W.seq ?_ | refine W.region ?_ | refine W.block ?_ | refine W.skip ?_ | refine W.exit ?_))
    refine WO.one rfl rfl rfl (OpW.call rfl Try.call16 rfl (Calls.ret (rcheck_ok w13 a c l (hH0.pure H13.pure)) ?_))
    rintro _ w14 ⟨hp14, rfl⟩
    (repeat (first | refine WO.run tabOk rfl rfl ?_ | refine WO.nil ?_ | refine WO.skip rfl rfl rfl ?_ | refine WO.pu tabOk rfl rfl rfl rfl ?_ | refine W.seq ?_ | refine W.region ?_ | refine W.block ?_ | refine W.skip ?_ | refine W.exit ?_))
    exact W.ret (ret1 Try.results6 rfl ⟨_, rfl, H13.pure.trans hp14, by rw [hek]; simp⟩)
  have hlen : l.length ≤ 200 := by
    apply Classical.byContradiction
    intro hn
    rw [chkF, if_pos (by omega)] at hF; cases hF
  have hL : chkL [] l = 0 := by rw [chkF, if_neg (by omega)] at hF; exact hF
  have hI0 := inv0 (l := l) (fun o ho => ((chkL_ok hL).1 o ho).1) hlen
  obtain ⟨hI, _⟩ := hst.inv hI0
  have hO := hst.own1 hI0 (own1_0 l)
  have hol : s.out.length ≤ 300 := Nat.le_trans (Nat.le_trans (Nat.le_add_right _ _) (Nat.le_add_right _ _)) hI.size
  have H11 := ((St.start [] (w := w) (by simp)).after hp).take K
  obtain ⟨ra, rc, rfl⟩ := rowForm H11 (v := r) (e := 44) (r := actR) (xs := s.out) (by simp)
  obtain ⟨da, dc, rfl⟩ := rowForm H11 (v := d) (e := 3) (r := i64) (xs := deadF s 12) (by simp)
  obtain ⟨ta, tc, rfl⟩ := rowForm H11 (v := t) (e := 3) (r := i64) (xs := lateF s 12) (by simp)
  clear K
  (repeat (first | refine WO.run tabOk rfl rfl ?_ | refine WO.nil ?_ | refine WO.skip rfl rfl rfl ?_ | refine WO.pu tabOk rfl rfl rfl rfl ?_ | refine W.seq ?_ | refine W.region ?_ | refine W.block ?_ | refine W.skip ?_ | refine W.exit ?_))
  refine WO.one rfl rfl rfl (OpW.alloc rfl zero55 rfl H11 ?_); intro b5 w12 H12
  refine WO.act rfl rfl (OpW.storeA (i := 0) tabOk rfl rfl rfl rfl H12 rfl rfl rfl rfl rfl ?_); intro w13 H13
  clear H11 H12
  (repeat (first | refine WO.run tabOk rfl rfl ?_ | refine WO.nil ?_ | refine WO.skip rfl rfl rfl ?_ | refine WO.pu tabOk rfl rfl rfl rfl ?_ | refine W.seq ?_ | refine W.region ?_ | refine W.block ?_ | refine W.skip ?_ | refine W.exit ?_))
  refine W.cond_f rfl ?_
  (repeat (first | refine WO.run tabOk rfl rfl ?_ | refine WO.nil ?_ | refine WO.skip rfl rfl rfl ?_ | refine WO.pu tabOk rfl rfl rfl rfl ?_ | refine W.seq ?_ | refine W.region ?_ | refine W.block ?_ | refine W.skip ?_ | refine W.exit ?_))
  refine W.loopS [0, 5, 48] (fun u : Nat => [(0, .slice a l.length c), (5, .pointer (some ⟨b5, 0, none⟩)), (48, .int .i64 (u : Int))])
    (fun u w' => u ≤ 12 ∧ St (at0 w) w' [blk b5 55 [.slice ra s.out.length rc, .slice da (deadF s 12).length dc, .slice ta (lateF s 12).length tc], row 44 actR (.slice ra s.out.length rc) s.out, row 3 i64 (.slice da (deadF s 12).length dc) (deadF s 12), row 3 i64 (.slice ta (lateF s 12).length tc) (lateF s 12)] []) (fun u => 12 - u) 0 rfl ⟨Nat.zero_le _, H13⟩ ?_
  clear H13
  rintro u w14 ⟨hu, H⟩
  (repeat (first | refine WO.run tabOk rfl rfl ?_ | refine WO.nil ?_ | refine WO.skip rfl rfl rfl ?_ | refine WO.pu tabOk rfl rfl rfl rfl ?_ | refine W.seq ?_ | refine W.region ?_ | refine W.block ?_ | refine W.skip ?_ | refine W.exit ?_))
  refine W.cond rfl (fun hlt => ?_) (fun hge => ?_)
  · have hlt : u < 12 := by simp at hlt; omega
    have hur : 0 ≤ (u : Int) ∧ (u : Int) < 12 := by omega
    (repeat (first | refine WO.run tabOk rfl rfl ?_ | refine WO.nil ?_ | refine WO.skip rfl rfl rfl ?_ | refine WO.pu tabOk rfl rfl rfl rfl ?_ | refine W.seq ?_ | refine W.region ?_ | refine W.block ?_ | refine W.skip ?_ | refine W.exit ?_ | refine WO.one rfl rfl rfl (OpW.load1 tabOk rfl rfl rfl rfl H (by (repeat (first | exact .head _ | refine .tail _ ?_))) rfl ?_)))
    refine WO.one rfl rfl rfl (OpW.call rfl Try.call17 rfl (Calls.ret (own_ok w14 ra rc s.out (u : Int) (rd_of H (e := 44) (by simp)) (by omega)) ?_))
    intro x w15 K15
    have H15 := H.take K15
    obtain ⟨xa, xc, rfl⟩ := rowForm H15 (v := x) (e := 44) (r := actR) (xs := ownL (u : Int) s.out) (by simp)
    clear H K15
    (repeat (first | refine WO.run tabOk rfl rfl ?_ | refine WO.nil ?_ | refine WO.skip rfl rfl rfl ?_ | refine WO.pu tabOk rfl rfl rfl rfl ?_ | refine W.seq ?_ | refine W.region ?_ | refine W.block ?_ | refine W.skip ?_ | refine W.exit ?_))
    refine WO.one rfl rfl rfl (OpW.call rfl Try.call17 rfl (Calls.ret (own_ok w15 a c l (u : Int) (hH0.pure H15.pure) (by omega)) ?_))
    intro y w16 K16
    have H16 := H15.take K16
    obtain ⟨ya, yc, rfl⟩ := rowForm H16 (v := y) (e := 44) (r := actR) (xs := ownL (u : Int) l) (by simp)
    clear H15 K16
    (repeat (first | refine WO.run tabOk rfl rfl ?_ | refine WO.nil ?_ | refine WO.skip rfl rfl rfl ?_ | refine WO.pu tabOk rfl rfl rfl rfl ?_ | refine W.seq ?_ | refine W.region ?_ | refine W.block ?_ | refine W.skip ?_ | refine W.exit ?_))
    have H17 := H16.drew
    have mk : ∀ {w' : World}, St (at0 w) w' [row 44 actR (.slice ya (ownL (u : Int) l).length yc) (ownL (u : Int) l), row 44 actR (.slice xa (ownL (u : Int) s.out).length xc) (ownL (u : Int) s.out), blk b5 55 [.slice ra s.out.length rc, .slice da (deadF s 12).length dc, .slice ta (lateF s 12).length tc], row 44 actR (.slice ra s.out.length rc) s.out, row 3 i64 (.slice da (deadF s 12).length dc) (deadF s 12), row 3 i64 (.slice ta (lateF s 12).length tc) (lateF s 12)] [] →
      HA [blk b5 55 [.slice ra s.out.length rc, .slice da (deadF s 12).length dc, .slice ta (lateF s 12).length tc]] w' := fun H => HA.cons (H.holds (by simp)) (HA.nil _)
    have hA := mk H17
    refine W.regionD [1, 5] (HA [blk b5 55 [.slice ra s.out.length rc, .slice da (deadF s 12).length dc, .slice ta (lateF s 12).length tc]]) [0, 1, 2, 4, 5, 6, 3, 7, 8, 9] rfl (by kernel_rfl) (fun _ _ _ h => h) ?_
    (repeat (first | refine WD.run tabOk rfl rfl ?_ | refine WD.hv rfl rfl rfl rfl rfl hA (HeldV.load1 tabOk rfl rfl rfl rfl (by (repeat (first | exact .head _ | refine .tail _ ?_))) rfl) ?_ | refine WD.hv rfl rfl rfl rfl rfl hA (HeldV.loadA tabOk rfl rfl rfl rfl (by (repeat (first | exact .head _ | refine .tail _ ?_))) rfl rfl) ?_ | refine WD.pu tabOk rfl rfl rfl rfl rfl rfl ?_))
    refine WD.oneS rfl rfl rfl rfl rfl (OpW.call rfl Try.call18 rfl (Calls.ret (hasI_ok _ da dc (deadF s 12) (u : Int) (rd_of H17 (e := 3) (by simp))) ?_))
    rintro _ w18 ⟨hp18, rfl⟩
    have H18 := H17.after hp18
    refine ⟨mk H18, ?_⟩
    (repeat (first | refine WD.run tabOk rfl rfl ?_ | refine WD.hv rfl rfl rfl rfl rfl hA (HeldV.load1 tabOk rfl rfl rfl rfl (by (repeat (first | exact .head _ | refine .tail _ ?_))) rfl) ?_ | refine WD.hv rfl rfl rfl rfl rfl hA (HeldV.loadA tabOk rfl rfl rfl rfl (by (repeat (first | exact .head _ | refine .tail _ ?_))) rfl rfl) ?_ | refine WD.pu tabOk rfl rfl rfl rfl rfl rfl ?_))
    refine WD.oneS rfl rfl rfl rfl rfl (OpW.call rfl Try.call18 rfl (Calls.ret (hasI_ok _ ta tc (lateF s 12) (u : Int) (rd_of H18 (e := 3) (by simp))) ?_))
    rintro _ w19 ⟨hp19, rfl⟩
    have H19 := H18.after hp19
    refine ⟨mk H19, ?_⟩
    clear H16 H17 H18 hA mk
    have hdead : decide ((u : Int) ∈ deadF s 12) = s.dd (u : Int) := by
      rw [Bool.eq_iff_iff, decide_eq_true_iff]; exact mem_deadF hlt
    have hlate : decide ((u : Int) ∈ lateF s 12) = decide (s.lt (u : Int) ≠ []) := by
      rw [Bool.eq_iff_iff, decide_eq_true_iff, decide_eq_true_iff]; exact mem_lateF hlt
    rw [hdead, hlate]
    (repeat (first | refine WD.run tabOk rfl rfl ?_ | refine WD.nil ?_))
    (repeat (first | refine WO.run tabOk rfl rfl ?_ | refine WO.nil ?_ | refine WO.skip rfl rfl rfl ?_ | refine WO.pu tabOk rfl rfl rfl rfl ?_ | refine W.seq ?_ | refine W.region ?_ | refine W.block ?_ | refine W.skip ?_ | refine W.exit ?_))
    have hlive := hO.live (u : Int) hur
    have hdd := hO.dead (u : Int) hur
    have hgone := hI.gone (u : Int) hur
    simp only [takes, ownL, List.filter_nil, List.append_nil] at hlive
    change s.dd (u : Int) = false → ownL (u : Int) s.out ++ s.lt (u : Int) = ownL (u : Int) l at hlive
    generalize s.dd (u : Int) = b at *
    generalize hlt' : s.lt (u : Int) = L at *
    generalize ownL (u : Int) s.out = D0 at *
    generalize ownL (u : Int) l = A at *
    refine W.mono (Q := fun e r w' => e = .normal ∧ ∃ D : List Act, D.length ≤ A.length ∧ D = A.take D.length ∧ (b = true → L = []) ∧ (b = false → (L ≠ [] ↔ D.length ≠ A.length)) ∧
      Env.keep r [0, 5, 8, 9, 10, 11, 48] = [(0, .slice a l.length c), (5, .pointer (some ⟨b5, 0, none⟩)), (8, .slice xa D.length xc), (9, .slice ya A.length yc), (10, .bool b), (11, .bool (decide (L ≠ []))), (48, .int .i64 (u : Int))] ∧ Holds w' (rd actR xa xc D) ∧
      St (at0 w) w' [row 44 actR (.slice ya A.length yc) A, row 44 actR (.slice xa D0.length xc) D0, blk b5 55 [.slice ra s.out.length rc, .slice da (deadF s 12).length dc, .slice ta (lateF s 12).length tc], row 44 actR (.slice ra s.out.length rc) s.out, row 3 i64 (.slice da (deadF s 12).length dc) (deadF s 12), row 3 i64 (.slice ta (lateF s 12).length tc) (lateF s 12)] []) ?_ ?_
    · have hR : Holds w19 (rd actR xa xc D0) := rd_of H19 (e := 44) (by simp)
      refine W.cond rfl (fun hd => ?_) (fun hd => ?_)
      · obtain ⟨pre, hpre, hout⟩ := hdd hd
        subst hout
        have hel : (pre ++ [((u : Int), (4 : Int), (0 : Int))]).length = pre.length + 1 := by simp
        have hx : (pre ++ [((u : Int), (4 : Int), (0 : Int))])[pre.length]? = some ((u : Int), 4, 0) := by simp
        have hle := hR.le
        have hRp : Holds w19 (rd actR xa xc pre) := by
          have := hR.take (i := pre.length) (by simp)
          rwa [List.take_left] at this
        obtain ⟨xb, xo, rfl⟩ := hR.addr (by rw [hel]; omega)
        simp only [maxLen] at hle
        rw [hel]
        rw [hel] at hle
        (repeat (first | refine WO.run tabOk rfl rfl ?_ | refine WO.nil ?_ | refine WO.skip rfl rfl rfl ?_ | refine WO.pu tabOk rfl rfl rfl rfl ?_ | refine W.seq ?_ | refine W.region ?_ | refine W.block ?_ | refine W.skip ?_ | refine W.exit ?_))
        refine WO.pv rfl rfl rfl (PureV.subN (n := pre.length + 1) rfl rfl rfl (by omega) (by omega)) ?_
        (repeat (first | refine WO.run tabOk rfl rfl ?_ | refine WO.nil ?_ | refine WO.skip rfl rfl rfl ?_ | refine WO.pu tabOk rfl rfl rfl rfl ?_ | refine W.seq ?_ | refine W.region ?_ | refine W.block ?_ | refine W.skip ?_ | refine W.exit ?_))
        refine WO.pv rfl rfl rfl (PureV.idxN (i := pre.length) tabOk rfl rfl rfl rfl rfl rfl (by omega)) ?_
        (repeat (first | refine WO.run tabOk rfl rfl ?_ | refine WO.nil ?_ | refine WO.skip rfl rfl rfl ?_ | refine WO.pu tabOk rfl rfl rfl rfl ?_ | refine W.seq ?_ | refine W.region ?_ | refine W.block ?_ | refine W.skip ?_ | refine W.exit ?_))
        refine WO.one rfl rfl rfl (OpW.elem1 (i := pre.length) (j := 1) tabOk rfl rfl rfl rfl hR hx rfl rfl ?_)
        (repeat (first | refine WO.run tabOk rfl rfl ?_ | refine WO.nil ?_ | refine WO.skip rfl rfl rfl ?_ | refine WO.pu tabOk rfl rfl rfl rfl ?_ | refine W.seq ?_ | refine W.region ?_ | refine W.block ?_ | refine W.skip ?_ | refine W.exit ?_))
        refine W.cond rfl (fun h => by simp [pickV] at h; omega) (fun _ => ?_)
        (repeat (first | refine WO.run tabOk rfl rfl ?_ | refine WO.nil ?_ | refine WO.skip rfl rfl rfl ?_ | refine WO.pu tabOk rfl rfl rfl rfl ?_ | refine W.seq ?_ | refine W.region ?_ | refine W.block ?_ | refine W.skip ?_ | refine W.exit ?_))
        refine WO.pv rfl rfl rfl (PureV.slcTo (n := pre.length) tabOk rfl rfl rfl rfl rfl rfl (by omega)) ?_
        (repeat (first | refine WO.run tabOk rfl rfl ?_ | refine WO.nil ?_ | refine WO.skip rfl rfl rfl ?_ | refine WO.pu tabOk rfl rfl rfl rfl ?_ | refine W.seq ?_ | refine W.region ?_ | refine W.block ?_ | refine W.skip ?_ | refine W.exit ?_))
        refine ⟨rfl, pre, hpre.length_le, (List.prefix_iff_eq_take.1 hpre), (fun _ => hgone hd), (fun h => by rw [hd] at h; cases h), rfl, hRp, by rw [hel] at H19; exact H19⟩
      · (repeat (first | refine WO.run tabOk rfl rfl ?_ | refine WO.nil ?_ | refine WO.skip rfl rfl rfl ?_ | refine WO.pu tabOk rfl rfl rfl rfl ?_ | refine W.seq ?_ | refine W.region ?_ | refine W.block ?_ | refine W.skip ?_ | refine W.exit ?_))
        refine ⟨rfl, D0, ?_, ?_, (fun h => by rw [hd] at h; cases h), (fun _ => ?_), rfl, hR, H19⟩
        · rw [← hlive hd]; simp
        · rw [← hlive hd]; simp
        · rw [← hlive hd, List.length_append]
          rw [← List.length_pos_iff]; omega
    · rintro _ r w20 ⟨rfl, D, hDl, hDt, hb1, hb2, hr, hRD, H20⟩
      show W _ _ _ _ _ _
      refine W.keep [0, 5, 8, 9, 10, 11, 48] ?_
      rw [hr]
      clear hr r H19
      have hAr : Holds w20 (rd actR ya yc A) := rd_of H20 (e := 44) (by simp)
      have hAle := hAr.le
      have hDle := hRD.le
      simp only [maxLen] at hAle hDle
      have etl : (A.take D.length).length = D.length := by rw [List.length_take]; omega
      have hc : Calls Try.prog 19 #[.slice xa D.length xc, .slice ya D.length yc] w20 (Ret fun v w' => Pure w20 w' ∧ v = .bool (decide (D = A.take D.length))) := by
        have := equalA_ok w20 xa ya xc yc D (A.take D.length) hRD (hAr.take hDl)
        rwa [etl] at this
      rw [decide_eq_true hDt] at hc
      (repeat (first | refine WO.run tabOk rfl rfl ?_ | refine WO.nil ?_ | refine WO.skip rfl rfl rfl ?_ | refine WO.pu tabOk rfl rfl rfl rfl ?_ | refine W.seq ?_ | refine W.region ?_ | refine W.block ?_ | refine W.skip ?_ | refine W.exit ?_))
      refine WO.caseG rfl rfl (fun g1 => ?_) (fun g1 => ?_)
      · exfalso; simp at g1; omega
      (repeat (first | refine WO.run tabOk rfl rfl ?_ | refine WO.nil ?_ | refine WO.skip rfl rfl rfl ?_ | refine WO.pu tabOk rfl rfl rfl rfl ?_ | refine W.seq ?_ | refine W.region ?_ | refine W.block ?_ | refine W.skip ?_ | refine W.exit ?_))
      refine WO.pv rfl rfl rfl (PureV.slcTo (n := D.length) tabOk rfl rfl rfl rfl rfl rfl (by omega)) ?_
      refine WO.one rfl rfl rfl (OpW.call rfl Try.call19 rfl (Calls.ret hc ?_))
      rintro _ w21 ⟨hp21, rfl⟩
      have H21 := H20.after hp21
      have H22 := (H21.to (i := 1) rfl).drop.drop
      cases b with
      | true =>
        have hLn := hb1 rfl
        subst hLn
        (repeat (first | refine WO.run tabOk rfl rfl ?_ | refine WO.nil ?_ | refine WO.skip rfl rfl rfl ?_ | refine WO.pu tabOk rfl rfl rfl rfl ?_ | refine W.seq ?_ | refine W.region ?_ | refine W.block ?_ | refine W.skip ?_ | refine W.exit ?_))
        refine W.cond rfl (fun h => by simp [pickV] at h) (fun _ => ?_)
        (repeat (first | refine WO.run tabOk rfl rfl ?_ | refine WO.nil ?_ | refine WO.skip rfl rfl rfl ?_ | refine WO.pu tabOk rfl rfl rfl rfl ?_ | refine W.seq ?_ | refine W.region ?_ | refine W.block ?_ | refine W.skip ?_ | refine W.exit ?_))
        refine WO.pv rfl rfl rfl (PureV.addN (n := u) rfl rfl rfl (by omega)) ?_
        (repeat (first | refine WO.run tabOk rfl rfl ?_ | refine WO.nil ?_ | refine WO.skip rfl rfl rfl ?_ | refine WO.pu tabOk rfl rfl rfl rfl ?_ | refine W.seq ?_ | refine W.region ?_ | refine W.block ?_ | refine W.skip ?_ | refine W.exit ?_))
        exact ⟨u + 1, rfl, ⟨by omega, H22⟩, by omega⟩
      | false =>
        have hiff := hb2 rfl
        by_cases hLn : L = []
        · have e1 : decide (L ≠ []) = false := by simp [hLn]
          have e2 : D.length = A.length := Classical.byContradiction fun h => (hiff.2 h) hLn
          rw [e1]
          (repeat (first | refine WO.run tabOk rfl rfl ?_ | refine WO.nil ?_ | refine WO.skip rfl rfl rfl ?_ | refine WO.pu tabOk rfl rfl rfl rfl ?_ | refine W.seq ?_ | refine W.region ?_ | refine W.block ?_ | refine W.skip ?_ | refine W.exit ?_))
          refine W.cond rfl (fun h => by simp [pickV, e2] at h) (fun _ => ?_)
          (repeat (first | refine WO.run tabOk rfl rfl ?_ | refine WO.nil ?_ | refine WO.skip rfl rfl rfl ?_ | refine WO.pu tabOk rfl rfl rfl rfl ?_ | refine W.seq ?_ | refine W.region ?_ | refine W.block ?_ | refine W.skip ?_ | refine W.exit ?_))
          refine WO.pv rfl rfl rfl (PureV.addN (n := u) rfl rfl rfl (by omega)) ?_
          (repeat (first | refine WO.run tabOk rfl rfl ?_ | refine WO.nil ?_ | refine WO.skip rfl rfl rfl ?_ | refine WO.pu tabOk rfl rfl rfl rfl ?_ | refine W.seq ?_ | refine W.region ?_ | refine W.block ?_ | refine W.skip ?_ | refine W.exit ?_))
          exact ⟨u + 1, rfl, ⟨by omega, H22⟩, by omega⟩
        · have e1 : decide (L ≠ []) = true := by simp [hLn]
          have e2 : D.length ≠ A.length := hiff.1 hLn
          rw [e1]
          (repeat (first | refine WO.run tabOk rfl rfl ?_ | refine WO.nil ?_ | refine WO.skip rfl rfl rfl ?_ | refine WO.pu tabOk rfl rfl rfl rfl ?_ | refine W.seq ?_ | refine W.region ?_ | refine W.block ?_ | refine W.skip ?_ | refine W.exit ?_))
          refine W.cond rfl (fun h => by simp [pickV] at h; omega) (fun _ => ?_)
          (repeat (first | refine WO.run tabOk rfl rfl ?_ | refine WO.nil ?_ | refine WO.skip rfl rfl rfl ?_ | refine WO.pu tabOk rfl rfl rfl rfl ?_ | refine W.seq ?_ | refine W.region ?_ | refine W.block ?_ | refine W.skip ?_ | refine W.exit ?_))
          refine WO.pv rfl rfl rfl (PureV.addN (n := u) rfl rfl rfl (by omega)) ?_
          (repeat (first | refine WO.run tabOk rfl rfl ?_ | refine WO.nil ?_ | refine WO.skip rfl rfl rfl ?_ | refine WO.pu tabOk rfl rfl rfl rfl ?_ | refine W.seq ?_ | refine W.region ?_ | refine W.block ?_ | refine W.skip ?_ | refine W.exit ?_))
          exact ⟨u + 1, rfl, ⟨by omega, H22⟩, by omega⟩
  · (repeat (first | refine WO.run tabOk rfl rfl ?_ | refine WO.nil ?_ | refine WO.skip rfl rfl rfl ?_ | refine WO.pu tabOk rfl rfl rfl rfl ?_ | refine W.seq ?_ | refine W.region ?_ | refine W.block ?_ | refine W.skip ?_ | refine W.exit ?_))
    exact W.ret (ret1 Try.results6 rfl ⟨_, rfl, H.pure, rfl⟩)
end Go.Proofs.Ytpenbdpgpamcbaa
