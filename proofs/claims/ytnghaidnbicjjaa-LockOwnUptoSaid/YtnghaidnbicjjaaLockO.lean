/- lock: what the laws call beside the program: ints looked for; lists joined. -/
import Derived.Test.YtnghaidnbicjjaaLockN
set_option linter.unusedVariables false
set_option linter.unusedSimpArgs false
set_option maxRecDepth 20000
namespace Go.Proofs.Ytnghaidnbicjjaa
open Go Gw
attribute [local irreducible] W WO WD

theorem indexInt_ok (w : World) (a : Option Addr) (c : Nat) (xs : List Int) (u : Int) (hH : Holds w (rd i64 a c xs)) :
    Calls Try.prog 60 #[.slice a xs.length c, .int .i64 u] w (Ret fun v w' => Pure w w' ∧ v = .int .i64 (idxF (fun x => decide (u = x)) xs)) := by
  refine calls_W (args := [_, _]) Try.func60 rfl Try.ntmps60 rfl ?_
  (repeat (first | refine WO.run tabOk rfl rfl ?_ | refine WO.nil ?_ | refine WO.skip rfl rfl rfl ?_ | refine WO.pu tabOk rfl rfl rfl rfl ?_ | refine W.seq ?_ | refine W.region ?_ | refine W.block ?_ | refine W.skip ?_ | refine W.exit ?_))
  refine W.loopS [0, 1, 7, 8] (fun i : Nat => [(0, .slice a xs.length c), (1, .int .i64 u), (7, .int .i64 xs.length), (8, .int .i64 i)])
    (fun i w' => i ≤ xs.length ∧ (∀ j, j < i → ∀ x, xs[j]? = some x → decide (u = x) = false) ∧ Pure w w') (fun i => xs.length - i) 0 rfl ⟨Nat.zero_le _, fun j hj => (by omega), Pure.refl w⟩ ?_
  rintro i w1 ⟨hi, hno, hp⟩
  have hH1 := hH.pure hp
  (repeat (first | refine WO.run tabOk rfl rfl ?_ | refine WO.nil ?_ | refine WO.skip rfl rfl rfl ?_ | refine WO.pu tabOk rfl rfl rfl rfl ?_ | refine W.seq ?_ | refine W.region ?_ | refine W.block ?_ | refine W.skip ?_ | refine W.exit ?_))
  refine W.cond rfl (fun hlt => ?_) (fun hge => ?_)
  · have hlt : i < xs.length := by simpa using hlt
    obtain ⟨b, o, rfl⟩ := hH1.addr (by omega)
    (repeat (first | refine WO.run tabOk rfl rfl ?_ | refine WO.nil ?_ | refine WO.skip rfl rfl rfl ?_ | refine WO.pu tabOk rfl rfl rfl rfl ?_ | refine W.seq ?_ | refine W.region ?_ | refine W.block ?_ | refine W.skip ?_ | refine W.exit ?_))
    refine WO.pv rfl rfl rfl (PureV.idxN tabOk rfl rfl rfl rfl rfl rfl (by omega)) ?_
    have hx := List.getElem?_eq_getElem hlt
    generalize xs[i] = x at hx
    refine WO.one rfl rfl rfl (OpW.elem1 (i := i) (j := 0) tabOk rfl rfl rfl rfl hH1 hx rfl rfl ?_)
    (repeat (first | refine WO.run tabOk rfl rfl ?_ | refine WO.nil ?_ | refine WO.skip rfl rfl rfl ?_ | refine WO.pu tabOk rfl rfl rfl rfl ?_ | refine W.seq ?_ | refine W.region ?_ | refine W.block ?_ | refine W.skip ?_ | refine W.exit ?_))
    refine W.cond rfl (fun he => ?_) (fun hne => ?_)
    · (repeat (first | refine WO.run tabOk rfl rfl ?_ | refine WO.nil ?_ | refine WO.skip rfl rfl rfl ?_ | refine WO.pu tabOk rfl rfl rfl rfl ?_ | refine W.seq ?_ | refine W.region ?_ | refine W.block ?_ | refine W.skip ?_ | refine W.exit ?_))
      refine W.ret (ret1 Try.results60 rfl ⟨_, rfl, hp, ?_⟩)
      rw [idxF_hit hno hx he]
    · (repeat (first | refine WO.run tabOk rfl rfl ?_ | refine WO.nil ?_ | refine WO.skip rfl rfl rfl ?_ | refine WO.pu tabOk rfl rfl rfl rfl ?_ | refine W.seq ?_ | refine W.region ?_ | refine W.block ?_ | refine W.skip ?_ | refine W.exit ?_))
      have hle := hH1.le
      simp only [maxLen] at hle
      refine WO.pv rfl rfl rfl (PureV.addN rfl rfl rfl (by omega)) ?_
      (repeat (first | refine WO.run tabOk rfl rfl ?_ | refine WO.nil ?_ | refine WO.skip rfl rfl rfl ?_ | refine WO.pu tabOk rfl rfl rfl rfl ?_ | refine W.seq ?_ | refine W.region ?_ | refine W.block ?_ | refine W.skip ?_ | refine W.exit ?_))
      refine ⟨i + 1, rfl, ⟨by omega, ?_, hp⟩, by omega⟩
      intro j hj y hy
      rcases Nat.lt_succ_iff_lt_or_eq.1 hj with h | rfl
      · exact hno j h y hy
      · rw [hx] at hy; cases hy; exact hne
  · (repeat (first | refine WO.run tabOk rfl rfl ?_ | refine WO.nil ?_ | refine WO.skip rfl rfl rfl ?_ | refine WO.pu tabOk rfl rfl rfl rfl ?_ | refine W.seq ?_ | refine W.region ?_ | refine W.block ?_ | refine W.skip ?_ | refine W.exit ?_))
    simp at hge
    refine W.ret (ret1 Try.results60 rfl ⟨_, rfl, hp, ?_⟩)
    rw [idxF_miss]
    intro x hx
    obtain ⟨j, hj, hx'⟩ := List.mem_iff_getElem.1 hx
    exact hno j (by omega) x (by rw [List.getElem?_eq_getElem hj, hx'])

theorem containsInt_ok (w : World) (a : Option Addr) (c : Nat) (xs : List Int) (u : Int) (hH : Holds w (rd i64 a c xs)) :
    Calls Try.prog 24 #[.slice a xs.length c, .int .i64 u] w (Ret fun v w' => Pure w w' ∧ v = .bool (decide (u ∈ xs))) := by
  refine calls_W (args := [_, _]) Try.func24 rfl Try.ntmps24 rfl ?_
  (repeat (first | refine WO.run tabOk rfl rfl ?_ | refine WO.nil ?_ | refine WO.skip rfl rfl rfl ?_ | refine WO.pu tabOk rfl rfl rfl rfl ?_ | refine W.seq ?_ | refine W.region ?_ | refine W.block ?_ | refine W.skip ?_ | refine W.exit ?_))
  refine WO.one rfl rfl rfl (OpW.call rfl Try.call60 rfl (Calls.ret (indexInt_ok w a c xs u hH) ?_))
  rintro _ w1 ⟨hp, rfl⟩
  (repeat (first | refine WO.run tabOk rfl rfl ?_ | refine WO.nil ?_ | refine WO.skip rfl rfl rfl ?_ | refine WO.pu tabOk rfl rfl rfl rfl ?_ | refine W.seq ?_ | refine W.region ?_ | refine W.block ?_ | refine W.skip ?_ | refine W.exit ?_))
  refine W.ret (ret1 Try.results24 rfl ⟨_, rfl, hp, ?_⟩)
  rw [idxF_any]
  congr 1
  rw [Bool.eq_iff_iff]
  simp


/-- Grow of nil. -/
theorem growNil_ok (w : World) (k : Nat) (hk : k ≤ 1000000) :
    Calls Try.prog 59 #[.slice none 0 0, .int .i64 (k : Int)] w (Ret fun v w' => St (at0 w) w' [raw 53 2 v 0 []] []) := by
  refine calls_W (args := [_, _]) Try.func59 rfl Try.ntmps59 rfl ?_
  have H := St.start [] (w := w) (by simp)
  (repeat (first | refine WO.run tabOk rfl rfl ?_ | refine WO.nil ?_ | refine WO.skip rfl rfl rfl ?_ | refine WO.pu tabOk rfl rfl rfl rfl ?_ | refine W.seq ?_ | refine W.region ?_ | refine W.block ?_ | refine W.skip ?_ | refine W.exit ?_))
  refine W.cond rfl (fun h => ?_) (fun h => ?_)
  · simp at h; omega
  (repeat (first | refine WO.run tabOk rfl rfl ?_ | refine WO.nil ?_ | refine WO.skip rfl rfl rfl ?_ | refine WO.pu tabOk rfl rfl rfl rfl ?_ | refine W.seq ?_ | refine W.region ?_ | refine W.block ?_ | refine W.skip ?_ | refine W.exit ?_))
  refine WO.pv rfl rfl rfl (PureV.sub rfl rfl rfl (by omega) (by omega)) ?_
  (repeat (first | refine WO.run tabOk rfl rfl ?_ | refine WO.nil ?_ | refine WO.skip rfl rfl rfl ?_ | refine WO.pu tabOk rfl rfl rfl rfl ?_ | refine W.seq ?_ | refine W.region ?_ | refine W.block ?_ | refine W.skip ?_ | refine W.exit ?_))
  refine WO.pv rfl rfl rfl (PureV.sub rfl rfl rfl (by omega) (by omega)) ?_
  refine WO.tell (d := 14) rfl (show Value.int .i64 ((k : Int) - ((0 : Nat) - (0 : Nat))) = .int .i64 (k : Int) from by simp) ?_
  (repeat (first | refine WO.run tabOk rfl rfl ?_ | refine WO.nil ?_ | refine WO.skip rfl rfl rfl ?_ | refine WO.pu tabOk rfl rfl rfl rfl ?_ | refine W.seq ?_ | refine W.region ?_ | refine W.block ?_ | refine W.skip ?_ | refine W.exit ?_))
  refine W.cond rfl (fun h2 => ?_) (fun h2 => ?_)
  · simp at h2
    (repeat (first | refine WO.run tabOk rfl rfl ?_ | refine WO.nil ?_ | refine WO.skip rfl rfl rfl ?_ | refine WO.pu tabOk rfl rfl rfl rfl ?_ | refine W.seq ?_ | refine W.region ?_ | refine W.block ?_ | refine W.skip ?_ | refine W.exit ?_))
    refine WO.pv rfl rfl rfl (PureV.slcTo (n := 0) tabOk rfl rfl rfl rfl rfl rfl (Nat.le_refl _)) ?_
    (repeat (first | refine WO.run tabOk rfl rfl ?_ | refine WO.nil ?_ | refine WO.skip rfl rfl rfl ?_ | refine WO.pu tabOk rfl rfl rfl rfl ?_ | refine W.seq ?_ | refine W.region ?_ | refine W.block ?_ | refine W.skip ?_ | refine W.exit ?_))
    refine WO.one rfl rfl rfl (OpW.appendZN (k := k) tabOk rfl rfl rfl rfl rfl zero53 rfl rfl rfl rfl (by omega) H (by omega) (by simp only [maxLen]; omega) ?_)
    intro g cap zs w1 hc1 hc2 hz H1
    (repeat (first | refine WO.run tabOk rfl rfl ?_ | refine WO.nil ?_ | refine WO.skip rfl rfl rfl ?_ | refine WO.pu tabOk rfl rfl rfl rfl ?_ | refine W.seq ?_ | refine W.region ?_ | refine W.block ?_ | refine W.skip ?_ | refine W.exit ?_))
    refine WO.pv rfl rfl rfl (PureV.slcTo (n := 0) tabOk rfl rfl rfl rfl rfl rfl (Nat.zero_le _)) ?_
    (repeat (first | refine WO.run tabOk rfl rfl ?_ | refine WO.nil ?_ | refine WO.skip rfl rfl rfl ?_ | refine WO.pu tabOk rfl rfl rfl rfl ?_ | refine W.seq ?_ | refine W.region ?_ | refine W.block ?_ | refine W.skip ?_ | refine W.exit ?_))
    refine W.ret (ret1 Try.results59 rfl ⟨_, rfl, ?_⟩)
    exact H1.close_raw (sz := 2) (n := 0) (o := 0) (cap := cap) (cs := []) (Nat.zero_le _) hc2 (by omega) (by simp) (by simp)
  · (repeat (first | refine WO.run tabOk rfl rfl ?_ | refine WO.nil ?_ | refine WO.skip rfl rfl rfl ?_ | refine WO.pu tabOk rfl rfl rfl rfl ?_ | refine W.seq ?_ | refine W.region ?_ | refine W.block ?_ | refine W.skip ?_ | refine W.exit ?_))
    refine W.ret (ret1 Try.results59 rfl ⟨_, rfl, ?_⟩)
    exact H.add_nil_raw 53 2

def sumLen {α : Type} (l : List (List α)) : Nat := (l.map List.length).sum
theorem sumLen_snoc {α : Type} (l : List (List α)) (x : List α) : sumLen (l ++ [x]) = sumLen l + x.length := by simp [sumLen]
theorem sumLen_take {α : Type} (l : List (List α)) (i : Nat) : sumLen (l.take i) ≤ sumLen l := by
  have h := congrArg sumLen (List.take_append_drop i l)
  have e : ∀ a b : List (List α), sumLen (a ++ b) = sumLen a + sumLen b := fun a b => by simp [sumLen]
  rw [e] at h
  omega

theorem concat_ok (w : World) (a : Option Addr) (c : Nat) (ls : List (List (Int × Int))) (hH : Holds w (rd (Rdr.rd lockR) a c ls)) (hs : sumLen ls ≤ 1000000) :
    Calls Try.prog 23 #[.slice a ls.length c] w (Ret fun v w' => St (at0 w) w' [row 53 lockR v ls.flatten] []) := by
  refine calls_W (args := [_]) Try.func23 rfl Try.ntmps23 rfl ?_
  have hle := hH.le
  simp only [maxLen] at hle
  (repeat (first | refine WO.run tabOk rfl rfl ?_ | refine WO.nil ?_ | refine WO.skip rfl rfl rfl ?_ | refine WO.pu tabOk rfl rfl rfl rfl ?_ | refine W.seq ?_ | refine W.region ?_ | refine W.block ?_ | refine W.skip ?_ | refine W.exit ?_))
  refine W.loopS [0, 3, 9, 10, 11] (fun i : Nat => [(0, .slice a ls.length c), (3, .int .i64 (sumLen (ls.take i))), (9, .slice a ls.length c), (10, .int .i64 ls.length), (11, .int .i64 i)])
    (fun i w' => i ≤ ls.length ∧ Pure w w') (fun i => ls.length - i) 0 rfl ⟨Nat.zero_le _, Pure.refl w⟩ ?_
  rintro i w1 ⟨hi, hp⟩
  (repeat (first | refine WO.run tabOk rfl rfl ?_ | refine WO.nil ?_ | refine WO.skip rfl rfl rfl ?_ | refine WO.pu tabOk rfl rfl rfl rfl ?_ | refine W.seq ?_ | refine W.region ?_ | refine W.block ?_ | refine W.skip ?_ | refine W.exit ?_))
  refine W.cond rfl (fun hlt => ?_) (fun hge => ?_)
  · have hlt : i < ls.length := by simpa using hlt
    obtain ⟨b, o, rfl⟩ := hH.addr (by omega)
    (repeat (first | refine WO.run tabOk rfl rfl ?_ | refine WO.nil ?_ | refine WO.skip rfl rfl rfl ?_ | refine WO.pu tabOk rfl rfl rfl rfl ?_ | refine W.seq ?_ | refine W.region ?_ | refine W.block ?_ | refine W.skip ?_ | refine W.exit ?_))
    refine WO.pv rfl rfl rfl (PureV.idxN tabOk rfl rfl rfl rfl rfl rfl (by omega)) ?_
    have hx := List.getElem?_eq_getElem hlt
    generalize ls[i] = x at hx
    obtain ⟨a1, c1, hcs, hh⟩ := (hH.pure hp).sub hx
    refine WO.one rfl rfl rfl (OpW.loadc tabOk rfl rfl rfl rfl (Holds.cell hcs) ?_)
    (repeat (first | refine WO.run tabOk rfl rfl ?_ | refine WO.nil ?_ | refine WO.skip rfl rfl rfl ?_ | refine WO.pu tabOk rfl rfl rfl rfl ?_ | refine W.seq ?_ | refine W.region ?_ | refine W.block ?_ | refine W.skip ?_ | refine W.exit ?_))
    have e1 : sumLen (ls.take (i + 1)) = sumLen (ls.take i) + x.length := by rw [take_snoc hx, sumLen_snoc]
    have l1 := sumLen_take ls (i + 1)
    refine WO.pv rfl rfl rfl (PureV.add rfl rfl rfl (by omega) (by omega)) ?_
    refine WO.tell (d := 18) rfl (show Value.int .i64 ((sumLen (ls.take i) : Int) + (x.length : Int)) = .int .i64 (sumLen (ls.take (i + 1)) : Int) from by rw [e1]; simp) ?_
    (repeat (first | refine WO.run tabOk rfl rfl ?_ | refine WO.nil ?_ | refine WO.skip rfl rfl rfl ?_ | refine WO.pu tabOk rfl rfl rfl rfl ?_ | refine W.seq ?_ | refine W.region ?_ | refine W.block ?_ | refine W.skip ?_ | refine W.exit ?_))
    refine W.cond rfl (fun h => ?_) (fun h => ?_)
    · simp at h; omega
    (repeat (first | refine WO.run tabOk rfl rfl ?_ | refine WO.nil ?_ | refine WO.skip rfl rfl rfl ?_ | refine WO.pu tabOk rfl rfl rfl rfl ?_ | refine W.seq ?_ | refine W.region ?_ | refine W.block ?_ | refine W.skip ?_ | refine W.exit ?_))
    refine WO.pv rfl rfl rfl (PureV.addN rfl rfl rfl (by omega)) ?_
    (repeat (first | refine WO.run tabOk rfl rfl ?_ | refine WO.nil ?_ | refine WO.skip rfl rfl rfl ?_ | refine WO.pu tabOk rfl rfl rfl rfl ?_ | refine W.seq ?_ | refine W.region ?_ | refine W.block ?_ | refine W.skip ?_ | refine W.exit ?_))
    exact ⟨i + 1, rfl, ⟨by omega, hp⟩, by omega⟩
  simp at hge
  obtain rfl : i = ls.length := by omega
  rw [List.take_length]
  (repeat (first | refine WO.run tabOk rfl rfl ?_ | refine WO.nil ?_ | refine WO.skip rfl rfl rfl ?_ | refine WO.pu tabOk rfl rfl rfl rfl ?_ | refine W.seq ?_ | refine W.region ?_ | refine W.block ?_ | refine W.skip ?_ | refine W.exit ?_))
  refine WO.one rfl rfl rfl (OpW.call rfl Try.call59 rfl (Calls.ret (growNil_ok w1 (sumLen ls) hs) ?_))
  intro v w2 H2
  have hw2 := hp.trans H2.pure
  have H2 : St (at0 w) w2 [raw 53 2 v 0 []] [] := (St.start [] (w := w) (by simp)).after hp |>.take H2
  (repeat (first | refine WO.run tabOk rfl rfl ?_ | refine WO.nil ?_ | refine WO.skip rfl rfl rfl ?_ | refine WO.pu tabOk rfl rfl rfl rfl ?_ | refine W.seq ?_ | refine W.region ?_ | refine W.block ?_ | refine W.skip ?_ | refine W.exit ?_))
  refine W.loopS [6, 25, 26, 27] (fun s : Nat × Value => [(6, s.2), (25, .slice a ls.length c), (26, .int .i64 ls.length), (27, .int .i64 s.1)])
    (fun s w' => s.1 ≤ ls.length ∧ St (at0 w) w' [row 53 lockR s.2 (ls.take s.1).flatten] []) (fun s => ls.length - s.1) (0, v) rfl ⟨Nat.zero_le _, St.flat_close (xs := []) H2⟩ ?_
  clear H2 hw2
  rintro ⟨i, v⟩ w3 ⟨hi, H⟩
  simp only at hi H
  (repeat (first | refine WO.run tabOk rfl rfl ?_ | refine WO.nil ?_ | refine WO.skip rfl rfl rfl ?_ | refine WO.pu tabOk rfl rfl rfl rfl ?_ | refine W.seq ?_ | refine W.region ?_ | refine W.block ?_ | refine W.skip ?_ | refine W.exit ?_))
  refine W.cond rfl (fun hlt => ?_) (fun hge => ?_)
  · have hlt : i < ls.length := by simpa using hlt
    obtain ⟨b, o, rfl⟩ := hH.addr (by omega)
    (repeat (first | refine WO.run tabOk rfl rfl ?_ | refine WO.nil ?_ | refine WO.skip rfl rfl rfl ?_ | refine WO.pu tabOk rfl rfl rfl rfl ?_ | refine W.seq ?_ | refine W.region ?_ | refine W.block ?_ | refine W.skip ?_ | refine W.exit ?_))
    refine WO.pv rfl rfl rfl (PureV.idxN tabOk rfl rfl rfl rfl rfl rfl (by omega)) ?_
    have hx := List.getElem?_eq_getElem hlt
    generalize ls[i] = x at hx
    obtain ⟨a1, c1, hcs, hh⟩ := (hH.pure H.pure).sub hx
    refine WO.one rfl rfl rfl (OpW.loadc tabOk rfl rfl rfl rfl (Holds.cell hcs) ?_)
    (repeat (first | refine WO.run tabOk rfl rfl ?_ | refine WO.nil ?_ | refine WO.skip rfl rfl rfl ?_ | refine WO.pu tabOk rfl rfl rfl rfl ?_ | refine W.seq ?_ | refine W.region ?_ | refine W.block ?_ | refine W.skip ?_ | refine W.exit ?_))
    have e1 : sumLen (ls.take (i + 1)) = sumLen (ls.take i) + x.length := by rw [take_snoc hx, sumLen_snoc]
    have l1 := sumLen_take ls (i + 1)
    have l2 : (ls.take i).flatten.length = sumLen (ls.take i) := by rw [List.length_flatten]; rfl
    obtain ⟨cs, S, hs2, hseen, _⟩ := hh.shows
    obtain rfl := seenL_flat hseen
    refine WO.one rfl rfl rfl (OpW.append tabOk rfl rfl rfl zero53 rfl rfl rfl rfl H.flat_open hs2 (by omega) (by simp only [maxLen]; omega) ?_)
    intro v' w4 H4 _
    (repeat (first | refine WO.run tabOk rfl rfl ?_ | refine WO.nil ?_ | refine WO.skip rfl rfl rfl ?_ | refine WO.pu tabOk rfl rfl rfl rfl ?_ | refine W.seq ?_ | refine W.region ?_ | refine W.block ?_ | refine W.skip ?_ | refine W.exit ?_))
    refine WO.pv rfl rfl rfl (PureV.addN rfl rfl rfl (by omega)) ?_
    (repeat (first | refine WO.run tabOk rfl rfl ?_ | refine WO.nil ?_ | refine WO.skip rfl rfl rfl ?_ | refine WO.pu tabOk rfl rfl rfl rfl ?_ | refine W.seq ?_ | refine W.region ?_ | refine W.block ?_ | refine W.skip ?_ | refine W.exit ?_))
    refine ⟨(i + 1, v'), rfl, ⟨by simp only; omega, ?_⟩, by simp only; omega⟩
    have e2 : (ls.take (i + 1)).flatten = (ls.take i).flatten ++ x := by rw [take_snoc hx]; simp
    simp only [e2]
    refine St.flat_close (xs := (ls.take i).flatten ++ x) ?_
    rw [List.length_append, List.flatMap_append]
    exact H4
  · simp at hge
    obtain rfl : i = ls.length := by omega
    rw [List.take_length] at H
    (repeat (first | refine WO.run tabOk rfl rfl ?_ | refine WO.nil ?_ | refine WO.skip rfl rfl rfl ?_ | refine WO.pu tabOk rfl rfl rfl rfl ?_ | refine W.seq ?_ | refine W.region ?_ | refine W.block ?_ | refine W.skip ?_ | refine W.exit ?_))
    exact W.ret (ret1 Try.results23 rfl ⟨_, rfl, H⟩)
end Go.Proofs.Ytnghaidnbicjjaa
