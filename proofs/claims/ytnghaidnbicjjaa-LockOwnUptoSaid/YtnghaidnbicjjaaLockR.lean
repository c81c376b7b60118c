/- lock: lists with room behind them: ample, stays, spoil. -/
import Derived.Test.YtnghaidnbicjjaaLockQ
import Derived.Test.YtnghaidnbicjjaaGwFork
set_option linter.unusedVariables false
set_option linter.unusedSimpArgs false
set_option maxRecDepth 20000
namespace Go.Proofs.Ytnghaidnbicjjaa
open Go Gw
attribute [local irreducible] W WO WD WF

theorem encLock_one : ∀ (l : List (Int × Int)), ∀ u ∈ l.flatMap encLock, u.oneCell' = true := fun l u hu => by
  obtain ⟨y, _, hy⟩ := List.mem_flatMap.1 hu
  simp [encLock] at hy; rcases hy with rfl | rfl <;> rfl
def ampCells (f : Int × Int) (l : List (Int × Int)) : List Value := (l ++ [f, f]).flatMap encLock

theorem ample_ok (w : World) (a : Option Addr) (c : Nat) (l : List (Int × Int)) (f : Int × Int) (hH : Holds w (rd lockR a c l)) (hl : l.length ≤ 2097152) :
    Calls Try.prog 26 #[.slice a l.length c, .agg #[.int .i64 f.1, .int .i64 f.2]] w (Ret fun v w' => ∃ b cap, v = .slice b l.length cap ∧ St (at0 w) w' [raw 53 2 (.slice b (l.length + 2) cap) (l.length + 2) (ampCells f l)] []) := by
  refine calls_W (args := [_, _]) Try.func26 rfl Try.ntmps26 rfl ?_
  have H := St.start [rd lockR a c l] (w := w) (by simpa using hH)
  (repeat (first | refine W.seq ?_ | refine W.block ?_ | refine W.skip ?_ | refine W.exit ?_ | refine W.region ?_))
  refine WO.one rfl rfl rfl (OpW.box rfl rfl rfl H ?_); intro b3 w1 H1
  (repeat (first | refine WO.run tabOk rfl rfl ?_ | refine WO.nil ?_ | refine WO.skip rfl rfl rfl ?_ | refine WO.pu tabOk rfl rfl rfl rfl ?_ | refine W.seq ?_ | refine W.region ?_ | refine W.block ?_ | refine W.skip ?_ | refine W.exit ?_))
  refine W.regionF [6, 7] (HA [blk b3 53 [.int .i64 f.1, .int .i64 f.2]]) (.fork [0, 1, 2, 4, 6, 7] 3 (.fork [] 5 (.fin [8, 9, 10]) 8 (.fin [5, 9, 10])) 8 (.fin [3, 5, 9, 10])) rfl (by kernel_rfl) (fun _ _ _ h => h) ?_
  have H1 := H1.drew
  have hA := H1.ha (L := [blk b3 53 [.int .i64 f.1, .int .i64 f.2]]) (by simp)
  refine WF.fork ?_
  (repeat (first | refine WD.run tabOk rfl rfl ?_ | refine WD.hv rfl rfl rfl rfl rfl hA (HeldV.load1 tabOk rfl rfl rfl rfl (by (first | exact .head _ | exact .tail _ (.head _) | exact .tail _ (.tail _ (.head _)) | exact .tail _ (.tail _ (.tail _ (.head _))) | exact .tail _ (.tail _ (.tail _ (.tail _ (.head _)))) | exact .tail _ (.tail _ (.tail _ (.tail _ (.tail _ (.head _))))) | exact .tail _ (.tail _ (.tail _ (.tail _ (.tail _ (.tail _ (.head _)))))) | exact .tail _ (.tail _ (.tail _ (.tail _ (.tail _ (.tail _ (.tail _ (.head _))))))))) rfl) ?_ | refine WD.hv rfl rfl rfl rfl rfl hA (HeldV.loadA tabOk rfl rfl rfl rfl (by (first | exact .head _ | exact .tail _ (.head _) | exact .tail _ (.tail _ (.head _)) | exact .tail _ (.tail _ (.tail _ (.head _))) | exact .tail _ (.tail _ (.tail _ (.tail _ (.head _)))) | exact .tail _ (.tail _ (.tail _ (.tail _ (.tail _ (.head _))))) | exact .tail _ (.tail _ (.tail _ (.tail _ (.tail _ (.tail _ (.head _)))))) | exact .tail _ (.tail _ (.tail _ (.tail _ (.tail _ (.tail _ (.tail _ (.head _))))))))) rfl rfl) ?_ | refine WD.pu tabOk rfl rfl rfl rfl rfl rfl ?_))
  refine WD.pv rfl rfl rfl rfl rfl (PureV.add rfl rfl rfl (by omega) (by omega)) ?_
  refine WD.tell (d := 8) rfl (show Value.int .i64 ((l.length : Int) + 3) = .int .i64 ((l.length + 3 : Nat) : Int) from by simp) ?_
  (repeat (first | refine WD.run tabOk rfl rfl ?_ | refine WD.hv rfl rfl rfl rfl rfl hA (HeldV.load1 tabOk rfl rfl rfl rfl (by (first | exact .head _ | exact .tail _ (.head _) | exact .tail _ (.tail _ (.head _)) | exact .tail _ (.tail _ (.tail _ (.head _))) | exact .tail _ (.tail _ (.tail _ (.tail _ (.head _)))) | exact .tail _ (.tail _ (.tail _ (.tail _ (.tail _ (.head _))))) | exact .tail _ (.tail _ (.tail _ (.tail _ (.tail _ (.tail _ (.head _)))))) | exact .tail _ (.tail _ (.tail _ (.tail _ (.tail _ (.tail _ (.tail _ (.head _))))))))) rfl) ?_ | refine WD.hv rfl rfl rfl rfl rfl hA (HeldV.loadA tabOk rfl rfl rfl rfl (by (first | exact .head _ | exact .tail _ (.head _) | exact .tail _ (.tail _ (.head _)) | exact .tail _ (.tail _ (.tail _ (.head _))) | exact .tail _ (.tail _ (.tail _ (.tail _ (.head _)))) | exact .tail _ (.tail _ (.tail _ (.tail _ (.tail _ (.head _))))) | exact .tail _ (.tail _ (.tail _ (.tail _ (.tail _ (.tail _ (.head _)))))) | exact .tail _ (.tail _ (.tail _ (.tail _ (.tail _ (.tail _ (.tail _ (.head _))))))))) rfl rfl) ?_ | refine WD.pu tabOk rfl rfl rfl rfl rfl rfl ?_))
  clear hA
  have H := H1
  refine WD.nil ⟨?_, ?_⟩
  · refine WD.oneS rfl rfl rfl rfl rfl (OpW.make (n := 0) (m := l.length + 3) tabOk rfl rfl rfl rfl zero53 rfl rfl (Nat.zero_le _) (by omega) (by simp only [maxLen]; omega) H ?_)
    intro g w2 H2
    have H := H2.close_raw (sz := 2) (n := 0) (o := 0) (cap := l.length + 3) (cs := []) (Nat.zero_le _) (by simp only [maxLen]; omega) (by simp [size_madeCells]) (by simp) (by simp)
    clear H2
    refine ⟨H.ha (by simp), ?_⟩

    refine WD.nil (WF.fork (WD.nil ⟨?_, ?_⟩))
    · obtain ⟨cs, S, hs, hseen, _⟩ := (H.holds (A := rd lockR a c l) (by simp)).shows
      obtain rfl := seenL_flat hseen
      refine WD.oneS rfl rfl rfl rfl rfl (OpW.append tabOk rfl rfl rfl zero53 rfl rfl rfl rfl (H.to (i := 0) rfl) hs (by omega) (by simp only [maxLen]; omega) ?_)
      intro v' w3 H3 _
      have H := H3
      clear H3 hs hseen
      refine ⟨H.ha (by simp), ?_⟩

      refine WD.nil (WF.fin ?_)
      refine WD.oneS rfl rfl rfl rfl rfl (OpW.buildSlice tabOk rfl rfl rfl rfl zero53 rfl rfl (l := [.int .i64 f.1, .int .i64 f.2, .int .i64 f.1, .int .i64 f.2]) rfl H ?_)
      intro b8 w4 H4
      have H := H4
      clear H4
      refine ⟨H.ha (by simp), ?_⟩

      have hsh := shows_blk (sz := 2) (m := 2) (e := 53) (l := [.int .i64 f.1, .int .i64 f.2, .int .i64 f.1, .int .i64 f.2]) H (b := b8) (by simp) rfl (by intro u hu; simp at hu; rcases hu with rfl | rfl | rfl | rfl <;> rfl)
      refine WD.oneS rfl rfl rfl rfl rfl (OpW.append tabOk rfl rfl rfl zero53 rfl rfl rfl rfl (H.to (i := 1) rfl) hsh (by omega) (by simp only [maxLen]; omega) ?_)
      intro v'' w5 H5 _
      refine ⟨H5.ha (by simp), ?_⟩
      (repeat (first | refine WD.run tabOk rfl rfl ?_ | refine WD.nil ?_))
      (repeat (first | refine WO.run tabOk rfl rfl ?_ | refine WO.nil ?_ | refine WO.skip rfl rfl rfl ?_ | refine WO.pu tabOk rfl rfl rfl rfl ?_ | refine W.seq ?_ | refine W.region ?_ | refine W.block ?_ | refine W.skip ?_ | refine W.exit ?_))
      obtain ⟨_, _, av, cv, rfl, hcv, hcm⟩ := H5.raw_len
      refine WO.pv rfl rfl rfl (PureV.slcTo (n := l.length) tabOk rfl rfl rfl rfl rfl rfl (by omega)) ?_
      (repeat (first | refine WO.run tabOk rfl rfl ?_ | refine WO.nil ?_ | refine WO.skip rfl rfl rfl ?_ | refine WO.pu tabOk rfl rfl rfl rfl ?_ | refine W.seq ?_ | refine W.region ?_ | refine W.block ?_ | refine W.skip ?_ | refine W.exit ?_))
      refine W.ret (ret1 Try.results26 rfl ⟨_, rfl, av, cv, rfl, ?_⟩)
      have H6 := H5.first.ro (Ro' := []) (by simp)
      rw [Nat.zero_add] at H6
      have e : [] ++ l.flatMap encLock ++ [.int .i64 f.1, .int .i64 f.2, .int .i64 f.1, .int .i64 f.2] = ampCells f l := by simp [ampCells, encLock]
      rw [e] at H6
      exact H6

    · refine WD.oneS rfl rfl rfl rfl rfl (OpW.buildSlice tabOk rfl rfl rfl rfl zero53 rfl rfl (l := [.int .i64 f.1, .int .i64 f.2, .int .i64 f.1, .int .i64 f.2]) rfl H ?_)
      intro b8 w4 H4
      have H := H4
      clear H4
      refine ⟨H.ha (by simp), ?_⟩

      refine WD.nil (WF.fin ?_)
      obtain ⟨cs, S, hs, hseen, _⟩ := (H.holds (A := rd lockR a c l) (by simp)).shows
      obtain rfl := seenL_flat hseen
      refine WD.oneS rfl rfl rfl rfl rfl (OpW.append tabOk rfl rfl rfl zero53 rfl rfl rfl rfl (H.to (i := 1) rfl) hs (by omega) (by simp only [maxLen]; omega) ?_)
      intro v' w3 H3 _
      have H := H3
      clear H3 hs hseen
      refine ⟨H.ha (by simp), ?_⟩

      have hsh := shows_blk (sz := 2) (m := 2) (e := 53) (l := [.int .i64 f.1, .int .i64 f.2, .int .i64 f.1, .int .i64 f.2]) H (b := b8) (by simp) rfl (by intro u hu; simp at hu; rcases hu with rfl | rfl | rfl | rfl <;> rfl)
      refine WD.oneS rfl rfl rfl rfl rfl (OpW.append tabOk rfl rfl rfl zero53 rfl rfl rfl rfl (H.to (i := 0) rfl) hsh (by omega) (by simp only [maxLen]; omega) ?_)
      intro v'' w5 H5 _
      refine ⟨H5.ha (by simp), ?_⟩
      (repeat (first | refine WD.run tabOk rfl rfl ?_ | refine WD.nil ?_))
      (repeat (first | refine WO.run tabOk rfl rfl ?_ | refine WO.nil ?_ | refine WO.skip rfl rfl rfl ?_ | refine WO.pu tabOk rfl rfl rfl rfl ?_ | refine W.seq ?_ | refine W.region ?_ | refine W.block ?_ | refine W.skip ?_ | refine W.exit ?_))
      obtain ⟨_, _, av, cv, rfl, hcv, hcm⟩ := H5.raw_len
      refine WO.pv rfl rfl rfl (PureV.slcTo (n := l.length) tabOk rfl rfl rfl rfl rfl rfl (by omega)) ?_
      (repeat (first | refine WO.run tabOk rfl rfl ?_ | refine WO.nil ?_ | refine WO.skip rfl rfl rfl ?_ | refine WO.pu tabOk rfl rfl rfl rfl ?_ | refine W.seq ?_ | refine W.region ?_ | refine W.block ?_ | refine W.skip ?_ | refine W.exit ?_))
      refine W.ret (ret1 Try.results26 rfl ⟨_, rfl, av, cv, rfl, ?_⟩)
      have H6 := H5.first.ro (Ro' := []) (by simp)
      rw [Nat.zero_add] at H6
      have e : [] ++ l.flatMap encLock ++ [.int .i64 f.1, .int .i64 f.2, .int .i64 f.1, .int .i64 f.2] = ampCells f l := by simp [ampCells, encLock]
      rw [e] at H6
      exact H6

  · refine WD.oneS rfl rfl rfl rfl rfl (OpW.buildSlice tabOk rfl rfl rfl rfl zero53 rfl rfl (l := [.int .i64 f.1, .int .i64 f.2, .int .i64 f.1, .int .i64 f.2]) rfl H ?_)
    intro b8 w4 H4
    have H := H4
    clear H4
    refine ⟨H.ha (by simp), ?_⟩

    refine WD.nil (WF.fin ?_)
    refine WD.oneS rfl rfl rfl rfl rfl (OpW.make (n := 0) (m := l.length + 3) tabOk rfl rfl rfl rfl zero53 rfl rfl (Nat.zero_le _) (by omega) (by simp only [maxLen]; omega) H ?_)
    intro g w2 H2
    have H := H2.close_raw (sz := 2) (n := 0) (o := 0) (cap := l.length + 3) (cs := []) (Nat.zero_le _) (by simp only [maxLen]; omega) (by simp [size_madeCells]) (by simp) (by simp)
    clear H2
    refine ⟨H.ha (by simp), ?_⟩

    obtain ⟨cs, S, hs, hseen, _⟩ := (H.holds (A := rd lockR a c l) (by simp)).shows
    obtain rfl := seenL_flat hseen
    refine WD.oneS rfl rfl rfl rfl rfl (OpW.append tabOk rfl rfl rfl zero53 rfl rfl rfl rfl (H.to (i := 0) rfl) hs (by omega) (by simp only [maxLen]; omega) ?_)
    intro v' w3 H3 _
    have H := H3
    clear H3 hs hseen
    refine ⟨H.ha (by simp), ?_⟩

    have hsh := shows_blk (sz := 2) (m := 2) (e := 53) (l := [.int .i64 f.1, .int .i64 f.2, .int .i64 f.1, .int .i64 f.2]) H (b := b8) (by simp) rfl (by intro u hu; simp at hu; rcases hu with rfl | rfl | rfl | rfl <;> rfl)
    refine WD.oneS rfl rfl rfl rfl rfl (OpW.append tabOk rfl rfl rfl zero53 rfl rfl rfl rfl (H.to (i := 0) rfl) hsh (by omega) (by simp only [maxLen]; omega) ?_)
    intro v'' w5 H5 _
    refine ⟨H5.ha (by simp), ?_⟩
    (repeat (first | refine WD.run tabOk rfl rfl ?_ | refine WD.nil ?_))
    (repeat (first | refine WO.run tabOk rfl rfl ?_ | refine WO.nil ?_ | refine WO.skip rfl rfl rfl ?_ | refine WO.pu tabOk rfl rfl rfl rfl ?_ | refine W.seq ?_ | refine W.region ?_ | refine W.block ?_ | refine W.skip ?_ | refine W.exit ?_))
    obtain ⟨_, _, av, cv, rfl, hcv, hcm⟩ := H5.raw_len
    refine WO.pv rfl rfl rfl (PureV.slcTo (n := l.length) tabOk rfl rfl rfl rfl rfl rfl (by omega)) ?_
    (repeat (first | refine WO.run tabOk rfl rfl ?_ | refine WO.nil ?_ | refine WO.skip rfl rfl rfl ?_ | refine WO.pu tabOk rfl rfl rfl rfl ?_ | refine W.seq ?_ | refine W.region ?_ | refine W.block ?_ | refine W.skip ?_ | refine W.exit ?_))
    refine W.ret (ret1 Try.results26 rfl ⟨_, rfl, av, cv, rfl, ?_⟩)
    have H6 := H5.first.ro (Ro' := []) (by simp)
    rw [Nat.zero_add] at H6
    have e : [] ++ l.flatMap encLock ++ [.int .i64 f.1, .int .i64 f.2, .int .i64 f.1, .int .i64 f.2] = ampCells f l := by simp [ampCells, encLock]
    rw [e] at H6
    exact H6


theorem amp_rd {w : World} {b : Option Addr} {cap : Nat} {f : Int × Int} {l : List (Int × Int)} (h : Holds w (raw 53 2 (.slice b (l.length + 2) cap) (l.length + 2) (ampCells f l))) : Holds w (rd lockR b cap (l ++ [f, f])) := by
  obtain ⟨S, hS⟩ := h
  have h2 : Holds w (row 53 lockR (.slice b (l.length + 2) cap) (l ++ [f, f])) := by
    refine ⟨S, ampCells f l, S, fun _ => False, ?_, flat_elems _, fun b => by simp, fun b _ h => h⟩
    rw [show (l ++ [f, f]).length = l.length + 2 by simp]
    exact hS
  obtain ⟨a, c, e, h3⟩ := row_rd h2
  simp only [Value.slice.injEq] at e
  obtain ⟨rfl, _, rfl⟩ := e
  exact h3

theorem stays_ok (w : World) (b : Option Addr) (cap : Nat) (l : List (Int × Int)) (f : Int × Int) (a : Option Addr) (c : Nat) (hR : Holds w (raw 53 2 (.slice b (l.length + 2) cap) (l.length + 2) (ampCells f l))) (hW : Holds w (rd lockR a c l)) (hl : l.length ≤ 2097152) :
    Calls Try.prog 27 #[.slice b l.length cap, .slice a l.length c, .agg #[.int .i64 f.1, .int .i64 f.2]] w (Ret fun v w' => Pure w w' ∧ v = .bool true) := by
  refine calls_W (args := [_, _, _]) Try.func27 rfl Try.ntmps27 rfl ?_
  have hB := amp_rd hR
  have hle := hB.le
  simp only [List.length_append, List.length_cons, List.length_nil] at hle
  obtain ⟨bb, bo, rfl⟩ := hB.addr (by simp)
  have H := St.start [rd lockR (some ⟨bb, bo, none⟩) cap (l ++ [f, f]), rd lockR a c l] (w := w) (by simpa using ⟨hB, hW⟩)
  (repeat (first | refine W.seq ?_ | refine W.block ?_ | refine W.skip ?_ | refine W.exit ?_ | refine W.region ?_))
  refine WO.one rfl rfl rfl (OpW.box rfl rfl rfl H ?_); intro b5 w1 H1
  (repeat (first | refine WO.run tabOk rfl rfl ?_ | refine WO.nil ?_ | refine WO.skip rfl rfl rfl ?_ | refine WO.pu tabOk rfl rfl rfl rfl ?_ | refine W.seq ?_ | refine W.region ?_ | refine W.block ?_ | refine W.skip ?_ | refine W.exit ?_))
  refine WO.pv rfl rfl rfl (PureV.add rfl rfl rfl (by omega) (by omega)) ?_
  refine WO.tell (d := 11) rfl (show Value.int .i64 ((l.length : Int) + 2) = .int .i64 ((l.length + 2 : Nat) : Int) from by simp) ?_
  refine WO.pv rfl rfl rfl (PureV.slcTo (n := l.length + 2) tabOk rfl rfl rfl rfl rfl rfl (by omega)) ?_
  (repeat (first | refine WO.run tabOk rfl rfl ?_ | refine WO.nil ?_ | refine WO.skip rfl rfl rfl ?_ | refine WO.pu tabOk rfl rfl rfl rfl ?_ | refine W.seq ?_ | refine W.region ?_ | refine W.block ?_ | refine W.skip ?_ | refine W.exit ?_))
  refine W.regionD [8, 9, 18, 19] (HA [blk b5 53 [.int .i64 f.1, .int .i64 f.2], rd lockR (some ⟨bb, bo, none⟩) cap (l ++ [f, f])]) [0, 1, 2, 3, 4, 5, 6, 7, 8, 9, 10, 11, 12, 13, 14, 15, 16, 17, 18, 19, 20, 21, 22] rfl (by kernel_rfl) (fun _ _ _ h => h) ?_
  have H1 := H1.drew
  have hA := H1.ha (L := [blk b5 53 [.int .i64 f.1, .int .i64 f.2], rd lockR (some ⟨bb, bo, none⟩) cap (l ++ [f, f])]) (by simp)
  have hB1 := H1.holds (A := rd lockR (some ⟨bb, bo, none⟩) cap (l ++ [f, f])) (by simp)
  have hW1 := H1.holds (A := rd lockR a c l) (by simp)
  have hT1 : Holds w1.drew (rd lockR (some ⟨bb, bo, none⟩) cap l) := by
    have := hB1.take (i := l.length) (by simp)
    rwa [List.take_left] at this
  (repeat (first | refine WD.run tabOk rfl rfl ?_ | refine WD.hv rfl rfl rfl rfl rfl hA (HeldV.load1 tabOk rfl rfl rfl rfl (by (first | exact .head _ | exact .tail _ (.head _) | exact .tail _ (.tail _ (.head _)) | exact .tail _ (.tail _ (.tail _ (.head _))) | exact .tail _ (.tail _ (.tail _ (.tail _ (.head _)))) | exact .tail _ (.tail _ (.tail _ (.tail _ (.tail _ (.head _))))) | exact .tail _ (.tail _ (.tail _ (.tail _ (.tail _ (.tail _ (.head _)))))) | exact .tail _ (.tail _ (.tail _ (.tail _ (.tail _ (.tail _ (.tail _ (.head _))))))))) rfl) ?_ | refine WD.hv rfl rfl rfl rfl rfl hA (HeldV.loadA tabOk rfl rfl rfl rfl (by (first | exact .head _ | exact .tail _ (.head _) | exact .tail _ (.tail _ (.head _)) | exact .tail _ (.tail _ (.tail _ (.head _))) | exact .tail _ (.tail _ (.tail _ (.tail _ (.head _)))) | exact .tail _ (.tail _ (.tail _ (.tail _ (.tail _ (.head _))))) | exact .tail _ (.tail _ (.tail _ (.tail _ (.tail _ (.tail _ (.head _)))))) | exact .tail _ (.tail _ (.tail _ (.tail _ (.tail _ (.tail _ (.tail _ (.head _))))))))) rfl rfl) ?_ | refine WD.pu tabOk rfl rfl rfl rfl rfl rfl ?_))
  refine WD.oneS rfl rfl rfl rfl rfl (OpW.call rfl Try.call61 rfl (Calls.ret (equalLock_ok _ _ a cap c l l hT1 hW1) ?_))
  rintro _ w2 ⟨hp2, rfl⟩
  have H2 := H1.after hp2
  have hA := H2.ha (L := [blk b5 53 [.int .i64 f.1, .int .i64 f.2], rd lockR (some ⟨bb, bo, none⟩) cap (l ++ [f, f])]) (by simp)
  refine ⟨hA, ?_⟩
  refine WD.tell (d := 15) rfl (show Value.bool (decide (l = l)) = .bool true from by simp) ?_
  (repeat (first | refine WD.run tabOk rfl rfl ?_ | refine WD.hv rfl rfl rfl rfl rfl hA (HeldV.load1 tabOk rfl rfl rfl rfl (by (first | exact .head _ | exact .tail _ (.head _) | exact .tail _ (.tail _ (.head _)) | exact .tail _ (.tail _ (.tail _ (.head _))) | exact .tail _ (.tail _ (.tail _ (.tail _ (.head _)))) | exact .tail _ (.tail _ (.tail _ (.tail _ (.tail _ (.head _))))) | exact .tail _ (.tail _ (.tail _ (.tail _ (.tail _ (.tail _ (.head _)))))) | exact .tail _ (.tail _ (.tail _ (.tail _ (.tail _ (.tail _ (.tail _ (.head _))))))))) rfl) ?_ | refine WD.hv rfl rfl rfl rfl rfl hA (HeldV.loadA tabOk rfl rfl rfl rfl (by (first | exact .head _ | exact .tail _ (.head _) | exact .tail _ (.tail _ (.head _)) | exact .tail _ (.tail _ (.tail _ (.head _))) | exact .tail _ (.tail _ (.tail _ (.tail _ (.head _)))) | exact .tail _ (.tail _ (.tail _ (.tail _ (.tail _ (.head _))))) | exact .tail _ (.tail _ (.tail _ (.tail _ (.tail _ (.tail _ (.head _)))))) | exact .tail _ (.tail _ (.tail _ (.tail _ (.tail _ (.tail _ (.tail _ (.head _))))))))) rfl rfl) ?_ | refine WD.pu tabOk rfl rfl rfl rfl rfl rfl ?_))
  refine WD.pv rfl rfl rfl rfl rfl (PureV.idxN (i := l.length) tabOk rfl rfl rfl rfl rfl rfl (by omega)) ?_
  (repeat (first | refine WD.run tabOk rfl rfl ?_ | refine WD.hv rfl rfl rfl rfl rfl hA (HeldV.load1 tabOk rfl rfl rfl rfl (by (first | exact .head _ | exact .tail _ (.head _) | exact .tail _ (.tail _ (.head _)) | exact .tail _ (.tail _ (.tail _ (.head _))) | exact .tail _ (.tail _ (.tail _ (.tail _ (.head _)))) | exact .tail _ (.tail _ (.tail _ (.tail _ (.tail _ (.head _))))) | exact .tail _ (.tail _ (.tail _ (.tail _ (.tail _ (.tail _ (.head _)))))) | exact .tail _ (.tail _ (.tail _ (.tail _ (.tail _ (.tail _ (.tail _ (.head _))))))))) rfl) ?_ | refine WD.hv rfl rfl rfl rfl rfl hA (HeldV.loadA tabOk rfl rfl rfl rfl (by (first | exact .head _ | exact .tail _ (.head _) | exact .tail _ (.tail _ (.head _)) | exact .tail _ (.tail _ (.tail _ (.head _))) | exact .tail _ (.tail _ (.tail _ (.tail _ (.head _)))) | exact .tail _ (.tail _ (.tail _ (.tail _ (.tail _ (.head _))))) | exact .tail _ (.tail _ (.tail _ (.tail _ (.tail _ (.tail _ (.head _)))))) | exact .tail _ (.tail _ (.tail _ (.tail _ (.tail _ (.tail _ (.tail _ (.head _))))))))) rfl rfl) ?_ | refine WD.pu tabOk rfl rfl rfl rfl rfl rfl ?_))
  refine WD.hv rfl rfl rfl rfl rfl hA (HeldV.elemA (i := l.length) (y := f) tabOk rfl rfl rfl rfl (.tail _ (.head _)) (by simp) rfl rfl) ?_
  (repeat (first | refine WD.run tabOk rfl rfl ?_ | refine WD.hv rfl rfl rfl rfl rfl hA (HeldV.load1 tabOk rfl rfl rfl rfl (by (first | exact .head _ | exact .tail _ (.head _) | exact .tail _ (.tail _ (.head _)) | exact .tail _ (.tail _ (.tail _ (.head _))) | exact .tail _ (.tail _ (.tail _ (.tail _ (.head _)))) | exact .tail _ (.tail _ (.tail _ (.tail _ (.tail _ (.head _))))) | exact .tail _ (.tail _ (.tail _ (.tail _ (.tail _ (.tail _ (.head _)))))) | exact .tail _ (.tail _ (.tail _ (.tail _ (.tail _ (.tail _ (.tail _ (.head _))))))))) rfl) ?_ | refine WD.hv rfl rfl rfl rfl rfl hA (HeldV.loadA tabOk rfl rfl rfl rfl (by (first | exact .head _ | exact .tail _ (.head _) | exact .tail _ (.tail _ (.head _)) | exact .tail _ (.tail _ (.tail _ (.head _))) | exact .tail _ (.tail _ (.tail _ (.tail _ (.head _)))) | exact .tail _ (.tail _ (.tail _ (.tail _ (.tail _ (.head _))))) | exact .tail _ (.tail _ (.tail _ (.tail _ (.tail _ (.tail _ (.head _)))))) | exact .tail _ (.tail _ (.tail _ (.tail _ (.tail _ (.tail _ (.tail _ (.head _))))))))) rfl rfl) ?_ | refine WD.pu tabOk rfl rfl rfl rfl rfl rfl ?_))
  refine WD.pv rfl rfl rfl rfl rfl (PureV.eqA rfl rfl rfl (by kernel_rfl) (eq53 f f)) ?_
  refine WD.tell (d := 23) rfl (show Value.bool (decide (f = f)) = .bool true from by simp) ?_
  (repeat (first | refine WD.run tabOk rfl rfl ?_ | refine WD.hv rfl rfl rfl rfl rfl hA (HeldV.load1 tabOk rfl rfl rfl rfl (by (first | exact .head _ | exact .tail _ (.head _) | exact .tail _ (.tail _ (.head _)) | exact .tail _ (.tail _ (.tail _ (.head _))) | exact .tail _ (.tail _ (.tail _ (.tail _ (.head _)))) | exact .tail _ (.tail _ (.tail _ (.tail _ (.tail _ (.head _))))) | exact .tail _ (.tail _ (.tail _ (.tail _ (.tail _ (.tail _ (.head _)))))) | exact .tail _ (.tail _ (.tail _ (.tail _ (.tail _ (.tail _ (.tail _ (.head _))))))))) rfl) ?_ | refine WD.hv rfl rfl rfl rfl rfl hA (HeldV.loadA tabOk rfl rfl rfl rfl (by (first | exact .head _ | exact .tail _ (.head _) | exact .tail _ (.tail _ (.head _)) | exact .tail _ (.tail _ (.tail _ (.head _))) | exact .tail _ (.tail _ (.tail _ (.tail _ (.head _)))) | exact .tail _ (.tail _ (.tail _ (.tail _ (.tail _ (.head _))))) | exact .tail _ (.tail _ (.tail _ (.tail _ (.tail _ (.tail _ (.head _)))))) | exact .tail _ (.tail _ (.tail _ (.tail _ (.tail _ (.tail _ (.tail _ (.head _))))))))) rfl rfl) ?_ | refine WD.pu tabOk rfl rfl rfl rfl rfl rfl ?_))
  refine WD.pv rfl rfl rfl rfl rfl (PureV.add rfl rfl rfl (by omega) (by omega)) ?_
  refine WD.tell (d := 29) rfl (show Value.int .i64 ((l.length : Int) + 1) = .int .i64 ((l.length + 1 : Nat) : Int) from by simp) ?_
  (repeat (first | refine WD.run tabOk rfl rfl ?_ | refine WD.hv rfl rfl rfl rfl rfl hA (HeldV.load1 tabOk rfl rfl rfl rfl (by (first | exact .head _ | exact .tail _ (.head _) | exact .tail _ (.tail _ (.head _)) | exact .tail _ (.tail _ (.tail _ (.head _))) | exact .tail _ (.tail _ (.tail _ (.tail _ (.head _)))) | exact .tail _ (.tail _ (.tail _ (.tail _ (.tail _ (.head _))))) | exact .tail _ (.tail _ (.tail _ (.tail _ (.tail _ (.tail _ (.head _)))))) | exact .tail _ (.tail _ (.tail _ (.tail _ (.tail _ (.tail _ (.tail _ (.head _))))))))) rfl) ?_ | refine WD.hv rfl rfl rfl rfl rfl hA (HeldV.loadA tabOk rfl rfl rfl rfl (by (first | exact .head _ | exact .tail _ (.head _) | exact .tail _ (.tail _ (.head _)) | exact .tail _ (.tail _ (.tail _ (.head _))) | exact .tail _ (.tail _ (.tail _ (.tail _ (.head _)))) | exact .tail _ (.tail _ (.tail _ (.tail _ (.tail _ (.head _))))) | exact .tail _ (.tail _ (.tail _ (.tail _ (.tail _ (.tail _ (.head _)))))) | exact .tail _ (.tail _ (.tail _ (.tail _ (.tail _ (.tail _ (.tail _ (.head _))))))))) rfl rfl) ?_ | refine WD.pu tabOk rfl rfl rfl rfl rfl rfl ?_))
  refine WD.pv rfl rfl rfl rfl rfl (PureV.idxN (i := l.length + 1) tabOk rfl rfl rfl rfl rfl rfl (by omega)) ?_
  (repeat (first | refine WD.run tabOk rfl rfl ?_ | refine WD.hv rfl rfl rfl rfl rfl hA (HeldV.load1 tabOk rfl rfl rfl rfl (by (first | exact .head _ | exact .tail _ (.head _) | exact .tail _ (.tail _ (.head _)) | exact .tail _ (.tail _ (.tail _ (.head _))) | exact .tail _ (.tail _ (.tail _ (.tail _ (.head _)))) | exact .tail _ (.tail _ (.tail _ (.tail _ (.tail _ (.head _))))) | exact .tail _ (.tail _ (.tail _ (.tail _ (.tail _ (.tail _ (.head _)))))) | exact .tail _ (.tail _ (.tail _ (.tail _ (.tail _ (.tail _ (.tail _ (.head _))))))))) rfl) ?_ | refine WD.hv rfl rfl rfl rfl rfl hA (HeldV.loadA tabOk rfl rfl rfl rfl (by (first | exact .head _ | exact .tail _ (.head _) | exact .tail _ (.tail _ (.head _)) | exact .tail _ (.tail _ (.tail _ (.head _))) | exact .tail _ (.tail _ (.tail _ (.tail _ (.head _)))) | exact .tail _ (.tail _ (.tail _ (.tail _ (.tail _ (.head _))))) | exact .tail _ (.tail _ (.tail _ (.tail _ (.tail _ (.tail _ (.head _)))))) | exact .tail _ (.tail _ (.tail _ (.tail _ (.tail _ (.tail _ (.tail _ (.head _))))))))) rfl rfl) ?_ | refine WD.pu tabOk rfl rfl rfl rfl rfl rfl ?_))
  refine WD.hv rfl rfl rfl rfl rfl hA (HeldV.elemA (i := l.length + 1) (y := f) tabOk rfl rfl rfl rfl (.tail _ (.head _)) (by rw [List.getElem?_append_right (by omega)]; simp) rfl rfl) ?_
  (repeat (first | refine WD.run tabOk rfl rfl ?_ | refine WD.hv rfl rfl rfl rfl rfl hA (HeldV.load1 tabOk rfl rfl rfl rfl (by (first | exact .head _ | exact .tail _ (.head _) | exact .tail _ (.tail _ (.head _)) | exact .tail _ (.tail _ (.tail _ (.head _))) | exact .tail _ (.tail _ (.tail _ (.tail _ (.head _)))) | exact .tail _ (.tail _ (.tail _ (.tail _ (.tail _ (.head _))))) | exact .tail _ (.tail _ (.tail _ (.tail _ (.tail _ (.tail _ (.head _)))))) | exact .tail _ (.tail _ (.tail _ (.tail _ (.tail _ (.tail _ (.tail _ (.head _))))))))) rfl) ?_ | refine WD.hv rfl rfl rfl rfl rfl hA (HeldV.loadA tabOk rfl rfl rfl rfl (by (first | exact .head _ | exact .tail _ (.head _) | exact .tail _ (.tail _ (.head _)) | exact .tail _ (.tail _ (.tail _ (.head _))) | exact .tail _ (.tail _ (.tail _ (.tail _ (.head _)))) | exact .tail _ (.tail _ (.tail _ (.tail _ (.tail _ (.head _))))) | exact .tail _ (.tail _ (.tail _ (.tail _ (.tail _ (.tail _ (.head _)))))) | exact .tail _ (.tail _ (.tail _ (.tail _ (.tail _ (.tail _ (.tail _ (.head _))))))))) rfl rfl) ?_ | refine WD.pu tabOk rfl rfl rfl rfl rfl rfl ?_))
  refine WD.pv rfl rfl rfl rfl rfl (PureV.eqA rfl rfl rfl (by kernel_rfl) (eq53 f f)) ?_
  refine WD.tell (d := 33) rfl (show Value.bool (decide (f = f)) = .bool true from by simp) ?_
  (repeat (first | refine WD.run tabOk rfl rfl ?_ | refine WD.hv rfl rfl rfl rfl rfl hA (HeldV.load1 tabOk rfl rfl rfl rfl (by (first | exact .head _ | exact .tail _ (.head _) | exact .tail _ (.tail _ (.head _)) | exact .tail _ (.tail _ (.tail _ (.head _))) | exact .tail _ (.tail _ (.tail _ (.tail _ (.head _)))) | exact .tail _ (.tail _ (.tail _ (.tail _ (.tail _ (.head _))))) | exact .tail _ (.tail _ (.tail _ (.tail _ (.tail _ (.tail _ (.head _)))))) | exact .tail _ (.tail _ (.tail _ (.tail _ (.tail _ (.tail _ (.tail _ (.head _))))))))) rfl) ?_ | refine WD.hv rfl rfl rfl rfl rfl hA (HeldV.loadA tabOk rfl rfl rfl rfl (by (first | exact .head _ | exact .tail _ (.head _) | exact .tail _ (.tail _ (.head _)) | exact .tail _ (.tail _ (.tail _ (.head _))) | exact .tail _ (.tail _ (.tail _ (.tail _ (.head _)))) | exact .tail _ (.tail _ (.tail _ (.tail _ (.tail _ (.head _))))) | exact .tail _ (.tail _ (.tail _ (.tail _ (.tail _ (.tail _ (.head _)))))) | exact .tail _ (.tail _ (.tail _ (.tail _ (.tail _ (.tail _ (.tail _ (.head _))))))))) rfl rfl) ?_ | refine WD.pu tabOk rfl rfl rfl rfl rfl rfl ?_))
  (repeat (first | refine WD.run tabOk rfl rfl ?_ | refine WD.nil ?_))
  (repeat (first | refine WO.run tabOk rfl rfl ?_ | refine WO.nil ?_ | refine WO.skip rfl rfl rfl ?_ | refine WO.pu tabOk rfl rfl rfl rfl ?_ | refine W.seq ?_ | refine W.region ?_ | refine W.block ?_ | refine W.skip ?_ | refine W.exit ?_))
  exact W.ret (ret1 Try.results27 rfl ⟨_, rfl, H2.pure, rfl⟩)

theorem spoil_ok (c : Ctx) (w : World) (Own Ro : List Asn) (b : Option Addr) (n cap : Nat) (cs : List Value) (f : Int × Int) (H : St c w (raw 53 2 (.slice b (n + 2) cap) (n + 2) cs :: Own) Ro) :
    Calls Try.prog 28 #[.slice b n cap, .agg #[.int .i64 f.1, .int .i64 f.2]] w (Ret fun v w' => St c w' Own Ro) := by
  refine calls_W (args := [_, _]) Try.func28 rfl Try.ntmps28 rfl ?_
  rcases H.open_raw with ⟨_, h, _⟩ | ⟨g, o, cap', cur, e, H0, _, hnc, hcm, hfit⟩
  · omega
  simp only [Value.slice.injEq] at e
  obtain ⟨rfl, _, rfl⟩ := e
  simp only [maxLen] at hcm
  (repeat (first | refine W.seq ?_ | refine W.block ?_ | refine W.skip ?_ | refine W.exit ?_ | refine W.region ?_))
  refine WO.one rfl rfl rfl (OpW.box rfl rfl rfl H0 ?_); intro b3 w1 H1
  (repeat (first | refine WO.run tabOk rfl rfl ?_ | refine WO.nil ?_ | refine WO.skip rfl rfl rfl ?_ | refine WO.pu tabOk rfl rfl rfl rfl ?_ | refine W.seq ?_ | refine W.region ?_ | refine W.block ?_ | refine W.skip ?_ | refine W.exit ?_))
  refine WO.pv rfl rfl rfl (PureV.slcTo (n := cap) tabOk rfl rfl rfl rfl rfl rfl (by omega)) ?_
  (repeat (first | refine WO.run tabOk rfl rfl ?_ | refine WO.nil ?_ | refine WO.skip rfl rfl rfl ?_ | refine WO.pu tabOk rfl rfl rfl rfl ?_ | refine W.seq ?_ | refine W.region ?_ | refine W.block ?_ | refine W.skip ?_ | refine W.exit ?_))
  refine W.loopS [0, 3, 10, 11] (fun i : Nat => [(0, .slice (some ⟨g, o, none⟩) cap cap), (3, .pointer (some ⟨b3, 0, none⟩)), (10, .int .i64 cap), (11, .int .i64 i)])
    (fun i w' => i ≤ cap ∧ ∃ cur' : List Value, cur'.length = cur.length ∧ St c w' (blk b3 53 [.int .i64 f.1, .int .i64 f.2] :: blk g 53 cur' :: Own) Ro) (fun i => cap - i) 0 rfl ⟨Nat.zero_le _, cur, rfl, H1⟩ ?_
  clear H1 H0 H
  rintro i w3 ⟨hi, cur', hcl, H⟩
  (repeat (first | refine WO.run tabOk rfl rfl ?_ | refine WO.nil ?_ | refine WO.skip rfl rfl rfl ?_ | refine WO.pu tabOk rfl rfl rfl rfl ?_ | refine W.seq ?_ | refine W.region ?_ | refine W.block ?_ | refine W.skip ?_ | refine W.exit ?_))
  refine W.cond rfl (fun hlt => ?_) (fun hge => ?_)
  · have hlt : i < cap := by simpa using hlt
    (repeat (first | refine WO.run tabOk rfl rfl ?_ | refine WO.nil ?_ | refine WO.skip rfl rfl rfl ?_ | refine WO.pu tabOk rfl rfl rfl rfl ?_ | refine W.seq ?_ | refine W.region ?_ | refine W.block ?_ | refine W.skip ?_ | refine W.exit ?_))
    refine WO.one rfl rfl rfl (OpW.loadA tabOk rfl rfl rfl rfl H (by (first | exact .head _ | exact .tail _ (.head _) | exact .tail _ (.tail _ (.head _)) | exact .tail _ (.tail _ (.tail _ (.head _))) | exact .tail _ (.tail _ (.tail _ (.tail _ (.head _)))) | exact .tail _ (.tail _ (.tail _ (.tail _ (.tail _ (.head _))))) | exact .tail _ (.tail _ (.tail _ (.tail _ (.tail _ (.tail _ (.head _)))))) | exact .tail _ (.tail _ (.tail _ (.tail _ (.tail _ (.tail _ (.tail _ (.head _))))))))) rfl rfl ?_)
    refine WO.pv rfl rfl rfl (PureV.idxN tabOk rfl rfl rfl rfl rfl rfl (by omega)) ?_
    refine WO.act rfl rfl (OpW.storeB (i := 1) tabOk rfl rfl rfl rfl H rfl (by intro u hu; simp [cellsL] at hu; rcases hu with rfl | rfl <;> rfl) rfl (by simp [cellsL]; omega) ?_)
    intro w4 H4
    (repeat (first | refine WO.run tabOk rfl rfl ?_ | refine WO.nil ?_ | refine WO.skip rfl rfl rfl ?_ | refine WO.pu tabOk rfl rfl rfl rfl ?_ | refine W.seq ?_ | refine W.region ?_ | refine W.block ?_ | refine W.skip ?_ | refine W.exit ?_))
    refine WO.pv rfl rfl rfl (PureV.addN rfl rfl rfl (by omega)) ?_
    (repeat (first | refine WO.run tabOk rfl rfl ?_ | refine WO.nil ?_ | refine WO.skip rfl rfl rfl ?_ | refine WO.pu tabOk rfl rfl rfl rfl ?_ | refine W.seq ?_ | refine W.region ?_ | refine W.block ?_ | refine W.skip ?_ | refine W.exit ?_))
    refine ⟨i + 1, rfl, ⟨by omega, _, ?_, H4.to (i := 1) rfl⟩, by omega⟩
    rw [spliceL_len _ _ _ (by simp [cellsL]; omega)]
    exact hcl
  · (repeat (first | refine WO.run tabOk rfl rfl ?_ | refine WO.nil ?_ | refine WO.skip rfl rfl rfl ?_ | refine WO.pu tabOk rfl rfl rfl rfl ?_ | refine W.seq ?_ | refine W.region ?_ | refine W.block ?_ | refine W.skip ?_ | refine W.exit ?_))
    exact ret0n Try.results28 ⟨_, rfl, H.drop.drop⟩
end Go.Proofs.Ytnghaidnbicjjaa
