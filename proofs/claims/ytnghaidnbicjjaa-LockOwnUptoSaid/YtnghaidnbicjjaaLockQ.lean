/- lock: the law LockSafe: what is held fits, whoever is in front of a queue must wait; who dropped all has nothing. -/
import Derived.Test.YtnghaidnbicjjaaLockP
set_option linter.unusedVariables false
set_option linter.unusedSimpArgs false
set_option maxRecDepth 20000
namespace Go.Proofs.Ytnghaidnbicjjaa
open Go Gw
attribute [local irreducible] W WO WD

theorem tab3_ask : askStep 3 4 5 [] = ([(4, [(3, 5)], [])], true) := rfl
theorem tab3_ok : AskOk [] 3 4 5 := ⟨valid_nil, by decide, by decide, by decide, fun x h => by cases h⟩

theorem lockSafe_ok (w : World) (a : Option Addr) (c : Nat) (l : List (Int × Int × Int)) (tx : Int) (hH : Holds w (rd opR a c l)) :
    Calls Try.prog 6 #[.slice a l.length c, .int .i64 tx] w (Ret fun v w' => Pure w w' ∧ v = .bool true) := by
  refine calls_W (args := [_, _]) Try.func6 rfl Try.ntmps6 rfl ?_
  have hle := hH.le
  simp only [maxLen] at hle
  (repeat (first | refine WO.run tabOk rfl rfl ?_ | refine WO.nil ?_ | refine WO.skip rfl rfl rfl ?_ | refine WO.pu tabOk rfl rfl rfl rfl ?_ | refine W.seq ?_ | refine W.region ?_ | refine W.block ?_ | refine W.skip ?_ | refine W.exit ?_))
  refine WO.one rfl rfl rfl (OpW.call rfl Try.call15 rfl (Calls.ret (ask_ok _ none 0 [] 3 4 5 (Holds.nilR _ _)) ?_))
  intro v w1 hpost
  obtain ⟨a1, c1, ok1, e1, t1, rfl, hv1, hp1, hT1, ⟨rfl, _, rfl, rfl⟩ | ⟨_, h, _⟩⟩ := ask_use hpost
  rotate_left
  · exact absurd tab3_ok h
  rw [tab3_ask]
  (repeat (first | refine WO.run tabOk rfl rfl ?_ | refine WO.nil ?_ | refine WO.skip rfl rfl rfl ?_ | refine WO.pu tabOk rfl rfl rfl rfl ?_ | refine W.seq ?_ | refine W.region ?_ | refine W.block ?_ | refine W.skip ?_ | refine W.exit ?_))
  refine W.cond_f rfl ?_
  (repeat (first | refine WO.run tabOk rfl rfl ?_ | refine WO.nil ?_ | refine WO.skip rfl rfl rfl ?_ | refine WO.pu tabOk rfl rfl rfl rfl ?_ | refine W.seq ?_ | refine W.region ?_ | refine W.block ?_ | refine W.skip ?_ | refine W.exit ?_))
  clear hv1 hT1 hpost
  refine W.loopS [1, 5, 35, 36, 37] (fun s : Nat × Option Addr × Nat × List Item => [(1, .int .i64 tx), (5, .slice s.2.1 s.2.2.2.length s.2.2.1), (35, .slice a l.length c), (36, .int .i64 l.length), (37, .int .i64 s.1)])
    (fun s w' => s.1 ≤ l.length ∧ Valid s.2.2.2 ∧ Holds w' (rd itemS s.2.1 s.2.2.1 s.2.2.2) ∧ Pure w w') (fun s => l.length - s.1) (0, none, 0, []) rfl ⟨Nat.zero_le _, valid_nil, Holds.nilR _ _, hp1⟩ ?_
  clear hp1
  rintro ⟨i, ta, tc, t⟩ w1 ⟨hi, hv, hT, hp⟩
  simp only at hi hv hT
  (repeat (first | refine WO.run tabOk rfl rfl ?_ | refine WO.nil ?_ | refine WO.skip rfl rfl rfl ?_ | refine WO.pu tabOk rfl rfl rfl rfl ?_ | refine W.seq ?_ | refine W.region ?_ | refine W.block ?_ | refine W.skip ?_ | refine W.exit ?_))
  refine W.cond rfl (fun hlt => ?_) (fun hge => ?_)
  · have hlt : i < l.length := by simpa using hlt
    have hH1 := hH.pure hp
    obtain ⟨b, o, rfl⟩ := hH1.addr (by omega)
    (repeat (first | refine WO.run tabOk rfl rfl ?_ | refine WO.nil ?_ | refine WO.skip rfl rfl rfl ?_ | refine WO.pu tabOk rfl rfl rfl rfl ?_ | refine W.seq ?_ | refine W.region ?_ | refine W.block ?_ | refine W.skip ?_ | refine W.exit ?_))
    refine WO.pv rfl rfl rfl (PureV.idxN tabOk rfl rfl rfl rfl rfl rfl (by omega)) ?_
    have hx := List.getElem?_eq_getElem hlt
    generalize l[i] = x at hx
    refine WO.one rfl rfl rfl (OpW.elemA (i := i) tabOk rfl rfl rfl rfl hH1 hx rfl rfl ?_)
    have H := St.start [rd itemS ta tc t] (w := w1) (by simpa using hT)
    refine WO.one rfl rfl rfl (OpW.alloc rfl zero42 rfl H ?_); intro b9 w2 H2
    refine WO.act rfl rfl (OpW.storeA (i := 0) tabOk rfl rfl rfl rfl H2 rfl rfl rfl rfl rfl ?_); intro w3 H3
    (repeat (first | refine WO.run tabOk rfl rfl ?_ | refine WO.nil ?_ | refine WO.skip rfl rfl rfl ?_ | refine WO.pu tabOk rfl rfl rfl rfl ?_ | refine W.seq ?_ | refine W.region ?_ | refine W.block ?_ | refine W.skip ?_ | refine W.exit ?_))
    refine W.regionD [2, 4, 6] (HA [blk b9 42 [.int .i64 x.1, .int .i64 x.2.1, .int .i64 x.2.2]]) [0, 1, 2, 3, 4, 5, 6, 7, 8, 9, 10, 11, 12, 13, 14, 15, 16] rfl (by kernel_rfl) (fun _ _ _ h => h) ?_
    have H4 := H3.drew
    have hA := H4.ha (L := [blk b9 42 [.int .i64 x.1, .int .i64 x.2.1, .int .i64 x.2.2]]) (by simp)
    (repeat (first | refine WD.run tabOk rfl rfl ?_ | refine WD.hv rfl rfl rfl rfl rfl hA (HeldV.load1 tabOk rfl rfl rfl rfl (by (first | exact .head _ | exact .tail _ (.head _) | exact .tail _ (.tail _ (.head _)) | exact .tail _ (.tail _ (.tail _ (.head _))) | exact .tail _ (.tail _ (.tail _ (.tail _ (.head _)))) | exact .tail _ (.tail _ (.tail _ (.tail _ (.tail _ (.head _))))) | exact .tail _ (.tail _ (.tail _ (.tail _ (.tail _ (.tail _ (.head _)))))) | exact .tail _ (.tail _ (.tail _ (.tail _ (.tail _ (.tail _ (.tail _ (.head _))))))))) rfl) ?_ | refine WD.hv rfl rfl rfl rfl rfl hA (HeldV.loadA tabOk rfl rfl rfl rfl (by (first | exact .head _ | exact .tail _ (.head _) | exact .tail _ (.tail _ (.head _)) | exact .tail _ (.tail _ (.tail _ (.head _))) | exact .tail _ (.tail _ (.tail _ (.tail _ (.head _)))) | exact .tail _ (.tail _ (.tail _ (.tail _ (.tail _ (.head _))))) | exact .tail _ (.tail _ (.tail _ (.tail _ (.tail _ (.tail _ (.head _)))))) | exact .tail _ (.tail _ (.tail _ (.tail _ (.tail _ (.tail _ (.tail _ (.head _))))))))) rfl rfl) ?_ | refine WD.pu tabOk rfl rfl rfl rfl rfl rfl ?_))
    refine WD.oneS rfl rfl rfl rfl rfl (OpW.call rfl Try.call16 rfl (Calls.ret (rest_ok _ 5 (by omega) (by omega) _) ?_))
    rintro _ _ ⟨rfl, rfl⟩
    refine ⟨hA, ?_⟩
    refine WD.pv rfl rfl rfl rfl rfl (PureV.add rfl rfl rfl (by omega) (by omega)) ?_
    (repeat (first | refine WD.run tabOk rfl rfl ?_ | refine WD.hv rfl rfl rfl rfl rfl hA (HeldV.load1 tabOk rfl rfl rfl rfl (by (first | exact .head _ | exact .tail _ (.head _) | exact .tail _ (.tail _ (.head _)) | exact .tail _ (.tail _ (.tail _ (.head _))) | exact .tail _ (.tail _ (.tail _ (.tail _ (.head _)))) | exact .tail _ (.tail _ (.tail _ (.tail _ (.tail _ (.head _))))) | exact .tail _ (.tail _ (.tail _ (.tail _ (.tail _ (.tail _ (.head _)))))) | exact .tail _ (.tail _ (.tail _ (.tail _ (.tail _ (.tail _ (.tail _ (.head _))))))))) rfl) ?_ | refine WD.hv rfl rfl rfl rfl rfl hA (HeldV.loadA tabOk rfl rfl rfl rfl (by (first | exact .head _ | exact .tail _ (.head _) | exact .tail _ (.tail _ (.head _)) | exact .tail _ (.tail _ (.tail _ (.head _))) | exact .tail _ (.tail _ (.tail _ (.tail _ (.head _)))) | exact .tail _ (.tail _ (.tail _ (.tail _ (.tail _ (.head _))))) | exact .tail _ (.tail _ (.tail _ (.tail _ (.tail _ (.tail _ (.head _)))))) | exact .tail _ (.tail _ (.tail _ (.tail _ (.tail _ (.tail _ (.tail _ (.head _))))))))) rfl rfl) ?_ | refine WD.pu tabOk rfl rfl rfl rfl rfl rfl ?_))
    refine WD.oneS rfl rfl rfl rfl rfl (OpW.call rfl Try.call15 rfl (Calls.ret (ask_ok _ ta tc t _ _ _ (H4.holds (by simp))) ?_))
    intro v w5 hpost
    obtain ⟨a', c', ok, e, t', rfl, hv', hp5, hT', hcase⟩ := ask_use hpost
    have H5 := H4.after hp5
    refine ⟨H5.ha (by simp), ?_⟩
    clear hcase hpost hA H H2 H3
    (repeat (first | refine WD.run tabOk rfl rfl ?_ | refine WD.hv rfl rfl rfl rfl rfl hA (HeldV.load1 tabOk rfl rfl rfl rfl (by (first | exact .head _ | exact .tail _ (.head _) | exact .tail _ (.tail _ (.head _)) | exact .tail _ (.tail _ (.tail _ (.head _))) | exact .tail _ (.tail _ (.tail _ (.tail _ (.head _)))) | exact .tail _ (.tail _ (.tail _ (.tail _ (.tail _ (.head _))))) | exact .tail _ (.tail _ (.tail _ (.tail _ (.tail _ (.tail _ (.head _)))))) | exact .tail _ (.tail _ (.tail _ (.tail _ (.tail _ (.tail _ (.tail _ (.head _))))))))) rfl) ?_ | refine WD.hv rfl rfl rfl rfl rfl hA (HeldV.loadA tabOk rfl rfl rfl rfl (by (first | exact .head _ | exact .tail _ (.head _) | exact .tail _ (.tail _ (.head _)) | exact .tail _ (.tail _ (.tail _ (.head _))) | exact .tail _ (.tail _ (.tail _ (.tail _ (.head _)))) | exact .tail _ (.tail _ (.tail _ (.tail _ (.tail _ (.head _))))) | exact .tail _ (.tail _ (.tail _ (.tail _ (.tail _ (.tail _ (.head _)))))) | exact .tail _ (.tail _ (.tail _ (.tail _ (.tail _ (.tail _ (.tail _ (.head _))))))))) rfl rfl) ?_ | refine WD.pu tabOk rfl rfl rfl rfl rfl rfl ?_))
    (repeat (first | refine WD.run tabOk rfl rfl ?_ | refine WD.nil ?_))
    (repeat (first | refine WO.run tabOk rfl rfl ?_ | refine WO.nil ?_ | refine WO.skip rfl rfl rfl ?_ | refine WO.pu tabOk rfl rfl rfl rfl ?_ | refine W.seq ?_ | refine W.region ?_ | refine W.block ?_ | refine W.skip ?_ | refine W.exit ?_ | refine WO.one rfl rfl rfl (OpW.load1 tabOk rfl rfl rfl rfl H5 (by (first | exact .head _ | exact .tail _ (.head _) | exact .tail _ (.tail _ (.head _)) | exact .tail _ (.tail _ (.tail _ (.head _))) | exact .tail _ (.tail _ (.tail _ (.tail _ (.head _)))) | exact .tail _ (.tail _ (.tail _ (.tail _ (.tail _ (.head _))))) | exact .tail _ (.tail _ (.tail _ (.tail _ (.tail _ (.tail _ (.head _)))))) | exact .tail _ (.tail _ (.tail _ (.tail _ (.tail _ (.tail _ (.tail _ (.head _))))))))) rfl ?_)))
    have hpp := hp.trans H5.pure
    have hT5 : Holds w5 (rd itemS ta tc t) := H5.holds (by simp)
    refine W.mono (Q := fun e r w' => e = .normal ∧ ∃ ua uc e1 u, Env.keep r [1, 5, 10, 12, 35, 36, 37] = [(1, .int .i64 tx), (5, .slice ta t.length tc), (10, .slice ua (List.length u) uc), (12, .int .i64 e1), (35, .slice (some ⟨b, o, none⟩) l.length c), (36, .int .i64 l.length), (37, .int .i64 i)] ∧
      Valid u ∧ Holds w' (rd itemS ua uc u) ∧ Holds w' (rd itemS ta tc t) ∧ Pure w w') ?_ ?_
    · refine W.cond rfl (fun h4 => ?_) (fun h4 => ?_)
      · (repeat (first | refine WO.run tabOk rfl rfl ?_ | refine WO.nil ?_ | refine WO.skip rfl rfl rfl ?_ | refine WO.pu tabOk rfl rfl rfl rfl ?_ | refine W.seq ?_ | refine W.region ?_ | refine W.block ?_ | refine W.skip ?_ | refine W.exit ?_ | refine WO.one rfl rfl rfl (OpW.load1 tabOk rfl rfl rfl rfl H5 (by (first | exact .head _ | exact .tail _ (.head _) | exact .tail _ (.tail _ (.head _)) | exact .tail _ (.tail _ (.tail _ (.head _))) | exact .tail _ (.tail _ (.tail _ (.tail _ (.head _)))) | exact .tail _ (.tail _ (.tail _ (.tail _ (.tail _ (.head _))))) | exact .tail _ (.tail _ (.tail _ (.tail _ (.tail _ (.tail _ (.head _)))))) | exact .tail _ (.tail _ (.tail _ (.tail _ (.tail _ (.tail _ (.tail _ (.head _))))))))) rfl ?_)))
        refine WO.one rfl rfl rfl (OpW.call rfl Try.call21 rfl (Calls.ret (drop_ok _ ta tc t _ hT5) ?_))
        intro v w6 hpost
        obtain ⟨a', c', ag, cg, e, t', g', rfl, hv', hp6, hT', hG, _⟩ := drop_use hpost
        (repeat (first | refine WO.run tabOk rfl rfl ?_ | refine WO.nil ?_ | refine WO.skip rfl rfl rfl ?_ | refine WO.pu tabOk rfl rfl rfl rfl ?_ | refine W.seq ?_ | refine W.region ?_ | refine W.block ?_ | refine W.skip ?_ | refine W.exit ?_))
        exact ⟨rfl, a', c', e, t', rfl, hv', hT', hT5.pure hp6, hpp.trans hp6⟩
      · (repeat (first | refine WO.run tabOk rfl rfl ?_ | refine WO.nil ?_ | refine WO.skip rfl rfl rfl ?_ | refine WO.pu tabOk rfl rfl rfl rfl ?_ | refine W.seq ?_ | refine W.region ?_ | refine W.block ?_ | refine W.skip ?_ | refine W.exit ?_))
        exact ⟨rfl, a', c', e, t', rfl, hv', hT', hT5, hpp⟩
    rintro _ r w6 ⟨rfl, ua, uc, e1, u, hk, hu, hU, hT6, hp6⟩
    show W _ _ _ _ _ _
    refine W.keep [1, 5, 10, 12, 35, 36, 37] ?_
    rw [hk]
    clear hk hp H4 H5 hpp hT5 hT' hv' hT
    (repeat (first | refine WO.run tabOk rfl rfl ?_ | refine WO.nil ?_ | refine WO.skip rfl rfl rfl ?_ | refine WO.pu tabOk rfl rfl rfl rfl ?_ | refine W.seq ?_ | refine W.region ?_ | refine W.block ?_ | refine W.skip ?_ | refine W.exit ?_))
    refine W.mono (Q := fun e r w' => e = .normal ∧ ∃ ua uc u, Env.keep r [1, 5, 35, 36, 37] = [(1, .int .i64 tx), (5, .slice ua (List.length u) uc), (35, .slice (some ⟨b, o, none⟩) l.length c), (36, .int .i64 l.length), (37, .int .i64 i)] ∧
      Valid u ∧ Holds w' (rd itemS ua uc u) ∧ Pure w w') ?_ ?_
    · refine W.cond rfl (fun h4 => ?_) (fun h4 => ?_)
      · (repeat (first | refine WO.run tabOk rfl rfl ?_ | refine WO.nil ?_ | refine WO.skip rfl rfl rfl ?_ | refine WO.pu tabOk rfl rfl rfl rfl ?_ | refine W.seq ?_ | refine W.region ?_ | refine W.block ?_ | refine W.skip ?_ | refine W.exit ?_))
        exact ⟨rfl, ua, uc, u, rfl, hu, hU, hp6⟩
      · (repeat (first | refine WO.run tabOk rfl rfl ?_ | refine WO.nil ?_ | refine WO.skip rfl rfl rfl ?_ | refine WO.pu tabOk rfl rfl rfl rfl ?_ | refine W.seq ?_ | refine W.region ?_ | refine W.block ?_ | refine W.skip ?_ | refine W.exit ?_))
        exact ⟨rfl, ta, tc, t, rfl, hv, hT6, hp6⟩
    rintro _ r w7 ⟨rfl, va, vc, v, hk, hv7, hV, hp7⟩
    show W _ _ _ _ _ _
    refine W.keep [1, 5, 35, 36, 37] ?_
    rw [hk]
    (repeat (first | refine WO.run tabOk rfl rfl ?_ | refine WO.nil ?_ | refine WO.skip rfl rfl rfl ?_ | refine WO.pu tabOk rfl rfl rfl rfl ?_ | refine W.seq ?_ | refine W.region ?_ | refine W.block ?_ | refine W.skip ?_ | refine W.exit ?_))
    refine WO.one rfl rfl rfl (OpW.call rfl Try.call22 rfl (Calls.ret (check_ok _ va vc v hV) ?_))
    rintro _ w8 ⟨hp8, e8, rfl, he8⟩
    obtain rfl := he8.2 hv7
    (repeat (first | refine WO.run tabOk rfl rfl ?_ | refine WO.nil ?_ | refine WO.skip rfl rfl rfl ?_ | refine WO.pu tabOk rfl rfl rfl rfl ?_ | refine W.seq ?_ | refine W.region ?_ | refine W.block ?_ | refine W.skip ?_ | refine W.exit ?_))
    refine W.cond_f rfl ?_
    (repeat (first | refine WO.run tabOk rfl rfl ?_ | refine WO.nil ?_ | refine WO.skip rfl rfl rfl ?_ | refine WO.pu tabOk rfl rfl rfl rfl ?_ | refine W.seq ?_ | refine W.region ?_ | refine W.block ?_ | refine W.skip ?_ | refine W.exit ?_))
    refine WO.pv rfl rfl rfl (PureV.addN rfl rfl rfl (by omega)) ?_
    (repeat (first | refine WO.run tabOk rfl rfl ?_ | refine WO.nil ?_ | refine WO.skip rfl rfl rfl ?_ | refine WO.pu tabOk rfl rfl rfl rfl ?_ | refine W.seq ?_ | refine W.region ?_ | refine W.block ?_ | refine W.skip ?_ | refine W.exit ?_))
    exact ⟨(i + 1, va, vc, v), rfl, ⟨by simp only; omega, hv7, hV.pure hp8, hp7.trans hp8⟩, by simp only; omega⟩
  clear hge hi hH hle
  (repeat (first | refine WO.run tabOk rfl rfl ?_ | refine WO.nil ?_ | refine WO.skip rfl rfl rfl ?_ | refine WO.pu tabOk rfl rfl rfl rfl ?_ | refine W.seq ?_ | refine W.region ?_ | refine W.block ?_ | refine W.skip ?_ | refine W.exit ?_))
  refine WO.one rfl rfl rfl (OpW.call rfl Try.call21 rfl (Calls.ret (drop_ok _ ta tc t tx hT) ?_))
  intro v w2 hpost
  obtain ⟨ua, uc, ga, gc, e, u, g, rfl, hu, hp2, hU, hG, hcase⟩ := drop_use hpost
  have hp := hp.trans hp2
  (repeat (first | refine WO.run tabOk rfl rfl ?_ | refine WO.nil ?_ | refine WO.skip rfl rfl rfl ?_ | refine WO.pu tabOk rfl rfl rfl rfl ?_ | refine W.seq ?_ | refine W.region ?_ | refine W.block ?_ | refine W.skip ?_ | refine W.exit ?_))
  refine W.cond rfl (fun he => ?_) (fun he => ?_)
  · simp at he
    rcases hcase with ⟨h, _⟩ | ⟨_, _, rfl, rfl⟩
    · exact absurd h he
    (repeat (first | refine WO.run tabOk rfl rfl ?_ | refine WO.nil ?_ | refine WO.skip rfl rfl rfl ?_ | refine WO.pu tabOk rfl rfl rfl rfl ?_ | refine W.seq ?_ | refine W.region ?_ | refine W.block ?_ | refine W.skip ?_ | refine W.exit ?_))
    exact W.ret (ret1 Try.results6 rfl ⟨_, rfl, hp, rfl⟩)
  simp at he
  rcases hcase with ⟨_, _, hu', hg'⟩ | ⟨h, _⟩
  rotate_left
  · exact absurd he h
  have hno : ∀ y ∈ u, ¬ names y.2.1 y.2.2 tx := fun y hy hn => by
    rw [hu'] at hy
    exact (drop_names hy hn).1 rfl
  have hng : tx ∉ g := by rw [hg']; exact drop_given
  have hul := hu.len
  clear hu' hg' hT
  (repeat (first | refine WO.run tabOk rfl rfl ?_ | refine WO.nil ?_ | refine WO.skip rfl rfl rfl ?_ | refine WO.pu tabOk rfl rfl rfl rfl ?_ | refine W.seq ?_ | refine W.region ?_ | refine W.block ?_ | refine W.skip ?_ | refine W.exit ?_))
  refine W.loopS [1, 13, 14, 90, 91, 92] (fun i : Nat => [(1, .int .i64 tx), (13, .slice ua u.length uc), (14, .slice ga g.length gc), (90, .slice ua u.length uc), (91, .int .i64 u.length), (92, .int .i64 i)])
    (fun i w' => i ≤ u.length ∧ Pure w2 w') (fun i => u.length - i) 0 rfl ⟨Nat.zero_le _, Pure.refl _⟩ ?_
  rintro i w3 ⟨hi, hp3⟩
  (repeat (first | refine WO.run tabOk rfl rfl ?_ | refine WO.nil ?_ | refine WO.skip rfl rfl rfl ?_ | refine WO.pu tabOk rfl rfl rfl rfl ?_ | refine W.seq ?_ | refine W.region ?_ | refine W.block ?_ | refine W.skip ?_ | refine W.exit ?_))
  refine W.cond rfl (fun hlt => ?_) (fun hge => ?_)
  · have hlt : i < u.length := by simpa using hlt
    have hU3 := hU.pure hp3
    obtain ⟨b, o, rfl⟩ := hU3.addr (by omega)
    (repeat (first | refine WO.run tabOk rfl rfl ?_ | refine WO.nil ?_ | refine WO.skip rfl rfl rfl ?_ | refine WO.pu tabOk rfl rfl rfl rfl ?_ | refine W.seq ?_ | refine W.region ?_ | refine W.block ?_ | refine W.skip ?_ | refine W.exit ?_))
    refine WO.pv rfl rfl rfl (PureV.idxN tabOk rfl rfl rfl rfl rfl rfl (by omega)) ?_
    have hx := List.getElem?_eq_getElem hlt
    generalize u[i] = x at hx
    have hm : x ∈ u := List.mem_of_getElem? hx
    obtain ⟨a1, c1, a2, c2, hcs, hh, hq⟩ := item_elem hU3 hx
    refine WO.one rfl rfl rfl (OpW.loadcs tabOk rfl rfl rfl rfl rfl hcs ?_)
    have H := St.start [rd lockR a1 c1 x.2.1, rd lockR a2 c2 x.2.2] (w := w3) (by simpa using ⟨hh, hq⟩)
    refine WO.one rfl rfl rfl (OpW.alloc rfl zero51 rfl H ?_); intro b12 w4 H4
    refine WO.act rfl rfl (OpW.storeA (i := 0) tabOk rfl rfl rfl rfl H4 rfl rfl rfl rfl rfl ?_); intro w5 H5
    (repeat (first | refine WO.run tabOk rfl rfl ?_ | refine WO.nil ?_ | refine WO.skip rfl rfl rfl ?_ | refine WO.pu tabOk rfl rfl rfl rfl ?_ | refine W.seq ?_ | refine W.region ?_ | refine W.block ?_ | refine W.skip ?_ | refine W.exit ?_ | refine WO.one rfl rfl rfl (OpW.load1 tabOk rfl rfl rfl rfl H5 (by (first | exact .head _ | exact .tail _ (.head _) | exact .tail _ (.tail _ (.head _)) | exact .tail _ (.tail _ (.tail _ (.head _))) | exact .tail _ (.tail _ (.tail _ (.tail _ (.head _)))) | exact .tail _ (.tail _ (.tail _ (.tail _ (.tail _ (.head _))))) | exact .tail _ (.tail _ (.tail _ (.tail _ (.tail _ (.tail _ (.head _)))))) | exact .tail _ (.tail _ (.tail _ (.tail _ (.tail _ (.tail _ (.tail _ (.head _))))))))) rfl ?_)))
    refine WO.one rfl rfl rfl (OpW.buildSlice tabOk rfl rfl rfl rfl zero49 rfl rfl (l := [.slice a1 x.2.1.length c1, .slice a2 x.2.2.length c2]) rfl H5 ?_)
    intro b6 w6 H6
    have hlens := valid_lens hu hm
    refine WO.one rfl rfl rfl (OpW.call rfl Try.call23 rfl (Calls.ret (concat_ok w6 (some ⟨b6, 0, none⟩) 2 [x.2.1, x.2.2] (Holds.pair2 (e := 49) (a1 := a1) (a2 := a2) (c1 := c1) (c2 := c2) (H6.holds (by simp)) (H6.holds (by simp)) (H6.holds (by simp))) (by simp [sumLen]; omega)) ?_))
    intro v w7 K
    obtain ⟨ca, cc, rfl, hC⟩ := row_rd (K.holds (A := row 53 lockR v [x.2.1, x.2.2].flatten) (by simp))
    have em : [x.2.1, x.2.2].flatten = x.2.1 ++ x.2.2 := by simp
    rw [em] at hC ⊢
    have hp7 := hp3.trans (H6.pure.trans K.pure)
    clear K
    (repeat (first | refine WO.run tabOk rfl rfl ?_ | refine WO.nil ?_ | refine WO.skip rfl rfl rfl ?_ | refine WO.pu tabOk rfl rfl rfl rfl ?_ | refine W.seq ?_ | refine W.region ?_ | refine W.block ?_ | refine W.skip ?_ | refine W.exit ?_))
    have hcl := hC.le
    simp only [maxLen] at hcl
    refine W.loopS [1, 13, 14, 90, 91, 92, 101, 102, 103] (fun j : Nat => [(1, .int .i64 tx), (13, .slice (some ⟨b, o, none⟩) u.length uc), (14, .slice ga g.length gc), (90, .slice (some ⟨b, o, none⟩) u.length uc), (91, .int .i64 u.length), (92, .int .i64 i), (101, .slice ca (x.2.1 ++ x.2.2).length cc), (102, .int .i64 (x.2.1 ++ x.2.2).length), (103, .int .i64 j)])
      (fun j w' => j ≤ (x.2.1 ++ x.2.2).length ∧ Pure w7 w') (fun j => (x.2.1 ++ x.2.2).length - j) 0 rfl ⟨Nat.zero_le _, Pure.refl _⟩ ?_
    rintro j w8 ⟨hj, hp8⟩
    (repeat (first | refine WO.run tabOk rfl rfl ?_ | refine WO.nil ?_ | refine WO.skip rfl rfl rfl ?_ | refine WO.pu tabOk rfl rfl rfl rfl ?_ | refine W.seq ?_ | refine W.region ?_ | refine W.block ?_ | refine W.skip ?_ | refine W.exit ?_))
    refine W.cond rfl (fun hlt2 => ?_) (fun hge2 => ?_)
    · have hlt2 : j < (x.2.1 ++ x.2.2).length := by simp at hlt2; simp; omega
      have hC8 := hC.pure hp8
      obtain ⟨bq, oq, rfl⟩ := hC8.addr (by omega)
      (repeat (first | refine WO.run tabOk rfl rfl ?_ | refine WO.nil ?_ | refine WO.skip rfl rfl rfl ?_ | refine WO.pu tabOk rfl rfl rfl rfl ?_ | refine W.seq ?_ | refine W.region ?_ | refine W.block ?_ | refine W.skip ?_ | refine W.exit ?_))
      refine WO.pv rfl rfl rfl (PureV.idxN tabOk rfl rfl rfl rfl rfl rfl (by omega)) ?_
      have hy := List.getElem?_eq_getElem hlt2
      generalize (x.2.1 ++ x.2.2)[j] = y at hy
      have hym : y ∈ x.2.1 ++ x.2.2 := List.mem_of_getElem? hy
      refine WO.one rfl rfl rfl (OpW.elemA (i := j) tabOk rfl rfl rfl rfl hC8 hy rfl rfl ?_)
      have H := St.start [] (w := w8) (by simp)
      refine WO.one rfl rfl rfl (OpW.alloc rfl zero53 rfl H ?_); intro b14 w9 H9
      refine WO.act rfl rfl (OpW.storeA (i := 0) tabOk rfl rfl rfl rfl H9 rfl rfl rfl rfl rfl ?_); intro w10 H10
      (repeat (first | refine WO.run tabOk rfl rfl ?_ | refine WO.nil ?_ | refine WO.skip rfl rfl rfl ?_ | refine WO.pu tabOk rfl rfl rfl rfl ?_ | refine W.seq ?_ | refine W.region ?_ | refine W.block ?_ | refine W.skip ?_ | refine W.exit ?_ | refine WO.one rfl rfl rfl (OpW.load1 tabOk rfl rfl rfl rfl H10 (by (first | exact .head _ | exact .tail _ (.head _) | exact .tail _ (.tail _ (.head _)) | exact .tail _ (.tail _ (.tail _ (.head _))) | exact .tail _ (.tail _ (.tail _ (.tail _ (.head _)))) | exact .tail _ (.tail _ (.tail _ (.tail _ (.tail _ (.head _))))) | exact .tail _ (.tail _ (.tail _ (.tail _ (.tail _ (.tail _ (.head _)))))) | exact .tail _ (.tail _ (.tail _ (.tail _ (.tail _ (.tail _ (.tail _ (.head _))))))))) rfl ?_)))
      refine W.cond rfl (fun h => ?_) (fun h => ?_)
      · simp at h
        exfalso
        refine hno x hm ?_
        rcases List.mem_append.1 hym with hy | hy
        · exact .inl ⟨y, hy, h⟩
        · exact .inr ⟨y, hy, h⟩
      · (repeat (first | refine WO.run tabOk rfl rfl ?_ | refine WO.nil ?_ | refine WO.skip rfl rfl rfl ?_ | refine WO.pu tabOk rfl rfl rfl rfl ?_ | refine W.seq ?_ | refine W.region ?_ | refine W.block ?_ | refine W.skip ?_ | refine W.exit ?_))
        refine WO.pv rfl rfl rfl (PureV.addN rfl rfl rfl (by omega)) ?_
        (repeat (first | refine WO.run tabOk rfl rfl ?_ | refine WO.nil ?_ | refine WO.skip rfl rfl rfl ?_ | refine WO.pu tabOk rfl rfl rfl rfl ?_ | refine W.seq ?_ | refine W.region ?_ | refine W.block ?_ | refine W.skip ?_ | refine W.exit ?_))
        exact ⟨j + 1, rfl, ⟨by omega, hp8.trans H10.pure⟩, by omega⟩
    · (repeat (first | refine WO.run tabOk rfl rfl ?_ | refine WO.nil ?_ | refine WO.skip rfl rfl rfl ?_ | refine WO.pu tabOk rfl rfl rfl rfl ?_ | refine W.seq ?_ | refine W.region ?_ | refine W.block ?_ | refine W.skip ?_ | refine W.exit ?_))
      refine WO.pv rfl rfl rfl (PureV.addN rfl rfl rfl (by omega)) ?_
      (repeat (first | refine WO.run tabOk rfl rfl ?_ | refine WO.nil ?_ | refine WO.skip rfl rfl rfl ?_ | refine WO.pu tabOk rfl rfl rfl rfl ?_ | refine W.seq ?_ | refine W.region ?_ | refine W.block ?_ | refine W.skip ?_ | refine W.exit ?_))
      exact ⟨i + 1, rfl, ⟨by omega, hp7.trans hp8⟩, by omega⟩
  clear hge hi
  (repeat (first | refine WO.run tabOk rfl rfl ?_ | refine WO.nil ?_ | refine WO.skip rfl rfl rfl ?_ | refine WO.pu tabOk rfl rfl rfl rfl ?_ | refine W.seq ?_ | refine W.region ?_ | refine W.block ?_ | refine W.skip ?_ | refine W.exit ?_))
  refine WO.one rfl rfl rfl (OpW.call rfl Try.call22 rfl (Calls.ret (check_ok _ ua uc u (hU.pure hp3)) ?_))
  rintro _ w4 ⟨hp4, e4, rfl, he4⟩
  obtain rfl := he4.2 hu
  (repeat (first | refine WO.run tabOk rfl rfl ?_ | refine WO.nil ?_ | refine WO.skip rfl rfl rfl ?_ | refine WO.pu tabOk rfl rfl rfl rfl ?_ | refine W.seq ?_ | refine W.region ?_ | refine W.block ?_ | refine W.skip ?_ | refine W.exit ?_))
  refine WO.one rfl rfl rfl (OpW.call rfl Try.call24 rfl (Calls.ret (containsInt_ok w4 ga gc g tx (hG.pure (hp3.trans hp4))) ?_))
  rintro _ w5 ⟨hp5, rfl⟩
  refine WO.pu tabOk rfl rfl rfl rfl ?_
  (repeat (first | refine WO.run tabOk rfl rfl ?_ | refine WO.nil ?_ | refine WO.skip rfl rfl rfl ?_ | refine WO.pu tabOk rfl rfl rfl rfl ?_ | refine W.seq ?_ | refine W.region ?_ | refine W.block ?_ | refine W.skip ?_ | refine W.exit ?_))
  refine W.ret (ret1 Try.results6 rfl ⟨_, rfl, hp.trans (hp3.trans (hp4.trans hp5)), ?_⟩)
  simp [hng]
  rfl
end Go.Proofs.Ytnghaidnbicjjaa
