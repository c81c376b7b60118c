/- order: the law OrderFaults. Conditions: each fact's own premises. -/
import Derived.Test.YtpenbdpgpamcbaaOrderE
set_option linter.unusedVariables false
set_option linter.unusedSimpArgs false
set_option maxRecDepth 20000
namespace Go.Proofs.Ytpenbdpgpamcbaa
open Go Gw
attribute [local irreducible] W WO WD

/-- A row that lies at a block's head. -/
theorem seen_blk {α : Type} {r : Rdr α} {w : World} {b e : Nat} {cs : List Value} {xs : List α} (hb : Holds w (blk b e cs)) (hs : SeenL r w (fun k => k < w.heap.size) xs cs) (hl : xs.length ≤ 1000) : Holds w (rd r (some ⟨b, 0, none⟩) xs.length xs) := by
  obtain ⟨S, hS⟩ := hb
  have hlt : b < w.heap.size := (Array.getElem?_eq_some_iff.1 hS.2).1
  refine ⟨fun k => k < w.heap.size, ⟨Nat.le_refl _, by simp only [maxLen]; omega, fun _ h => h, fun _ => ⟨b, 0, cs.toArray, e, _, rfl, hlt, hS.2, ?_, ?_⟩⟩⟩
  · simp [hs.len]
  · rw [List.drop_zero, ← hs.len]
    simpa using hs
theorem seen_rd {α : Type} {r : Rdr α} {w : World} {a : Option Addr} {cap : Nat} {x : List α} (h : Holds w (rd r a cap x)) : Seen (Rdr.rd r) w (fun k => k < w.heap.size) x [.slice a x.length cap] := by
  obtain ⟨S, hS⟩ := h
  exact ⟨S, ⟨a, cap, rfl, hS⟩, fun b hb => hS.dom b hb⟩
theorem seen_tale {w : World} {a : Option Addr} {cap : Nat} {x : Tale} (h : Holds w (rd edgeR a cap x.2)) : Seen taleR w (fun k => k < w.heap.size) x [.int .i64 x.1, .slice a x.2.length cap] := by
  obtain ⟨S, hS⟩ := h
  exact ⟨S, ⟨a, cap, rfl, hS⟩, fun b hb => hS.dom b hb⟩
theorem seen_nil {α : Type} {r : Rdr α} {w : World} : Holds w (rd r none 0 ([] : List α)) := ⟨fun _ => False, ⟨Nat.le_refl _, by decide, fun _ h => h.elim, fun h => absurd rfl h⟩⟩

def exT : List Tale := [(1, [(0, 2)]), (2, [(1, 1)])]
def exV : List (List Int) := [[2], [1]]
theorem ex_ok : StoryOk exT exV := by
  refine ⟨by decide, by decide, by simp [exT], by simp [exT], ?_, ?_⟩
  · intro t ht g hg
    simp only [exT, List.mem_cons, List.not_mem_nil, or_false] at ht
    rcases ht with rfl | rfl <;> simp only [List.mem_cons, List.not_mem_nil, or_false] at hg <;> subst hg <;> simp [exV]
  · intro l hl
    simp only [exV, List.mem_cons, List.not_mem_nil, or_false] at hl
    rcases hl with rfl | rfl <;> simp [exT]
theorem ex1 : ¬ LoopK exT exV 1 := by
  rintro ⟨E, hE, x, c, h1, _⟩
  obtain ⟨q, hq, hd⟩ := hE _ h1
  have hb := Dep.bound ex_ok hd
  rcases hd.is with ⟨_, l, hl, i, k1, k2⟩ | ⟨hk, _⟩ | ⟨hk, _⟩
  · simp only [exV, List.mem_cons, List.not_mem_nil, or_false] at hl
    rcases hl with rfl | rfl <;> simp at k2
  · simp only at hk hb; omega
  · simp only at hk hb; omega
theorem ex2 : LoopK exT exV 2 := by
  refine ⟨[(2, 1), (1, 2)], fun e he => ⟨2, by decide, ?_⟩, 1, 2, by simp, .step (b := 1) (by simp) (.refl 1)⟩
  simp only [List.mem_cons, List.not_mem_nil, or_false] at he
  rcases he with rfl | rfl
  · exact ⟨by decide, by decide, .inr (.inl ⟨rfl, (1, [(0, 2)]), by simp [exT], (0, 2), by simp, rfl, rfl⟩)⟩
  · exact ⟨by decide, by decide, .inr (.inl ⟨rfl, (2, [(1, 1)]), by simp [exT], (1, 1), by simp, rfl, rfl⟩)⟩

theorem eqFault (x y z a b c : Bool) (w : World) : (Op.equalIn 10000 39 (.agg #[.bool x, .bool y, .bool z]) (.agg #[.bool a, .bool b, .bool c])).run Try.prog w = .ok (decide (x = a ∧ y = b ∧ z = c)) w := by
  have u3 := Try.underlying4
  have a3 := Try.isAgg4
  have z3 := Try.sizeOf4
  have hS : Try.prog.underlying 39 = some (.struct (Try.prog.fieldsOf 39)) := by kernel_rfl
  have hp : Try.prog.stoodInHeld 39 = false := by kernel_rfl
  rw [show (10000 : Nat) = 9999 + 1 from rfl, run_equalIn_agg w 9999 39 _ _ hS hp]
  simp only [Program.fieldsOf, Try.underlying39]
  go_simp
  cases x <;> cases y <;> cases z <;> cases a <;> cases b <;> cases c <;> simp

theorem orderFaults_ok (w : World) (T : List Tale) (V : List (List Int)) (ta va : Option Addr) (tc vc : Nat) (hH : StoryR w T V ta va tc vc) (hsm : readsN T ≤ 1048576) :
    Calls Try.prog 4 #[.agg #[.slice ta T.length tc, .slice va V.length vc]] w (Ret fun v w' => Pure w w' ∧ v = .bool true) := by
  refine calls_W (args := [_]) Try.func4 rfl Try.ntmps4 rfl ?_
  have H := St.start [] (w := w) (by simp)
  (repeat (first | refine W.seq ?_ | refine W.block ?_ | refine W.skip ?_ | refine W.exit ?_ | refine W.region ?_))
  refine WO.one rfl rfl rfl (OpW.box rfl rfl rfl H ?_); intro b1 w1 H1
  clear H
  (repeat (first | refine WO.run tabOk rfl rfl ?_ | refine WO.nil ?_ | refine WO.skip rfl rfl rfl ?_ | refine WO.pu tabOk rfl rfl rfl rfl ?_ | refine W.seq ?_ | refine W.region ?_ | refine W.block ?_ | refine W.skip ?_ | refine W.exit ?_))
  refine WO.pv rfl rfl rfl (PureV.build tabOk rfl rfl rfl zero27 (l := [.int .i64 0, .int .i64 2]) rfl) ?_
  refine WO.one rfl rfl rfl (OpW.buildSlice tabOk rfl rfl rfl rfl zero27 rfl rfl (l := [.int .i64 0, .int .i64 2]) rfl H1 ?_)
  intro g1 w2 H2
  refine WO.pv rfl rfl rfl (PureV.build tabOk rfl rfl rfl zero30 (l := [.int .i64 1, .slice (some ⟨g1, 0, none⟩) 1 1]) rfl) ?_
  refine WO.pv rfl rfl rfl (PureV.build tabOk rfl rfl rfl zero27 (l := [.int .i64 1, .int .i64 1]) rfl) ?_
  refine WO.one rfl rfl rfl (OpW.buildSlice tabOk rfl rfl rfl rfl zero27 rfl rfl (l := [.int .i64 1, .int .i64 1]) rfl H2 ?_)
  intro g2 w3 H3
  refine WO.pv rfl rfl rfl (PureV.build tabOk rfl rfl rfl zero30 (l := [.int .i64 2, .slice (some ⟨g2, 0, none⟩) 1 1]) rfl) ?_
  refine WO.one rfl rfl rfl (OpW.buildSlice tabOk rfl rfl rfl rfl zero30 rfl rfl (l := [.int .i64 1, .slice (some ⟨g1, 0, none⟩) 1 1, .int .i64 2, .slice (some ⟨g2, 0, none⟩) 1 1]) rfl H3 ?_)
  intro g3 w4 H4
  refine WO.one rfl rfl rfl (OpW.buildSlice tabOk rfl rfl rfl rfl zero3 rfl rfl (l := [.int .i64 2]) rfl H4 ?_)
  intro g4 w5 H5
  refine WO.one rfl rfl rfl (OpW.buildSlice tabOk rfl rfl rfl rfl zero3 rfl rfl (l := [.int .i64 1]) rfl H5 ?_)
  intro g5 w6 H6
  refine WO.one rfl rfl rfl (OpW.buildSlice tabOk rfl rfl rfl rfl zero31 rfl rfl (l := [.slice (some ⟨g4, 0, none⟩) 1 1, .slice (some ⟨g5, 0, none⟩) 1 1]) rfl H6 ?_)
  intro g6 w7 H7
  refine WO.pv rfl rfl rfl (PureV.build tabOk rfl rfl rfl zero25 (l := [.slice (some ⟨g3, 0, none⟩) 2 2, .slice (some ⟨g6, 0, none⟩) 2 2]) rfl) ?_
  refine WO.one rfl rfl rfl (OpW.alloc rfl zero25 rfl H7 ?_); intro b3 w8 H8
  refine WO.act rfl rfl (OpW.storeA (i := 0) tabOk rfl rfl rfl rfl H8 rfl rfl rfl rfl rfl ?_); intro w9 H9
  have hX : StoryR w9 exT exV (some ⟨g3, 0, none⟩) (some ⟨g6, 0, none⟩) 2 2 := by
    have k1 : Holds w9 (rd edgeR (some ⟨g1, 0, none⟩) 1 [(0, 2)]) := flat_blk (l := [(0, 2)]) (H9.holds (A := blk g1 27 ([(0, 2)].flatMap encE)) (by simp [encE])) (by simp)
    have k2 : Holds w9 (rd edgeR (some ⟨g2, 0, none⟩) 1 [(1, 1)]) := flat_blk (l := [(1, 1)]) (H9.holds (A := blk g2 27 ([(1, 1)].flatMap encE)) (by simp [encE])) (by simp)
    have k4 : Holds w9 (rd i64 (some ⟨g4, 0, none⟩) 1 [2]) := flat_blk (l := [2]) (H9.holds (A := blk g4 3 ([2].flatMap encZ)) (by simp [encZ])) (by simp)
    have k5 : Holds w9 (rd i64 (some ⟨g5, 0, none⟩) 1 [1]) := flat_blk (l := [1]) (H9.holds (A := blk g5 3 ([1].flatMap encZ)) (by simp [encZ])) (by simp)
    exact ⟨seen_blk (xs := exT) (H9.holds (A := blk g3 30 [.int .i64 1, .slice (some ⟨g1, 0, none⟩) 1 1, .int .i64 2, .slice (some ⟨g2, 0, none⟩) 1 1]) (by simp)) ⟨_, _, rfl, seen_tale (x := (1, [(0, 2)])) k1, _, _, rfl, seen_tale (x := (2, [(1, 1)])) k2, rfl⟩ (by decide),
      seen_blk (xs := exV) (H9.holds (A := blk g6 31 [.slice (some ⟨g4, 0, none⟩) 1 1, .slice (some ⟨g5, 0, none⟩) 1 1]) (by simp)) ⟨_, _, rfl, seen_rd (x := [2]) k4, _, _, rfl, seen_rd (x := [1]) k5, rfl⟩ (by decide)⟩
  have H9 := (H9.bring [0, 7] rfl)
  have H9 : St (at0 w) w9 [blk b3 25 [.slice (some ⟨g3, 0, none⟩) 2 2, .slice (some ⟨g6, 0, none⟩) 2 2], blk b1 25 (storyV T V ta va tc vc)] [] := (H9.bring [2, 3, 4, 5, 6, 7, 0, 1] rfl).drop.drop.drop.drop.drop.drop
  clear H8 H7 H6 H5 H4 H3 H2 H1
  (repeat (first | refine WO.run tabOk rfl rfl ?_ | refine WO.nil ?_ | refine WO.skip rfl rfl rfl ?_ | refine WO.pu tabOk rfl rfl rfl rfl ?_ | refine W.seq ?_ | refine W.region ?_ | refine W.block ?_ | refine W.skip ?_ | refine W.exit ?_))
  refine WO.one rfl rfl rfl (OpW.loadA tabOk rfl rfl rfl rfl H9 (by (first | exact .head _ | exact .tail _ (.head _) | exact .tail _ (.tail _ (.head _)) | exact .tail _ (.tail _ (.tail _ (.head _))) | exact .tail _ (.tail _ (.tail _ (.tail _ (.head _)))) | exact .tail _ (.tail _ (.tail _ (.tail _ (.tail _ (.head _))))) | exact .tail _ (.tail _ (.tail _ (.tail _ (.tail _ (.tail _ (.head _)))))) | exact .tail _ (.tail _ (.tail _ (.tail _ (.tail _ (.tail _ (.tail _ (.head _))))))) | exact .tail _ (.tail _ (.tail _ (.tail _ (.tail _ (.tail _ (.tail _ (.tail _ (.head _)))))))) | exact .tail _ (.tail _ (.tail _ (.tail _ (.tail _ (.tail _ (.tail _ (.tail _ (.tail _ (.head _))))))))) | exact .tail _ (.tail _ (.tail _ (.tail _ (.tail _ (.tail _ (.tail _ (.tail _ (.tail _ (.tail _ (.head _)))))))))) | exact .tail _ (.tail _ (.tail _ (.tail _ (.tail _ (.tail _ (.tail _ (.tail _ (.tail _ (.tail _ (.tail _ (.head _))))))))))) | exact .tail _ (.tail _ (.tail _ (.tail _ (.tail _ (.tail _ (.tail _ (.tail _ (.tail _ (.tail _ (.tail _ (.tail _ (.head _)))))))))))) | exact .tail _ (.tail _ (.tail _ (.tail _ (.tail _ (.tail _ (.tail _ (.tail _ (.tail _ (.tail _ (.tail _ (.tail _ (.tail _ (.head _))))))))))))) | exact .tail _ (.tail _ (.tail _ (.tail _ (.tail _ (.tail _ (.tail _ (.tail _ (.tail _ (.tail _ (.tail _ (.tail _ (.tail _ (.tail _ (.head _)))))))))))))) | exact .tail _ (.tail _ (.tail _ (.tail _ (.tail _ (.tail _ (.tail _ (.tail _ (.tail _ (.tail _ (.tail _ (.tail _ (.tail _ (.tail _ (.tail _ (.head _))))))))))))))))) rfl rfl ?_)
  have hc : Calls Try.prog 11 #[.agg #[.slice (some ⟨g3, 0, none⟩) 2 2, .slice (some ⟨g6, 0, none⟩) 2 2]] w9 (Ret fun v w' => FaultsPost w9 w' exT exV v) := faults_ok w9 exT exV (some ⟨g3, 0, none⟩) (some ⟨g6, 0, none⟩) 2 2 hX (by decide)
  refine WO.one rfl rfl rfl (OpW.call rfl Try.call11 rfl (Calls.ret hc ?_))
  rintro _ w10 ⟨x, y, z, e, rfl, hp10, hpost⟩
  have H10 := (H9.after hp10).to (i := 1) rfl
  rcases hpost with ⟨_, hno, _⟩ | ⟨rfl, _, hx, hy, hz⟩
  · exact absurd ex_ok hno
  have hx : x = false := by cases x; rfl; exact absurd (hx.1 rfl) ex1
  have hy := hy.2 ex2
  have hz := hz.2 (ex2.up (by decide))
  subst hx; subst hy; subst hz
  clear hX hc H9
  (repeat (first | refine WO.run tabOk rfl rfl ?_ | refine WO.nil ?_ | refine WO.skip rfl rfl rfl ?_ | refine WO.pu tabOk rfl rfl rfl rfl ?_ | refine W.seq ?_ | refine W.region ?_ | refine W.block ?_ | refine W.skip ?_ | refine W.exit ?_))
  refine WO.one rfl rfl rfl (OpW.alloc rfl zero39 rfl H10 ?_); intro b4 w11 H11
  refine WO.act rfl rfl (OpW.storeA (i := 0) tabOk rfl rfl rfl rfl H11 rfl rfl rfl rfl rfl ?_); intro w12 H12
  (repeat (first | refine WO.run tabOk rfl rfl ?_ | refine WO.nil ?_ | refine WO.skip rfl rfl rfl ?_ | refine WO.pu tabOk rfl rfl rfl rfl ?_ | refine W.seq ?_ | refine W.region ?_ | refine W.block ?_ | refine W.skip ?_ | refine W.exit ?_))
  refine WO.one rfl rfl rfl (OpW.loadA tabOk rfl rfl rfl rfl H12 (by (first | exact .head _ | exact .tail _ (.head _) | exact .tail _ (.tail _ (.head _)) | exact .tail _ (.tail _ (.tail _ (.head _))) | exact .tail _ (.tail _ (.tail _ (.tail _ (.head _)))) | exact .tail _ (.tail _ (.tail _ (.tail _ (.tail _ (.head _))))) | exact .tail _ (.tail _ (.tail _ (.tail _ (.tail _ (.tail _ (.head _)))))) | exact .tail _ (.tail _ (.tail _ (.tail _ (.tail _ (.tail _ (.tail _ (.head _))))))) | exact .tail _ (.tail _ (.tail _ (.tail _ (.tail _ (.tail _ (.tail _ (.tail _ (.head _)))))))) | exact .tail _ (.tail _ (.tail _ (.tail _ (.tail _ (.tail _ (.tail _ (.tail _ (.tail _ (.head _))))))))) | exact .tail _ (.tail _ (.tail _ (.tail _ (.tail _ (.tail _ (.tail _ (.tail _ (.tail _ (.tail _ (.head _)))))))))) | exact .tail _ (.tail _ (.tail _ (.tail _ (.tail _ (.tail _ (.tail _ (.tail _ (.tail _ (.tail _ (.tail _ (.head _))))))))))) | exact .tail _ (.tail _ (.tail _ (.tail _ (.tail _ (.tail _ (.tail _ (.tail _ (.tail _ (.tail _ (.tail _ (.tail _ (.head _)))))))))))) | exact .tail _ (.tail _ (.tail _ (.tail _ (.tail _ (.tail _ (.tail _ (.tail _ (.tail _ (.tail _ (.tail _ (.tail _ (.tail _ (.head _))))))))))))) | exact .tail _ (.tail _ (.tail _ (.tail _ (.tail _ (.tail _ (.tail _ (.tail _ (.tail _ (.tail _ (.tail _ (.tail _ (.tail _ (.tail _ (.head _)))))))))))))) | exact .tail _ (.tail _ (.tail _ (.tail _ (.tail _ (.tail _ (.tail _ (.tail _ (.tail _ (.tail _ (.tail _ (.tail _ (.tail _ (.tail _ (.tail _ (.head _))))))))))))))))) rfl rfl ?_)
  refine WO.pv rfl rfl rfl (PureV.build tabOk rfl rfl rfl zero39 (l := [.bool false, .bool true, .bool true]) rfl) ?_
  refine WO.pv rfl rfl rfl (PureV.neA rfl rfl rfl (by kernel_rfl) (eqFault false true true false true true)) ?_
  (repeat (first | refine WO.run tabOk rfl rfl ?_ | refine WO.nil ?_ | refine WO.skip rfl rfl rfl ?_ | refine WO.pu tabOk rfl rfl rfl rfl ?_ | refine W.seq ?_ | refine W.region ?_ | refine W.block ?_ | refine W.skip ?_ | refine W.exit ?_))
  refine W.cond rfl (fun h => by simp [pickV] at h) (fun _ => ?_)
  have H := (H12.to (i := 1) rfl).first
  clear H10 H11 H12
  (repeat (first | refine WO.run tabOk rfl rfl ?_ | refine WO.nil ?_ | refine WO.skip rfl rfl rfl ?_ | refine WO.pu tabOk rfl rfl rfl rfl ?_ | refine W.seq ?_ | refine W.region ?_ | refine W.block ?_ | refine W.skip ?_ | refine W.exit ?_))
  refine WO.one rfl rfl rfl (OpW.loadA tabOk rfl rfl rfl rfl H (by (first | exact .head _ | exact .tail _ (.head _) | exact .tail _ (.tail _ (.head _)) | exact .tail _ (.tail _ (.tail _ (.head _))) | exact .tail _ (.tail _ (.tail _ (.tail _ (.head _)))) | exact .tail _ (.tail _ (.tail _ (.tail _ (.tail _ (.head _))))) | exact .tail _ (.tail _ (.tail _ (.tail _ (.tail _ (.tail _ (.head _)))))) | exact .tail _ (.tail _ (.tail _ (.tail _ (.tail _ (.tail _ (.tail _ (.head _))))))) | exact .tail _ (.tail _ (.tail _ (.tail _ (.tail _ (.tail _ (.tail _ (.tail _ (.head _)))))))) | exact .tail _ (.tail _ (.tail _ (.tail _ (.tail _ (.tail _ (.tail _ (.tail _ (.tail _ (.head _))))))))) | exact .tail _ (.tail _ (.tail _ (.tail _ (.tail _ (.tail _ (.tail _ (.tail _ (.tail _ (.tail _ (.head _)))))))))) | exact .tail _ (.tail _ (.tail _ (.tail _ (.tail _ (.tail _ (.tail _ (.tail _ (.tail _ (.tail _ (.tail _ (.head _))))))))))) | exact .tail _ (.tail _ (.tail _ (.tail _ (.tail _ (.tail _ (.tail _ (.tail _ (.tail _ (.tail _ (.tail _ (.tail _ (.head _)))))))))))) | exact .tail _ (.tail _ (.tail _ (.tail _ (.tail _ (.tail _ (.tail _ (.tail _ (.tail _ (.tail _ (.tail _ (.tail _ (.tail _ (.head _))))))))))))) | exact .tail _ (.tail _ (.tail _ (.tail _ (.tail _ (.tail _ (.tail _ (.tail _ (.tail _ (.tail _ (.tail _ (.tail _ (.tail _ (.tail _ (.head _)))))))))))))) | exact .tail _ (.tail _ (.tail _ (.tail _ (.tail _ (.tail _ (.tail _ (.tail _ (.tail _ (.tail _ (.tail _ (.tail _ (.tail _ (.tail _ (.tail _ (.head _))))))))))))))))) rfl rfl ?_)
  refine WO.one rfl rfl rfl (OpW.call rfl Try.call11 rfl (Calls.ret (faults_ok w12 T V ta va tc vc (hH.pure H.pure) hsm) ?_))
  rintro _ w13 ⟨x, y, z, e, rfl, hp13, hpost⟩
  have H13 := H.after hp13
  clear H
  (repeat (first | refine WO.run tabOk rfl rfl ?_ | refine WO.nil ?_ | refine WO.skip rfl rfl rfl ?_ | refine WO.pu tabOk rfl rfl rfl rfl ?_ | refine W.seq ?_ | refine W.region ?_ | refine W.block ?_ | refine W.skip ?_ | refine W.exit ?_))
  refine WO.one rfl rfl rfl (OpW.alloc rfl zero39 rfl H13 ?_); intro b6 w14 H14
  refine WO.act rfl rfl (OpW.storeA (i := 0) tabOk rfl rfl rfl rfl H14 rfl rfl rfl rfl rfl ?_); intro w15 H15
  clear H13 H14
  (repeat (first | refine WO.run tabOk rfl rfl ?_ | refine WO.nil ?_ | refine WO.skip rfl rfl rfl ?_ | refine WO.pu tabOk rfl rfl rfl rfl ?_ | refine W.seq ?_ | refine W.region ?_ | refine W.block ?_ | refine W.skip ?_ | refine W.exit ?_))
  rcases hpost with ⟨he, _, rfl, rfl, rfl⟩ | ⟨rfl, hS, hx, hy, hz⟩
  · refine W.cond rfl (fun _ => ?_) (fun h => by simp at h; exact absurd h he)
    (repeat (first | refine WO.run tabOk rfl rfl ?_ | refine WO.nil ?_ | refine WO.skip rfl rfl rfl ?_ | refine WO.pu tabOk rfl rfl rfl rfl ?_ | refine W.seq ?_ | refine W.region ?_ | refine W.block ?_ | refine W.skip ?_ | refine W.exit ?_))
    refine WO.one rfl rfl rfl (OpW.loadA tabOk rfl rfl rfl rfl H15 (by (first | exact .head _ | exact .tail _ (.head _) | exact .tail _ (.tail _ (.head _)) | exact .tail _ (.tail _ (.tail _ (.head _))) | exact .tail _ (.tail _ (.tail _ (.tail _ (.head _)))) | exact .tail _ (.tail _ (.tail _ (.tail _ (.tail _ (.head _))))) | exact .tail _ (.tail _ (.tail _ (.tail _ (.tail _ (.tail _ (.head _)))))) | exact .tail _ (.tail _ (.tail _ (.tail _ (.tail _ (.tail _ (.tail _ (.head _))))))) | exact .tail _ (.tail _ (.tail _ (.tail _ (.tail _ (.tail _ (.tail _ (.tail _ (.head _)))))))) | exact .tail _ (.tail _ (.tail _ (.tail _ (.tail _ (.tail _ (.tail _ (.tail _ (.tail _ (.head _))))))))) | exact .tail _ (.tail _ (.tail _ (.tail _ (.tail _ (.tail _ (.tail _ (.tail _ (.tail _ (.tail _ (.head _)))))))))) | exact .tail _ (.tail _ (.tail _ (.tail _ (.tail _ (.tail _ (.tail _ (.tail _ (.tail _ (.tail _ (.tail _ (.head _))))))))))) | exact .tail _ (.tail _ (.tail _ (.tail _ (.tail _ (.tail _ (.tail _ (.tail _ (.tail _ (.tail _ (.tail _ (.tail _ (.head _)))))))))))) | exact .tail _ (.tail _ (.tail _ (.tail _ (.tail _ (.tail _ (.tail _ (.tail _ (.tail _ (.tail _ (.tail _ (.tail _ (.tail _ (.head _))))))))))))) | exact .tail _ (.tail _ (.tail _ (.tail _ (.tail _ (.tail _ (.tail _ (.tail _ (.tail _ (.tail _ (.tail _ (.tail _ (.tail _ (.tail _ (.head _)))))))))))))) | exact .tail _ (.tail _ (.tail _ (.tail _ (.tail _ (.tail _ (.tail _ (.tail _ (.tail _ (.tail _ (.tail _ (.tail _ (.tail _ (.tail _ (.tail _ (.head _))))))))))))))))) rfl rfl ?_)
    refine WO.pv rfl rfl rfl (PureV.build tabOk rfl rfl rfl zero39 (l := [.bool false, .bool false, .bool false]) rfl) ?_
    refine WO.pv rfl rfl rfl (PureV.eqA rfl rfl rfl (by kernel_rfl) (eqFault false false false false false false)) ?_
    (repeat (first | refine WO.run tabOk rfl rfl ?_ | refine WO.nil ?_ | refine WO.skip rfl rfl rfl ?_ | refine WO.pu tabOk rfl rfl rfl rfl ?_ | refine W.seq ?_ | refine W.region ?_ | refine W.block ?_ | refine W.skip ?_ | refine W.exit ?_))
    exact W.ret (ret1 Try.results4 rfl ⟨_, rfl, H15.pure, rfl⟩)
  refine W.cond_f rfl ?_
  (repeat (first | refine WO.run tabOk rfl rfl ?_ | refine WO.nil ?_ | refine WO.skip rfl rfl rfl ?_ | refine WO.pu tabOk rfl rfl rfl rfl ?_ | refine W.seq ?_ | refine W.region ?_ | refine W.block ?_ | refine W.skip ?_ | refine W.exit ?_))
  refine WO.one rfl rfl rfl (OpW.loadA tabOk rfl rfl rfl rfl H15 (by (first | exact .head _ | exact .tail _ (.head _) | exact .tail _ (.tail _ (.head _)) | exact .tail _ (.tail _ (.tail _ (.head _))) | exact .tail _ (.tail _ (.tail _ (.tail _ (.head _)))) | exact .tail _ (.tail _ (.tail _ (.tail _ (.tail _ (.head _))))) | exact .tail _ (.tail _ (.tail _ (.tail _ (.tail _ (.tail _ (.head _)))))) | exact .tail _ (.tail _ (.tail _ (.tail _ (.tail _ (.tail _ (.tail _ (.head _))))))) | exact .tail _ (.tail _ (.tail _ (.tail _ (.tail _ (.tail _ (.tail _ (.tail _ (.head _)))))))) | exact .tail _ (.tail _ (.tail _ (.tail _ (.tail _ (.tail _ (.tail _ (.tail _ (.tail _ (.head _))))))))) | exact .tail _ (.tail _ (.tail _ (.tail _ (.tail _ (.tail _ (.tail _ (.tail _ (.tail _ (.tail _ (.head _)))))))))) | exact .tail _ (.tail _ (.tail _ (.tail _ (.tail _ (.tail _ (.tail _ (.tail _ (.tail _ (.tail _ (.tail _ (.head _))))))))))) | exact .tail _ (.tail _ (.tail _ (.tail _ (.tail _ (.tail _ (.tail _ (.tail _ (.tail _ (.tail _ (.tail _ (.tail _ (.head _)))))))))))) | exact .tail _ (.tail _ (.tail _ (.tail _ (.tail _ (.tail _ (.tail _ (.tail _ (.tail _ (.tail _ (.tail _ (.tail _ (.tail _ (.head _))))))))))))) | exact .tail _ (.tail _ (.tail _ (.tail _ (.tail _ (.tail _ (.tail _ (.tail _ (.tail _ (.tail _ (.tail _ (.tail _ (.tail _ (.tail _ (.head _)))))))))))))) | exact .tail _ (.tail _ (.tail _ (.tail _ (.tail _ (.tail _ (.tail _ (.tail _ (.tail _ (.tail _ (.tail _ (.tail _ (.tail _ (.tail _ (.tail _ (.head _))))))))))))))))) rfl rfl ?_)
  refine WO.one rfl rfl rfl (OpW.call rfl Try.call8 rfl (Calls.ret (serial_ok w15 T V ta va tc vc (hH.pure H15.pure) hsm) ?_))
  rintro _ w16 ⟨ov, e, rfl, hpost⟩
  have h12 : x = true → y = true := fun h => hy.2 ((hx.1 h).up (by decide))
  have h23 : y = true → z = true := fun h => hz.2 ((hy.1 h).up (by decide))
  have hor : ∃ H16 : St (at0 w) w16 [blk b6 39 [.bool x, .bool y, .bool z], blk b1 25 (storyV T V ta va tc vc)] [], ∃ va n vc, ov = .slice va n vc ∧ ((e = 11 ∧ z = true) ∨ (e = 0 ∧ z = false)) := by
    rcases hpost with ⟨_, hno, _⟩ | ⟨rfl, _, hl, rfl, hp⟩ | ⟨rfl, _, hl, t, _, K⟩
    · exact absurd hS hno
    · exact ⟨H15.after hp, none, 0, 0, rfl, .inl ⟨rfl, hz.2 hl⟩⟩
    · obtain ⟨a, c, h⟩ := rowForm K (v := ov) (e := 3) (r := natR) (xs := t) (by simp)
      exact ⟨H15.after K.pure, a, _, c, h, .inr ⟨rfl, by cases z; rfl; exact absurd (hz.1 rfl) hl⟩⟩
  obtain ⟨H16, a, n, c, rfl, hor⟩ := hor
  have hp16 := H16.pure
  clear hpost H15 hx hy hz
  rcases hor with ⟨rfl, rfl⟩ | ⟨rfl, rfl⟩ <;> cases x <;> cases y <;> first | (exact absurd (h12 rfl) (by decide)) | (exact absurd (h23 rfl) (by decide)) | skip
  all_goals
    (repeat (first | refine WO.run tabOk rfl rfl ?_ | refine WO.nil ?_ | refine WO.skip rfl rfl rfl ?_ | refine WO.pu tabOk rfl rfl rfl rfl ?_ | refine W.seq ?_ | refine W.region ?_ | refine W.block ?_ | refine W.skip ?_ | refine W.exit ?_ | refine WO.one rfl rfl rfl (OpW.load1 tabOk rfl rfl rfl rfl H16 (by (first | exact .head _ | exact .tail _ (.head _) | exact .tail _ (.tail _ (.head _)) | exact .tail _ (.tail _ (.tail _ (.head _))) | exact .tail _ (.tail _ (.tail _ (.tail _ (.head _)))) | exact .tail _ (.tail _ (.tail _ (.tail _ (.tail _ (.head _))))) | exact .tail _ (.tail _ (.tail _ (.tail _ (.tail _ (.tail _ (.head _)))))) | exact .tail _ (.tail _ (.tail _ (.tail _ (.tail _ (.tail _ (.tail _ (.head _))))))) | exact .tail _ (.tail _ (.tail _ (.tail _ (.tail _ (.tail _ (.tail _ (.tail _ (.head _)))))))) | exact .tail _ (.tail _ (.tail _ (.tail _ (.tail _ (.tail _ (.tail _ (.tail _ (.tail _ (.head _))))))))) | exact .tail _ (.tail _ (.tail _ (.tail _ (.tail _ (.tail _ (.tail _ (.tail _ (.tail _ (.tail _ (.head _)))))))))) | exact .tail _ (.tail _ (.tail _ (.tail _ (.tail _ (.tail _ (.tail _ (.tail _ (.tail _ (.tail _ (.tail _ (.head _))))))))))) | exact .tail _ (.tail _ (.tail _ (.tail _ (.tail _ (.tail _ (.tail _ (.tail _ (.tail _ (.tail _ (.tail _ (.tail _ (.head _)))))))))))) | exact .tail _ (.tail _ (.tail _ (.tail _ (.tail _ (.tail _ (.tail _ (.tail _ (.tail _ (.tail _ (.tail _ (.tail _ (.tail _ (.head _))))))))))))) | exact .tail _ (.tail _ (.tail _ (.tail _ (.tail _ (.tail _ (.tail _ (.tail _ (.tail _ (.tail _ (.tail _ (.tail _ (.tail _ (.tail _ (.head _)))))))))))))) | exact .tail _ (.tail _ (.tail _ (.tail _ (.tail _ (.tail _ (.tail _ (.tail _ (.tail _ (.tail _ (.tail _ (.tail _ (.tail _ (.tail _ (.tail _ (.head _))))))))))))))))) rfl ?_)))
    exact W.ret (ret1 Try.results4 rfl ⟨_, rfl, hp16, rfl⟩)
end Go.Proofs.Ytpenbdpgpamcbaa
