/- order: loop, Faults. Conditions: each fact's own premises. -/
import Derived.Test.YtpenbdpgpamcbaaOrderC
import Derived.Test.YtpenbdpgpamcbaaGwDel
import Derived.Test.YtpenbdpgpamcbaaGraphG
set_option linter.unusedVariables false
set_option linter.unusedSimpArgs false
set_option maxRecDepth 20000
namespace Go.Proofs.Ytpenbdpgpamcbaa
open Go Gw
attribute [local irreducible] W WO WD

def kindE (most : Int) (D : List D3) : List (Int × Int) := (D.filter fun d => decide (d.2.2 ≤ most)).map fun d => (d.1, d.2.1)
theorem mem_kindE {most : Int} {D : List D3} {a b : Int} : (a, b) ∈ kindE most D ↔ ∃ k, k ≤ most ∧ (a, b, k) ∈ D := by
  simp only [kindE, List.mem_map, List.mem_filter, decide_eq_true_eq, Prod.mk.injEq]
  constructor
  · rintro ⟨⟨x, y, z⟩, ⟨h1, h2⟩, rfl, rfl⟩; exact ⟨z, h2, h1⟩
  · rintro ⟨k, h1, h2⟩; exact ⟨_, ⟨h2, h1⟩, rfl, rfl⟩
theorem kindE_len (most : Int) (D : List D3) : (kindE most D).length ≤ D.length := by rw [kindE, List.length_map]; exact List.length_filter_le _ _
theorem kindE_yes {most : Int} {D : List D3} {i : Nat} {x y z : Int} (h : D[i]? = some (x, y, z)) (hk : z ≤ most) : kindE most (D.take (i + 1)) = kindE most (D.take i) ++ [(x, y)] := by
  simp only [kindE]; rw [take_snoc h, List.filter_append, List.map_append]; simp [hk]
theorem kindE_no {most : Int} {D : List D3} {i : Nat} {x y z : Int} (h : D[i]? = some (x, y, z)) (hk : ¬ z ≤ most) : kindE most (D.take (i + 1)) = kindE most (D.take i) := by
  simp only [kindE]; rw [take_snoc h, List.filter_append, List.map_append]; simp [hk]
theorem kindE_ok {most : Int} {D : List D3} (hb : ∀ d ∈ D, 0 ≤ d.1 ∧ d.1 < 12 ∧ 0 ≤ d.2.1 ∧ d.2.1 < 12) (hl : D.length ≤ 576) : GOk 12 (kindE most D) := by
  have := kindE_len most D
  refine ⟨by decide, by decide, by omega, fun e he => ?_⟩
  obtain ⟨a, b⟩ := e
  obtain ⟨k, _, h⟩ := mem_kindE.1 he
  have := hb _ h; simp only at *; omega

theorem loop_ok (w : World) (a : Option Addr) (c : Nat) (D : List D3) (most : Int) (hH : Holds w (rd depR a c D)) (hb : ∀ d ∈ D, 0 ≤ d.1 ∧ d.1 < 12 ∧ 0 ≤ d.2.1 ∧ d.2.1 < 12) (hl : D.length ≤ 576) :
    Calls Try.prog 28 #[.slice a D.length c, .int .i64 most] w (Ret fun v w' => Pure w w' ∧ ∃ b, v = .bool b ∧ (b = true ↔ ∃ x, PlusE (kindE most D) x x)) := by
  refine calls_W (args := [_, _]) Try.func28 rfl Try.ntmps28 rfl ?_
  have H0 := (St.start [] (w := w) (by simp)).add_nil 71 edgeR
  (repeat (first | refine WO.run tabOk rfl rfl ?_ | refine WO.nil ?_ | refine WO.skip rfl rfl rfl ?_ | refine WO.pu tabOk rfl rfl rfl rfl ?_ | refine W.seq ?_ | refine W.region ?_ | refine W.block ?_ | refine W.skip ?_ | refine W.exit ?_))
  refine W.loopS [1, 5, 10, 11, 12] (fun s : Nat × Value => [(1, .int .i64 most), (5, s.2), (10, .slice a D.length c), (11, .int .i64 (D.length : Int)), (12, .int .i64 (s.1 : Int))])
    (fun s w' => s.1 ≤ D.length ∧ St (at0 w) w' [row 71 edgeR s.2 (kindE most (D.take s.1))] []) (fun s => D.length - s.1) (0, .slice none 0 0) rfl ⟨Nat.zero_le _, H0⟩ ?_
  clear H0
  rintro ⟨i, v⟩ w1 ⟨hi, H⟩
  simp only at hi H
  obtain ⟨va, vc, rfl⟩ := rowForm H (v := v) (e := 71) (r := edgeR) (xs := kindE most (D.take i)) (by simp)
  (repeat (first | refine WO.run tabOk rfl rfl ?_ | refine WO.nil ?_ | refine WO.skip rfl rfl rfl ?_ | refine WO.pu tabOk rfl rfl rfl rfl ?_ | refine W.seq ?_ | refine W.region ?_ | refine W.block ?_ | refine W.skip ?_ | refine W.exit ?_))
  refine W.cond rfl (fun hlt => ?_) (fun hge => ?_)
  · have hlt : i < D.length := by simpa using hlt
    have hkl := kindE_len most (D.take i)
    rw [List.length_take] at hkl
    obtain ⟨b, o, rfl⟩ := hH.addr (by omega)
    have hx := List.getElem?_eq_getElem hlt
    generalize D[i] = d at hx
    obtain ⟨d1, d2, d3⟩ := d
    (repeat (first | refine WO.run tabOk rfl rfl ?_ | refine WO.nil ?_ | refine WO.skip rfl rfl rfl ?_ | refine WO.pu tabOk rfl rfl rfl rfl ?_ | refine W.seq ?_ | refine W.region ?_ | refine W.block ?_ | refine W.skip ?_ | refine W.exit ?_))
    refine WO.pv rfl rfl rfl (PureV.idxN tabOk rfl rfl rfl rfl rfl rfl (by omega)) ?_
    refine WO.one rfl rfl rfl (OpW.elemA (i := i) tabOk rfl rfl rfl rfl (hH.pure H.pure) hx rfl rfl ?_)
    refine WO.one rfl rfl rfl (OpW.alloc rfl zero69 rfl H ?_); intro b7 w2 H2
    refine WO.act rfl rfl (OpW.storeA (i := 0) tabOk rfl rfl rfl rfl H2 rfl rfl rfl rfl rfl ?_); intro w3 H3
    (repeat (first | refine WO.run tabOk rfl rfl ?_ | refine WO.nil ?_ | refine WO.skip rfl rfl rfl ?_ | refine WO.pu tabOk rfl rfl rfl rfl ?_ | refine W.seq ?_ | refine W.region ?_ | refine W.block ?_ | refine W.skip ?_ | refine W.exit ?_ | refine WO.one rfl rfl rfl (OpW.load1 tabOk rfl rfl rfl rfl H3 (by (first | exact .head _ | exact .tail _ (.head _) | exact .tail _ (.tail _ (.head _)) | exact .tail _ (.tail _ (.tail _ (.head _))) | exact .tail _ (.tail _ (.tail _ (.tail _ (.head _)))) | exact .tail _ (.tail _ (.tail _ (.tail _ (.tail _ (.head _))))) | exact .tail _ (.tail _ (.tail _ (.tail _ (.tail _ (.tail _ (.head _)))))) | exact .tail _ (.tail _ (.tail _ (.tail _ (.tail _ (.tail _ (.tail _ (.head _))))))) | exact .tail _ (.tail _ (.tail _ (.tail _ (.tail _ (.tail _ (.tail _ (.tail _ (.head _)))))))) | exact .tail _ (.tail _ (.tail _ (.tail _ (.tail _ (.tail _ (.tail _ (.tail _ (.tail _ (.head _))))))))) | exact .tail _ (.tail _ (.tail _ (.tail _ (.tail _ (.tail _ (.tail _ (.tail _ (.tail _ (.tail _ (.head _)))))))))) | exact .tail _ (.tail _ (.tail _ (.tail _ (.tail _ (.tail _ (.tail _ (.tail _ (.tail _ (.tail _ (.tail _ (.head _))))))))))) | exact .tail _ (.tail _ (.tail _ (.tail _ (.tail _ (.tail _ (.tail _ (.tail _ (.tail _ (.tail _ (.tail _ (.tail _ (.head _)))))))))))) | exact .tail _ (.tail _ (.tail _ (.tail _ (.tail _ (.tail _ (.tail _ (.tail _ (.tail _ (.tail _ (.tail _ (.tail _ (.tail _ (.head _))))))))))))) | exact .tail _ (.tail _ (.tail _ (.tail _ (.tail _ (.tail _ (.tail _ (.tail _ (.tail _ (.tail _ (.tail _ (.tail _ (.tail _ (.tail _ (.head _)))))))))))))) | exact .tail _ (.tail _ (.tail _ (.tail _ (.tail _ (.tail _ (.tail _ (.tail _ (.tail _ (.tail _ (.tail _ (.tail _ (.tail _ (.tail _ (.tail _ (.head _))))))))))))))))) rfl ?_)))
    clear H H2
    refine W.cond rfl (fun hk => ?_) (fun hk => ?_)
    · have hk : d3 ≤ most := by simpa using hk
      (repeat (first | refine WO.run tabOk rfl rfl ?_ | refine WO.nil ?_ | refine WO.skip rfl rfl rfl ?_ | refine WO.pu tabOk rfl rfl rfl rfl ?_ | refine W.seq ?_ | refine W.region ?_ | refine W.block ?_ | refine W.skip ?_ | refine W.exit ?_ | refine WO.one rfl rfl rfl (OpW.load1 tabOk rfl rfl rfl rfl H3 (by (first | exact .head _ | exact .tail _ (.head _) | exact .tail _ (.tail _ (.head _)) | exact .tail _ (.tail _ (.tail _ (.head _))) | exact .tail _ (.tail _ (.tail _ (.tail _ (.head _)))) | exact .tail _ (.tail _ (.tail _ (.tail _ (.tail _ (.head _))))) | exact .tail _ (.tail _ (.tail _ (.tail _ (.tail _ (.tail _ (.head _)))))) | exact .tail _ (.tail _ (.tail _ (.tail _ (.tail _ (.tail _ (.tail _ (.head _))))))) | exact .tail _ (.tail _ (.tail _ (.tail _ (.tail _ (.tail _ (.tail _ (.tail _ (.head _)))))))) | exact .tail _ (.tail _ (.tail _ (.tail _ (.tail _ (.tail _ (.tail _ (.tail _ (.tail _ (.head _))))))))) | exact .tail _ (.tail _ (.tail _ (.tail _ (.tail _ (.tail _ (.tail _ (.tail _ (.tail _ (.tail _ (.head _)))))))))) | exact .tail _ (.tail _ (.tail _ (.tail _ (.tail _ (.tail _ (.tail _ (.tail _ (.tail _ (.tail _ (.tail _ (.head _))))))))))) | exact .tail _ (.tail _ (.tail _ (.tail _ (.tail _ (.tail _ (.tail _ (.tail _ (.tail _ (.tail _ (.tail _ (.tail _ (.head _)))))))))))) | exact .tail _ (.tail _ (.tail _ (.tail _ (.tail _ (.tail _ (.tail _ (.tail _ (.tail _ (.tail _ (.tail _ (.tail _ (.tail _ (.head _))))))))))))) | exact .tail _ (.tail _ (.tail _ (.tail _ (.tail _ (.tail _ (.tail _ (.tail _ (.tail _ (.tail _ (.tail _ (.tail _ (.tail _ (.tail _ (.head _)))))))))))))) | exact .tail _ (.tail _ (.tail _ (.tail _ (.tail _ (.tail _ (.tail _ (.tail _ (.tail _ (.tail _ (.tail _ (.tail _ (.tail _ (.tail _ (.tail _ (.head _))))))))))))))))) rfl ?_)))
      refine WO.pv rfl rfl rfl (PureV.build tabOk rfl rfl rfl zero71 (l := [.int .i64 d1, .int .i64 d2]) rfl) ?_
      refine WO.one rfl rfl rfl (OpW.buildSlice tabOk rfl rfl rfl rfl zero71 rfl rfl (l := [.int .i64 d1, .int .i64 d2]) rfl H3 ?_)
      intro b8 w8 H8
      have hsh := shows_blk (sz := 2) (m := 1) (e := 71) (l := [.int .i64 d1, .int .i64 d2]) H8 (b := b8) (by simp) rfl (by intro u hu; simp at hu; rcases hu with rfl | rfl <;> rfl)
      have H9 := (H8.to (i := 2) rfl).flat_open
      refine WO.one rfl rfl rfl (OpW.append tabOk rfl rfl rfl zero71 rfl rfl rfl rfl H9 hsh (by omega) (by simp only [maxLen]; omega) ?_)
      intro v' w10 H10 _
      have e1 : (kindE most (D.take i)).flatMap encE ++ [.int .i64 d1, .int .i64 d2] = (kindE most (D.take (i + 1))).flatMap encE := by rw [kindE_yes hx hk]; simp [encE]
      have e2 : (kindE most (D.take i)).length + 1 = (kindE most (D.take (i + 1))).length := by rw [kindE_yes hx hk]; simp
      rw [e1, e2] at H10
      have H11 : St (at0 w) w10 (row 71 edgeR v' (kindE most (D.take (i + 1))) :: _) [] := St.flat_close H10
      obtain ⟨ua, uc, rfl⟩ := rowForm H11 (v := v') (e := 71) (r := edgeR) (xs := kindE most (D.take (i + 1))) (by simp)
      (repeat (first | refine WO.run tabOk rfl rfl ?_ | refine WO.nil ?_ | refine WO.skip rfl rfl rfl ?_ | refine WO.pu tabOk rfl rfl rfl rfl ?_ | refine W.seq ?_ | refine W.region ?_ | refine W.block ?_ | refine W.skip ?_ | refine W.exit ?_))
      refine WO.pv rfl rfl rfl (PureV.addN (n := i) rfl rfl rfl (by omega)) ?_
      (repeat (first | refine WO.run tabOk rfl rfl ?_ | refine WO.nil ?_ | refine WO.skip rfl rfl rfl ?_ | refine WO.pu tabOk rfl rfl rfl rfl ?_ | refine W.seq ?_ | refine W.region ?_ | refine W.block ?_ | refine W.skip ?_ | refine W.exit ?_))
      exact ⟨(i + 1, _), rfl, ⟨by simp only; omega, H11.first⟩, by simp only; omega⟩
    · have hk : ¬ d3 ≤ most := by simpa using hk
      (repeat (first | refine WO.run tabOk rfl rfl ?_ | refine WO.nil ?_ | refine WO.skip rfl rfl rfl ?_ | refine WO.pu tabOk rfl rfl rfl rfl ?_ | refine W.seq ?_ | refine W.region ?_ | refine W.block ?_ | refine W.skip ?_ | refine W.exit ?_))
      refine WO.pv rfl rfl rfl (PureV.addN (n := i) rfl rfl rfl (by omega)) ?_
      (repeat (first | refine WO.run tabOk rfl rfl ?_ | refine WO.nil ?_ | refine WO.skip rfl rfl rfl ?_ | refine WO.pu tabOk rfl rfl rfl rfl ?_ | refine W.seq ?_ | refine W.region ?_ | refine W.block ?_ | refine W.skip ?_ | refine W.exit ?_))
      refine ⟨(i + 1, .slice va (kindE most (D.take i)).length vc), rfl, ⟨by simp only; omega, ?_⟩, by simp only; omega⟩
      simp only
      rw [kindE_no hx hk]; exact H3.drop
  · have hiD : i = D.length := by simp at hge; omega
    subst hiD
    rw [List.take_length] at H ⊢
    have hG := kindE_ok (most := most) hb hl
    obtain ⟨_, _, e, hr⟩ := row_rd (H.holds (A := row 71 edgeR (.slice va (kindE most D).length vc) (kindE most D)) (by simp))
    simp only [Value.slice.injEq, true_and] at e
    obtain ⟨rfl, rfl⟩ := e
    generalize kindE most D = E at *
    (repeat (first | refine WO.run tabOk rfl rfl ?_ | refine WO.nil ?_ | refine WO.skip rfl rfl rfl ?_ | refine WO.pu tabOk rfl rfl rfl rfl ?_ | refine W.seq ?_ | refine W.region ?_ | refine W.block ?_ | refine W.skip ?_ | refine W.exit ?_))
    have hc : Calls Try.prog 23 #[.int .i64 12, .slice va E.length vc] w1 (Ret fun v w' => OrderPost w1 w' 12 E v) := order_ok w1 12 va vc E hr
    refine WO.one rfl rfl rfl (OpW.call rfl Try.call23 rfl (Calls.ret hc ?_))
    rintro _ w2 ⟨ov, e, rfl, hpost⟩
    rcases hpost with ⟨_, hno, _⟩ | ⟨rfl, _, hloop, rfl, hp2⟩ | ⟨rfl, _, xs, hT, K⟩
    · exact absurd hG hno
    · (repeat (first | refine WO.run tabOk rfl rfl ?_ | refine WO.nil ?_ | refine WO.skip rfl rfl rfl ?_ | refine WO.pu tabOk rfl rfl rfl rfl ?_ | refine W.seq ?_ | refine W.region ?_ | refine W.block ?_ | refine W.skip ?_ | refine W.exit ?_))
      exact W.ret (ret1 Try.results28 rfl ⟨_, rfl, H.pure.trans hp2, true, rfl, fun _ => hloop, fun _ => rfl⟩)
    · have hp2 := K.pure
      obtain ⟨xa, xc, rfl⟩ := rowForm K (v := ov) (e := 3) (r := natR) (xs := xs) (by simp)
      (repeat (first | refine WO.run tabOk rfl rfl ?_ | refine WO.nil ?_ | refine WO.skip rfl rfl rfl ?_ | refine WO.pu tabOk rfl rfl rfl rfl ?_ | refine W.seq ?_ | refine W.region ?_ | refine W.block ?_ | refine W.skip ?_ | refine W.exit ?_))
      exact W.ret (ret1 Try.results28 rfl ⟨_, rfl, H.pure.trans hp2, false, rfl, (fun h => nomatch h), fun ⟨x, hx⟩ => absurd hx hT.noloop⟩)

theorem retCT {P : Program} {w : World} {r : Env} {T : List TI} {fn : Func} {R : Ending → World → Prop} {p u ty b e : Nat} {ti : TI} {cs : List Value} {x : Value} (hT : TabOk P T) (hr : fn.results = #[.cell p ty, .tmp u]) (hp : Env.get r p = some (.pointer (some ⟨b, 0, none⟩))) (hu : Env.get r u = some x)
    (ht : nth T ty = some ti) (hs : aggK ti.k = true) (hH : Holds w (blk b e cs)) (hl : cs.length = ti.size) (h : R (.returned (.tuple #[.agg cs.toArray, x])) w) : retE P fn R .ret r w := by
  intro a ha
  obtain ⟨S, hS⟩ := hH
  refine ⟨.tuple #[.agg cs.toArray, x], ?_, h⟩
  have hrun := run_load_cells (P := P) (w := w) hT ht hs hl (cellsAt_list (off := 0) (cs := cs) hS.2 (by simp))
  rw [results_cell_tmp hr, ha.get p _ hp, ha.get u x hu]
  simp [asAddr, hrun, Result.andThen]

theorem RchE.mono {E F : List (Int × Int)} (hs : ∀ e ∈ E, e ∈ F) {a b : Nat} (h : RchE E a b) : RchE F a b := by
  induction h with
  | refl a => exact .refl a
  | step e _ ih => exact .step (hs _ e) ih
theorem PlusE.mono {E F : List (Int × Int)} (hs : ∀ e ∈ E, e ∈ F) {a b : Nat} (h : PlusE E a b) : PlusE F a b := by
  obtain ⟨c, h1, h2⟩ := h
  exact ⟨c, hs _ h1, h2.mono hs⟩
/-- By edges of the first kinds one comes round. -/
def LoopK (T : List Tale) (V : List (List Int)) (k : Int) : Prop := ∃ E : List (Int × Int), (∀ e ∈ E, ∃ q, q ≤ k ∧ Dep T V (e.1, e.2, q)) ∧ ∃ x, PlusE E x x
theorem LoopK.of {T : List Tale} {V : List (List Int)} {k : Int} {D : List D3} (hD : ∀ d, d ∈ D ↔ Dep T V d) : (∃ x, PlusE (kindE k D) x x) ↔ LoopK T V k := by
  constructor
  · refine fun h => ⟨_, fun e he => ?_, h⟩
    obtain ⟨a, b⟩ := e
    obtain ⟨q, h1, h2⟩ := mem_kindE.1 he
    exact ⟨q, h1, (hD _).1 h2⟩
  · rintro ⟨E, hE, x, hx⟩
    refine ⟨x, hx.mono fun e he => ?_⟩
    obtain ⟨a, b⟩ := e
    obtain ⟨q, h1, h2⟩ := hE _ he
    exact mem_kindE.2 ⟨q, h1, (hD _).2 h2⟩
theorem LoopK.up {T : List Tale} {V : List (List Int)} {k l : Int} (hkl : k ≤ l) : LoopK T V k → LoopK T V l := by
  rintro ⟨E, hE, h⟩
  exact ⟨E, fun e he => by obtain ⟨q, h1, h2⟩ := hE e he; exact ⟨q, by omega, h2⟩, h⟩

def FaultsPost (w w' : World) (T : List Tale) (V : List (List Int)) (v : Value) : Prop :=
  ∃ x y z e, v = .tuple #[.agg #[.bool x, .bool y, .bool z], .int .i64 e] ∧ Pure w w' ∧ ((e ≠ 0 ∧ ¬ StoryOk T V ∧ x = false ∧ y = false ∧ z = false) ∨ (e = 0 ∧ StoryOk T V ∧ (x = true ↔ LoopK T V 1) ∧ (y = true ↔ LoopK T V 2) ∧ (z = true ↔ LoopK T V 3)))
theorem faults_ok (w : World) (T : List Tale) (V : List (List Int)) (ta va : Option Addr) (tc vc : Nat) (hH : StoryR w T V ta va tc vc) (hsm : readsN T ≤ 1048576) :
    Calls Try.prog 11 #[.agg #[.slice ta T.length tc, .slice va V.length vc]] w (Ret fun v w' => FaultsPost w w' T V v) := by
  refine calls_W (args := [_]) Try.func11 rfl Try.ntmps11 rfl ?_
  have H := St.start [] (w := w) (by simp)
  (repeat (first | refine W.seq ?_ | refine W.block ?_ | refine W.skip ?_ | refine W.exit ?_ | refine W.region ?_))
  refine WO.one rfl rfl rfl (OpW.box rfl rfl rfl H ?_); intro b1 w1 H1
  refine WO.one rfl rfl rfl (OpW.alloc rfl zero39 rfl H1 ?_); intro b2 w2 H2
  clear H H1
  (repeat (first | refine WO.run tabOk rfl rfl ?_ | refine WO.nil ?_ | refine WO.skip rfl rfl rfl ?_ | refine WO.pu tabOk rfl rfl rfl rfl ?_ | refine W.seq ?_ | refine W.region ?_ | refine W.block ?_ | refine W.skip ?_ | refine W.exit ?_ | refine WO.one rfl rfl rfl (OpW.load1 tabOk rfl rfl rfl rfl H2 (by (first | exact .head _ | exact .tail _ (.head _) | exact .tail _ (.tail _ (.head _)) | exact .tail _ (.tail _ (.tail _ (.head _))) | exact .tail _ (.tail _ (.tail _ (.tail _ (.head _)))) | exact .tail _ (.tail _ (.tail _ (.tail _ (.tail _ (.head _))))) | exact .tail _ (.tail _ (.tail _ (.tail _ (.tail _ (.tail _ (.head _)))))) | exact .tail _ (.tail _ (.tail _ (.tail _ (.tail _ (.tail _ (.tail _ (.head _))))))) | exact .tail _ (.tail _ (.tail _ (.tail _ (.tail _ (.tail _ (.tail _ (.tail _ (.head _)))))))) | exact .tail _ (.tail _ (.tail _ (.tail _ (.tail _ (.tail _ (.tail _ (.tail _ (.tail _ (.head _))))))))) | exact .tail _ (.tail _ (.tail _ (.tail _ (.tail _ (.tail _ (.tail _ (.tail _ (.tail _ (.tail _ (.head _)))))))))) | exact .tail _ (.tail _ (.tail _ (.tail _ (.tail _ (.tail _ (.tail _ (.tail _ (.tail _ (.tail _ (.tail _ (.head _))))))))))) | exact .tail _ (.tail _ (.tail _ (.tail _ (.tail _ (.tail _ (.tail _ (.tail _ (.tail _ (.tail _ (.tail _ (.tail _ (.head _)))))))))))) | exact .tail _ (.tail _ (.tail _ (.tail _ (.tail _ (.tail _ (.tail _ (.tail _ (.tail _ (.tail _ (.tail _ (.tail _ (.tail _ (.head _))))))))))))) | exact .tail _ (.tail _ (.tail _ (.tail _ (.tail _ (.tail _ (.tail _ (.tail _ (.tail _ (.tail _ (.tail _ (.tail _ (.tail _ (.tail _ (.head _)))))))))))))) | exact .tail _ (.tail _ (.tail _ (.tail _ (.tail _ (.tail _ (.tail _ (.tail _ (.tail _ (.tail _ (.tail _ (.tail _ (.tail _ (.tail _ (.tail _ (.head _))))))))))))))))) rfl ?_)))
  refine WO.one rfl rfl rfl (OpW.loadA tabOk rfl rfl rfl rfl H2 (by (first | exact .head _ | exact .tail _ (.head _) | exact .tail _ (.tail _ (.head _)) | exact .tail _ (.tail _ (.tail _ (.head _))) | exact .tail _ (.tail _ (.tail _ (.tail _ (.head _)))) | exact .tail _ (.tail _ (.tail _ (.tail _ (.tail _ (.head _))))) | exact .tail _ (.tail _ (.tail _ (.tail _ (.tail _ (.tail _ (.head _)))))) | exact .tail _ (.tail _ (.tail _ (.tail _ (.tail _ (.tail _ (.tail _ (.head _))))))) | exact .tail _ (.tail _ (.tail _ (.tail _ (.tail _ (.tail _ (.tail _ (.tail _ (.head _)))))))) | exact .tail _ (.tail _ (.tail _ (.tail _ (.tail _ (.tail _ (.tail _ (.tail _ (.tail _ (.head _))))))))) | exact .tail _ (.tail _ (.tail _ (.tail _ (.tail _ (.tail _ (.tail _ (.tail _ (.tail _ (.tail _ (.head _)))))))))) | exact .tail _ (.tail _ (.tail _ (.tail _ (.tail _ (.tail _ (.tail _ (.tail _ (.tail _ (.tail _ (.tail _ (.head _))))))))))) | exact .tail _ (.tail _ (.tail _ (.tail _ (.tail _ (.tail _ (.tail _ (.tail _ (.tail _ (.tail _ (.tail _ (.tail _ (.head _)))))))))))) | exact .tail _ (.tail _ (.tail _ (.tail _ (.tail _ (.tail _ (.tail _ (.tail _ (.tail _ (.tail _ (.tail _ (.tail _ (.tail _ (.head _))))))))))))) | exact .tail _ (.tail _ (.tail _ (.tail _ (.tail _ (.tail _ (.tail _ (.tail _ (.tail _ (.tail _ (.tail _ (.tail _ (.tail _ (.tail _ (.head _)))))))))))))) | exact .tail _ (.tail _ (.tail _ (.tail _ (.tail _ (.tail _ (.tail _ (.tail _ (.tail _ (.tail _ (.tail _ (.tail _ (.tail _ (.tail _ (.tail _ (.head _))))))))))))))))) rfl rfl ?_)
  refine WO.one rfl rfl rfl (OpW.call rfl Try.call22 rfl (Calls.ret (deps_ok _ T V ta va tc vc (hH.pure H2.pure) hsm) ?_))
  rintro _ w3 ⟨dv, e, rfl, hpost⟩
  rcases hpost with ⟨he, hno, rfl, hp3⟩ | ⟨rfl, hS, D, hnd, hD, K⟩
  · have H3 := H2.after hp3
    (repeat (first | refine WO.run tabOk rfl rfl ?_ | refine WO.nil ?_ | refine WO.skip rfl rfl rfl ?_ | refine WO.pu tabOk rfl rfl rfl rfl ?_ | refine W.seq ?_ | refine W.region ?_ | refine W.block ?_ | refine W.skip ?_ | refine W.exit ?_))
    refine W.cond rfl (fun _ => ?_) (fun h => by simp at h; exact absurd h he)
    (repeat (first | refine WO.run tabOk rfl rfl ?_ | refine WO.nil ?_ | refine WO.skip rfl rfl rfl ?_ | refine WO.pu tabOk rfl rfl rfl rfl ?_ | refine W.seq ?_ | refine W.region ?_ | refine W.block ?_ | refine W.skip ?_ | refine W.exit ?_))
    refine WO.pv rfl rfl rfl (PureV.build tabOk rfl rfl rfl zero39 (l := [.bool false, .bool false, .bool false]) rfl) ?_
    (repeat (first | refine WO.run tabOk rfl rfl ?_ | refine WO.nil ?_ | refine WO.skip rfl rfl rfl ?_ | refine WO.pu tabOk rfl rfl rfl rfl ?_ | refine W.seq ?_ | refine W.region ?_ | refine W.block ?_ | refine W.skip ?_ | refine W.exit ?_))
    refine WO.act rfl rfl (OpW.storeA (i := 0) tabOk rfl rfl rfl rfl H3 rfl rfl rfl rfl rfl ?_); intro w4 H4
    (repeat (first | refine WO.run tabOk rfl rfl ?_ | refine WO.nil ?_ | refine WO.skip rfl rfl rfl ?_ | refine WO.pu tabOk rfl rfl rfl rfl ?_ | refine W.seq ?_ | refine W.region ?_ | refine W.block ?_ | refine W.skip ?_ | refine W.exit ?_))
    exact W.ret (retCT tabOk Try.results11 rfl rfl rfl rfl (H4.holds (A := blk b2 39 [.bool false, .bool false, .bool false]) (by simp)) rfl ⟨_, rfl, false, false, false, _, rfl, H4.pure, .inl ⟨he, hno, rfl, rfl, rfl⟩⟩)
  have H3 := H2.take K
  have hb : ∀ d ∈ D, 0 ≤ d.1 ∧ d.1 < 12 ∧ 0 ≤ d.2.1 ∧ d.2.1 < 12 ∧ 1 ≤ d.2.2 ∧ d.2.2 ≤ 3 := fun d hd => Dep.bound hS ((hD d).1 hd)
  have hb' : ∀ d ∈ D, 0 ≤ d.1 ∧ d.1 < 12 ∧ 0 ≤ d.2.1 ∧ d.2.1 < 12 := fun d hd => by have := hb d hd; omega
  have hl := nodup_small hnd hb
  obtain ⟨da, dc, rfl, hr⟩ := row_rd (H3.holds (A := row 69 depR dv D) (by simp))
  clear K H2
  (repeat (first | refine WO.run tabOk rfl rfl ?_ | refine WO.nil ?_ | refine WO.skip rfl rfl rfl ?_ | refine WO.pu tabOk rfl rfl rfl rfl ?_ | refine W.seq ?_ | refine W.region ?_ | refine W.block ?_ | refine W.skip ?_ | refine W.exit ?_))
  refine W.cond_f rfl ?_
  (repeat (first | refine WO.run tabOk rfl rfl ?_ | refine WO.nil ?_ | refine WO.skip rfl rfl rfl ?_ | refine WO.pu tabOk rfl rfl rfl rfl ?_ | refine W.seq ?_ | refine W.region ?_ | refine W.block ?_ | refine W.skip ?_ | refine W.exit ?_))
  refine WO.one rfl rfl rfl (OpW.call rfl Try.call28 rfl (Calls.ret (loop_ok w3 da dc D 1 hr hb' hl) ?_))
  rintro _ w4 ⟨hp4, x, rfl, hx⟩
  have hr4 := hr.pure hp4
  (repeat (first | refine WO.run tabOk rfl rfl ?_ | refine WO.nil ?_ | refine WO.skip rfl rfl rfl ?_ | refine WO.pu tabOk rfl rfl rfl rfl ?_ | refine W.seq ?_ | refine W.region ?_ | refine W.block ?_ | refine W.skip ?_ | refine W.exit ?_))
  refine WO.one rfl rfl rfl (OpW.call rfl Try.call28 rfl (Calls.ret (loop_ok w4 da dc D 2 hr4 hb' hl) ?_))
  rintro _ w5 ⟨hp5, y, rfl, hy⟩
  have hr5 := hr4.pure hp5
  (repeat (first | refine WO.run tabOk rfl rfl ?_ | refine WO.nil ?_ | refine WO.skip rfl rfl rfl ?_ | refine WO.pu tabOk rfl rfl rfl rfl ?_ | refine W.seq ?_ | refine W.region ?_ | refine W.block ?_ | refine W.skip ?_ | refine W.exit ?_))
  refine WO.one rfl rfl rfl (OpW.call rfl Try.call28 rfl (Calls.ret (loop_ok w5 da dc D 3 hr5 hb' hl) ?_))
  rintro _ w6 ⟨hp6, z, rfl, hz⟩
  have H6 := ((H3.after hp4).after hp5).after hp6
  rw [LoopK.of hD] at hx hy hz
  (repeat (first | refine WO.run tabOk rfl rfl ?_ | refine WO.nil ?_ | refine WO.skip rfl rfl rfl ?_ | refine WO.pu tabOk rfl rfl rfl rfl ?_ | refine W.seq ?_ | refine W.region ?_ | refine W.block ?_ | refine W.skip ?_ | refine W.exit ?_))
  refine WO.pv rfl rfl rfl (PureV.build tabOk rfl rfl rfl zero39 (l := [.bool x, .bool y, .bool z]) rfl) ?_
  (repeat (first | refine WO.run tabOk rfl rfl ?_ | refine WO.nil ?_ | refine WO.skip rfl rfl rfl ?_ | refine WO.pu tabOk rfl rfl rfl rfl ?_ | refine W.seq ?_ | refine W.region ?_ | refine W.block ?_ | refine W.skip ?_ | refine W.exit ?_))
  refine WO.act rfl rfl (OpW.storeA (i := 1) tabOk rfl rfl rfl rfl H6 rfl rfl rfl rfl rfl ?_); intro w7 H7
  (repeat (first | refine WO.run tabOk rfl rfl ?_ | refine WO.nil ?_ | refine WO.skip rfl rfl rfl ?_ | refine WO.pu tabOk rfl rfl rfl rfl ?_ | refine W.seq ?_ | refine W.region ?_ | refine W.block ?_ | refine W.skip ?_ | refine W.exit ?_))
  exact W.ret (retCT tabOk Try.results11 rfl rfl rfl rfl (H7.holds (A := blk b2 39 [.bool x, .bool y, .bool z]) (by simp)) rfl ⟨_, rfl, x, y, z, _, rfl, H7.pure, .inr ⟨rfl, hS, hx, hy, hz⟩⟩)
end Go.Proofs.Ytpenbdpgpamcbaa
