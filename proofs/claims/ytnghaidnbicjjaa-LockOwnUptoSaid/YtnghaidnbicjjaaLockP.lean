/- lock: the law LockAll: when all have dropped everything nothing is held; who waits has an edge to someone. -/
import Derived.Test.YtnghaidnbicjjaaLockO
set_option linter.unusedVariables false
set_option linter.unusedSimpArgs false
set_option maxRecDepth 20000
namespace Go.Proofs.Ytnghaidnbicjjaa
open Go Gw
attribute [local irreducible] W WO WD

def encOp (x : Int × Int × Int) : List Value := [.int .i64 x.1, .int .i64 x.2.1, .int .i64 x.2.2]
def opR : Rdr (Int × Int × Int) := Rdr.flat 3 encOp (fun _ => rfl) (fun x v hv => by simp [encOp] at hv; rcases hv with rfl | rfl | rfl <;> rfl)

theorem Gw.Holds.nilR {α : Type} (r : Rdr α) (w : World) : Holds w (rd r none 0 []) := ⟨fun _ => False, Nat.le_refl _, Nat.zero_le _, fun _ h => h.elim, fun h => absurd rfl h⟩
theorem table_rd {c : Ctx} {w : World} {Own Ro : List Asn} {tv : Value} {t : List Item} (H : St c w Own Ro) (hm : row 51 itemO tv t ∈ Own ++ Ro) : ∃ a cap, tv = .slice a t.length cap ∧ Holds w (rd itemS a cap t) := by
  obtain ⟨a, cap, e, h⟩ := row_rd (H.holds hm)
  exact ⟨a, cap, e, h.weaken itemO_le⟩

theorem ask_use {w w' : World} {t : List Item} {tx item mode : Int} {v : Value} (h : AskPost w w' t tx item mode v) :
    ∃ a c ok e t', v = .tuple #[.slice a (List.length t') c, .bool ok, .int .i64 e] ∧ Valid t' ∧ Pure w w' ∧ Holds w' (rd itemS a c t') ∧
      ((e = 0 ∧ AskOk t tx item mode ∧ t' = (askStep tx item mode t).1 ∧ ok = (askStep tx item mode t).2) ∨ (e ≠ 0 ∧ ¬ AskOk t tx item mode ∧ t' = [] ∧ ok = false)) := by
  obtain ⟨tv, ok, e, rfl, ⟨h1, h2, rfl, h4, h5⟩ | ⟨h1, h2, h3, h4⟩⟩ := h
  · exact ⟨none, 0, ok, e, [], rfl, valid_nil, h5, Holds.nilR _ _, .inr ⟨h1, h2, rfl, h4⟩⟩
  · obtain ⟨a, cap, rfl, hh⟩ := table_rd (tv := tv) (t := (askStep tx item mode t).1) h4 (by simp)
    exact ⟨a, cap, ok, e, _, rfl, ask_valid h2, h4.pure, hh, .inl ⟨h1, h2, rfl, h3⟩⟩
theorem drop_use {w w' : World} {t : List Item} {tx : Int} {v : Value} (h : DropPost w w' t tx v) :
    ∃ a c ag cg e t' g', v = .tuple #[.slice a (List.length t') c, .slice ag (List.length g') cg, .int .i64 e] ∧ Valid t' ∧ Pure w w' ∧ Holds w' (rd itemS a c t') ∧ Holds w' (rd i64 ag cg g') ∧
      ((e = 0 ∧ DropOk t tx ∧ t' = (dropF tx t).1 ∧ g' = (dropF tx t).2) ∨ (e ≠ 0 ∧ ¬ DropOk t tx ∧ t' = [] ∧ g' = [])) := by
  obtain ⟨tv, gv, e, rfl, ⟨h1, h2, rfl, rfl, h5⟩ | ⟨h1, h2, h4⟩⟩ := h
  · exact ⟨none, 0, none, 0, e, [], [], rfl, valid_nil, h5, Holds.nilR _ _, Holds.nilR _ _, .inr ⟨h1, h2, rfl, rfl⟩⟩
  · obtain ⟨a, cap, rfl, hh⟩ := table_rd (tv := tv) (t := (dropF tx t).1) h4 (by simp)
    obtain ⟨ag, cg, rfl, hg⟩ := row_rd (h4.holds (A := row 3 i64 gv (dropF tx t).2) (by simp))
    exact ⟨a, cap, ag, cg, e, _, _, rfl, drop_valid tx h2.valid, h4.pure, hh, hg, .inl ⟨h1, h2, rfl, rfl⟩⟩

theorem edgeTx_ok (w : World) (h : Int × Int) (tx mode : Int) (b14 : Nat) (h14 : Holds w (blk b14 53 [.int .i64 tx, .int .i64 mode])) :
    Calls Try.prog 19 (#[] ++ [Value.agg (encLock h).toArray].toArray ++ #[.pointer (some ⟨b14, 0, none⟩)]) w (Ret fun v w' => Pure w w' ∧ v = .bool (decide (h.1 = tx))) := by
  show Calls Try.prog 19 #[.agg #[.int .i64 h.1, .int .i64 h.2], .pointer (some ⟨b14, 0, none⟩)] w _
  refine calls_W (args := [_, _]) Try.func19 rfl Try.ntmps19 rfl ?_
  have H := St.start [blk b14 53 [.int .i64 tx, .int .i64 mode]] (w := w) (by simpa using h14)
  (repeat (first | refine W.seq ?_ | refine W.block ?_ | refine W.skip ?_ | refine W.exit ?_ | refine W.region ?_))
  refine WO.one rfl rfl rfl (OpW.box rfl rfl rfl H ?_); intro b w1 H1
  (repeat (first | refine WO.run tabOk rfl rfl ?_ | refine WO.nil ?_ | refine WO.skip rfl rfl rfl ?_ | refine WO.pu tabOk rfl rfl rfl rfl ?_ | refine W.seq ?_ | refine W.region ?_ | refine W.block ?_ | refine W.skip ?_ | refine W.exit ?_ | refine WO.one rfl rfl rfl (OpW.load1 tabOk rfl rfl rfl rfl H1 (by (first | exact .head _ | exact .tail _ (.head _) | exact .tail _ (.tail _ (.head _)) | exact .tail _ (.tail _ (.tail _ (.head _))) | exact .tail _ (.tail _ (.tail _ (.tail _ (.head _)))) | exact .tail _ (.tail _ (.tail _ (.tail _ (.tail _ (.head _))))) | exact .tail _ (.tail _ (.tail _ (.tail _ (.tail _ (.tail _ (.head _)))))) | exact .tail _ (.tail _ (.tail _ (.tail _ (.tail _ (.tail _ (.tail _ (.head _))))))))) rfl ?_)))
  exact W.ret (ret1 Try.results19 rfl ⟨_, rfl, H1.pure, rfl⟩)

theorem tab1_ask : askStep 1 1 3 [] = ([(1, [(1, 3)], [])], true) := rfl
theorem tab2_ask : askStep 2 1 5 [(1, [(1, 3)], [])] = ([(1, [(1, 3)], [(2, 5)])], false) := by kernel_rfl
theorem tab2_waits : waitsF [(1, [(1, 3)], [(2, 5)])] = [(2, 1)] := by kernel_rfl
theorem tab1_ok : AskOk [] 1 1 3 := ⟨valid_nil, by decide, by decide, by decide, fun x h => by cases h⟩
theorem tab2_ok : AskOk [(1, [(1, 3)], [])] 2 1 5 := ⟨by have := ask_valid tab1_ok; rwa [tab1_ask] at this, by decide, by decide, by decide, fun x h q hq => by simp at h; subst h; simp at hq⟩

theorem lockAll_ok (w : World) (a : Option Addr) (c : Nat) (l : List (Int × Int × Int)) (hH : Holds w (rd opR a c l)) :
    Calls Try.prog 5 #[.slice a l.length c] w (Ret fun v w' => Pure w w' ∧ v = .bool true) := by
  refine calls_W (args := [_]) Try.func5 rfl Try.ntmps5 rfl ?_
  have hle := hH.le
  simp only [maxLen] at hle
  (repeat (first | refine WO.run tabOk rfl rfl ?_ | refine WO.nil ?_ | refine WO.skip rfl rfl rfl ?_ | refine WO.pu tabOk rfl rfl rfl rfl ?_ | refine W.seq ?_ | refine W.region ?_ | refine W.block ?_ | refine W.skip ?_ | refine W.exit ?_))
  refine W.loopS [3, 24, 25, 26] (fun s : Nat × Option Addr × Nat × List Item => [(3, .slice s.2.1 s.2.2.2.length s.2.2.1), (24, .slice a l.length c), (25, .int .i64 l.length), (26, .int .i64 s.1)])
    (fun s w' => s.1 ≤ l.length ∧ Valid s.2.2.2 ∧ Holds w' (rd itemS s.2.1 s.2.2.1 s.2.2.2) ∧ Pure w w') (fun s => l.length - s.1) (0, none, 0, []) rfl ⟨Nat.zero_le _, valid_nil, Holds.nilR _ _, Pure.refl w⟩ ?_
  rintro ⟨i, ta, tc, t⟩ w1 ⟨hi, hv, hT, hp⟩
  simp only at hi hv hT
  (repeat (first | refine WO.run tabOk rfl rfl ?_ | refine WO.nil ?_ | refine WO.skip rfl rfl rfl ?_ | refine WO.pu tabOk rfl rfl rfl rfl ?_ | refine W.seq ?_ | refine W.region ?_ | refine W.block ?_ | refine W.skip ?_ | refine W.exit ?_))
  refine W.cond rfl (fun hlt => ?_) (fun hge => ?_)
  · have hlt : i < l.length := by simpa using hlt
    have hH1 := hH.pure hp
    obtain ⟨b, o, rfl⟩ := hH1.addr (by omega)
    (repeat (first | refine WO.run tabOk rfl rfl ?_ | refine WO.nil ?_ | refine WO.skip rfl rfl rfl ?_ | refine WO.pu tabOk rfl rfl rfl rfl ?_ | refine W.seq ?_ | refine W.region ?_ | refine W.block ?_ | refine W.skip ?_ | refine W.exit ?_))
    refine WO.pv rfl rfl rfl (PureV.idxN tabOk rfl rfl rfl rfl rfl rfl (by omega)) ?_
    have hx := List.getElem?_eq_getElem hlt
    generalize l[i] = x at hx
    refine WO.one rfl rfl rfl (OpW.elemA (i := i) tabOk rfl rfl rfl rfl hH1 hx rfl rfl ?_)
    have H := St.start [rd itemS ta tc t] (w := w1) (by simpa using hT)
    refine WO.one rfl rfl rfl (OpW.alloc rfl zero42 rfl H ?_); intro b5 w2 H2
    refine WO.act rfl rfl (OpW.storeA (i := 0) tabOk rfl rfl rfl rfl H2 rfl rfl rfl rfl rfl ?_); intro w3 H3
    (repeat (first | refine WO.run tabOk rfl rfl ?_ | refine WO.nil ?_ | refine WO.skip rfl rfl rfl ?_ | refine WO.pu tabOk rfl rfl rfl rfl ?_ | refine W.seq ?_ | refine W.region ?_ | refine W.block ?_ | refine W.skip ?_ | refine W.exit ?_))
    refine W.regionD [2, 4, 6] (HA [blk b5 42 [.int .i64 x.1, .int .i64 x.2.1, .int .i64 x.2.2]]) [0, 1, 2, 3, 4, 5, 6, 7, 8, 9, 10, 11, 12, 13, 14, 15, 16] rfl (by kernel_rfl) (fun _ _ _ h => h) ?_
    have H4 := H3.drew
    have hA := H4.ha (L := [blk b5 42 [.int .i64 x.1, .int .i64 x.2.1, .int .i64 x.2.2]]) (by simp)
    (repeat (first | refine WD.run tabOk rfl rfl ?_ | refine WD.hv rfl rfl rfl rfl rfl hA (HeldV.load1 tabOk rfl rfl rfl rfl (by (first | exact .head _ | exact .tail _ (.head _) | exact .tail _ (.tail _ (.head _)) | exact .tail _ (.tail _ (.tail _ (.head _))) | exact .tail _ (.tail _ (.tail _ (.tail _ (.head _)))) | exact .tail _ (.tail _ (.tail _ (.tail _ (.tail _ (.head _))))) | exact .tail _ (.tail _ (.tail _ (.tail _ (.tail _ (.tail _ (.head _)))))) | exact .tail _ (.tail _ (.tail _ (.tail _ (.tail _ (.tail _ (.tail _ (.head _))))))))) rfl) ?_ | refine WD.hv rfl rfl rfl rfl rfl hA (HeldV.loadA tabOk rfl rfl rfl rfl (by (first | exact .head _ | exact .tail _ (.head _) | exact .tail _ (.tail _ (.head _)) | exact .tail _ (.tail _ (.tail _ (.head _))) | exact .tail _ (.tail _ (.tail _ (.tail _ (.head _)))) | exact .tail _ (.tail _ (.tail _ (.tail _ (.tail _ (.head _))))) | exact .tail _ (.tail _ (.tail _ (.tail _ (.tail _ (.tail _ (.head _)))))) | exact .tail _ (.tail _ (.tail _ (.tail _ (.tail _ (.tail _ (.tail _ (.head _))))))))) rfl rfl) ?_ | refine WD.pu tabOk rfl rfl rfl rfl rfl rfl ?_))
    refine WD.oneS rfl rfl rfl rfl rfl (OpW.call rfl Try.call16 rfl (Calls.ret (rest_ok _ 5 (by omega) (by omega) _) ?_))
    rintro _ _ ⟨rfl, rfl⟩
    refine ⟨hA, ?_⟩
    refine WD.pv rfl rfl rfl rfl rfl (PureV.add rfl rfl rfl (by omega) (by omega)) ?_
    (repeat (first | refine WD.run tabOk rfl rfl ?_ | refine WD.hv rfl rfl rfl rfl rfl hA (HeldV.load1 tabOk rfl rfl rfl rfl (by (first | exact .head _ | exact .tail _ (.head _) | exact .tail _ (.tail _ (.head _)) | exact .tail _ (.tail _ (.tail _ (.head _))) | exact .tail _ (.tail _ (.tail _ (.tail _ (.head _)))) | exact .tail _ (.tail _ (.tail _ (.tail _ (.tail _ (.head _))))) | exact .tail _ (.tail _ (.tail _ (.tail _ (.tail _ (.tail _ (.head _)))))) | exact .tail _ (.tail _ (.tail _ (.tail _ (.tail _ (.tail _ (.tail _ (.head _))))))))) rfl) ?_ | refine WD.hv rfl rfl rfl rfl rfl hA (HeldV.loadA tabOk rfl rfl rfl rfl (by (first | exact .head _ | exact .tail _ (.head _) | exact .tail _ (.tail _ (.head _)) | exact .tail _ (.tail _ (.tail _ (.head _))) | exact .tail _ (.tail _ (.tail _ (.tail _ (.head _)))) | exact .tail _ (.tail _ (.tail _ (.tail _ (.tail _ (.head _))))) | exact .tail _ (.tail _ (.tail _ (.tail _ (.tail _ (.tail _ (.head _)))))) | exact .tail _ (.tail _ (.tail _ (.tail _ (.tail _ (.tail _ (.tail _ (.head _))))))))) rfl rfl) ?_ | refine WD.pu tabOk rfl rfl rfl rfl rfl rfl ?_))
    refine WD.oneS rfl rfl rfl rfl rfl (OpW.call rfl Try.call15 rfl (Calls.ret (ask_ok _ ta tc t _ _ _ (H4.holds (by simp))) ?_))
    intro v w5 hpost
    obtain ⟨a', c', ok, e, t', rfl, hv', hp5, hT', hcase⟩ := ask_use hpost
    refine ⟨(H4.after hp5).ha (by simp), ?_⟩
    (repeat (first | refine WD.run tabOk rfl rfl ?_ | refine WD.hv rfl rfl rfl rfl rfl hA (HeldV.load1 tabOk rfl rfl rfl rfl (by (first | exact .head _ | exact .tail _ (.head _) | exact .tail _ (.tail _ (.head _)) | exact .tail _ (.tail _ (.tail _ (.head _))) | exact .tail _ (.tail _ (.tail _ (.tail _ (.head _)))) | exact .tail _ (.tail _ (.tail _ (.tail _ (.tail _ (.head _))))) | exact .tail _ (.tail _ (.tail _ (.tail _ (.tail _ (.tail _ (.head _)))))) | exact .tail _ (.tail _ (.tail _ (.tail _ (.tail _ (.tail _ (.tail _ (.head _))))))))) rfl) ?_ | refine WD.hv rfl rfl rfl rfl rfl hA (HeldV.loadA tabOk rfl rfl rfl rfl (by (first | exact .head _ | exact .tail _ (.head _) | exact .tail _ (.tail _ (.head _)) | exact .tail _ (.tail _ (.tail _ (.head _))) | exact .tail _ (.tail _ (.tail _ (.tail _ (.head _)))) | exact .tail _ (.tail _ (.tail _ (.tail _ (.tail _ (.head _))))) | exact .tail _ (.tail _ (.tail _ (.tail _ (.tail _ (.tail _ (.head _)))))) | exact .tail _ (.tail _ (.tail _ (.tail _ (.tail _ (.tail _ (.tail _ (.head _))))))))) rfl rfl) ?_ | refine WD.pu tabOk rfl rfl rfl rfl rfl rfl ?_))
    (repeat (first | refine WD.run tabOk rfl rfl ?_ | refine WD.nil ?_))
    (repeat (first | refine WO.run tabOk rfl rfl ?_ | refine WO.nil ?_ | refine WO.skip rfl rfl rfl ?_ | refine WO.pu tabOk rfl rfl rfl rfl ?_ | refine W.seq ?_ | refine W.region ?_ | refine W.block ?_ | refine W.skip ?_ | refine W.exit ?_))
    have hpp := hp.trans (H4.pure.trans hp5)
    refine W.cond rfl (fun he => ?_) (fun he => ?_)
    · (repeat (first | refine WO.run tabOk rfl rfl ?_ | refine WO.nil ?_ | refine WO.skip rfl rfl rfl ?_ | refine WO.pu tabOk rfl rfl rfl rfl ?_ | refine W.seq ?_ | refine W.region ?_ | refine W.block ?_ | refine W.skip ?_ | refine W.exit ?_))
      refine WO.pv rfl rfl rfl (PureV.addN rfl rfl rfl (by omega)) ?_
      (repeat (first | refine WO.run tabOk rfl rfl ?_ | refine WO.nil ?_ | refine WO.skip rfl rfl rfl ?_ | refine WO.pu tabOk rfl rfl rfl rfl ?_ | refine W.seq ?_ | refine W.region ?_ | refine W.block ?_ | refine W.skip ?_ | refine W.exit ?_))
      exact ⟨(i + 1, a', c', t'), rfl, ⟨by simp only; omega, hv', hT', hpp⟩, by simp only; omega⟩
    · (repeat (first | refine WO.run tabOk rfl rfl ?_ | refine WO.nil ?_ | refine WO.skip rfl rfl rfl ?_ | refine WO.pu tabOk rfl rfl rfl rfl ?_ | refine W.seq ?_ | refine W.region ?_ | refine W.block ?_ | refine W.skip ?_ | refine W.exit ?_))
      refine WO.pv rfl rfl rfl (PureV.addN rfl rfl rfl (by omega)) ?_
      (repeat (first | refine WO.run tabOk rfl rfl ?_ | refine WO.nil ?_ | refine WO.skip rfl rfl rfl ?_ | refine WO.pu tabOk rfl rfl rfl rfl ?_ | refine W.seq ?_ | refine W.region ?_ | refine W.block ?_ | refine W.skip ?_ | refine W.exit ?_))
      exact ⟨(i + 1, ta, tc, t), rfl, ⟨by simp only; omega, hv, hT.pure (H4.pure.trans hp5), hpp⟩, by simp only; omega⟩
  clear hge hi hH hle
  (repeat (first | refine WO.run tabOk rfl rfl ?_ | refine WO.nil ?_ | refine WO.skip rfl rfl rfl ?_ | refine WO.pu tabOk rfl rfl rfl rfl ?_ | refine W.seq ?_ | refine W.region ?_ | refine W.block ?_ | refine W.skip ?_ | refine W.exit ?_))
  refine WO.one rfl rfl rfl (OpW.call rfl Try.call17 rfl (Calls.ret (waits_ok _ ta tc t hT) ?_))
  rintro _ w2 ⟨ev, e, rfl, ⟨_, h, _⟩ | ⟨rfl, _, K⟩⟩
  · exact absurd hv h
  obtain ⟨ea, ec, rfl, hE⟩ := row_rd (K.holds (A := row 56 lockR ev (waitsF t)) (by simp))
  have hp2 := hp.trans K.pure
  have hT := hT.pure K.pure
  clear K hp
  (repeat (first | refine WO.run tabOk rfl rfl ?_ | refine WO.nil ?_ | refine WO.skip rfl rfl rfl ?_ | refine WO.pu tabOk rfl rfl rfl rfl ?_ | refine W.seq ?_ | refine W.region ?_ | refine W.block ?_ | refine W.skip ?_ | refine W.exit ?_))
  refine W.cond_f rfl ?_
  (repeat (first | refine WO.run tabOk rfl rfl ?_ | refine WO.nil ?_ | refine WO.skip rfl rfl rfl ?_ | refine WO.pu tabOk rfl rfl rfl rfl ?_ | refine W.seq ?_ | refine W.region ?_ | refine W.block ?_ | refine W.skip ?_ | refine W.exit ?_))
  have htl := hv.len
  refine W.loopS [3, 9, 55, 56, 57] (fun i : Nat => [(3, .slice ta t.length tc), (9, .slice ea (waitsF t).length ec), (55, .slice ta t.length tc), (56, .int .i64 t.length), (57, .int .i64 i)])
    (fun i w' => i ≤ t.length ∧ Pure w2 w') (fun i => t.length - i) 0 rfl ⟨Nat.zero_le _, Pure.refl _⟩ ?_
  rintro i w3 ⟨hi, hp3⟩
  (repeat (first | refine WO.run tabOk rfl rfl ?_ | refine WO.nil ?_ | refine WO.skip rfl rfl rfl ?_ | refine WO.pu tabOk rfl rfl rfl rfl ?_ | refine W.seq ?_ | refine W.region ?_ | refine W.block ?_ | refine W.skip ?_ | refine W.exit ?_))
  refine W.cond rfl (fun hlt => ?_) (fun hge => ?_)
  · have hlt : i < t.length := by simpa using hlt
    have hT3 := hT.pure hp3
    obtain ⟨b, o, rfl⟩ := hT3.addr (by omega)
    (repeat (first | refine WO.run tabOk rfl rfl ?_ | refine WO.nil ?_ | refine WO.skip rfl rfl rfl ?_ | refine WO.pu tabOk rfl rfl rfl rfl ?_ | refine W.seq ?_ | refine W.region ?_ | refine W.block ?_ | refine W.skip ?_ | refine W.exit ?_))
    refine WO.pv rfl rfl rfl (PureV.idxN tabOk rfl rfl rfl rfl rfl rfl (by omega)) ?_
    have hx := List.getElem?_eq_getElem hlt
    generalize t[i] = x at hx
    have hm : x ∈ t := List.mem_of_getElem? hx
    obtain ⟨a1, c1, a2, c2, hcs, hh, hq⟩ := item_elem hT3 hx
    refine WO.one rfl rfl rfl (OpW.loadcs tabOk rfl rfl rfl rfl rfl hcs ?_)
    have H := St.start [rd lockR a2 c2 x.2.2] (w := w3) (by simpa using hq)
    refine WO.one rfl rfl rfl (OpW.alloc rfl zero51 rfl H ?_); intro b12 w4 H4
    refine WO.act rfl rfl (OpW.storeA (i := 0) tabOk rfl rfl rfl rfl H4 rfl rfl rfl rfl rfl ?_); intro w5 H5
    (repeat (first | refine WO.run tabOk rfl rfl ?_ | refine WO.nil ?_ | refine WO.skip rfl rfl rfl ?_ | refine WO.pu tabOk rfl rfl rfl rfl ?_ | refine W.seq ?_ | refine W.region ?_ | refine W.block ?_ | refine W.skip ?_ | refine W.exit ?_ | refine WO.one rfl rfl rfl (OpW.load1 tabOk rfl rfl rfl rfl H5 (by (first | exact .head _ | exact .tail _ (.head _) | exact .tail _ (.tail _ (.head _)) | exact .tail _ (.tail _ (.tail _ (.head _))) | exact .tail _ (.tail _ (.tail _ (.tail _ (.head _)))) | exact .tail _ (.tail _ (.tail _ (.tail _ (.tail _ (.head _))))) | exact .tail _ (.tail _ (.tail _ (.tail _ (.tail _ (.tail _ (.head _)))))) | exact .tail _ (.tail _ (.tail _ (.tail _ (.tail _ (.tail _ (.tail _ (.head _))))))))) rfl ?_)))
    have hqq := H5.holds (A := rd lockR a2 c2 x.2.2) (by simp)
    have hp5 := hp3.trans H5.pure
    have hql := (valid_lens hv hm).2.1
    refine W.loopS [3, 9, 55, 56, 57, 62, 63, 64] (fun j : Nat => [(3, .slice (some ⟨b, o, none⟩) t.length tc), (9, .slice ea (waitsF t).length ec), (55, .slice (some ⟨b, o, none⟩) t.length tc), (56, .int .i64 t.length), (57, .int .i64 i), (62, .slice a2 x.2.2.length c2), (63, .int .i64 x.2.2.length), (64, .int .i64 j)])
      (fun j w' => j ≤ x.2.2.length ∧ Pure w5 w') (fun j => x.2.2.length - j) 0 rfl ⟨Nat.zero_le _, Pure.refl _⟩ ?_
    rintro j w6 ⟨hj, hp6⟩
    have hp56 := hp5.trans hp6
    (repeat (first | refine WO.run tabOk rfl rfl ?_ | refine WO.nil ?_ | refine WO.skip rfl rfl rfl ?_ | refine WO.pu tabOk rfl rfl rfl rfl ?_ | refine W.seq ?_ | refine W.region ?_ | refine W.block ?_ | refine W.skip ?_ | refine W.exit ?_))
    refine W.cond rfl (fun hlt2 => ?_) (fun hge2 => ?_)
    · have hlt2 : j < x.2.2.length := by simpa using hlt2
      have hq6 := hqq.pure hp6
      obtain ⟨bq, oq, rfl⟩ := hq6.addr (by omega)
      (repeat (first | refine WO.run tabOk rfl rfl ?_ | refine WO.nil ?_ | refine WO.skip rfl rfl rfl ?_ | refine WO.pu tabOk rfl rfl rfl rfl ?_ | refine W.seq ?_ | refine W.region ?_ | refine W.block ?_ | refine W.skip ?_ | refine W.exit ?_))
      refine WO.pv rfl rfl rfl (PureV.idxN tabOk rfl rfl rfl rfl rfl rfl (by omega)) ?_
      have hy := List.getElem?_eq_getElem hlt2
      generalize x.2.2[j] = y at hy
      have hym : y ∈ x.2.2 := List.mem_of_getElem? hy
      refine WO.one rfl rfl rfl (OpW.elemA (i := j) tabOk rfl rfl rfl rfl hq6 hy rfl rfl ?_)
      have H := St.start [] (w := w6) (by simp)
      refine WO.one rfl rfl rfl (OpW.alloc rfl zero53 rfl H ?_); intro b14 w7 H7
      refine WO.act rfl rfl (OpW.storeA (i := 0) tabOk rfl rfl rfl rfl H7 rfl rfl rfl rfl rfl ?_); intro w8 H8
      (repeat (first | refine WO.run tabOk rfl rfl ?_ | refine WO.nil ?_ | refine WO.skip rfl rfl rfl ?_ | refine WO.pu tabOk rfl rfl rfl rfl ?_ | refine W.seq ?_ | refine W.region ?_ | refine W.block ?_ | refine W.skip ?_ | refine W.exit ?_))
      have hb := H8.holds (A := blk b14 53 [.int .i64 y.1, .int .i64 y.2]) (by simp)
      refine WO.one rfl rfl rfl (OpW.call rfl Try.call18 rfl (Calls.ret (containsEdge_ok w8 ea ec (waitsF t) (hE.pure (hp56.trans H8.pure)) 19 #[.pointer (some ⟨b14, 0, none⟩)] (fun h => decide (h.1 = y.1)) Try.call19
        (fun z hz w' hpw => edgeTx_ok w' z y.1 y.2 b14 (hb.pure hpw))) ?_))
      rintro _ w9 ⟨hp9, rfl⟩
      have hany : (waitsF t).any (fun h => decide (h.1 = y.1)) = true := by
        obtain ⟨ed, h1, h2⟩ := waits_edge hv hm hym
        simp only [List.any_eq_true, decide_eq_true_eq]
        exact ⟨ed, h1, h2⟩
      rw [hany]
      (repeat (first | refine WO.run tabOk rfl rfl ?_ | refine WO.nil ?_ | refine WO.skip rfl rfl rfl ?_ | refine WO.pu tabOk rfl rfl rfl rfl ?_ | refine W.seq ?_ | refine W.region ?_ | refine W.block ?_ | refine W.skip ?_ | refine W.exit ?_))
      refine W.cond_f rfl ?_
      (repeat (first | refine WO.run tabOk rfl rfl ?_ | refine WO.nil ?_ | refine WO.skip rfl rfl rfl ?_ | refine WO.pu tabOk rfl rfl rfl rfl ?_ | refine W.seq ?_ | refine W.region ?_ | refine W.block ?_ | refine W.skip ?_ | refine W.exit ?_))
      refine WO.pv rfl rfl rfl (PureV.addN rfl rfl rfl (by omega)) ?_
      (repeat (first | refine WO.run tabOk rfl rfl ?_ | refine WO.nil ?_ | refine WO.skip rfl rfl rfl ?_ | refine WO.pu tabOk rfl rfl rfl rfl ?_ | refine W.seq ?_ | refine W.region ?_ | refine W.block ?_ | refine W.skip ?_ | refine W.exit ?_))
      exact ⟨j + 1, rfl, ⟨by omega, hp6.trans (H8.pure.trans hp9)⟩, by omega⟩
    · (repeat (first | refine WO.run tabOk rfl rfl ?_ | refine WO.nil ?_ | refine WO.skip rfl rfl rfl ?_ | refine WO.pu tabOk rfl rfl rfl rfl ?_ | refine W.seq ?_ | refine W.region ?_ | refine W.block ?_ | refine W.skip ?_ | refine W.exit ?_))
      refine WO.pv rfl rfl rfl (PureV.addN rfl rfl rfl (by omega)) ?_
      (repeat (first | refine WO.run tabOk rfl rfl ?_ | refine WO.nil ?_ | refine WO.skip rfl rfl rfl ?_ | refine WO.pu tabOk rfl rfl rfl rfl ?_ | refine W.seq ?_ | refine W.region ?_ | refine W.block ?_ | refine W.skip ?_ | refine W.exit ?_))
      exact ⟨i + 1, rfl, ⟨by omega, hp56⟩, by omega⟩
  clear hge hi
  have hp3' := hp2.trans hp3
  have hT := hT.pure hp3
  (repeat (first | refine WO.run tabOk rfl rfl ?_ | refine WO.nil ?_ | refine WO.skip rfl rfl rfl ?_ | refine WO.pu tabOk rfl rfl rfl rfl ?_ | refine W.seq ?_ | refine W.region ?_ | refine W.block ?_ | refine W.skip ?_ | refine W.exit ?_))
  refine WO.one rfl rfl rfl (OpW.call rfl Try.call15 rfl (Calls.ret (ask_ok _ none 0 [] 1 1 3 (Holds.nilR _ _)) ?_))
  intro v w4 hpost
  obtain ⟨a1, c1, ok1, e1, t1, rfl, hv1, hp4, hT1, ⟨rfl, _, rfl, rfl⟩ | ⟨_, h, _⟩⟩ := ask_use hpost
  rotate_left
  · exact absurd tab1_ok h
  rw [tab1_ask] at hT1 ⊢
  (repeat (first | refine WO.run tabOk rfl rfl ?_ | refine WO.nil ?_ | refine WO.skip rfl rfl rfl ?_ | refine WO.pu tabOk rfl rfl rfl rfl ?_ | refine W.seq ?_ | refine W.region ?_ | refine W.block ?_ | refine W.skip ?_ | refine W.exit ?_))
  refine WO.one rfl rfl rfl (OpW.call rfl Try.call15 rfl (Calls.ret (ask_ok _ a1 c1 _ 2 1 5 hT1) ?_))
  intro v w5 hpost
  obtain ⟨a2, c2, ok2, e2, t2, rfl, hv2, hp5, hT2, ⟨rfl, _, rfl, rfl⟩ | ⟨_, h, _⟩⟩ := ask_use hpost
  rotate_left
  · exact absurd tab2_ok h
  rw [tab2_ask] at hT2 hv2 ⊢
  (repeat (first | refine WO.run tabOk rfl rfl ?_ | refine WO.nil ?_ | refine WO.skip rfl rfl rfl ?_ | refine WO.pu tabOk rfl rfl rfl rfl ?_ | refine W.seq ?_ | refine W.region ?_ | refine W.block ?_ | refine W.skip ?_ | refine W.exit ?_))
  refine WO.one rfl rfl rfl (OpW.call rfl Try.call17 rfl (Calls.ret (waits_ok _ a2 c2 _ hT2) ?_))
  rintro _ w6 ⟨ev, e, rfl, ⟨_, h, _⟩ | ⟨rfl, _, K⟩⟩
  · exact absurd hv2 h
  obtain ⟨xa, xc, rfl, hX⟩ := row_rd (K.holds (A := row 56 lockR ev (waitsF [(1, [(1, 3)], [(2, 5)])])) (by simp))
  rw [tab2_waits] at hX ⊢
  have hp6 := K.pure
  (repeat (first | refine WO.run tabOk rfl rfl ?_ | refine WO.nil ?_ | refine WO.skip rfl rfl rfl ?_ | refine WO.pu tabOk rfl rfl rfl rfl ?_ | refine W.seq ?_ | refine W.region ?_ | refine W.block ?_ | refine W.skip ?_ | refine W.exit ?_))
  refine WO.pv rfl rfl rfl (PureV.build tabOk rfl rfl rfl zero56 (l := [.int .i64 2, .int .i64 1]) rfl) ?_
  have H := St.start [rd lockR xa xc [(2, 1)]] (w := w6) (by simpa using hX)
  refine WO.one rfl rfl rfl (OpW.buildSlice tabOk rfl rfl rfl rfl zero56 rfl rfl (l := [.int .i64 2, .int .i64 1]) rfl H ?_)
  intro b7 w7 H7
  have hY : Holds w7 (rd lockR (some ⟨b7, 0, none⟩) 1 [(2, 1)]) := by
    have h := H7.close_raw (sz := 2) (n := 1) (o := 0) (cap := 1) (cs := [.int .i64 2, .int .i64 1]) (Nat.le_refl _) (by simp [maxLen]) (by simp) (by simp) (by intro u hu; simp at hu; rcases hu with rfl | rfl <;> rfl)
    obtain ⟨a, c, e, h⟩ := row_rd ((St.flat_close (xs := [((2 : Int), (1 : Int))]) (enc := encLock) (sz := 2) (hl := fun _ => rfl) (h1 := fun x v hv => by simp [encLock] at hv; rcases hv with rfl | rfl <;> rfl) h).holds (.head _))
    simp only [Value.slice.injEq] at e
    obtain ⟨rfl, _, rfl⟩ := e
    exact h
  refine WO.one rfl rfl rfl (OpW.call rfl Try.call20 rfl (Calls.ret (equalEdge_ok w7 xa (some ⟨b7, 0, none⟩) xc 1 [(2, 1)] [(2, 1)] (H7.holds (by simp)) hY) ?_))
  rintro _ w8 ⟨hp8, rfl⟩
  refine WO.pu tabOk rfl rfl rfl rfl ?_
  (repeat (first | refine WO.run tabOk rfl rfl ?_ | refine WO.nil ?_ | refine WO.skip rfl rfl rfl ?_ | refine WO.pu tabOk rfl rfl rfl rfl ?_ | refine W.seq ?_ | refine W.region ?_ | refine W.block ?_ | refine W.skip ?_ | refine W.exit ?_))
  refine W.cond_f rfl ?_
  have hp28 : Pure w3 w8 := hp4.trans (hp5.trans (hp6.trans (H7.pure.trans hp8)))
  have hT := hT.pure hp28
  have hp := hp3'.trans hp28
  clear hp28 hp3' H7 H hX hY K hp8 hp6 hp5 hp4 hp3 hE
  (repeat (first | refine WO.run tabOk rfl rfl ?_ | refine WO.nil ?_ | refine WO.skip rfl rfl rfl ?_ | refine WO.pu tabOk rfl rfl rfl rfl ?_ | refine W.seq ?_ | refine W.region ?_ | refine W.block ?_ | refine W.skip ?_ | refine W.exit ?_))
  refine W.loopS [3, 110] (fun s : Nat × Option Addr × Nat × List Item => [(3, .slice s.2.1 s.2.2.2.length s.2.2.1), (110, .int .i64 s.1)])
    (fun s w' => s.1 ≤ 12 ∧ Valid s.2.2.2 ∧ Holds w' (rd itemS s.2.1 s.2.2.1 s.2.2.2) ∧ Pure w w' ∧ ∀ x ∈ s.2.2.2, ∀ u, 0 ≤ u → u < (s.1 : Int) → ¬ names x.2.1 x.2.2 u) (fun s => 12 - s.1) (0, ta, tc, t) rfl ⟨Nat.zero_le _, hv, hT, hp, fun x hx u h0 h1 => (by omega)⟩ ?_
  rintro ⟨i, ua, uc, u⟩ w9 ⟨hi, hvu, hU, hp9, hno⟩
  simp only at hi hvu hU hno
  (repeat (first | refine WO.run tabOk rfl rfl ?_ | refine WO.nil ?_ | refine WO.skip rfl rfl rfl ?_ | refine WO.pu tabOk rfl rfl rfl rfl ?_ | refine W.seq ?_ | refine W.region ?_ | refine W.block ?_ | refine W.skip ?_ | refine W.exit ?_))
  refine W.cond rfl (fun hlt => ?_) (fun hge => ?_)
  · have hlt : i < 12 := by simp at hlt; omega
    (repeat (first | refine WO.run tabOk rfl rfl ?_ | refine WO.nil ?_ | refine WO.skip rfl rfl rfl ?_ | refine WO.pu tabOk rfl rfl rfl rfl ?_ | refine W.seq ?_ | refine W.region ?_ | refine W.block ?_ | refine W.skip ?_ | refine W.exit ?_))
    refine WO.one rfl rfl rfl (OpW.call rfl Try.call21 rfl (Calls.ret (drop_ok _ ua uc u (i : Int) hU) ?_))
    intro v w10 hpost
    obtain ⟨a', c', ag, cg, e, t', g', rfl, hv', hp10, hT', hG, ⟨rfl, hd, rfl, rfl⟩ | ⟨_, h, _⟩⟩ := drop_use hpost
    rotate_left
    · exact absurd ⟨hvu, by omega, by omega⟩ h
    (repeat (first | refine WO.run tabOk rfl rfl ?_ | refine WO.nil ?_ | refine WO.skip rfl rfl rfl ?_ | refine WO.pu tabOk rfl rfl rfl rfl ?_ | refine W.seq ?_ | refine W.region ?_ | refine W.block ?_ | refine W.skip ?_ | refine W.exit ?_))
    refine W.cond_f rfl ?_
    (repeat (first | refine WO.run tabOk rfl rfl ?_ | refine WO.nil ?_ | refine WO.skip rfl rfl rfl ?_ | refine WO.pu tabOk rfl rfl rfl rfl ?_ | refine W.seq ?_ | refine W.region ?_ | refine W.block ?_ | refine W.skip ?_ | refine W.exit ?_))
    refine WO.pv rfl rfl rfl (PureV.addN rfl rfl rfl (by omega)) ?_
    (repeat (first | refine WO.run tabOk rfl rfl ?_ | refine WO.nil ?_ | refine WO.skip rfl rfl rfl ?_ | refine WO.pu tabOk rfl rfl rfl rfl ?_ | refine W.seq ?_ | refine W.region ?_ | refine W.block ?_ | refine W.skip ?_ | refine W.exit ?_))
    refine ⟨(i + 1, a', c', _), rfl, ⟨by simp only; omega, hv', hT', hp9.trans hp10, ?_⟩, by simp only; omega⟩
    intro y hy z h0 h1 hn
    obtain ⟨hne, x, hx, hx2⟩ := drop_names hy hn
    exact hno x hx z h0 (by simp only at h1; omega) hx2
  · simp at hge
    obtain rfl : u = [] := names_nil hvu fun x hx z h0 h1 => hno x hx z h0 (by omega)
    (repeat (first | refine WO.run tabOk rfl rfl ?_ | refine WO.nil ?_ | refine WO.skip rfl rfl rfl ?_ | refine WO.pu tabOk rfl rfl rfl rfl ?_ | refine W.seq ?_ | refine W.region ?_ | refine W.block ?_ | refine W.skip ?_ | refine W.exit ?_))
    exact W.ret (ret1 Try.results5 rfl ⟨_, rfl, hp9, rfl⟩)
end Go.Proofs.Ytnghaidnbicjjaa
