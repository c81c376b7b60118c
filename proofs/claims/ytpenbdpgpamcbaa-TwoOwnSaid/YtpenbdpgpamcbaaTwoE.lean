/- two: wake, free. Conditions: each fact's own premises. -/
import Derived.Test.YtpenbdpgpamcbaaTwoD
set_option linter.unusedVariables false
set_option linter.unusedSimpArgs false
set_option maxRecDepth 20000
namespace Go.Proofs.Ytpenbdpgpamcbaa
open Go Gw
attribute [local irreducible] W WO WD

theorem wake0 : WakeOk 0 := by
  intro c w Own Ro bt s u K lv ov vs hI hb H
  exfalso
  have hu := hI.rng u (by simp [wakes])
  have hne := (hI.own u hu).2 (by simp [wakes])
  have := s.pend_ge hI.lateL hu
  have h2 : 0 < (s.lt u).length := List.length_pos_iff.2 hne
  simp only [TwoS.bud] at hb
  omega
theorem encA_one (o : Act) : ∀ u ∈ encA o, u.oneCell' = true := fun v hv => by simp [encA] at hv; rcases hv with rfl | rfl | rfl <;> rfl

theorem rd_of {α : Type} {e cap : Nat} {r : Rdr α} {c : Ctx} {w : World} {Own Ro : List Asn} {a : Option Addr} {xs : List α} (H : St c w Own Ro) (hm : row e r (.slice a xs.length cap) xs ∈ Own ++ Ro) : Holds w (rd r a cap xs) := by
  obtain ⟨a', c', e, h⟩ := row_rd (H.holds hm)
  simp only [Value.slice.injEq, true_and] at e
  obtain ⟨rfl, rfl⟩ := e
  exact h

theorem wake_of {n : Nat} (hT : TakeOk n) : WakeOk (n + 1) := by
  intro c w Own Ro bt s u K lv ov vs hI hbud H
  refine calls_W (args := [_, _]) Try.func73 rfl Try.ntmps73 rfl ?_
  have hu := hI.rng u (by simp [wakes])
  have hne := (hI.own u hu).2 (by simp [wakes])
  obtain ⟨o, l, hl⟩ : ∃ o l, s.lt u = o :: l := by
    cases h : s.lt u with
    | nil => exact absurd h hne
    | cons o l => exact ⟨o, l, rfl⟩
  have hst0 : Step (s, .wake u :: K) ((s.tell o).setL u [], l.map .take ++ K) := .wake hl
  obtain ⟨hI0, hb0⟩ := hst0.inv hI
  have hlg := s.lt_get hI.lateL hu
  rw [hl] at hlg
  have hvl : vs.length = 12 := by rw [(H.to (i := 2) rfl).hang_cells]; exact hI.lateL
  have hdl := hI.deadL
  have hvg := List.getElem?_eq_getElem (l := vs) (i := u.toNat) (by omega)
  generalize vs[u.toNat]'_ = v at hvg
  have hun : u.toNat < 12 := by omega
  obtain ⟨a, cap, rfl, hR⟩ := row_rd (((H.to (i := 2) rfl).nest_out hlg hvg).holds (A := row 44 actR v (o :: l)) (by simp))
  obtain ⟨ob, oo, rfl⟩ := hR.addr (by simp)
  have hRle := hR.le
  simp only [maxLen] at hRle
  have hsz := hI.size
  have hbl : ((s.tell o).setL u []).bud + l.length + 1 = s.bud := by
    have hp := s.pend_set hI.lateL hu []
    rw [hl] at hp
    simp only [TwoS.bud, List.length_cons, List.length_nil] at *
    have e1 : ((s.tell o).setL u []).alive = s.alive := rfl
    have e2 : ((s.tell o).setL u []).pend = (s.setL u []).pend := rfl
    omega
  obtain ⟨oa, oc, rfl⟩ := rowForm H (v := ov) (e := 44) (r := actR) (xs := s.out) (by simp)
  obtain ⟨o1, o2, o3⟩ := o
  have H1 := ((H.drew).to (i := 2) rfl).nest_out hlg hvg
  have mk : ∀ {w' : World} {Own' : List Asn}, St c w' Own' Ro → row 44 actR (.slice (some ⟨ob, oo, none⟩) ((o1, o2, o3) :: l).length cap) ((o1, o2, o3) :: l) ∈ Own' ++ Ro → blk bt 97 (cellsT lv vs s.dead (.slice oa s.out.length oc)) ∈ Own' ++ Ro → HA [blk bt 97 (cellsT lv vs s.dead (.slice oa s.out.length oc)), rd actR (some ⟨ob, oo, none⟩) cap ((o1, o2, o3) :: l)] w' := fun H h1 h2 => HA.cons (H.holds h2) (HA.cons (rd_of H h1) (HA.nil _))
  have hA := mk H1 (by simp) (by simp)
  (repeat (first | refine WO.run tabOk rfl rfl ?_ | refine WO.nil ?_ | refine WO.skip rfl rfl rfl ?_ | refine WO.pu tabOk rfl rfl rfl rfl ?_ | refine W.seq ?_ | refine W.region ?_ | refine W.block ?_ | refine W.skip ?_ | refine W.exit ?_))
  refine W.regionD [4, 10, 12] (HA [blk bt 97 (cellsT lv vs s.dead (.slice oa s.out.length oc)), rd actR (some ⟨ob, oo, none⟩) cap ((o1, o2, o3) :: l)]) [0, 1, 2, 3, 4, 5, 6, 7, 8, 9, 10, 11, 12, 13, 14, 15, 16, 17] rfl (by kernel_rfl) (fun _ _ _ h => h) ?_
  (repeat (first | refine WD.run tabOk rfl rfl ?_ | refine WD.hv rfl rfl rfl rfl rfl hA (HeldV.load1 tabOk rfl rfl rfl rfl (by (repeat (first | exact .head _ | refine .tail _ ?_))) rfl) ?_ | refine WD.hv rfl rfl rfl rfl rfl hA (HeldV.loadA tabOk rfl rfl rfl rfl (by (repeat (first | exact .head _ | refine .tail _ ?_))) rfl rfl) ?_ | refine WD.pu tabOk rfl rfl rfl rfl rfl rfl ?_))
  refine WD.hv rfl rfl rfl rfl rfl hA (HeldV.loadB tabOk rfl rfl rfl rfl (.head _) (cellsT_o hvl hdl)) ?_
  (repeat (first | refine WD.run tabOk rfl rfl ?_ | refine WD.hv rfl rfl rfl rfl rfl hA (HeldV.load1 tabOk rfl rfl rfl rfl (by (repeat (first | exact .head _ | refine .tail _ ?_))) rfl) ?_ | refine WD.hv rfl rfl rfl rfl rfl hA (HeldV.loadA tabOk rfl rfl rfl rfl (by (repeat (first | exact .head _ | refine .tail _ ?_))) rfl rfl) ?_ | refine WD.pu tabOk rfl rfl rfl rfl rfl rfl ?_))
  refine WD.pv rfl rfl rfl rfl rfl (PureV.idxAN tabOk rfl rfl rfl rfl rfl rfl hu.1 hu.2) ?_
  refine WD.hv rfl rfl rfl rfl rfl hA (HeldV.loadB tabOk rfl rfl rfl rfl (.head _) (cellsT_l hvl hun hvg)) ?_
  refine WD.pv rfl rfl rfl rfl rfl (PureV.idxN (i := 0) tabOk rfl rfl rfl rfl rfl rfl (by simp)) ?_
  refine WD.hv rfl rfl rfl rfl rfl hA (HeldV.elemA (i := 0) tabOk rfl rfl rfl rfl (.tail _ (.head _)) rfl rfl rfl) ?_
  refine WD.oneS rfl rfl rfl rfl rfl (OpW.buildSlice tabOk rfl rfl rfl rfl zero44 rfl rfl (l := [.int .i64 o1, .int .i64 o2, .int .i64 o3]) rfl H1 ?_)
  intro b9 w9 H9
  refine ⟨mk H9 (by simp) (by simp), ?_⟩
  have hsh := shows_blk (sz := 3) (m := 1) (e := 44) (l := [.int .i64 o1, .int .i64 o2, .int .i64 o3]) H9 (b := b9) (by simp) rfl (by intro u hu; simp at hu; rcases hu with rfl | rfl | rfl <;> rfl)
  have H10 := (H9.to (i := 6) rfl).flat_open
  refine WD.oneS rfl rfl rfl rfl rfl (OpW.append tabOk rfl rfl rfl zero44 rfl rfl rfl rfl H10 hsh (by omega) (by simp only [maxLen]; omega) ?_)
  intro v' w11 H11 _
  have e1 : s.out.flatMap encA ++ [.int .i64 o1, .int .i64 o2, .int .i64 o3] = (s.out ++ [(o1, o2, o3)]).flatMap encA := by simp [encA]
  have e2 : s.out.length + 1 = (s.out ++ [(o1, o2, o3)]).length := by simp
  rw [e1, e2] at H11
  have H12 : St c w11 (row 44 actR v' (s.out ++ [(o1, o2, o3)]) :: _) Ro := St.flat_close H11
  refine ⟨mk H12 (by simp) (by simp), ?_⟩
  obtain ⟨ua, uc, rfl⟩ := rowForm H12 (v := v') (e := 44) (r := actR) (xs := s.out ++ [(o1, o2, o3)]) (by simp)
  (repeat (first | refine WD.run tabOk rfl rfl ?_ | refine WD.hv rfl rfl rfl rfl rfl hA (HeldV.load1 tabOk rfl rfl rfl rfl (by (repeat (first | exact .head _ | refine .tail _ ?_))) rfl) ?_ | refine WD.hv rfl rfl rfl rfl rfl hA (HeldV.loadA tabOk rfl rfl rfl rfl (by (repeat (first | exact .head _ | refine .tail _ ?_))) rfl rfl) ?_ | refine WD.pu tabOk rfl rfl rfl rfl rfl rfl ?_))
  refine WD.act rfl rfl rfl rfl (by kernel_rfl) (OpW.storeB (i := 5) tabOk rfl rfl rfl rfl H12 rfl (v := .slice ua (s.out ++ [(o1, o2, o3)]).length uc) (by intro u hu; simp [cellsL] at hu; subst hu; rfl) rfl (by rw [cellsT_len hvl hdl]; simp [cellsL]) ?_)
  intro w13 H13
  have e3 : spliceL (cellsT lv vs s.dead (.slice oa s.out.length oc)) 25 (cellsL (.slice ua (s.out ++ [(o1, o2, o3)]).length uc)) = cellsT lv vs s.dead (.slice ua (s.out ++ [(o1, o2, o3)]).length uc) := (spliceOne (by rw [cellsT_len hvl hdl]; omega)).trans (cellsT_os hvl hdl)
  rw [e3] at H13
  clear H12 H11 H10 H9 hsh e1 e2 e3 hA mk H1
  (repeat (first | refine WD.run tabOk rfl rfl ?_ | refine WD.nil ?_))
  (repeat (first | refine WO.run tabOk rfl rfl ?_ | refine WO.nil ?_ | refine WO.skip rfl rfl rfl ?_ | refine WO.pu tabOk rfl rfl rfl rfl ?_ | refine W.seq ?_ | refine W.region ?_ | refine W.block ?_ | refine W.skip ?_ | refine W.exit ?_))
  refine WO.pv rfl rfl rfl (PureV.idxAN tabOk rfl rfl rfl rfl rfl rfl hu.1 hu.2) ?_
  refine WO.one rfl rfl rfl (OpW.loadB tabOk rfl rfl rfl rfl H13 (.head _) (cellsT_l hvl hun hvg) ?_)
  refine WO.pv rfl rfl rfl (PureV.slcFrom (i := 1) (n' := l.length) tabOk rfl rfl rfl rfl rfl rfl (by simp) (by omega) (by simp)) ?_
  have hRest : ∀ {w' : World} {Own' : List Asn}, St c w' Own' Ro → row 44 actR (.slice (some ⟨ob, oo, none⟩) ((o1, o2, o3) :: l).length cap) ((o1, o2, o3) :: l) ∈ Own' ++ Ro → Holds w' (rd actR (cutA (some ⟨ob, oo, none⟩) cap 1 3) (cap - 1) l) := fun H h => (rd_of H h).drop (i := 1) (by simp)
  generalize cutA (some ⟨ob, oo, none⟩) cap 1 3 = ra at hRest ⊢
  (repeat (first | refine WO.run tabOk rfl rfl ?_ | refine WO.nil ?_ | refine WO.skip rfl rfl rfl ?_ | refine WO.pu tabOk rfl rfl rfl rfl ?_ | refine W.seq ?_ | refine W.region ?_ | refine W.block ?_ | refine W.skip ?_ | refine W.exit ?_))
  refine WO.pv rfl rfl rfl (PureV.idxAN tabOk rfl rfl rfl rfl rfl rfl hu.1 hu.2) ?_
  refine WO.act rfl rfl (OpW.storeB (i := 0) tabOk rfl rfl rfl rfl H13 rfl (v := .slice none 0 0) (by intro u hu; simp [cellsL] at hu; subst hu; rfl) rfl (by rw [cellsT_len hvl hdl]; simp [cellsL]; omega) ?_)
  intro w14 H14
  have e4 : spliceL (cellsT lv vs s.dead (.slice ua (s.out ++ [(o1, o2, o3)]).length uc)) (0 + 1 + u.toNat * 1) (cellsL (.slice none 0 0)) = cellsT lv (vs.set u.toNat (.slice none 0 0)) s.dead (.slice ua (s.out ++ [(o1, o2, o3)]).length uc) := (spliceOne (by rw [cellsT_len hvl hdl]; omega)).trans (cellsT_ls hvl hun)
  rw [e4] at H14
  have H15 := ((H14.add_nil 44 actR).bring [0, 5, 6] rfl).nest_in (i := u.toNat) (by rw [hI.lateL]; exact hun) (by omega)
  have H16 : St c w14 (tabP bt ((s.tell (o1, o2, o3)).setL u []) lv (.slice ua (s.out ++ [(o1, o2, o3)]).length uc) (vs.set u.toNat (.slice none 0 0)) (row 44 actR (.slice (some ⟨ob, oo, none⟩) ((o1, o2, o3) :: l).length cap) ((o1, o2, o3) :: l) :: Own)) Ro := (H15.bring [3, 1, 5, 0, 2, 4] rfl).drop
  clear H14 H15 H13 e4
  generalize hs1 : (s.tell (o1, o2, o3)).setL u [] = s1 at *
  (repeat (first | refine WO.run tabOk rfl rfl ?_ | refine WO.nil ?_ | refine WO.skip rfl rfl rfl ?_ | refine WO.pu tabOk rfl rfl rfl rfl ?_ | refine W.seq ?_ | refine W.region ?_ | refine W.block ?_ | refine W.skip ?_ | refine W.exit ?_))
  refine W.loopS [0, 36, 37, 38] (fun z : Nat × TwoS × Value × Value × List Value => [(0, .pointer (some ⟨bt, 0, none⟩)), (36, .slice ra l.length (cap - 1)), (37, .int .i64 (l.length : Int)), (38, .int .i64 (z.1 : Int))])
    (fun z w' => z.1 ≤ l.length ∧ Steps (s1, l.map .take ++ K) (z.2.1, (l.drop z.1).map .take ++ K) ∧ St c w' (tabP bt z.2.1 z.2.2.1 z.2.2.2.1 z.2.2.2.2 (row 44 actR (.slice (some ⟨ob, oo, none⟩) ((o1, o2, o3) :: l).length cap) ((o1, o2, o3) :: l) :: Own)) Ro) (fun z => l.length - z.1) (0, s1, lv, _, _) rfl ⟨Nat.zero_le _, .refl _, H16⟩ ?_
  clear H16
  rintro ⟨i, s2, lv1, ov1, vs1⟩ w4 ⟨hi, hst, H⟩
  simp only at hi hst H
  (repeat (first | refine WO.run tabOk rfl rfl ?_ | refine WO.nil ?_ | refine WO.skip rfl rfl rfl ?_ | refine WO.pu tabOk rfl rfl rfl rfl ?_ | refine W.seq ?_ | refine W.region ?_ | refine W.block ?_ | refine W.skip ?_ | refine W.exit ?_))
  refine W.cond rfl (fun hlt => ?_) (fun hge => ?_)
  · have hlt : i < l.length := by simpa using hlt
    have hg := hRest H (by simp)
    obtain ⟨b, o', rfl⟩ := hg.addr (by omega)
    have hx := List.getElem?_eq_getElem hlt
    have hdr := List.drop_eq_getElem_cons hlt
    generalize l[i] = x at hx hdr
    rw [hdr, List.map_cons, List.cons_append] at hst
    obtain ⟨hI1, hb1⟩ := hst.inv hI0
    simp only [takes, takes_append, takes_take, List.length_cons, List.length_append, List.length_drop] at hb1
    have hb2 : s2.bud + 1 ≤ n := by omega
    obtain ⟨x1, x2, x3⟩ := x
    (repeat (first | refine WO.run tabOk rfl rfl ?_ | refine WO.nil ?_ | refine WO.skip rfl rfl rfl ?_ | refine WO.pu tabOk rfl rfl rfl rfl ?_ | refine W.seq ?_ | refine W.region ?_ | refine W.block ?_ | refine W.skip ?_ | refine W.exit ?_))
    refine WO.pv rfl rfl rfl (PureV.idxN tabOk rfl rfl rfl rfl rfl rfl (by omega)) ?_
    refine WO.one rfl rfl rfl (OpW.elemA (i := i) tabOk rfl rfl rfl rfl hg hx rfl rfl ?_)
    refine WO.one rfl rfl rfl (OpW.alloc rfl zero44 rfl H ?_); intro b6 w5 H5
    refine WO.act rfl rfl (OpW.storeA (i := 0) tabOk rfl rfl rfl rfl H5 rfl rfl rfl rfl rfl ?_); intro w6 H6
    (repeat (first | refine WO.run tabOk rfl rfl ?_ | refine WO.nil ?_ | refine WO.skip rfl rfl rfl ?_ | refine WO.pu tabOk rfl rfl rfl rfl ?_ | refine W.seq ?_ | refine W.region ?_ | refine W.block ?_ | refine W.skip ?_ | refine W.exit ?_))
    refine WO.one rfl rfl rfl (OpW.loadA tabOk rfl rfl rfl rfl H6 (by (repeat (first | exact .head _ | refine .tail _ ?_))) rfl rfl ?_)
    have H7 : St c w6 (tabP bt s2 lv1 ov1 vs1 (blk b6 44 [.int .i64 x1, .int .i64 x2, .int .i64 x3] :: row 44 actR (.slice (some ⟨ob, oo, none⟩) ((o1, o2, o3) :: l).length cap) ((o1, o2, o3) :: l) :: Own)) Ro := H6.bring [1, 2, 3, 4, 0] rfl
    refine WO.one rfl rfl rfl (OpW.call rfl Try.call34 rfl (Calls.ret (hT c w6 _ Ro bt s2 (x1, x2, x3) _ lv1 ov1 vs1 hI1 hb2 H7) ?_))
    rintro _ w8 ⟨rfl, s3, lv2, ov2, vs2, hst2, H8⟩
    have hlle := hI0.size
    simp only [takes_append, takes_take, List.length_append] at hlle
    (repeat (first | refine WO.run tabOk rfl rfl ?_ | refine WO.nil ?_ | refine WO.skip rfl rfl rfl ?_ | refine WO.pu tabOk rfl rfl rfl rfl ?_ | refine W.seq ?_ | refine W.region ?_ | refine W.block ?_ | refine W.skip ?_ | refine W.exit ?_))
    refine WO.pv rfl rfl rfl (PureV.addN (n := i) rfl rfl rfl (by omega)) ?_
    (repeat (first | refine WO.run tabOk rfl rfl ?_ | refine WO.nil ?_ | refine WO.skip rfl rfl rfl ?_ | refine WO.pu tabOk rfl rfl rfl rfl ?_ | refine W.seq ?_ | refine W.region ?_ | refine W.block ?_ | refine W.skip ?_ | refine W.exit ?_))
    exact ⟨(i + 1, s3, lv2, ov2, vs2), rfl, ⟨by simp only; omega, hst.trans hst2, (H8.to (i := 4) rfl).drop⟩, by simp only; omega⟩
  · have hil : i = l.length := by simp at hge; omega
    subst hil
    rw [List.drop_length] at hst
    (repeat (first | refine WO.run tabOk rfl rfl ?_ | refine WO.nil ?_ | refine WO.skip rfl rfl rfl ?_ | refine WO.pu tabOk rfl rfl rfl rfl ?_ | refine W.seq ?_ | refine W.region ?_ | refine W.block ?_ | refine W.skip ?_ | refine W.exit ?_))
    exact ret0n Try.results73 ⟨_, rfl, rfl, s2, lv1, ov1, vs1, .head hst0 hst, (H.to (i := 4) rfl).drop⟩

theorem waitsF_ok {t : List Item} (h : Valid t) : GOk 12 (waitsF t) := by
  refine ⟨by decide, by decide, ?_, fun e he => ?_⟩
  · have := edgesUp_len (edgeE t) 144
    have e : (waitsF t).length ≤ 144 := this
    omega
  · have := waitsF_from h he; omega
def TwoS.slain (s : TwoS) (u : Nat) : TwoS := ((s.kill (u : Int)).setL (u : Int) []).tell ((u : Int), 4, 0)

theorem free_of {n : Nat} (hD : DropsOk n) : FreeOk (n + 1) := by
  intro c w Own Ro bt s0 K lv ov vs hI0 hbud H
  refine calls_W (args := [_]) Try.func54 rfl Try.ntmps54 rfl ?_
  (repeat (first | refine WO.run tabOk rfl rfl ?_ | refine WO.nil ?_ | refine WO.skip rfl rfl rfl ?_ | refine WO.pu tabOk rfl rfl rfl rfl ?_ | refine W.seq ?_ | refine W.region ?_ | refine W.block ?_ | refine W.skip ?_ | refine W.exit ?_))
  refine W.loopS [0] (fun z : TwoS × Value × Value × List Value => [(0, .pointer (some ⟨bt, 0, none⟩))])
    (fun z w' => Steps (s0, .free :: K) (z.1, .free :: K) ∧ St c w' (tabP bt z.1 z.2.1 z.2.2.1 z.2.2.2 Own) Ro) (fun z => z.1.bud) (s0, lv, ov, vs) rfl ⟨.refl _, H⟩ ?_
  clear H
  rintro ⟨s, lv, ov, vs⟩ w1 ⟨hst, H⟩
  simp only at hst H
  obtain ⟨hI, hb⟩ := hst.inv hI0
  have hbn : s.bud ≤ n + 1 := by simp only [takes] at hb; omega
  obtain ⟨la, lc, rfl, hL⟩ := table_rd H (tv := lv) (t := s.locks) (by simp)
  have hol : s.out.length ≤ 300 := Nat.le_trans (Nat.le_trans (Nat.le_add_right _ _) (Nat.le_add_right _ _)) hI.size
  have hvl : vs.length = 12 := by rw [(H.to (i := 2) rfl).hang_cells]; exact hI.lateL
  have hdl := hI.deadL
  obtain ⟨oa, oc, rfl⟩ := rowForm H (v := ov) (e := 44) (r := actR) (xs := s.out) (by simp)
  have hG := waitsF_ok hI.val
  (repeat (first | refine WO.run tabOk rfl rfl ?_ | refine WO.nil ?_ | refine WO.skip rfl rfl rfl ?_ | refine WO.pu tabOk rfl rfl rfl rfl ?_ | refine W.seq ?_ | refine W.region ?_ | refine W.block ?_ | refine W.skip ?_ | refine W.exit ?_ | refine WO.one rfl rfl rfl (OpW.load1 tabOk rfl rfl rfl rfl H (by (repeat (first | exact .head _ | refine .tail _ ?_))) rfl ?_)))
  refine WO.one rfl rfl rfl (OpW.call rfl Try.call87 rfl (Calls.ret (waits_ok w1 la lc s.locks hL) ?_))
  rintro _ w2 ⟨ev, e, rfl, ⟨_, hno, _⟩ | ⟨rfl, _, Kw⟩⟩
  · exact absurd hI.val hno
  have H2 := H.take Kw
  obtain ⟨ea, ec, rfl, hE⟩ := row_rd (H2.holds (A := row 71 lockR ev (waitsF s.locks)) (by simp))
  clear H Kw
  (repeat (first | refine WO.run tabOk rfl rfl ?_ | refine WO.nil ?_ | refine WO.skip rfl rfl rfl ?_ | refine WO.pu tabOk rfl rfl rfl rfl ?_ | refine W.seq ?_ | refine W.region ?_ | refine W.block ?_ | refine W.skip ?_ | refine W.exit ?_))
  have hc : Calls Try.prog 88 #[.int .i64 12, .slice ea (waitsF s.locks).length ec] w2 (Ret fun v w' => VictimsPost w2 w' 12 (waitsF s.locks) v) := victims_ok w2 12 ea ec (waitsF s.locks) hE
  refine WO.one rfl rfl rfl (OpW.call rfl Try.call88 rfl (Calls.ret hc ?_))
  rintro _ w3 ⟨gv, e, rfl, ⟨_, hno, _⟩ | ⟨rfl, _, us, out, hv, hperm, Kv⟩⟩
  · exact absurd hG hno
  have H3 := H2.take Kv
  obtain ⟨ga, gc, rfl, hO⟩ := row_rd (H3.holds (A := row 3 natR gv out) (by simp))
  clear H2 Kv hc hE
  have H4 : St c w3 (tabP bt s (.slice la s.locks.length lc) (.slice oa s.out.length oc) vs Own) Ro := ((H3.bring [2, 3, 4, 5, 0, 1] rfl).to (i := 4) rfl).drop.to (i := 4) rfl |>.drop
  (repeat (first | refine WO.run tabOk rfl rfl ?_ | refine WO.nil ?_ | refine WO.skip rfl rfl rfl ?_ | refine WO.pu tabOk rfl rfl rfl rfl ?_ | refine W.seq ?_ | refine W.region ?_ | refine W.block ?_ | refine W.skip ?_ | refine W.exit ?_))
  refine W.cond rfl (fun h0 => ?_) (fun h0 => ?_)
  · have h0 : out = [] := by simpa using h0
    subst h0
    have hus : us = [] := (List.nil_perm.1 hperm)
    subst hus
    (repeat (first | refine WO.run tabOk rfl rfl ?_ | refine WO.nil ?_ | refine WO.skip rfl rfl rfl ?_ | refine WO.pu tabOk rfl rfl rfl rfl ?_ | refine W.seq ?_ | refine W.region ?_ | refine W.block ?_ | refine W.skip ?_ | refine W.exit ?_))
    exact W.ret (ret0 Try.results54 ⟨_, rfl, rfl, s, _, _, vs, hst.trans (.one (.calm hv)), H4⟩)
  have h0 : out ≠ [] := by simpa using h0
  have hpos : 0 < out.length := List.length_pos_iff.2 h0
  have hx := List.getElem?_eq_getElem (l := out) (i := out.length - 1) (by omega)
  have hxm : out[out.length - 1] ∈ out := List.getElem_mem _
  generalize out[out.length - 1]'_ = u at hx hxm
  have hum : u ∈ us := hperm.mem_iff.1 hxm
  obtain ⟨hw, hu12, hlt, hdu⟩ := hI.victim hv hum
  have hst1 : Step (s, .free :: K) ((s.slain u).lock (dropF (u : Int) s.locks).1, givenT (u : Int) s.locks ++ .free :: K) := .kill hv hum
  obtain ⟨hI1, _⟩ := hst1.inv hI
  have hur : 0 ≤ (u : Int) ∧ (u : Int) < 12 := by omega
  have hbk : (s.slain u).bud + 1 ≤ s.bud := by
    have hp := s.pend_set hI.lateL hur []
    have ha := s.alive_kill hdl hur hdu
    have e3 : (s.slain u).bud = (s.kill (u : Int)).alive + (s.setL (u : Int) []).pend := rfl
    rw [e3]
    simp only [TwoS.bud, List.length_nil] at *; omega
  obtain ⟨gb, go, rfl⟩ := hO.addr (by omega)
  have hOle := hO.le
  simp only [maxLen] at hOle
  (repeat (first | refine WO.run tabOk rfl rfl ?_ | refine WO.nil ?_ | refine WO.skip rfl rfl rfl ?_ | refine WO.pu tabOk rfl rfl rfl rfl ?_ | refine W.seq ?_ | refine W.region ?_ | refine W.block ?_ | refine W.skip ?_ | refine W.exit ?_))
  refine WO.pv rfl rfl rfl (PureV.subN (n := out.length) rfl rfl rfl (by omega) (by omega)) ?_
  refine WO.pv rfl rfl rfl (PureV.idxN (i := out.length - 1) tabOk rfl rfl rfl rfl rfl rfl (by omega)) ?_
  refine WO.one rfl rfl rfl (OpW.elem1 (i := out.length - 1) (j := 0) tabOk rfl rfl rfl rfl hO hx rfl rfl ?_)
  (repeat (first | refine WO.run tabOk rfl rfl ?_ | refine WO.nil ?_ | refine WO.skip rfl rfl rfl ?_ | refine WO.pu tabOk rfl rfl rfl rfl ?_ | refine W.seq ?_ | refine W.region ?_ | refine W.block ?_ | refine W.skip ?_ | refine W.exit ?_))
  clear hO H3
  refine WO.pv rfl rfl rfl (PureV.idxAN tabOk rfl rfl rfl rfl rfl rfl hur.1 hur.2) ?_
  refine WO.act rfl rfl (OpW.storeB (i := 0) tabOk rfl rfl rfl rfl H4 rfl (v := .bool true) (by intro u hu; simp [cellsL] at hu; subst hu; rfl) rfl (by rw [cellsT_len hvl hdl]; simp [cellsL]; omega) ?_)
  intro w5 H5
  have e5 : spliceL (cellsT (.slice la s.locks.length lc) vs s.dead (.slice oa s.out.length oc)) (0 + 13 + ((u : Int)).toNat * 1) (cellsL (.bool true)) = cellsT (.slice la s.locks.length lc) vs (s.dead.set ((u : Int)).toNat true) (.slice oa s.out.length oc) := (spliceOne (by rw [cellsT_len hvl hdl]; omega)).trans (cellsT_ds hvl hdl (by omega))
  rw [e5] at H5
  clear H4 e5
  have hdl2 : (s.dead.set ((u : Int)).toNat true).length = 12 := by simp [hdl]
  have hun : ((u : Int)).toNat < 12 := by omega
  (repeat (first | refine WO.run tabOk rfl rfl ?_ | refine WO.nil ?_ | refine WO.skip rfl rfl rfl ?_ | refine WO.pu tabOk rfl rfl rfl rfl ?_ | refine W.seq ?_ | refine W.region ?_ | refine W.block ?_ | refine W.skip ?_ | refine W.exit ?_))
  refine WO.pv rfl rfl rfl (PureV.idxAN tabOk rfl rfl rfl rfl rfl rfl hur.1 hur.2) ?_
  refine WO.act rfl rfl (OpW.storeB (i := 0) tabOk rfl rfl rfl rfl H5 rfl (v := .slice none 0 0) (by intro u hu; simp [cellsL] at hu; subst hu; rfl) rfl (by rw [cellsT_len hvl hdl2]; simp [cellsL]; omega) ?_)
  intro w6 H6
  have e6 : spliceL (cellsT (.slice la s.locks.length lc) vs (s.dead.set ((u : Int)).toNat true) (.slice oa s.out.length oc)) (0 + 1 + ((u : Int)).toNat * 1) (cellsL (.slice none 0 0)) = cellsT (.slice la s.locks.length lc) (vs.set ((u : Int)).toNat (.slice none 0 0)) (s.dead.set ((u : Int)).toNat true) (.slice oa s.out.length oc) := (spliceOne (by rw [cellsT_len hvl hdl2]; omega)).trans (cellsT_ls hvl hun)
  rw [e6] at H6
  have hvg := List.getElem?_eq_getElem (l := vs) (i := ((u : Int)).toNat) (by omega)
  have H7 := (((((H6.to (i := 2) rfl).nest_out (s.lt_get hI.lateL hur) hvg).drop).add_nil 44 actR).nest_in (i := ((u : Int)).toNat) (by rw [hI.lateL]; exact hun) (by omega)).bring [1, 2, 0, 3] rfl
  have hvl2 : (vs.set ((u : Int)).toNat (.slice none 0 0)).length = 12 := by simp [hvl]
  clear H5 H6 e6
  (repeat (first | refine WO.run tabOk rfl rfl ?_ | refine WO.nil ?_ | refine WO.skip rfl rfl rfl ?_ | refine WO.pu tabOk rfl rfl rfl rfl ?_ | refine W.seq ?_ | refine W.region ?_ | refine W.block ?_ | refine W.skip ?_ | refine W.exit ?_))
  refine WO.one rfl rfl rfl (OpW.loadB tabOk rfl rfl rfl rfl H7 (.head _) (cellsT_o hvl2 hdl2) ?_)
  (repeat (first | refine WO.run tabOk rfl rfl ?_ | refine WO.nil ?_ | refine WO.skip rfl rfl rfl ?_ | refine WO.pu tabOk rfl rfl rfl rfl ?_ | refine W.seq ?_ | refine W.region ?_ | refine W.block ?_ | refine W.skip ?_ | refine W.exit ?_))
  refine WO.pv rfl rfl rfl (PureV.build tabOk rfl rfl rfl zero44 (l := [.int .i64 (u : Int), .int .i64 4, .int .i64 0]) rfl) ?_
  refine WO.one rfl rfl rfl (OpW.buildSlice tabOk rfl rfl rfl rfl zero44 rfl rfl (l := [.int .i64 (u : Int), .int .i64 4, .int .i64 0]) rfl H7 ?_)
  intro b9 w9 H9
  have hsh := shows_blk (sz := 3) (m := 1) (e := 44) (l := [.int .i64 (u : Int), .int .i64 4, .int .i64 0]) H9 (b := b9) (by simp) rfl (by intro u hu; simp at hu; rcases hu with rfl | rfl | rfl <;> rfl)
  have H10 := (H9.to (i := 4) rfl).flat_open
  refine WO.one rfl rfl rfl (OpW.append tabOk rfl rfl rfl zero44 rfl rfl rfl rfl H10 hsh (by omega) (by simp only [maxLen]; omega) ?_)
  intro v' w11 H11 _
  have e1 : s.out.flatMap encA ++ [.int .i64 (u : Int), .int .i64 4, .int .i64 0] = (s.out ++ [((u : Int), 4, 0)]).flatMap encA := by simp [encA]
  have e2 : s.out.length + 1 = (s.out ++ [((u : Int), (4 : Int), (0 : Int))]).length := by simp
  rw [e1, e2] at H11
  have H12 : St c w11 (row 44 actR v' (s.out ++ [((u : Int), 4, 0)]) :: _) Ro := St.flat_close H11
  obtain ⟨ua, uc, rfl⟩ := rowForm H12 (v := v') (e := 44) (r := actR) (xs := s.out ++ [((u : Int), 4, 0)]) (by simp)
  (repeat (first | refine WO.run tabOk rfl rfl ?_ | refine WO.nil ?_ | refine WO.skip rfl rfl rfl ?_ | refine WO.pu tabOk rfl rfl rfl rfl ?_ | refine W.seq ?_ | refine W.region ?_ | refine W.block ?_ | refine W.skip ?_ | refine W.exit ?_))
  refine WO.act rfl rfl (OpW.storeB (i := 2) tabOk rfl rfl rfl rfl H12 rfl (v := .slice ua (s.out ++ [((u : Int), 4, 0)]).length uc) (by intro u hu; simp [cellsL] at hu; subst hu; rfl) rfl (by rw [cellsT_len hvl2 hdl2]; simp [cellsL]) ?_)
  intro w13 H13
  have e3 : spliceL (cellsT (.slice la s.locks.length lc) (vs.set ((u : Int)).toNat (.slice none 0 0)) (s.dead.set ((u : Int)).toNat true) (.slice oa s.out.length oc)) 25 (cellsL (.slice ua (s.out ++ [((u : Int), 4, 0)]).length uc)) = cellsT (.slice la s.locks.length lc) (vs.set ((u : Int)).toNat (.slice none 0 0)) (s.dead.set ((u : Int)).toNat true) (.slice ua (s.out ++ [((u : Int), 4, 0)]).length uc) := (spliceOne (by rw [cellsT_len hvl2 hdl2]; omega)).trans (cellsT_os hvl2 hdl2)
  rw [e3] at H13
  have H14 : St c w13 (tabP bt (s.slain u) (.slice la s.locks.length lc) (.slice ua (s.out ++ [((u : Int), 4, 0)]).length uc) (vs.set ((u : Int)).toNat (.slice none 0 0)) Own) Ro := (H13.bring [2, 0, 3, 4, 1] rfl).drop
  clear H13 H12 H11 H10 H9 H7 hsh e1 e2 e3
  (repeat (first | refine WO.run tabOk rfl rfl ?_ | refine WO.nil ?_ | refine WO.skip rfl rfl rfl ?_ | refine WO.pu tabOk rfl rfl rfl rfl ?_ | refine W.seq ?_ | refine W.region ?_ | refine W.block ?_ | refine W.skip ?_ | refine W.exit ?_))
  refine WO.one rfl rfl rfl (OpW.call rfl Try.call51 rfl (Calls.ret (hD c w13 Own Ro bt (s.slain u) (u : Int) (.free :: K) _ _ _ ⟨hI.val, hur⟩ hI1 (by omega) H14) ?_))
  rintro _ w15 ⟨rfl, s2, lv2, ov2, vs2, hst2, H15⟩
  (repeat (first | refine WO.run tabOk rfl rfl ?_ | refine WO.nil ?_ | refine WO.skip rfl rfl rfl ?_ | refine WO.pu tabOk rfl rfl rfl rfl ?_ | refine W.seq ?_ | refine W.region ?_ | refine W.block ?_ | refine W.skip ?_ | refine W.exit ?_))
  obtain ⟨_, hb2⟩ := hst2.inv hI1
  have e9 : takes (givenT (u : Int) (s.slain u).locks ++ .free :: K) = takes K := takes_given _ _ _
  have e10 : ((s.slain u).lock (dropF (u : Int) (s.slain u).locks).1).bud = (s.slain u).bud := rfl
  simp only [e9, e10, takes] at hb2
  exact ⟨(s2, lv2, ov2, vs2), rfl, ⟨hst.trans (.head hst1 hst2), H15⟩, by simp only; omega⟩
end Go.Proofs.Ytpenbdpgpamcbaa
