/- two: take; so all of them. run: Check. Conditions: each fact's own premises. -/
import Derived.Test.YtpenbdpgpamcbaaTwoE
set_option linter.unusedVariables false
set_option linter.unusedSimpArgs false
set_option maxRecDepth 20000
namespace Go.Proofs.Ytpenbdpgpamcbaa
open Go Gw
attribute [local irreducible] W WO WD

theorem Gw.St.blk_row {α : Type} {sz : Nat} {enc : α → List Value} {hl : ∀ x, (enc x).length = sz} {h1 : ∀ x, ∀ v ∈ enc x, v.oneCell' = true} {c : Ctx} {w : World} {Own Ro : List Asn} {b e : Nat} {l : List α} (H : St c w (blk b e (l.flatMap enc) :: Own) Ro) (hlen : l.length ≤ 1000) :
    St c w (row e (Rdr.flat sz enc hl h1) (.slice (some ⟨b, 0, none⟩) l.length l.length) l :: Own) Ro := by
  have hf : (l.flatMap enc).length = l.length * sz := flatMap_len hl l
  have H1 := H.close_raw (sz := sz) (n := l.length) (o := 0) (cap := l.length) (cs := l.flatMap enc) (Nat.le_refl _) (by simp only [maxLen]; omega) (by omega) (by rw [List.drop_zero, ← hf, List.take_length]) (by
    intro u hu
    obtain ⟨d, _, hd⟩ := List.mem_flatMap.1 hu
    exact h1 d u hd)
  exact H1.flat_close

theorem take_of {n : Nat} (hD : DropsOk n) (hF : FreeOk (n + 1)) : TakeOk (n + 1) := by
  intro c w Own Ro bt s o K lv ov vs hI hbud H
  refine calls_W (args := [_, _]) Try.func34 rfl Try.ntmps34 rfl ?_
  have ho := hI.tk o (by simp [takes])
  have hu := ho.1
  have hol : s.out.length ≤ 300 := Nat.le_trans (Nat.le_trans (Nat.le_add_right _ _) (Nat.le_add_right _ _)) hI.size
  have hpd := s.pend_ge hI.lateL hu
  have hsz := hI.size
  have hpl : (s.lt o.1).length ≤ 300 := by simp only [TwoS.bud] at hsz; omega
  have hvl : vs.length = 12 := by rw [(H.to (i := 2) rfl).hang_cells]; exact hI.lateL
  have hdl := hI.deadL
  have hun : o.1.toNat < 12 := by omega
  have hlg := s.lt_get hI.lateL hu
  have hdg := s.dd_get hdl hu
  have hvg := List.getElem?_eq_getElem (l := vs) (i := o.1.toNat) (by omega)
  generalize vs[o.1.toNat]'_ = v at hvg
  obtain ⟨xa, xc, rfl⟩ := rowForm ((H.to (i := 2) rfl).nest_out hlg hvg) (v := v) (e := 44) (r := actR) (xs := s.lt o.1) (by simp)
  obtain ⟨oa, oc, rfl⟩ := rowForm H (v := ov) (e := 44) (r := actR) (xs := s.out) (by simp)
  obtain ⟨la, lc, rfl, _⟩ := table_rd H (tv := lv) (t := s.locks) (by simp)
  obtain ⟨o1, o2, o3⟩ := o
  (repeat (first | refine W.seq ?_ | refine W.block ?_ | refine W.skip ?_ | refine W.exit ?_ | refine W.region ?_))
  refine WO.one rfl rfl rfl (OpW.box rfl rfl rfl H ?_); intro b3 w1 H1
  clear H
  have H2 := H1.drew
  have hA := H2.ha (L := [blk b3 44 [.int .i64 o1, .int .i64 o2, .int .i64 o3], blk bt 97 (cellsT (.slice la s.locks.length lc) vs s.dead (.slice oa s.out.length oc))]) (by simp)
  (repeat (first | refine WO.run tabOk rfl rfl ?_ | refine WO.nil ?_ | refine WO.skip rfl rfl rfl ?_ | refine WO.pu tabOk rfl rfl rfl rfl ?_ | refine W.seq ?_ | refine W.region ?_ | refine W.block ?_ | refine W.skip ?_ | refine W.exit ?_))
  refine W.regionD [2, 6] (HA [blk b3 44 [.int .i64 o1, .int .i64 o2, .int .i64 o3], blk bt 97 (cellsT (.slice la s.locks.length lc) vs s.dead (.slice oa s.out.length oc))]) [0, 1, 2, 3, 4, 5, 6, 7] rfl (by kernel_rfl) (fun _ _ _ h => h) ?_
  (repeat (first | refine WD.run tabOk rfl rfl ?_ | refine WD.hv rfl rfl rfl rfl rfl hA (HeldV.load1 tabOk rfl rfl rfl rfl (by (repeat (first | exact .head _ | refine .tail _ ?_))) rfl) ?_ | refine WD.hv rfl rfl rfl rfl rfl hA (HeldV.loadA tabOk rfl rfl rfl rfl (by (repeat (first | exact .head _ | refine .tail _ ?_))) rfl rfl) ?_ | refine WD.pu tabOk rfl rfl rfl rfl rfl rfl ?_))
  refine WD.pv rfl rfl rfl rfl rfl (PureV.idxAN tabOk rfl rfl rfl rfl rfl rfl hu.1 hu.2) ?_
  refine WD.hv rfl rfl rfl rfl rfl hA (HeldV.loadB tabOk rfl rfl rfl rfl (.tail _ (.head _)) (cellsT_d hvl hdl hun hdg)) ?_
  (repeat (first | refine WD.run tabOk rfl rfl ?_ | refine WD.hv rfl rfl rfl rfl rfl hA (HeldV.load1 tabOk rfl rfl rfl rfl (by (repeat (first | exact .head _ | refine .tail _ ?_))) rfl) ?_ | refine WD.hv rfl rfl rfl rfl rfl hA (HeldV.loadA tabOk rfl rfl rfl rfl (by (repeat (first | exact .head _ | refine .tail _ ?_))) rfl rfl) ?_ | refine WD.pu tabOk rfl rfl rfl rfl rfl rfl ?_))
  (repeat (first | refine WD.run tabOk rfl rfl ?_ | refine WD.nil ?_))
  refine W.cond rfl (fun hd => ?_) (fun hd => ?_)
  · (repeat (first | refine WO.run tabOk rfl rfl ?_ | refine WO.nil ?_ | refine WO.skip rfl rfl rfl ?_ | refine WO.pu tabOk rfl rfl rfl rfl ?_ | refine W.seq ?_ | refine W.region ?_ | refine W.block ?_ | refine W.skip ?_ | refine W.exit ?_))
    exact W.ret (ret0 Try.results34 ⟨_, rfl, rfl, s, _, _, vs, .one (.dead hd), H2.drop⟩)
  clear hA H1
  have H3 := H2.drew
  have hA := H3.ha (L := [blk b3 44 [.int .i64 o1, .int .i64 o2, .int .i64 o3], blk bt 97 (cellsT (.slice la s.locks.length lc) vs s.dead (.slice oa s.out.length oc))]) (by simp)
  (repeat (first | refine WO.run tabOk rfl rfl ?_ | refine WO.nil ?_ | refine WO.skip rfl rfl rfl ?_ | refine WO.pu tabOk rfl rfl rfl rfl ?_ | refine W.seq ?_ | refine W.region ?_ | refine W.block ?_ | refine W.skip ?_ | refine W.exit ?_))
  refine W.regionD [2, 6] (HA [blk b3 44 [.int .i64 o1, .int .i64 o2, .int .i64 o3], blk bt 97 (cellsT (.slice la s.locks.length lc) vs s.dead (.slice oa s.out.length oc))]) [0, 1, 2, 3, 4, 5, 6, 7, 8, 9] rfl (by kernel_rfl) (fun _ _ _ h => h) ?_
  (repeat (first | refine WD.run tabOk rfl rfl ?_ | refine WD.hv rfl rfl rfl rfl rfl hA (HeldV.load1 tabOk rfl rfl rfl rfl (by (repeat (first | exact .head _ | refine .tail _ ?_))) rfl) ?_ | refine WD.hv rfl rfl rfl rfl rfl hA (HeldV.loadA tabOk rfl rfl rfl rfl (by (repeat (first | exact .head _ | refine .tail _ ?_))) rfl rfl) ?_ | refine WD.pu tabOk rfl rfl rfl rfl rfl rfl ?_))
  refine WD.pv rfl rfl rfl rfl rfl (PureV.idxAN tabOk rfl rfl rfl rfl rfl rfl hu.1 hu.2) ?_
  refine WD.hv rfl rfl rfl rfl rfl hA (HeldV.loadB tabOk rfl rfl rfl rfl (.tail _ (.head _)) (cellsT_l hvl hun hvg)) ?_
  (repeat (first | refine WD.run tabOk rfl rfl ?_ | refine WD.hv rfl rfl rfl rfl rfl hA (HeldV.load1 tabOk rfl rfl rfl rfl (by (repeat (first | exact .head _ | refine .tail _ ?_))) rfl) ?_ | refine WD.hv rfl rfl rfl rfl rfl hA (HeldV.loadA tabOk rfl rfl rfl rfl (by (repeat (first | exact .head _ | refine .tail _ ?_))) rfl rfl) ?_ | refine WD.pu tabOk rfl rfl rfl rfl rfl rfl ?_))
  (repeat (first | refine WD.run tabOk rfl rfl ?_ | refine WD.nil ?_))
  clear hA H2
  refine W.cond rfl (fun hlate => ?_) (fun hlate => ?_)
  · have hne : s.lt o1 ≠ [] := by
      have : 0 < (s.lt o1).length := by simpa using hlate
      exact List.length_pos_iff.1 this
    have H4 := ((H3.drew).to (i := 3) rfl).nest_out hlg hvg
    have mk : ∀ {w' : World} {Own' : List Asn}, St c w' Own' Ro → blk b3 44 [.int .i64 o1, .int .i64 o2, .int .i64 o3] ∈ Own' ++ Ro → blk bt 97 (cellsT (.slice la s.locks.length lc) vs s.dead (.slice oa s.out.length oc)) ∈ Own' ++ Ro → HA [blk b3 44 [.int .i64 o1, .int .i64 o2, .int .i64 o3], blk bt 97 (cellsT (.slice la s.locks.length lc) vs s.dead (.slice oa s.out.length oc))] w' := fun H h1 h2 => HA.cons (H.holds h1) (HA.cons (H.holds h2) (HA.nil _))
    have hA := mk H4 (by simp) (by simp)
    clear H3
    (repeat (first | refine WO.run tabOk rfl rfl ?_ | refine WO.nil ?_ | refine WO.skip rfl rfl rfl ?_ | refine WO.pu tabOk rfl rfl rfl rfl ?_ | refine W.seq ?_ | refine W.region ?_ | refine W.block ?_ | refine W.skip ?_ | refine W.exit ?_))
    refine W.regionD [2, 5, 9, 10] (HA [blk b3 44 [.int .i64 o1, .int .i64 o2, .int .i64 o3], blk bt 97 (cellsT (.slice la s.locks.length lc) vs s.dead (.slice oa s.out.length oc))]) [0, 1, 2, 3, 4, 5, 6, 7, 8, 9, 10, 13, 14, 11, 12, 15, 16] rfl (by kernel_rfl) (fun _ _ _ h => h) ?_
    (repeat (first | refine WD.run tabOk rfl rfl ?_ | refine WD.hv rfl rfl rfl rfl rfl hA (HeldV.load1 tabOk rfl rfl rfl rfl (by (repeat (first | exact .head _ | refine .tail _ ?_))) rfl) ?_ | refine WD.hv rfl rfl rfl rfl rfl hA (HeldV.loadA tabOk rfl rfl rfl rfl (by (repeat (first | exact .head _ | refine .tail _ ?_))) rfl rfl) ?_ | refine WD.pu tabOk rfl rfl rfl rfl rfl rfl ?_))
    refine WD.pv rfl rfl rfl rfl rfl (PureV.idxAN tabOk rfl rfl rfl rfl rfl rfl hu.1 hu.2) ?_
    refine WD.hv rfl rfl rfl rfl rfl hA (HeldV.loadB tabOk rfl rfl rfl rfl (.tail _ (.head _)) (cellsT_l hvl hun hvg)) ?_
    (repeat (first | refine WD.run tabOk rfl rfl ?_ | refine WD.hv rfl rfl rfl rfl rfl hA (HeldV.load1 tabOk rfl rfl rfl rfl (by (repeat (first | exact .head _ | refine .tail _ ?_))) rfl) ?_ | refine WD.hv rfl rfl rfl rfl rfl hA (HeldV.loadA tabOk rfl rfl rfl rfl (by (repeat (first | exact .head _ | refine .tail _ ?_))) rfl rfl) ?_ | refine WD.pu tabOk rfl rfl rfl rfl rfl rfl ?_))
    refine WD.oneS rfl rfl rfl rfl rfl (OpW.buildSlice tabOk rfl rfl rfl rfl zero44 rfl rfl (l := [.int .i64 o1, .int .i64 o2, .int .i64 o3]) rfl H4 ?_)
    intro b9 w9 H9
    refine ⟨mk H9 (by simp) (by simp), ?_⟩
    have hsh := shows_blk (sz := 3) (m := 1) (e := 44) (l := [.int .i64 o1, .int .i64 o2, .int .i64 o3]) H9 (b := b9) (by simp) rfl (by intro u hu; simp at hu; rcases hu with rfl | rfl | rfl <;> rfl)
    have H10 := (H9.to (i := 1) rfl).flat_open
    refine WD.oneS rfl rfl rfl rfl rfl (OpW.append tabOk rfl rfl rfl zero44 rfl rfl rfl rfl H10 hsh (by omega) (by simp only [maxLen] at *; omega) ?_)
    intro v' w11 H11 _
    have e1 : (s.lt o1).flatMap encA ++ [.int .i64 o1, .int .i64 o2, .int .i64 o3] = (s.lt o1 ++ [(o1, o2, o3)]).flatMap encA := by simp [encA]
    have e2 : (s.lt o1).length + 1 = (s.lt o1 ++ [(o1, o2, o3)]).length := by simp
    simp only at H11
    rw [e1, e2] at H11
    have H12 : St c w11 (row 44 actR v' (s.lt o1 ++ [(o1, o2, o3)]) :: _) Ro := St.flat_close H11
    refine ⟨mk H12 (by simp) (by simp), ?_⟩
    obtain ⟨ua, uc, rfl⟩ := rowForm H12 (v := v') (e := 44) (r := actR) (xs := s.lt o1 ++ [(o1, o2, o3)]) (by simp)
    (repeat (first | refine WD.run tabOk rfl rfl ?_ | refine WD.hv rfl rfl rfl rfl rfl hA (HeldV.load1 tabOk rfl rfl rfl rfl (by (repeat (first | exact .head _ | refine .tail _ ?_))) rfl) ?_ | refine WD.hv rfl rfl rfl rfl rfl hA (HeldV.loadA tabOk rfl rfl rfl rfl (by (repeat (first | exact .head _ | refine .tail _ ?_))) rfl rfl) ?_ | refine WD.pu tabOk rfl rfl rfl rfl rfl rfl ?_))
    refine WD.pv rfl rfl rfl rfl rfl (PureV.idxAN tabOk rfl rfl rfl rfl rfl rfl hu.1 hu.2) ?_
    refine WD.act rfl rfl rfl rfl (by kernel_rfl) (OpW.storeB (i := 5) tabOk rfl rfl rfl rfl H12 rfl (v := .slice ua (s.lt o1 ++ [(o1, o2, o3)]).length uc) (by intro u hu; simp [cellsL] at hu; subst hu; rfl) rfl (by rw [cellsT_len hvl hdl]; simp [cellsL]; omega) ?_)
    intro w13 H13
    have e3 : spliceL (cellsT (.slice la s.locks.length lc) vs s.dead (.slice oa s.out.length oc)) (0 + 1 + o1.toNat * 1) (cellsL (.slice ua (s.lt o1 ++ [(o1, o2, o3)]).length uc)) = cellsT (.slice la s.locks.length lc) (vs.set o1.toNat (.slice ua (s.lt o1 ++ [(o1, o2, o3)]).length uc)) s.dead (.slice oa s.out.length oc) := (spliceOne (by rw [cellsT_len hvl hdl]; omega)).trans (cellsT_ls hvl hun)
    rw [e3] at H13
    have H14 := ((H13.bring [1, 3, 4, 0, 6, 7, 2, 5] rfl).nest_in (i := o1.toNat) (by rw [hI.lateL]; exact hun) (by omega)).bring [1, 2, 0, 3, 4, 5] rfl
    (repeat (first | refine WD.run tabOk rfl rfl ?_ | refine WD.nil ?_))
    (repeat (first | refine WO.run tabOk rfl rfl ?_ | refine WO.nil ?_ | refine WO.skip rfl rfl rfl ?_ | refine WO.pu tabOk rfl rfl rfl rfl ?_ | refine W.seq ?_ | refine W.region ?_ | refine W.block ?_ | refine W.skip ?_ | refine W.exit ?_))
    exact W.ret (ret0 Try.results34 ⟨_, rfl, rfl, s.setL o1 (s.lt o1 ++ [(o1, o2, o3)]), _, _, _, .one (.late hd hne), ((H14.to (i := 4) rfl).drop.to (i := 4) rfl).drop⟩)
  · have hnil : s.lt o1 = [] := by
      have : ¬ 0 < (s.lt o1).length := by simpa using hlate
      exact List.eq_nil_of_length_eq_zero (by omega)
    (repeat (first | refine WO.run tabOk rfl rfl ?_ | refine WO.nil ?_ | refine WO.skip rfl rfl rfl ?_ | refine WO.pu tabOk rfl rfl rfl rfl ?_ | refine W.seq ?_ | refine W.region ?_ | refine W.block ?_ | refine W.skip ?_ | refine W.exit ?_ | refine WO.one rfl rfl rfl (OpW.load1 tabOk rfl rfl rfl rfl H3 (by (repeat (first | exact .head _ | refine .tail _ ?_))) rfl ?_)))
    refine W.cond rfl (fun hk => ?_) (fun hk => ?_)
    · have hk : 3 ≤ o2 := by simpa using hk
      (repeat (first | refine WO.run tabOk rfl rfl ?_ | refine WO.nil ?_ | refine WO.skip rfl rfl rfl ?_ | refine WO.pu tabOk rfl rfl rfl rfl ?_ | refine W.seq ?_ | refine W.region ?_ | refine W.block ?_ | refine W.skip ?_ | refine W.exit ?_))
      have hT1 := H3.drew
      have mk : ∀ {w' : World} {Own' : List Asn}, St c w' Own' Ro → blk b3 44 [.int .i64 o1, .int .i64 o2, .int .i64 o3] ∈ Own' ++ Ro → blk bt 97 (cellsT (.slice la s.locks.length lc) vs s.dead (.slice oa s.out.length oc)) ∈ Own' ++ Ro → HA [blk b3 44 [.int .i64 o1, .int .i64 o2, .int .i64 o3], blk bt 97 (cellsT (.slice la s.locks.length lc) vs s.dead (.slice oa s.out.length oc))] w' := fun H h1 h2 => HA.cons (H.holds h1) (HA.cons (H.holds h2) (HA.nil _))
      have hA := mk hT1 (by simp) (by simp)
      refine W.regionD [4, 5] (HA [blk b3 44 [.int .i64 o1, .int .i64 o2, .int .i64 o3], blk bt 97 (cellsT (.slice la s.locks.length lc) vs s.dead (.slice oa s.out.length oc))]) [0, 1, 2, 3, 4, 5, 6, 7, 8, 9, 10] rfl (by kernel_rfl) (fun _ _ _ h => h) ?_
      (repeat (first | refine WD.run tabOk rfl rfl ?_ | refine WD.hv rfl rfl rfl rfl rfl hA (HeldV.load1 tabOk rfl rfl rfl rfl (by (repeat (first | exact .head _ | refine .tail _ ?_))) rfl) ?_ | refine WD.hv rfl rfl rfl rfl rfl hA (HeldV.loadA tabOk rfl rfl rfl rfl (by (repeat (first | exact .head _ | refine .tail _ ?_))) rfl rfl) ?_ | refine WD.pu tabOk rfl rfl rfl rfl rfl rfl ?_))
      refine WD.hv rfl rfl rfl rfl rfl hA (HeldV.loadB tabOk rfl rfl rfl rfl (.tail _ (.head _)) (cellsT_o hvl hdl)) ?_
      (repeat (first | refine WD.run tabOk rfl rfl ?_ | refine WD.hv rfl rfl rfl rfl rfl hA (HeldV.load1 tabOk rfl rfl rfl rfl (by (repeat (first | exact .head _ | refine .tail _ ?_))) rfl) ?_ | refine WD.hv rfl rfl rfl rfl rfl hA (HeldV.loadA tabOk rfl rfl rfl rfl (by (repeat (first | exact .head _ | refine .tail _ ?_))) rfl rfl) ?_ | refine WD.pu tabOk rfl rfl rfl rfl rfl rfl ?_))
      refine WD.oneS rfl rfl rfl rfl rfl (OpW.buildSlice tabOk rfl rfl rfl rfl zero44 rfl rfl (l := [.int .i64 o1, .int .i64 o2, .int .i64 o3]) rfl hT1 ?_)
      intro b9 w9 H9
      refine ⟨mk H9 (by simp) (by simp), ?_⟩
      have hsh := shows_blk (sz := 3) (m := 1) (e := 44) (l := [.int .i64 o1, .int .i64 o2, .int .i64 o3]) H9 (b := b9) (by simp) rfl (by intro u hu; simp at hu; rcases hu with rfl | rfl | rfl <;> rfl)
      have H10 := (H9.to (i := 5) rfl).flat_open
      refine WD.oneS rfl rfl rfl rfl rfl (OpW.append tabOk rfl rfl rfl zero44 rfl rfl rfl rfl H10 hsh (by omega) (by simp only [maxLen]; omega) ?_)
      intro v' w11 H11 _
      have e1 : s.out.flatMap encA ++ [.int .i64 o1, .int .i64 o2, .int .i64 o3] = (s.out ++ [(o1, o2, o3)]).flatMap encA := by simp [encA]
      have e2 : s.out.length + 1 = (s.out ++ [(o1, o2, o3)]).length := by simp
      rw [e1, e2] at H11
      have H12 : St c w11 (row 44 actR v' (s.out ++ [(o1, o2, o3)]) :: _) Ro := St.flat_close H11
      refine ⟨mk H12 (by simp) (by simp), ?_⟩
      obtain ⟨ua, uc, rfl⟩ := rowForm H12 (v := v') (e := 44) (r := actR) (xs := s.out ++ [(o1, o2, o3)]) (by simp)
      (repeat (first | refine WD.run tabOk rfl rfl ?_ | refine WD.hv rfl rfl rfl rfl rfl hA (HeldV.load1 tabOk rfl rfl rfl rfl (by (repeat (first | exact .head _ | refine .tail _ ?_))) rfl) ?_ | refine WD.hv rfl rfl rfl rfl rfl hA (HeldV.loadA tabOk rfl rfl rfl rfl (by (repeat (first | exact .head _ | refine .tail _ ?_))) rfl rfl) ?_ | refine WD.pu tabOk rfl rfl rfl rfl rfl rfl ?_))
      refine WD.act rfl rfl rfl rfl (by kernel_rfl) (OpW.storeB (i := 3) tabOk rfl rfl rfl rfl H12 rfl (v := .slice ua (s.out ++ [(o1, o2, o3)]).length uc) (by intro u hu; simp [cellsL] at hu; subst hu; rfl) rfl (by rw [cellsT_len hvl hdl]; simp [cellsL]) ?_)
      intro w13 H13
      have e3 : spliceL (cellsT (.slice la s.locks.length lc) vs s.dead (.slice oa s.out.length oc)) 25 (cellsL (.slice ua (s.out ++ [(o1, o2, o3)]).length uc)) = cellsT (.slice la s.locks.length lc) vs s.dead (.slice ua (s.out ++ [(o1, o2, o3)]).length uc) := (spliceOne (by rw [cellsT_len hvl hdl]; omega)).trans (cellsT_os hvl hdl)
      rw [e3] at H13
      have H14 := (H13.bring [0, 4, 5, 1, 2, 3] rfl)
      clear H13 H12 H11 H10 H9 hsh e1 e2 e3 hA mk hT1
      (repeat (first | refine WD.run tabOk rfl rfl ?_ | refine WD.nil ?_))

      (repeat (first | refine WO.run tabOk rfl rfl ?_ | refine WO.nil ?_ | refine WO.skip rfl rfl rfl ?_ | refine WO.pu tabOk rfl rfl rfl rfl ?_ | refine W.seq ?_ | refine W.region ?_ | refine W.block ?_ | refine W.skip ?_ | refine W.exit ?_ | refine WO.one rfl rfl rfl (OpW.load1 tabOk rfl rfl rfl rfl H14 (by (repeat (first | exact .head _ | refine .tail _ ?_))) rfl ?_)))
      have hst0 : Step (s, .take (o1, o2, o3) :: K) ((s.tell (o1, o2, o3)).lock (dropF o1 s.locks).1, givenT o1 s.locks ++ K) := .fin hd hnil hk
      obtain ⟨hI1, _⟩ := hst0.inv hI
      have hbn : (s.tell (o1, o2, o3)).bud ≤ n := Nat.le_of_succ_le_succ hbud
      refine WO.one rfl rfl rfl (OpW.call rfl Try.call51 rfl (Calls.ret (hD c w13 _ Ro bt (s.tell (o1, o2, o3)) o1 K _ _ _ ⟨hI.val, hu⟩ hI1 hbn H14) ?_))
      rintro _ w15 ⟨rfl, s2, lv2, ov2, vs2, hst2, H15⟩
      (repeat (first | refine WO.run tabOk rfl rfl ?_ | refine WO.nil ?_ | refine WO.skip rfl rfl rfl ?_ | refine WO.pu tabOk rfl rfl rfl rfl ?_ | refine W.seq ?_ | refine W.region ?_ | refine W.block ?_ | refine W.skip ?_ | refine W.exit ?_))
      exact W.ret (ret0 Try.results34 ⟨_, rfl, rfl, s2, _, _, _, .head hst0 hst2, ((H15.to (i := 4) rfl).drop.to (i := 4) rfl).drop⟩)
    · have hk : o2 < 3 := by simp at hk; omega
      have hAsk := hI.askOk hnil
      have H4 := H3.drew
      have mk : ∀ {w' : World} {Own' : List Asn}, St c w' Own' Ro → blk b3 44 [.int .i64 o1, .int .i64 o2, .int .i64 o3] ∈ Own' ++ Ro → blk bt 97 (cellsT (.slice la s.locks.length lc) vs s.dead (.slice oa s.out.length oc)) ∈ Own' ++ Ro → HA [blk b3 44 [.int .i64 o1, .int .i64 o2, .int .i64 o3], blk bt 97 (cellsT (.slice la s.locks.length lc) vs s.dead (.slice oa s.out.length oc))] w' := fun H h1 h2 => HA.cons (H.holds h1) (HA.cons (H.holds h2) (HA.nil _))
      have hA := mk H4 (by simp) (by simp)
      clear H3
      (repeat (first | refine WO.run tabOk rfl rfl ?_ | refine WO.nil ?_ | refine WO.skip rfl rfl rfl ?_ | refine WO.pu tabOk rfl rfl rfl rfl ?_ | refine W.seq ?_ | refine W.region ?_ | refine W.block ?_ | refine W.skip ?_ | refine W.exit ?_))
      refine W.regionD [3, 5, 7, 8] (HA [blk b3 44 [.int .i64 o1, .int .i64 o2, .int .i64 o3], blk bt 97 (cellsT (.slice la s.locks.length lc) vs s.dead (.slice oa s.out.length oc))]) [0, 1, 2, 3, 4, 5, 6, 7, 8, 9, 10, 11, 12, 13, 14, 15, 16, 17] rfl (by kernel_rfl) (fun _ _ _ h => h) ?_
      (repeat (first | refine WD.run tabOk rfl rfl ?_ | refine WD.hv rfl rfl rfl rfl rfl hA (HeldV.load1 tabOk rfl rfl rfl rfl (by (repeat (first | exact .head _ | refine .tail _ ?_))) rfl) ?_ | refine WD.hv rfl rfl rfl rfl rfl hA (HeldV.loadA tabOk rfl rfl rfl rfl (by (repeat (first | exact .head _ | refine .tail _ ?_))) rfl rfl) ?_ | refine WD.pu tabOk rfl rfl rfl rfl rfl rfl ?_))
      refine WD.oneS rfl rfl rfl rfl rfl (OpW.call rfl Try.call53 rfl (Calls.ret (mode_ok _ (o1, o2, o3)) ?_))
      rintro _ w5 ⟨hp5, rfl⟩
      have H5 := H4.after hp5
      refine ⟨mk H5 (by simp) (by simp), ?_⟩
      obtain ⟨_, _, e, hL⟩ := table_rd H5 (tv := .slice la s.locks.length lc) (t := s.locks) (by simp)
      simp only [Value.slice.injEq, true_and] at e
      obtain ⟨rfl, rfl⟩ := e
      refine WD.oneS rfl rfl rfl rfl rfl (OpW.call rfl Try.call52 rfl (Calls.ret (ask_ok w5 la lc s.locks o1 o3 (modeF (o1, o2, o3)) hL) ?_))
      rintro _ w6 ⟨tv, ok, e, rfl, ⟨_, hno, _⟩ | ⟨rfl, _, hokv, Ka⟩⟩
      · exact absurd hAsk hno
      have H6 := H5.take Ka
      obtain ⟨ta, tc, rfl, _⟩ := table_rd H6 (tv := tv) (t := (askStep o1 o3 (modeF (o1, o2, o3)) s.locks).1) (by simp)
      refine ⟨mk H6 (by simp) (by simp), ?_⟩
      clear Ka H4 H5 hA mk hL hp5
      (repeat (first | refine WD.run tabOk rfl rfl ?_ | refine WD.nil ?_))
      (repeat (first | refine WO.run tabOk rfl rfl ?_ | refine WO.nil ?_ | refine WO.skip rfl rfl rfl ?_ | refine WO.pu tabOk rfl rfl rfl rfl ?_ | refine W.seq ?_ | refine W.region ?_ | refine W.block ?_ | refine W.skip ?_ | refine W.exit ?_))
      refine WO.act rfl rfl (OpW.storeB (i := 2) tabOk rfl rfl rfl rfl H6 rfl (v := .slice ta (askStep o1 o3 (modeF (o1, o2, o3)) s.locks).1.length tc) (by intro u hu; simp [cellsL] at hu; subst hu; rfl) rfl (by rw [cellsT_len hvl hdl]; simp [cellsL]) ?_)
      intro w7 H7
      have e3 : spliceL (cellsT (.slice la s.locks.length lc) vs s.dead (.slice oa s.out.length oc)) 0 (cellsL (.slice ta (askStep o1 o3 (modeF (o1, o2, o3)) s.locks).1.length tc)) = cellsT (.slice ta (askStep o1 o3 (modeF (o1, o2, o3)) s.locks).1.length tc) vs s.dead (.slice oa s.out.length oc) := (spliceOne (by simp [cellsT])).trans cellsT_0s
      rw [e3] at H7
      have H8 := (H7.bring [3, 2, 0, 1, 4, 5] rfl).drop
      clear H6 H7 e3
      (repeat (first | refine WO.run tabOk rfl rfl ?_ | refine WO.nil ?_ | refine WO.skip rfl rfl rfl ?_ | refine WO.pu tabOk rfl rfl rfl rfl ?_ | refine W.seq ?_ | refine W.region ?_ | refine W.block ?_ | refine W.skip ?_ | refine W.exit ?_))
      refine W.cond rfl (fun hok => ?_) (fun hok => ?_)
      · have hok' : (askStep o1 o3 (modeF (o1, o2, o3)) s.locks).2 = true := by rw [← hokv]; exact hok
        (repeat (first | refine WO.run tabOk rfl rfl ?_ | refine WO.nil ?_ | refine WO.skip rfl rfl rfl ?_ | refine WO.pu tabOk rfl rfl rfl rfl ?_ | refine W.seq ?_ | refine W.region ?_ | refine W.block ?_ | refine W.skip ?_ | refine W.exit ?_))
        have hT1 := H8.drew
        have mk : ∀ {w' : World} {Own' : List Asn}, St c w' Own' Ro → blk b3 44 [.int .i64 o1, .int .i64 o2, .int .i64 o3] ∈ Own' ++ Ro → blk bt 97 (cellsT (.slice ta (askStep o1 o3 (modeF (o1, o2, o3)) s.locks).1.length tc) vs s.dead (.slice oa s.out.length oc)) ∈ Own' ++ Ro → HA [blk b3 44 [.int .i64 o1, .int .i64 o2, .int .i64 o3], blk bt 97 (cellsT (.slice ta (askStep o1 o3 (modeF (o1, o2, o3)) s.locks).1.length tc) vs s.dead (.slice oa s.out.length oc))] w' := fun H h1 h2 => HA.cons (H.holds h1) (HA.cons (H.holds h2) (HA.nil _))
        have hA := mk hT1 (by simp) (by simp)
        refine W.regionD [4, 5] (HA [blk b3 44 [.int .i64 o1, .int .i64 o2, .int .i64 o3], blk bt 97 (cellsT (.slice ta (askStep o1 o3 (modeF (o1, o2, o3)) s.locks).1.length tc) vs s.dead (.slice oa s.out.length oc))]) [0, 1, 2, 3, 4, 5, 6, 7, 8, 9, 10] rfl (by kernel_rfl) (fun _ _ _ h => h) ?_
        (repeat (first | refine WD.run tabOk rfl rfl ?_ | refine WD.hv rfl rfl rfl rfl rfl hA (HeldV.load1 tabOk rfl rfl rfl rfl (by (repeat (first | exact .head _ | refine .tail _ ?_))) rfl) ?_ | refine WD.hv rfl rfl rfl rfl rfl hA (HeldV.loadA tabOk rfl rfl rfl rfl (by (repeat (first | exact .head _ | refine .tail _ ?_))) rfl rfl) ?_ | refine WD.pu tabOk rfl rfl rfl rfl rfl rfl ?_))
        refine WD.hv rfl rfl rfl rfl rfl hA (HeldV.loadB tabOk rfl rfl rfl rfl (.tail _ (.head _)) (cellsT_o hvl hdl)) ?_
        (repeat (first | refine WD.run tabOk rfl rfl ?_ | refine WD.hv rfl rfl rfl rfl rfl hA (HeldV.load1 tabOk rfl rfl rfl rfl (by (repeat (first | exact .head _ | refine .tail _ ?_))) rfl) ?_ | refine WD.hv rfl rfl rfl rfl rfl hA (HeldV.loadA tabOk rfl rfl rfl rfl (by (repeat (first | exact .head _ | refine .tail _ ?_))) rfl rfl) ?_ | refine WD.pu tabOk rfl rfl rfl rfl rfl rfl ?_))
        refine WD.oneS rfl rfl rfl rfl rfl (OpW.buildSlice tabOk rfl rfl rfl rfl zero44 rfl rfl (l := [.int .i64 o1, .int .i64 o2, .int .i64 o3]) rfl hT1 ?_)
        intro b9 w9 H9
        refine ⟨mk H9 (by simp) (by simp), ?_⟩
        have hsh := shows_blk (sz := 3) (m := 1) (e := 44) (l := [.int .i64 o1, .int .i64 o2, .int .i64 o3]) H9 (b := b9) (by simp) rfl (by intro u hu; simp at hu; rcases hu with rfl | rfl | rfl <;> rfl)
        have H10 := (H9.to (i := 5) rfl).flat_open
        refine WD.oneS rfl rfl rfl rfl rfl (OpW.append tabOk rfl rfl rfl zero44 rfl rfl rfl rfl H10 hsh (by omega) (by simp only [maxLen]; omega) ?_)
        intro v' w11 H11 _
        have e1 : s.out.flatMap encA ++ [.int .i64 o1, .int .i64 o2, .int .i64 o3] = (s.out ++ [(o1, o2, o3)]).flatMap encA := by simp [encA]
        have e2 : s.out.length + 1 = (s.out ++ [(o1, o2, o3)]).length := by simp
        rw [e1, e2] at H11
        have H12 : St c w11 (row 44 actR v' (s.out ++ [(o1, o2, o3)]) :: _) Ro := St.flat_close H11
        refine ⟨mk H12 (by simp) (by simp), ?_⟩
        obtain ⟨ua, uc, rfl⟩ := rowForm H12 (v := v') (e := 44) (r := actR) (xs := s.out ++ [(o1, o2, o3)]) (by simp)
        (repeat (first | refine WD.run tabOk rfl rfl ?_ | refine WD.hv rfl rfl rfl rfl rfl hA (HeldV.load1 tabOk rfl rfl rfl rfl (by (repeat (first | exact .head _ | refine .tail _ ?_))) rfl) ?_ | refine WD.hv rfl rfl rfl rfl rfl hA (HeldV.loadA tabOk rfl rfl rfl rfl (by (repeat (first | exact .head _ | refine .tail _ ?_))) rfl rfl) ?_ | refine WD.pu tabOk rfl rfl rfl rfl rfl rfl ?_))
        refine WD.act rfl rfl rfl rfl (by kernel_rfl) (OpW.storeB (i := 3) tabOk rfl rfl rfl rfl H12 rfl (v := .slice ua (s.out ++ [(o1, o2, o3)]).length uc) (by intro u hu; simp [cellsL] at hu; subst hu; rfl) rfl (by rw [cellsT_len hvl hdl]; simp [cellsL]) ?_)
        intro w13 H13
        have e3 : spliceL (cellsT (.slice ta (askStep o1 o3 (modeF (o1, o2, o3)) s.locks).1.length tc) vs s.dead (.slice oa s.out.length oc)) 25 (cellsL (.slice ua (s.out ++ [(o1, o2, o3)]).length uc)) = cellsT (.slice ta (askStep o1 o3 (modeF (o1, o2, o3)) s.locks).1.length tc) vs s.dead (.slice ua (s.out ++ [(o1, o2, o3)]).length uc) := (spliceOne (by rw [cellsT_len hvl hdl]; omega)).trans (cellsT_os hvl hdl)
        rw [e3] at H13
        have H14 := (H13.bring [0, 4, 5, 1, 2, 3] rfl)
        clear H13 H12 H11 H10 H9 hsh e1 e2 e3 hA mk hT1
        (repeat (first | refine WD.run tabOk rfl rfl ?_ | refine WD.nil ?_))

        (repeat (first | refine WO.run tabOk rfl rfl ?_ | refine WO.nil ?_ | refine WO.skip rfl rfl rfl ?_ | refine WO.pu tabOk rfl rfl rfl rfl ?_ | refine W.seq ?_ | refine W.region ?_ | refine W.block ?_ | refine W.skip ?_ | refine W.exit ?_))
        exact W.ret (ret0 Try.results34 ⟨_, rfl, rfl, (s.lock (askStep o1 o3 (modeF (o1, o2, o3)) s.locks).1).tell (o1, o2, o3), _, _, vs, .one (.ok hd hnil hk hok'), ((H14.to (i := 4) rfl).drop.to (i := 4) rfl).drop⟩)
      · have hok' : (askStep o1 o3 (modeF (o1, o2, o3)) s.locks).2 = false := by rw [← hokv]; exact hok
        have hst0 : Step (s, .take (o1, o2, o3) :: K) ((s.lock (askStep o1 o3 (modeF (o1, o2, o3)) s.locks).1).setL o1 [(o1, o2, o3)], .free :: K) := .wait hd hnil hk hok'
        obtain ⟨hI1, hb1⟩ := hst0.inv hI
        simp only [takes, List.length_cons] at hb1
        have H9 := H8.drew
        have hA := H9.ha (L := [blk b3 44 [.int .i64 o1, .int .i64 o2, .int .i64 o3], blk bt 97 (cellsT (.slice ta (askStep o1 o3 (modeF (o1, o2, o3)) s.locks).1.length tc) vs s.dead (.slice oa s.out.length oc))]) (by simp)
        (repeat (first | refine WO.run tabOk rfl rfl ?_ | refine WO.nil ?_ | refine WO.skip rfl rfl rfl ?_ | refine WO.pu tabOk rfl rfl rfl rfl ?_ | refine W.seq ?_ | refine W.region ?_ | refine W.block ?_ | refine W.skip ?_ | refine W.exit ?_))
        refine W.regionD [2, 3] (HA [blk b3 44 [.int .i64 o1, .int .i64 o2, .int .i64 o3], blk bt 97 (cellsT (.slice ta (askStep o1 o3 (modeF (o1, o2, o3)) s.locks).1.length tc) vs s.dead (.slice oa s.out.length oc))]) [0, 1, 2, 3, 5, 6, 4, 7, 8] rfl (by kernel_rfl) (fun _ _ _ h => h) ?_
        (repeat (first | refine WD.run tabOk rfl rfl ?_ | refine WD.hv rfl rfl rfl rfl rfl hA (HeldV.load1 tabOk rfl rfl rfl rfl (by (repeat (first | exact .head _ | refine .tail _ ?_))) rfl) ?_ | refine WD.hv rfl rfl rfl rfl rfl hA (HeldV.loadA tabOk rfl rfl rfl rfl (by (repeat (first | exact .head _ | refine .tail _ ?_))) rfl rfl) ?_ | refine WD.pu tabOk rfl rfl rfl rfl rfl rfl ?_))
        refine WD.oneS rfl rfl rfl rfl rfl (OpW.buildSlice tabOk rfl rfl rfl rfl zero44 rfl rfl (l := [.int .i64 o1, .int .i64 o2, .int .i64 o3]) rfl H9 ?_)
        intro b9 w10 H10
        refine ⟨H10.ha (by simp), ?_⟩
        (repeat (first | refine WD.run tabOk rfl rfl ?_ | refine WD.hv rfl rfl rfl rfl rfl hA (HeldV.load1 tabOk rfl rfl rfl rfl (by (repeat (first | exact .head _ | refine .tail _ ?_))) rfl) ?_ | refine WD.hv rfl rfl rfl rfl rfl hA (HeldV.loadA tabOk rfl rfl rfl rfl (by (repeat (first | exact .head _ | refine .tail _ ?_))) rfl rfl) ?_ | refine WD.pu tabOk rfl rfl rfl rfl rfl rfl ?_))
        refine WD.pv rfl rfl rfl rfl rfl (PureV.idxAN tabOk rfl rfl rfl rfl rfl rfl hu.1 hu.2) ?_
        refine WD.act rfl rfl rfl rfl (by kernel_rfl) (OpW.storeB (i := 2) tabOk rfl rfl rfl rfl H10 rfl (v := .slice (some ⟨b9, 0, none⟩) 1 1) (by intro u hu; simp [cellsL] at hu; subst hu; rfl) rfl (by rw [cellsT_len hvl hdl]; simp [cellsL]; omega) ?_)
        intro w11 H11
        have e3 : spliceL (cellsT (.slice ta (askStep o1 o3 (modeF (o1, o2, o3)) s.locks).1.length tc) vs s.dead (.slice oa s.out.length oc)) (0 + 1 + o1.toNat * 1) (cellsL (.slice (some ⟨b9, 0, none⟩) 1 1)) = cellsT (.slice ta (askStep o1 o3 (modeF (o1, o2, o3)) s.locks).1.length tc) (vs.set o1.toNat (.slice (some ⟨b9, 0, none⟩) 1 1)) s.dead (.slice oa s.out.length oc) := (spliceOne (by rw [cellsT_len hvl hdl]; omega)).trans (cellsT_ls hvl hun)
        have H11 : St c w11 (blk bt 97 (spliceL (cellsT (.slice ta (askStep o1 o3 (modeF (o1, o2, o3)) s.locks).1.length tc) vs s.dead (.slice oa s.out.length oc)) (0 + 1 + o1.toNat * 1) (cellsL (.slice (some ⟨b9, 0, none⟩) 1 1))) :: blk b9 44 ([(o1, o2, o3)].flatMap encA) :: _) Ro := H11
        rw [e3] at H11
        have H12 := ((((((H11.to (i := 4) rfl).nest_out hlg hvg).drop).bring [3, 0, 1, 2, 5, 6, 4] rfl).blk_row (l := [(o1, o2, o3)]) (enc := encA) (sz := 3) (h1 := encA_one) (hl := fun _ => rfl) (by simp)).nest_in (i := o1.toNat) (by rw [hI.lateL]; exact hun) (by omega)).bring [1, 2, 0, 3, 4] rfl
        (repeat (first | refine WD.run tabOk rfl rfl ?_ | refine WD.nil ?_))
        (repeat (first | refine WO.run tabOk rfl rfl ?_ | refine WO.nil ?_ | refine WO.skip rfl rfl rfl ?_ | refine WO.pu tabOk rfl rfl rfl rfl ?_ | refine W.seq ?_ | refine W.region ?_ | refine W.block ?_ | refine W.skip ?_ | refine W.exit ?_))
        refine WO.one rfl rfl rfl (OpW.call rfl Try.call54 rfl (Calls.ret (hF c w11 _ Ro bt ((s.lock (askStep o1 o3 (modeF (o1, o2, o3)) s.locks).1).setL o1 [(o1, o2, o3)]) K _ _ _ hI1 (by omega) H12) ?_))
        rintro _ w13 ⟨rfl, s2, lv2, ov2, vs2, hst2, H13⟩
        (repeat (first | refine WO.run tabOk rfl rfl ?_ | refine WO.nil ?_ | refine WO.skip rfl rfl rfl ?_ | refine WO.pu tabOk rfl rfl rfl rfl ?_ | refine W.seq ?_ | refine W.region ?_ | refine W.block ?_ | refine W.skip ?_ | refine W.exit ?_))
        exact ret0n Try.results34 ⟨_, rfl, rfl, s2, _, _, _, .head hst0 hst2, (H13.to (i := 4) rfl).drop⟩

theorem two_all : ∀ n, TakeOk n ∧ DropsOk n
  | 0 => ⟨fun c w Own Ro bt s o K lv ov vs _ h => by omega, drops_of wake0⟩
  | n + 1 => ⟨take_of (two_all n).2 (free_of (two_all n).2), drops_of (wake_of (two_all n).1)⟩
theorem take_ok (c : Ctx) (w : World) (Own Ro : List Asn) (bt : Nat) (s : TwoS) (o : Act) (K : List Task) (lv ov : Value) (vs : List Value) (hI : Inv s (.take o :: K)) (H : St c w (tabP bt s lv ov vs Own) Ro) :
    Calls Try.prog 34 #[.pointer (some ⟨bt, 0, none⟩), .agg (encA o).toArray] w (Ret fun v w' => v = .tuple #[] ∧ ∃ s' lv' ov' vs', Steps (s, .take o :: K) (s', K) ∧ St c w' (tabP bt s' lv' ov' vs' Own) Ro) :=
  (two_all (s.bud + 1)).1 c w Own Ro bt s o K lv ov vs hI (Nat.le_refl _) H

def inF (o : Act) : Prop := (0 ≤ o.1 ∧ o.1 < 12) ∧ 0 ≤ o.2.2 ∧ o.2.2 < 20
def kindF (o : Act) : Prop := o.2.1 = 1 ∨ o.2.1 = 2 ∨ ((o.2.1 = 3 ∨ o.2.1 = 4) ∧ o.2.2 = 0)
instance (o : Act) : Decidable (inF o) := by unfold inF; infer_instance
instance (o : Act) : Decidable (kindF o) := by unfold kindF; infer_instance
def chkL (ov : List Int) : List Act → Int
  | [] => 0
  | o :: l => if ¬ inF o then 1 else if ¬ kindF o then 4 else if o.1 ∈ ov then 4 else chkL (if 3 ≤ o.2.1 then o.1 :: ov else ov) l
def chkF (l : List Act) : Int := if 200 < l.length then 2 else chkL [] l
theorem chkL_ok : ∀ {l : List Act} {ov : List Int}, chkL ov l = 0 → (∀ o ∈ l, actOk o ∧ o.1 ∉ ov) ∧ l.Pairwise fun a b => a.1 = b.1 → a.2.1 < 3
  | [], ov, _ => ⟨(fun o h => nomatch h), .nil⟩
  | o :: l, ov, h => by
    rw [chkL] at h
    split at h
    · omega
    · rename_i h1
      split at h
      · omega
      · rename_i h2
        split at h
        · omega
        · rename_i h3
          obtain ⟨k1, k2⟩ := chkL_ok h
          have h1 : inF o := Decidable.not_not.1 h1
          have h2 : kindF o := Decidable.not_not.1 h2
          refine ⟨fun a ha => ?_, List.pairwise_cons.2 ⟨fun b hb e => ?_, k2⟩⟩
          · rcases List.mem_cons.1 ha with rfl | ha
            · exact ⟨⟨h1.1, by unfold kindF at h2; omega, h1.2⟩, h3⟩
            · refine ⟨(k1 a ha).1, fun hm => (k1 a ha).2 ?_⟩
              split
              · exact List.mem_cons_of_mem _ hm
              · exact hm
          · apply Classical.byContradiction
            intro hk
            have := (k1 b hb).2
            rw [if_pos (by omega)] at this
            exact this (by rw [e]; exact .head _)

def overs (ov : List Int) : List Value := (List.range 12).map fun u : Nat => .bool (decide ((u : Int) ∈ ov))
theorem overs_len (ov : List Int) : (overs ov).length = 12 := by simp [overs]
theorem overs_at (ov : List Int) {u : Int} (h0 : 0 ≤ u) (h1 : u < 12) : (overs ov)[0 + u.toNat * 1]? = some (.bool (decide (u ∈ ov))) := by
  have e : ((u.toNat : Nat) : Int) = u := by omega
  rw [Nat.zero_add, Nat.mul_one, overs, List.getElem?_map, List.getElem?_range (by omega)]
  simp [e]
theorem overs_set (ov : List Int) {u : Int} (h0 : 0 ≤ u) (h1 : u < 12) : (overs ov).set u.toNat (.bool true) = overs (u :: ov) := by
  apply List.ext_getElem?
  intro k
  rw [List.getElem?_set, overs_len]
  by_cases hk : k < 12
  · simp only [overs, List.getElem?_map, List.getElem?_range hk, Option.map_some]
    by_cases e : u.toNat = k
    · rw [if_pos e, if_pos (by omega)]
      have : (k : Int) = u := by omega
      simp [this]
    · rw [if_neg e]
      have : (k : Int) ≠ u := by omega
      simp [this]
  · rw [if_neg (by omega), List.getElem?_eq_none (by rw [overs_len]; omega), List.getElem?_eq_none (by rw [overs_len]; omega)]
theorem overs_same (ov : List Int) {u : Int} (h0 : 0 ≤ u) (h1 : u < 12) (hn : u ∉ ov) : (overs ov).set u.toNat (.bool false) = overs ov := by
  have := overs_at ov h0 h1
  rw [Nat.zero_add, Nat.mul_one] at this
  apply List.ext_getElem?
  intro k
  rw [List.getElem?_set, overs_len]
  by_cases e : u.toNat = k
  · subst e; rw [if_pos rfl, if_pos (by omega), this]; simp [hn]
  · rw [if_neg e]
theorem overs_nil : overs [] = List.replicate 12 (.bool false) := rfl

theorem rcheck_ok (w : World) (a : Option Addr) (c : Nat) (l : List Act) (hH : Holds w (rd actR a c l)) :
    Calls Try.prog 16 #[.slice a l.length c] w (Ret fun v w' => Pure w w' ∧ v = .int .i64 (chkF l)) := by
  refine calls_W (args := [_]) Try.func16 rfl Try.ntmps16 rfl ?_
  have H := St.start [] (w := w) (by simp)
  (repeat (first | refine WO.run tabOk rfl rfl ?_ | refine WO.nil ?_ | refine WO.skip rfl rfl rfl ?_ | refine WO.pu tabOk rfl rfl rfl rfl ?_ | refine W.seq ?_ | refine W.region ?_ | refine W.block ?_ | refine W.skip ?_ | refine W.exit ?_))
  refine W.cond rfl (fun h => ?_) (fun h => ?_)
  · (repeat (first | refine WO.run tabOk rfl rfl ?_ | refine WO.nil ?_ | refine WO.skip rfl rfl rfl ?_ | refine WO.pu tabOk rfl rfl rfl rfl ?_ | refine W.seq ?_ | refine W.region ?_ | refine W.block ?_ | refine W.skip ?_ | refine W.exit ?_))
    exact W.ret (ret1 Try.results16 rfl ⟨_, rfl, Pure.refl w, by rw [chkF, if_pos (by simp at h; omega)]⟩)
  have hlen : l.length ≤ 200 := by simp at h; omega
  have hF : chkF l = chkL [] l := by rw [chkF, if_neg (by omega)]
  rw [hF]
  (repeat (first | refine WO.run tabOk rfl rfl ?_ | refine WO.nil ?_ | refine WO.skip rfl rfl rfl ?_ | refine WO.pu tabOk rfl rfl rfl rfl ?_ | refine W.seq ?_ | refine W.region ?_ | refine W.block ?_ | refine W.skip ?_ | refine W.exit ?_))
  refine WO.one rfl rfl rfl (OpW.alloc rfl zero95 rfl H ?_); intro b3 w1 H1
  have H1 : St (at0 w) w1 [blk b3 95 (overs [])] [] := H1
  (repeat (first | refine WO.run tabOk rfl rfl ?_ | refine WO.nil ?_ | refine WO.skip rfl rfl rfl ?_ | refine WO.pu tabOk rfl rfl rfl rfl ?_ | refine W.seq ?_ | refine W.region ?_ | refine W.block ?_ | refine W.skip ?_ | refine W.exit ?_))
  refine W.loopS [3, 9, 10, 11] (fun s : Nat × List Int => [(3, .pointer (some ⟨b3, 0, none⟩)), (9, .slice a l.length c), (10, .int .i64 (l.length : Int)), (11, .int .i64 (s.1 : Int))])
    (fun s w' => s.1 ≤ l.length ∧ chkL s.2 (l.drop s.1) = chkL [] l ∧ St (at0 w) w' [blk b3 95 (overs s.2)] []) (fun s => l.length - s.1) (0, []) rfl ⟨Nat.zero_le _, rfl, H1⟩ ?_
  clear H H1
  rintro ⟨i, ov⟩ w2 ⟨hi, done, H⟩
  simp only at hi done H
  (repeat (first | refine WO.run tabOk rfl rfl ?_ | refine WO.nil ?_ | refine WO.skip rfl rfl rfl ?_ | refine WO.pu tabOk rfl rfl rfl rfl ?_ | refine W.seq ?_ | refine W.region ?_ | refine W.block ?_ | refine W.skip ?_ | refine W.exit ?_))
  refine W.cond rfl (fun hlt => ?_) (fun hge => ?_)
  · have hlt : i < l.length := by simpa using hlt
    obtain ⟨b, o, rfl⟩ := hH.addr (by omega)
    have hx := List.getElem?_eq_getElem hlt
    have hdr := List.drop_eq_getElem_cons hlt
    generalize l[i] = x at hx hdr
    rw [hdr] at done
    obtain ⟨o1, o2, o3⟩ := x
    (repeat (first | refine WO.run tabOk rfl rfl ?_ | refine WO.nil ?_ | refine WO.skip rfl rfl rfl ?_ | refine WO.pu tabOk rfl rfl rfl rfl ?_ | refine W.seq ?_ | refine W.region ?_ | refine W.block ?_ | refine W.skip ?_ | refine W.exit ?_))
    refine WO.pv rfl rfl rfl (PureV.idxN tabOk rfl rfl rfl rfl rfl rfl (by omega)) ?_
    refine WO.one rfl rfl rfl (OpW.elemA (i := i) tabOk rfl rfl rfl rfl (hH.pure H.pure) hx rfl rfl ?_)
    refine WO.one rfl rfl rfl (OpW.alloc rfl zero44 rfl H ?_); intro b5 w3 H3
    refine WO.act rfl rfl (OpW.storeA (i := 0) tabOk rfl rfl rfl rfl H3 rfl rfl rfl rfl rfl ?_); intro w4 H4
    clear H H3
    have H := H4
    clear H4
    (repeat (first | refine WO.run tabOk rfl rfl ?_ | refine WO.nil ?_ | refine WO.skip rfl rfl rfl ?_ | refine WO.pu tabOk rfl rfl rfl rfl ?_ | refine W.seq ?_ | refine W.region ?_ | refine W.block ?_ | refine W.skip ?_ | refine W.exit ?_ | refine WO.one rfl rfl rfl (OpW.load1 tabOk rfl rfl rfl rfl H (by (repeat (first | exact .head _ | refine .tail _ ?_))) rfl ?_)))
    refine WO.caseG rfl rfl (fun g1 => ?_) (fun g1 => ?_)
    · (repeat (first | refine WO.run tabOk rfl rfl ?_ | refine WO.nil ?_ | refine WO.skip rfl rfl rfl ?_ | refine WO.pu tabOk rfl rfl rfl rfl ?_ | refine W.seq ?_ | refine W.region ?_ | refine W.block ?_ | refine W.skip ?_ | refine W.exit ?_))
      refine W.cond_t rfl ?_
      (repeat (first | refine WO.run tabOk rfl rfl ?_ | refine WO.nil ?_ | refine WO.skip rfl rfl rfl ?_ | refine WO.pu tabOk rfl rfl rfl rfl ?_ | refine W.seq ?_ | refine W.region ?_ | refine W.block ?_ | refine W.skip ?_ | refine W.exit ?_))
      simp at g1
      exact W.ret (ret1 Try.results16 rfl ⟨_, rfl, H.pure, by rw [← done, chkL, if_pos (by unfold inF; simp only; omega)]⟩)
    (repeat (first | refine WO.run tabOk rfl rfl ?_ | refine WO.nil ?_ | refine WO.skip rfl rfl rfl ?_ | refine WO.pu tabOk rfl rfl rfl rfl ?_ | refine W.seq ?_ | refine W.region ?_ | refine W.block ?_ | refine W.skip ?_ | refine W.exit ?_ | refine WO.one rfl rfl rfl (OpW.load1 tabOk rfl rfl rfl rfl H (by (repeat (first | exact .head _ | refine .tail _ ?_))) rfl ?_)))
    simp at g1
    refine WO.caseG rfl rfl (fun g2 => ?_) (fun g2 => ?_)
    · (repeat (first | refine WO.run tabOk rfl rfl ?_ | refine WO.nil ?_ | refine WO.skip rfl rfl rfl ?_ | refine WO.pu tabOk rfl rfl rfl rfl ?_ | refine W.seq ?_ | refine W.region ?_ | refine W.block ?_ | refine W.skip ?_ | refine W.exit ?_))
      refine W.cond_t rfl ?_
      (repeat (first | refine WO.run tabOk rfl rfl ?_ | refine WO.nil ?_ | refine WO.skip rfl rfl rfl ?_ | refine WO.pu tabOk rfl rfl rfl rfl ?_ | refine W.seq ?_ | refine W.region ?_ | refine W.block ?_ | refine W.skip ?_ | refine W.exit ?_))
      simp [pickV] at g2
      exact W.ret (ret1 Try.results16 rfl ⟨_, rfl, H.pure, by rw [← done, chkL, if_pos (by unfold inF; simp only; omega)]⟩)
    (repeat (first | refine WO.run tabOk rfl rfl ?_ | refine WO.nil ?_ | refine WO.skip rfl rfl rfl ?_ | refine WO.pu tabOk rfl rfl rfl rfl ?_ | refine W.seq ?_ | refine W.region ?_ | refine W.block ?_ | refine W.skip ?_ | refine W.exit ?_ | refine WO.one rfl rfl rfl (OpW.load1 tabOk rfl rfl rfl rfl H (by (repeat (first | exact .head _ | refine .tail _ ?_))) rfl ?_)))
    simp [pickV] at g2
    refine WO.caseG rfl rfl (fun g3 => ?_) (fun g3 => ?_)
    · (repeat (first | refine WO.run tabOk rfl rfl ?_ | refine WO.nil ?_ | refine WO.skip rfl rfl rfl ?_ | refine WO.pu tabOk rfl rfl rfl rfl ?_ | refine W.seq ?_ | refine W.region ?_ | refine W.block ?_ | refine W.skip ?_ | refine W.exit ?_))
      refine W.cond_t rfl ?_
      (repeat (first | refine WO.run tabOk rfl rfl ?_ | refine WO.nil ?_ | refine WO.skip rfl rfl rfl ?_ | refine WO.pu tabOk rfl rfl rfl rfl ?_ | refine W.seq ?_ | refine W.region ?_ | refine W.block ?_ | refine W.skip ?_ | refine W.exit ?_))
      simp [pickV] at g3
      exact W.ret (ret1 Try.results16 rfl ⟨_, rfl, H.pure, by rw [← done, chkL, if_pos (by unfold inF; simp only; omega)]⟩)
    (repeat (first | refine WO.run tabOk rfl rfl ?_ | refine WO.nil ?_ | refine WO.skip rfl rfl rfl ?_ | refine WO.pu tabOk rfl rfl rfl rfl ?_ | refine W.seq ?_ | refine W.region ?_ | refine W.block ?_ | refine W.skip ?_ | refine W.exit ?_ | refine WO.one rfl rfl rfl (OpW.load1 tabOk rfl rfl rfl rfl H (by (repeat (first | exact .head _ | refine .tail _ ?_))) rfl ?_)))
    simp [pickV] at g3
    refine W.cond rfl (fun g4 => ?_) (fun g4 => ?_)
    · (repeat (first | refine WO.run tabOk rfl rfl ?_ | refine WO.nil ?_ | refine WO.skip rfl rfl rfl ?_ | refine WO.pu tabOk rfl rfl rfl rfl ?_ | refine W.seq ?_ | refine W.region ?_ | refine W.block ?_ | refine W.skip ?_ | refine W.exit ?_))
      simp [pickV] at g4
      exact W.ret (ret1 Try.results16 rfl ⟨_, rfl, H.pure, by rw [← done, chkL, if_pos (by unfold inF; simp only; omega)]⟩)
    simp [pickV] at g4
    have hu : 0 ≤ o1 ∧ o1 < 12 := by omega
    have hin : inF (o1, o2, o3) := ⟨hu, by simp only; omega⟩
    have bad : ¬ kindF (o1, o2, o3) → (4 : Int) = chkL [] l := fun h => by rw [← done, chkL, if_neg (fun h => h hin), if_pos h]
    by_cases k1 : o2 = 1
    · subst k1
      (repeat (first | refine WO.run tabOk rfl rfl ?_ | refine WO.nil ?_ | refine WO.skip rfl rfl rfl ?_ | refine WO.pu tabOk rfl rfl rfl rfl ?_ | refine W.seq ?_ | refine W.region ?_ | refine W.block ?_ | refine W.skip ?_ | refine W.exit ?_ | refine WO.one rfl rfl rfl (OpW.load1 tabOk rfl rfl rfl rfl H (by (repeat (first | exact .head _ | refine .tail _ ?_))) rfl ?_)))
      refine W.cond_t rfl ?_
      (repeat (first | refine WO.run tabOk rfl rfl ?_ | refine WO.nil ?_ | refine WO.skip rfl rfl rfl ?_ | refine WO.pu tabOk rfl rfl rfl rfl ?_ | refine W.seq ?_ | refine W.region ?_ | refine W.block ?_ | refine W.skip ?_ | refine W.exit ?_ | refine WO.one rfl rfl rfl (OpW.load1 tabOk rfl rfl rfl rfl H (by (repeat (first | exact .head _ | refine .tail _ ?_))) rfl ?_)))
      refine W.cond_t rfl ?_
      (repeat (first | refine WO.run tabOk rfl rfl ?_ | refine WO.nil ?_ | refine WO.skip rfl rfl rfl ?_ | refine WO.pu tabOk rfl rfl rfl rfl ?_ | refine W.seq ?_ | refine W.region ?_ | refine W.block ?_ | refine W.skip ?_ | refine W.exit ?_ | refine WO.one rfl rfl rfl (OpW.load1 tabOk rfl rfl rfl rfl H (by (repeat (first | exact .head _ | refine .tail _ ?_))) rfl ?_)))
      refine WO.pv rfl rfl rfl (PureV.idxAN tabOk rfl rfl rfl rfl rfl rfl hu.1 hu.2) ?_
      refine WO.one rfl rfl rfl (OpW.loadB tabOk rfl rfl rfl rfl H (.tail _ (.head _)) (overs_at ov hu.1 hu.2) ?_)
      (repeat (first | refine WO.run tabOk rfl rfl ?_ | refine WO.nil ?_ | refine WO.skip rfl rfl rfl ?_ | refine WO.pu tabOk rfl rfl rfl rfl ?_ | refine W.seq ?_ | refine W.region ?_ | refine W.block ?_ | refine W.skip ?_ | refine W.exit ?_))
      refine W.cond rfl (fun hov => ?_) (fun hov => ?_)
      · (repeat (first | refine WO.run tabOk rfl rfl ?_ | refine WO.nil ?_ | refine WO.skip rfl rfl rfl ?_ | refine WO.pu tabOk rfl rfl rfl rfl ?_ | refine W.seq ?_ | refine W.region ?_ | refine W.block ?_ | refine W.skip ?_ | refine W.exit ?_))
        have hov : o1 ∈ ov := by simpa using hov
        exact W.ret (ret1 Try.results16 rfl ⟨_, rfl, H.pure, by rw [← done, chkL, if_neg (fun h => h hin), if_neg (fun h => h (.inl rfl)), if_pos hov]⟩)
      have hov : o1 ∉ ov := by simpa using hov
      (repeat (first | refine WO.run tabOk rfl rfl ?_ | refine WO.nil ?_ | refine WO.skip rfl rfl rfl ?_ | refine WO.pu tabOk rfl rfl rfl rfl ?_ | refine W.seq ?_ | refine W.region ?_ | refine W.block ?_ | refine W.skip ?_ | refine W.exit ?_ | refine WO.one rfl rfl rfl (OpW.load1 tabOk rfl rfl rfl rfl H (by (repeat (first | exact .head _ | refine .tail _ ?_))) rfl ?_)))
      refine WO.pv rfl rfl rfl (PureV.idxAN tabOk rfl rfl rfl rfl rfl rfl hu.1 hu.2) ?_
      refine WO.act rfl rfl (OpW.storeB (i := 1) tabOk rfl rfl rfl rfl H rfl (v := .bool false) (by intro u hu; simp [cellsL] at hu; subst hu; rfl) rfl (by rw [overs_len]; simp [cellsL]; omega) ?_)
      intro w9 H9
      have e9 : spliceL (overs ov) (0 + o1.toNat * 1) (cellsL (.bool false)) = overs ov := (spliceOne (by rw [overs_len]; omega)).trans (by rw [Nat.zero_add, Nat.mul_one]; exact overs_same ov hu.1 hu.2 hov)
      rw [e9] at H9
      (repeat (first | refine WO.run tabOk rfl rfl ?_ | refine WO.nil ?_ | refine WO.skip rfl rfl rfl ?_ | refine WO.pu tabOk rfl rfl rfl rfl ?_ | refine W.seq ?_ | refine W.region ?_ | refine W.block ?_ | refine W.skip ?_ | refine W.exit ?_))
      refine WO.pv rfl rfl rfl (PureV.addN (n := i) rfl rfl rfl (by omega)) ?_
      (repeat (first | refine WO.run tabOk rfl rfl ?_ | refine WO.nil ?_ | refine WO.skip rfl rfl rfl ?_ | refine WO.pu tabOk rfl rfl rfl rfl ?_ | refine W.seq ?_ | refine W.region ?_ | refine W.block ?_ | refine W.skip ?_ | refine W.exit ?_))
      refine ⟨(i + 1, ov), rfl, ⟨by simp only; omega, ?_, H9.bring [0] rfl |>.first⟩, by simp only; omega⟩
      rw [← done, chkL, if_neg (fun h => h hin), if_neg (fun h => h (.inl rfl)), if_neg hov]; rfl

    by_cases k2 : o2 = 2
    · subst k2
      (repeat (first | refine WO.run tabOk rfl rfl ?_ | refine WO.nil ?_ | refine WO.skip rfl rfl rfl ?_ | refine WO.pu tabOk rfl rfl rfl rfl ?_ | refine W.seq ?_ | refine W.region ?_ | refine W.block ?_ | refine W.skip ?_ | refine W.exit ?_ | refine WO.one rfl rfl rfl (OpW.load1 tabOk rfl rfl rfl rfl H (by (repeat (first | exact .head _ | refine .tail _ ?_))) rfl ?_)))
      refine W.cond_f rfl ?_
      (repeat (first | refine WO.run tabOk rfl rfl ?_ | refine WO.nil ?_ | refine WO.skip rfl rfl rfl ?_ | refine WO.pu tabOk rfl rfl rfl rfl ?_ | refine W.seq ?_ | refine W.region ?_ | refine W.block ?_ | refine W.skip ?_ | refine W.exit ?_ | refine WO.one rfl rfl rfl (OpW.load1 tabOk rfl rfl rfl rfl H (by (repeat (first | exact .head _ | refine .tail _ ?_))) rfl ?_)))
      refine W.cond_t rfl ?_
      (repeat (first | refine WO.run tabOk rfl rfl ?_ | refine WO.nil ?_ | refine WO.skip rfl rfl rfl ?_ | refine WO.pu tabOk rfl rfl rfl rfl ?_ | refine W.seq ?_ | refine W.region ?_ | refine W.block ?_ | refine W.skip ?_ | refine W.exit ?_ | refine WO.one rfl rfl rfl (OpW.load1 tabOk rfl rfl rfl rfl H (by (repeat (first | exact .head _ | refine .tail _ ?_))) rfl ?_)))
      refine WO.pv rfl rfl rfl (PureV.idxAN tabOk rfl rfl rfl rfl rfl rfl hu.1 hu.2) ?_
      refine WO.one rfl rfl rfl (OpW.loadB tabOk rfl rfl rfl rfl H (.tail _ (.head _)) (overs_at ov hu.1 hu.2) ?_)
      (repeat (first | refine WO.run tabOk rfl rfl ?_ | refine WO.nil ?_ | refine WO.skip rfl rfl rfl ?_ | refine WO.pu tabOk rfl rfl rfl rfl ?_ | refine W.seq ?_ | refine W.region ?_ | refine W.block ?_ | refine W.skip ?_ | refine W.exit ?_))
      refine W.cond rfl (fun hov => ?_) (fun hov => ?_)
      · (repeat (first | refine WO.run tabOk rfl rfl ?_ | refine WO.nil ?_ | refine WO.skip rfl rfl rfl ?_ | refine WO.pu tabOk rfl rfl rfl rfl ?_ | refine W.seq ?_ | refine W.region ?_ | refine W.block ?_ | refine W.skip ?_ | refine W.exit ?_))
        have hov : o1 ∈ ov := by simpa using hov
        exact W.ret (ret1 Try.results16 rfl ⟨_, rfl, H.pure, by rw [← done, chkL, if_neg (fun h => h hin), if_neg (fun h => h (.inr (.inl rfl))), if_pos hov]⟩)
      have hov : o1 ∉ ov := by simpa using hov
      (repeat (first | refine WO.run tabOk rfl rfl ?_ | refine WO.nil ?_ | refine WO.skip rfl rfl rfl ?_ | refine WO.pu tabOk rfl rfl rfl rfl ?_ | refine W.seq ?_ | refine W.region ?_ | refine W.block ?_ | refine W.skip ?_ | refine W.exit ?_ | refine WO.one rfl rfl rfl (OpW.load1 tabOk rfl rfl rfl rfl H (by (repeat (first | exact .head _ | refine .tail _ ?_))) rfl ?_)))
      refine WO.pv rfl rfl rfl (PureV.idxAN tabOk rfl rfl rfl rfl rfl rfl hu.1 hu.2) ?_
      refine WO.act rfl rfl (OpW.storeB (i := 1) tabOk rfl rfl rfl rfl H rfl (v := .bool false) (by intro u hu; simp [cellsL] at hu; subst hu; rfl) rfl (by rw [overs_len]; simp [cellsL]; omega) ?_)
      intro w9 H9
      have e9 : spliceL (overs ov) (0 + o1.toNat * 1) (cellsL (.bool false)) = overs ov := (spliceOne (by rw [overs_len]; omega)).trans (by rw [Nat.zero_add, Nat.mul_one]; exact overs_same ov hu.1 hu.2 hov)
      rw [e9] at H9
      (repeat (first | refine WO.run tabOk rfl rfl ?_ | refine WO.nil ?_ | refine WO.skip rfl rfl rfl ?_ | refine WO.pu tabOk rfl rfl rfl rfl ?_ | refine W.seq ?_ | refine W.region ?_ | refine W.block ?_ | refine W.skip ?_ | refine W.exit ?_))
      refine WO.pv rfl rfl rfl (PureV.addN (n := i) rfl rfl rfl (by omega)) ?_
      (repeat (first | refine WO.run tabOk rfl rfl ?_ | refine WO.nil ?_ | refine WO.skip rfl rfl rfl ?_ | refine WO.pu tabOk rfl rfl rfl rfl ?_ | refine W.seq ?_ | refine W.region ?_ | refine W.block ?_ | refine W.skip ?_ | refine W.exit ?_))
      refine ⟨(i + 1, ov), rfl, ⟨by simp only; omega, ?_, H9.bring [0] rfl |>.first⟩, by simp only; omega⟩
      rw [← done, chkL, if_neg (fun h => h hin), if_neg (fun h => h (.inr (.inl rfl))), if_neg hov]; rfl

    by_cases k3 : o2 = 3
    · subst k3
      (repeat (first | refine WO.run tabOk rfl rfl ?_ | refine WO.nil ?_ | refine WO.skip rfl rfl rfl ?_ | refine WO.pu tabOk rfl rfl rfl rfl ?_ | refine W.seq ?_ | refine W.region ?_ | refine W.block ?_ | refine W.skip ?_ | refine W.exit ?_ | refine WO.one rfl rfl rfl (OpW.load1 tabOk rfl rfl rfl rfl H (by (repeat (first | exact .head _ | refine .tail _ ?_))) rfl ?_)))
      refine W.cond_f rfl ?_
      (repeat (first | refine WO.run tabOk rfl rfl ?_ | refine WO.nil ?_ | refine WO.skip rfl rfl rfl ?_ | refine WO.pu tabOk rfl rfl rfl rfl ?_ | refine W.seq ?_ | refine W.region ?_ | refine W.block ?_ | refine W.skip ?_ | refine W.exit ?_ | refine WO.one rfl rfl rfl (OpW.load1 tabOk rfl rfl rfl rfl H (by (repeat (first | exact .head _ | refine .tail _ ?_))) rfl ?_)))
      refine W.cond_f rfl ?_
      (repeat (first | refine WO.run tabOk rfl rfl ?_ | refine WO.nil ?_ | refine WO.skip rfl rfl rfl ?_ | refine WO.pu tabOk rfl rfl rfl rfl ?_ | refine W.seq ?_ | refine W.region ?_ | refine W.block ?_ | refine W.skip ?_ | refine W.exit ?_ | refine WO.one rfl rfl rfl (OpW.load1 tabOk rfl rfl rfl rfl H (by (repeat (first | exact .head _ | refine .tail _ ?_))) rfl ?_)))
      refine W.cond_t rfl ?_
      (repeat (first | refine WO.run tabOk rfl rfl ?_ | refine WO.nil ?_ | refine WO.skip rfl rfl rfl ?_ | refine WO.pu tabOk rfl rfl rfl rfl ?_ | refine W.seq ?_ | refine W.region ?_ | refine W.block ?_ | refine W.skip ?_ | refine W.exit ?_ | refine WO.one rfl rfl rfl (OpW.load1 tabOk rfl rfl rfl rfl H (by (repeat (first | exact .head _ | refine .tail _ ?_))) rfl ?_)))
      refine W.cond_t rfl ?_
      (repeat (first | refine WO.run tabOk rfl rfl ?_ | refine WO.nil ?_ | refine WO.skip rfl rfl rfl ?_ | refine WO.pu tabOk rfl rfl rfl rfl ?_ | refine W.seq ?_ | refine W.region ?_ | refine W.block ?_ | refine W.skip ?_ | refine W.exit ?_ | refine WO.one rfl rfl rfl (OpW.load1 tabOk rfl rfl rfl rfl H (by (repeat (first | exact .head _ | refine .tail _ ?_))) rfl ?_)))
      refine W.cond rfl (fun h0 => ?_) (fun h0 => ?_)
      · (repeat (first | refine WO.run tabOk rfl rfl ?_ | refine WO.nil ?_ | refine WO.skip rfl rfl rfl ?_ | refine WO.pu tabOk rfl rfl rfl rfl ?_ | refine W.seq ?_ | refine W.region ?_ | refine W.block ?_ | refine W.skip ?_ | refine W.exit ?_))
        have h0 : o3 ≠ 0 := by simpa using h0
        exact W.ret (ret1 Try.results16 rfl ⟨_, rfl, H.pure, by rw [bad (by unfold kindF; simp only; omega)]⟩)
      have h0 : o3 = 0 := by simpa using h0
      (repeat (first | refine WO.run tabOk rfl rfl ?_ | refine WO.nil ?_ | refine WO.skip rfl rfl rfl ?_ | refine WO.pu tabOk rfl rfl rfl rfl ?_ | refine W.seq ?_ | refine W.region ?_ | refine W.block ?_ | refine W.skip ?_ | refine W.exit ?_ | refine WO.one rfl rfl rfl (OpW.load1 tabOk rfl rfl rfl rfl H (by (repeat (first | exact .head _ | refine .tail _ ?_))) rfl ?_)))
      refine WO.pv rfl rfl rfl (PureV.idxAN tabOk rfl rfl rfl rfl rfl rfl hu.1 hu.2) ?_
      refine WO.one rfl rfl rfl (OpW.loadB tabOk rfl rfl rfl rfl H (.tail _ (.head _)) (overs_at ov hu.1 hu.2) ?_)
      (repeat (first | refine WO.run tabOk rfl rfl ?_ | refine WO.nil ?_ | refine WO.skip rfl rfl rfl ?_ | refine WO.pu tabOk rfl rfl rfl rfl ?_ | refine W.seq ?_ | refine W.region ?_ | refine W.block ?_ | refine W.skip ?_ | refine W.exit ?_))
      refine W.cond rfl (fun hov => ?_) (fun hov => ?_)
      · (repeat (first | refine WO.run tabOk rfl rfl ?_ | refine WO.nil ?_ | refine WO.skip rfl rfl rfl ?_ | refine WO.pu tabOk rfl rfl rfl rfl ?_ | refine W.seq ?_ | refine W.region ?_ | refine W.block ?_ | refine W.skip ?_ | refine W.exit ?_))
        have hov : o1 ∈ ov := by simpa using hov
        exact W.ret (ret1 Try.results16 rfl ⟨_, rfl, H.pure, by rw [← done, chkL, if_neg (fun h => h hin), if_neg (fun h => h (.inr (.inr ⟨.inl rfl, h0⟩))), if_pos hov]⟩)
      have hov : o1 ∉ ov := by simpa using hov
      (repeat (first | refine WO.run tabOk rfl rfl ?_ | refine WO.nil ?_ | refine WO.skip rfl rfl rfl ?_ | refine WO.pu tabOk rfl rfl rfl rfl ?_ | refine W.seq ?_ | refine W.region ?_ | refine W.block ?_ | refine W.skip ?_ | refine W.exit ?_ | refine WO.one rfl rfl rfl (OpW.load1 tabOk rfl rfl rfl rfl H (by (repeat (first | exact .head _ | refine .tail _ ?_))) rfl ?_)))
      refine WO.pv rfl rfl rfl (PureV.idxAN tabOk rfl rfl rfl rfl rfl rfl hu.1 hu.2) ?_
      refine WO.act rfl rfl (OpW.storeB (i := 1) tabOk rfl rfl rfl rfl H rfl (v := .bool true) (by intro u hu; simp [cellsL] at hu; subst hu; rfl) rfl (by rw [overs_len]; simp [cellsL]; omega) ?_)
      intro w9 H9
      have e9 : spliceL (overs ov) (0 + o1.toNat * 1) (cellsL (.bool true)) = overs (o1 :: ov) := (spliceOne (by rw [overs_len]; omega)).trans (by rw [Nat.zero_add, Nat.mul_one]; exact overs_set ov hu.1 hu.2)
      rw [e9] at H9
      (repeat (first | refine WO.run tabOk rfl rfl ?_ | refine WO.nil ?_ | refine WO.skip rfl rfl rfl ?_ | refine WO.pu tabOk rfl rfl rfl rfl ?_ | refine W.seq ?_ | refine W.region ?_ | refine W.block ?_ | refine W.skip ?_ | refine W.exit ?_))
      refine WO.pv rfl rfl rfl (PureV.addN (n := i) rfl rfl rfl (by omega)) ?_
      (repeat (first | refine WO.run tabOk rfl rfl ?_ | refine WO.nil ?_ | refine WO.skip rfl rfl rfl ?_ | refine WO.pu tabOk rfl rfl rfl rfl ?_ | refine W.seq ?_ | refine W.region ?_ | refine W.block ?_ | refine W.skip ?_ | refine W.exit ?_))
      refine ⟨(i + 1, (o1 :: ov)), rfl, ⟨by simp only; omega, ?_, H9.bring [0] rfl |>.first⟩, by simp only; omega⟩
      rw [← done, chkL, if_neg (fun h => h hin), if_neg (fun h => h (.inr (.inr ⟨.inl rfl, h0⟩))), if_neg hov]; rfl

    by_cases k4 : o2 = 4
    · subst k4
      (repeat (first | refine WO.run tabOk rfl rfl ?_ | refine WO.nil ?_ | refine WO.skip rfl rfl rfl ?_ | refine WO.pu tabOk rfl rfl rfl rfl ?_ | refine W.seq ?_ | refine W.region ?_ | refine W.block ?_ | refine W.skip ?_ | refine W.exit ?_ | refine WO.one rfl rfl rfl (OpW.load1 tabOk rfl rfl rfl rfl H (by (repeat (first | exact .head _ | refine .tail _ ?_))) rfl ?_)))
      refine W.cond_f rfl ?_
      (repeat (first | refine WO.run tabOk rfl rfl ?_ | refine WO.nil ?_ | refine WO.skip rfl rfl rfl ?_ | refine WO.pu tabOk rfl rfl rfl rfl ?_ | refine W.seq ?_ | refine W.region ?_ | refine W.block ?_ | refine W.skip ?_ | refine W.exit ?_ | refine WO.one rfl rfl rfl (OpW.load1 tabOk rfl rfl rfl rfl H (by (repeat (first | exact .head _ | refine .tail _ ?_))) rfl ?_)))
      refine W.cond_f rfl ?_
      (repeat (first | refine WO.run tabOk rfl rfl ?_ | refine WO.nil ?_ | refine WO.skip rfl rfl rfl ?_ | refine WO.pu tabOk rfl rfl rfl rfl ?_ | refine W.seq ?_ | refine W.region ?_ | refine W.block ?_ | refine W.skip ?_ | refine W.exit ?_ | refine WO.one rfl rfl rfl (OpW.load1 tabOk rfl rfl rfl rfl H (by (repeat (first | exact .head _ | refine .tail _ ?_))) rfl ?_)))
      refine W.cond_f rfl ?_
      (repeat (first | refine WO.run tabOk rfl rfl ?_ | refine WO.nil ?_ | refine WO.skip rfl rfl rfl ?_ | refine WO.pu tabOk rfl rfl rfl rfl ?_ | refine W.seq ?_ | refine W.region ?_ | refine W.block ?_ | refine W.skip ?_ | refine W.exit ?_ | refine WO.one rfl rfl rfl (OpW.load1 tabOk rfl rfl rfl rfl H (by (repeat (first | exact .head _ | refine .tail _ ?_))) rfl ?_)))
      refine W.cond_t rfl ?_
      (repeat (first | refine WO.run tabOk rfl rfl ?_ | refine WO.nil ?_ | refine WO.skip rfl rfl rfl ?_ | refine WO.pu tabOk rfl rfl rfl rfl ?_ | refine W.seq ?_ | refine W.region ?_ | refine W.block ?_ | refine W.skip ?_ | refine W.exit ?_ | refine WO.one rfl rfl rfl (OpW.load1 tabOk rfl rfl rfl rfl H (by (repeat (first | exact .head _ | refine .tail _ ?_))) rfl ?_)))
      refine W.cond rfl (fun h0 => ?_) (fun h0 => ?_)
      · (repeat (first | refine WO.run tabOk rfl rfl ?_ | refine WO.nil ?_ | refine WO.skip rfl rfl rfl ?_ | refine WO.pu tabOk rfl rfl rfl rfl ?_ | refine W.seq ?_ | refine W.region ?_ | refine W.block ?_ | refine W.skip ?_ | refine W.exit ?_))
        have h0 : o3 ≠ 0 := by simpa using h0
        exact W.ret (ret1 Try.results16 rfl ⟨_, rfl, H.pure, by rw [bad (by unfold kindF; simp only; omega)]⟩)
      have h0 : o3 = 0 := by simpa using h0
      (repeat (first | refine WO.run tabOk rfl rfl ?_ | refine WO.nil ?_ | refine WO.skip rfl rfl rfl ?_ | refine WO.pu tabOk rfl rfl rfl rfl ?_ | refine W.seq ?_ | refine W.region ?_ | refine W.block ?_ | refine W.skip ?_ | refine W.exit ?_ | refine WO.one rfl rfl rfl (OpW.load1 tabOk rfl rfl rfl rfl H (by (repeat (first | exact .head _ | refine .tail _ ?_))) rfl ?_)))
      refine WO.pv rfl rfl rfl (PureV.idxAN tabOk rfl rfl rfl rfl rfl rfl hu.1 hu.2) ?_
      refine WO.one rfl rfl rfl (OpW.loadB tabOk rfl rfl rfl rfl H (.tail _ (.head _)) (overs_at ov hu.1 hu.2) ?_)
      (repeat (first | refine WO.run tabOk rfl rfl ?_ | refine WO.nil ?_ | refine WO.skip rfl rfl rfl ?_ | refine WO.pu tabOk rfl rfl rfl rfl ?_ | refine W.seq ?_ | refine W.region ?_ | refine W.block ?_ | refine W.skip ?_ | refine W.exit ?_))
      refine W.cond rfl (fun hov => ?_) (fun hov => ?_)
      · (repeat (first | refine WO.run tabOk rfl rfl ?_ | refine WO.nil ?_ | refine WO.skip rfl rfl rfl ?_ | refine WO.pu tabOk rfl rfl rfl rfl ?_ | refine W.seq ?_ | refine W.region ?_ | refine W.block ?_ | refine W.skip ?_ | refine W.exit ?_))
        have hov : o1 ∈ ov := by simpa using hov
        exact W.ret (ret1 Try.results16 rfl ⟨_, rfl, H.pure, by rw [← done, chkL, if_neg (fun h => h hin), if_neg (fun h => h (.inr (.inr ⟨.inr rfl, h0⟩))), if_pos hov]⟩)
      have hov : o1 ∉ ov := by simpa using hov
      (repeat (first | refine WO.run tabOk rfl rfl ?_ | refine WO.nil ?_ | refine WO.skip rfl rfl rfl ?_ | refine WO.pu tabOk rfl rfl rfl rfl ?_ | refine W.seq ?_ | refine W.region ?_ | refine W.block ?_ | refine W.skip ?_ | refine W.exit ?_ | refine WO.one rfl rfl rfl (OpW.load1 tabOk rfl rfl rfl rfl H (by (repeat (first | exact .head _ | refine .tail _ ?_))) rfl ?_)))
      refine WO.pv rfl rfl rfl (PureV.idxAN tabOk rfl rfl rfl rfl rfl rfl hu.1 hu.2) ?_
      refine WO.act rfl rfl (OpW.storeB (i := 1) tabOk rfl rfl rfl rfl H rfl (v := .bool true) (by intro u hu; simp [cellsL] at hu; subst hu; rfl) rfl (by rw [overs_len]; simp [cellsL]; omega) ?_)
      intro w9 H9
      have e9 : spliceL (overs ov) (0 + o1.toNat * 1) (cellsL (.bool true)) = overs (o1 :: ov) := (spliceOne (by rw [overs_len]; omega)).trans (by rw [Nat.zero_add, Nat.mul_one]; exact overs_set ov hu.1 hu.2)
      rw [e9] at H9
      (repeat (first | refine WO.run tabOk rfl rfl ?_ | refine WO.nil ?_ | refine WO.skip rfl rfl rfl ?_ | refine WO.pu tabOk rfl rfl rfl rfl ?_ | refine W.seq ?_ | refine W.region ?_ | refine W.block ?_ | refine W.skip ?_ | refine W.exit ?_))
      refine WO.pv rfl rfl rfl (PureV.addN (n := i) rfl rfl rfl (by omega)) ?_
      (repeat (first | refine WO.run tabOk rfl rfl ?_ | refine WO.nil ?_ | refine WO.skip rfl rfl rfl ?_ | refine WO.pu tabOk rfl rfl rfl rfl ?_ | refine W.seq ?_ | refine W.region ?_ | refine W.block ?_ | refine W.skip ?_ | refine W.exit ?_))
      refine ⟨(i + 1, (o1 :: ov)), rfl, ⟨by simp only; omega, ?_, H9.bring [0] rfl |>.first⟩, by simp only; omega⟩
      rw [← done, chkL, if_neg (fun h => h hin), if_neg (fun h => h (.inr (.inr ⟨.inr rfl, h0⟩))), if_neg hov]; rfl

    (repeat (first | refine WO.run tabOk rfl rfl ?_ | refine WO.nil ?_ | refine WO.skip rfl rfl rfl ?_ | refine WO.pu tabOk rfl rfl rfl rfl ?_ | refine W.seq ?_ | refine W.region ?_ | refine W.block ?_ | refine W.skip ?_ | refine W.exit ?_ | refine WO.one rfl rfl rfl (OpW.load1 tabOk rfl rfl rfl rfl H (by (repeat (first | exact .head _ | refine .tail _ ?_))) rfl ?_)))
    refine W.cond rfl (fun h => by simp at h; exact absurd h k1) (fun _ => ?_)
    (repeat (first | refine WO.run tabOk rfl rfl ?_ | refine WO.nil ?_ | refine WO.skip rfl rfl rfl ?_ | refine WO.pu tabOk rfl rfl rfl rfl ?_ | refine W.seq ?_ | refine W.region ?_ | refine W.block ?_ | refine W.skip ?_ | refine W.exit ?_ | refine WO.one rfl rfl rfl (OpW.load1 tabOk rfl rfl rfl rfl H (by (repeat (first | exact .head _ | refine .tail _ ?_))) rfl ?_)))
    refine W.cond rfl (fun h => by simp at h; exact absurd h k2) (fun _ => ?_)
    (repeat (first | refine WO.run tabOk rfl rfl ?_ | refine WO.nil ?_ | refine WO.skip rfl rfl rfl ?_ | refine WO.pu tabOk rfl rfl rfl rfl ?_ | refine W.seq ?_ | refine W.region ?_ | refine W.block ?_ | refine W.skip ?_ | refine W.exit ?_ | refine WO.one rfl rfl rfl (OpW.load1 tabOk rfl rfl rfl rfl H (by (repeat (first | exact .head _ | refine .tail _ ?_))) rfl ?_)))
    refine W.cond rfl (fun h => by simp at h; exact absurd h k3) (fun _ => ?_)
    (repeat (first | refine WO.run tabOk rfl rfl ?_ | refine WO.nil ?_ | refine WO.skip rfl rfl rfl ?_ | refine WO.pu tabOk rfl rfl rfl rfl ?_ | refine W.seq ?_ | refine W.region ?_ | refine W.block ?_ | refine W.skip ?_ | refine W.exit ?_ | refine WO.one rfl rfl rfl (OpW.load1 tabOk rfl rfl rfl rfl H (by (repeat (first | exact .head _ | refine .tail _ ?_))) rfl ?_)))
    refine W.cond rfl (fun h => by simp at h; exact absurd h k4) (fun _ => ?_)
    (repeat (first | refine WO.run tabOk rfl rfl ?_ | refine WO.nil ?_ | refine WO.skip rfl rfl rfl ?_ | refine WO.pu tabOk rfl rfl rfl rfl ?_ | refine W.seq ?_ | refine W.region ?_ | refine W.block ?_ | refine W.skip ?_ | refine W.exit ?_ | refine WO.one rfl rfl rfl (OpW.load1 tabOk rfl rfl rfl rfl H (by (repeat (first | exact .head _ | refine .tail _ ?_))) rfl ?_)))
    exact W.ret (ret1 Try.results16 rfl ⟨_, rfl, H.pure, by rw [bad (by unfold kindF; simp only; omega)]⟩)
  · have hil : i = l.length := by simp at hge; omega
    subst hil
    rw [List.drop_length, chkL] at done
    (repeat (first | refine WO.run tabOk rfl rfl ?_ | refine WO.nil ?_ | refine WO.skip rfl rfl rfl ?_ | refine WO.pu tabOk rfl rfl rfl rfl ?_ | refine W.seq ?_ | refine W.region ?_ | refine W.block ?_ | refine W.skip ?_ | refine W.exit ?_))
    exact W.ret (ret1 Try.results16 rfl ⟨_, rfl, H.pure, by rw [← done]⟩)
end Go.Proofs.Ytpenbdpgpamcbaa
