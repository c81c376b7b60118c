/- lock: insertion, deletion, what is given. -/
import Derived.Test.YtpenbdpgpamcbaaLockE
set_option linter.unusedVariables false
set_option linter.unusedSimpArgs false
set_option maxRecDepth 20000
namespace Go.Proofs.Ytpenbdpgpamcbaa
open Go Gw
attribute [local irreducible] W WO WD

theorem insertLock_ok (c : Ctx) (w : World) (Own Ro : List Asn) (sv vv : Value) (n m i : Nat) (cs vs : List Value) (H : St c w (raw 145 2 sv n cs :: raw 145 2 vv m vs :: Own) Ro) (hi : i ≤ n) (hm : 0 < m) (hb : n + m ≤ 1073741824) :
    Calls Try.prog 86 #[sv, .int .i64 i, vv] w (Ret fun v w' => St c w' (raw 145 2 v (n + m) (cs.take (i * 2) ++ vs ++ cs.drop (i * 2)) :: raw 145 2 vv m vs :: Own) Ro) := by
  refine calls_W (args := [_, _, _]) Try.func86 rfl Try.ntmps86 rfl ?_
  obtain ⟨hcl, hc1, a, cap, rfl, hnc, hcm⟩ := H.raw_len
  obtain ⟨hvl, hv1, av, capv, rfl, hvc, hvm⟩ := (H.to (i := 1) rfl).raw_len
  simp only [maxLen] at hcm hvm
  (repeat (first | refine WO.run tabOk rfl rfl ?_ | refine WO.nil ?_ | refine WO.skip rfl rfl rfl ?_ | refine WO.pu tabOk rfl rfl rfl rfl ?_ | refine W.seq ?_ | refine W.region ?_ | refine W.block ?_ | refine W.skip ?_ | refine W.exit ?_))
  refine WO.pv rfl rfl rfl (PureV.slcFrom tabOk rfl rfl rfl rfl rfl rfl hi hnc rfl) ?_
  (repeat (first | refine WO.run tabOk rfl rfl ?_ | refine WO.nil ?_ | refine WO.skip rfl rfl rfl ?_ | refine WO.pu tabOk rfl rfl rfl rfl ?_ | refine W.seq ?_ | refine W.region ?_ | refine W.block ?_ | refine W.skip ?_ | refine W.exit ?_))
  refine W.cond rfl (fun h0 => (by simp at h0; omega)) (fun _ => ?_)
  (repeat (first | refine WO.run tabOk rfl rfl ?_ | refine WO.nil ?_ | refine WO.skip rfl rfl rfl ?_ | refine WO.pu tabOk rfl rfl rfl rfl ?_ | refine W.seq ?_ | refine W.region ?_ | refine W.block ?_ | refine W.skip ?_ | refine W.exit ?_))
  refine W.cond rfl (fun h1 => ?_) (fun h1 => ?_)
  · simp at h1
    obtain rfl : i = n := by omega
    (repeat (first | refine WO.run tabOk rfl rfl ?_ | refine WO.nil ?_ | refine WO.skip rfl rfl rfl ?_ | refine WO.pu tabOk rfl rfl rfl rfl ?_ | refine W.seq ?_ | refine W.region ?_ | refine W.block ?_ | refine W.skip ?_ | refine W.exit ?_))
    obtain ⟨av', capv', e1, _, _, hsh⟩ := raw_shows ((H.to (i := 1) rfl).holds (A := raw 145 2 (.slice av m capv) m vs) (by simp))
    simp only [Value.slice.injEq] at e1
    obtain ⟨rfl, _, rfl⟩ := e1
    refine WO.one rfl rfl rfl (OpW.append2 tabOk rfl rfl rfl rfl rfl zero145 rfl rfl rfl rfl H hsh (by omega) (by simp only [maxLen]; omega) ?_)
    intro v' w1 H1 _
    (repeat (first | refine WO.run tabOk rfl rfl ?_ | refine WO.nil ?_ | refine WO.skip rfl rfl rfl ?_ | refine WO.pu tabOk rfl rfl rfl rfl ?_ | refine W.seq ?_ | refine W.region ?_ | refine W.block ?_ | refine W.skip ?_ | refine W.exit ?_))
    refine W.ret (ret1 Try.results86 rfl ⟨_, rfl, ?_⟩)
    rw [← hcl, List.take_length, List.drop_length, List.append_nil]
    exact H1
  simp at h1
  rcases H.open_raw with ⟨e1, h, _⟩ | ⟨g, o, cap', cur, e1, Hs, hcur, hnc', hcm', hfit⟩
  · omega
  simp only [Value.slice.injEq] at e1
  obtain ⟨rfl, _, rfl⟩ := e1
  rcases (Hs.to (i := 1) rfl).open_raw with ⟨e1, h, _⟩ | ⟨gv, ov, capv', curv, e1, Hv, hcurv, hvc', hvm', hfitv⟩
  · omega
  simp only [Value.slice.injEq] at e1
  obtain ⟨rfl, _, rfl⟩ := e1
  have hne := Hv.blk_ne
  have hvs : ∀ {w : World} {Own Ro : List Asn} {c : Ctx}, St c w Own Ro → blk gv 145 curv ∈ Own ++ Ro → Shows w 2 (some ⟨gv, ov, none⟩) m vs := fun H hm => ⟨hvl, hv1, .inr ⟨_, rfl, blk_cells H hm (by rw [hvl]; exact hcurv)⟩⟩
  have hds : Shows w 2 (some ⟨g, o + i * 2, none⟩) (n - i) (cs.drop (i * 2)) := by
    refine ⟨by rw [List.length_drop, hcl]; omega, fun u hu => hc1 u (List.mem_of_mem_drop hu), .inr ⟨_, rfl, blk_cells (e := 145) (l := cur) Hs (by simp) ?_⟩⟩
    rw [← hcur, List.drop_take, List.drop_drop]
    simp only [List.length_take, List.length_drop]
    rw [Nat.min_eq_left (by omega)]
  have hnl : cur.length ≠ 0 := by omega
  (repeat (first | refine WO.run tabOk rfl rfl ?_ | refine WO.nil ?_ | refine WO.skip rfl rfl rfl ?_ | refine WO.pu tabOk rfl rfl rfl rfl ?_ | refine W.seq ?_ | refine W.region ?_ | refine W.block ?_ | refine W.skip ?_ | refine W.exit ?_))
  refine WO.pv rfl rfl rfl (PureV.add (a := n) (b := m) rfl rfl rfl (by omega) (by omega)) ?_
  (repeat (first | refine WO.run tabOk rfl rfl ?_ | refine WO.nil ?_ | refine WO.skip rfl rfl rfl ?_ | refine WO.pu tabOk rfl rfl rfl rfl ?_ | refine W.seq ?_ | refine W.region ?_ | refine W.block ?_ | refine W.skip ?_ | refine W.exit ?_))
  refine W.cond rfl (fun h2 => ?_) (fun h2 => ?_)
  · simp at h2
    have h2 : cap < n + m := by omega
    (repeat (first | refine WO.run tabOk rfl rfl ?_ | refine WO.nil ?_ | refine WO.skip rfl rfl rfl ?_ | refine WO.pu tabOk rfl rfl rfl rfl ?_ | refine W.seq ?_ | refine W.region ?_ | refine W.block ?_ | refine W.skip ?_ | refine W.exit ?_))
    refine WO.pv rfl rfl rfl (PureV.slcTo tabOk rfl rfl rfl rfl rfl rfl (by omega)) ?_
    (repeat (first | refine WO.run tabOk rfl rfl ?_ | refine WO.nil ?_ | refine WO.skip rfl rfl rfl ?_ | refine WO.pu tabOk rfl rfl rfl rfl ?_ | refine W.seq ?_ | refine W.region ?_ | refine W.block ?_ | refine W.skip ?_ | refine W.exit ?_))
    refine WO.pv rfl rfl rfl (PureV.add (a := n) (b := m) rfl rfl rfl (by omega) (by omega)) ?_
    (repeat (first | refine WO.run tabOk rfl rfl ?_ | refine WO.nil ?_ | refine WO.skip rfl rfl rfl ?_ | refine WO.pu tabOk rfl rfl rfl rfl ?_ | refine W.seq ?_ | refine W.region ?_ | refine W.block ?_ | refine W.skip ?_ | refine W.exit ?_))
    refine WO.pv rfl rfl rfl (PureV.sub (a := (n : Int) + m) (b := i) rfl rfl rfl (by omega) (by omega)) ?_
    obtain ⟨k, hk⟩ : ∃ k : Nat, ((n : Int) + m - i) = k := ⟨n + m - i, by omega⟩
    rw [hk]
    have hk' : i + k = n + m := by omega
    refine WO.one rfl rfl rfl (OpW.appendZ tabOk (k := k) (cap := cap) (n := i) rfl rfl rfl rfl rfl zero145 rfl rfl rfl rfl rfl (by omega) (by omega) Hv (cs := cs.take (i * 2)) ?_ (by rw [List.length_take, hcl]; omega) (by simp only [maxLen]; omega) (by omega) (by simp only [maxLen]; omega) ?_)
    · refine blk_cells (e := 145) (l := cur) Hs (by simp) ?_
      rw [← hcur, List.take_take, List.length_take, List.length_drop]
      rw [Nat.min_eq_left (show min (i * 2) (n * 2) ≤ cur.length - o by omega)]
    intro g2 cap2 zs w2 hc2 hm2 hzl hz1 H2
    have hz : n * 2 + m * 2 ≤ i * 2 + zs.length := by omega
    have htl : (cs.take (i * 2)).length = i * 2 := by rw [List.length_take, hcl]; omega
    have hl0 : (cs.take (i * 2) ++ zs).length = i * 2 + zs.length := by rw [List.length_append, htl]
    simp only [maxLen] at hm2
    (repeat (first | refine WO.run tabOk rfl rfl ?_ | refine WO.nil ?_ | refine WO.skip rfl rfl rfl ?_ | refine WO.pu tabOk rfl rfl rfl rfl ?_ | refine W.seq ?_ | refine W.region ?_ | refine W.block ?_ | refine W.skip ?_ | refine W.exit ?_))
    refine WO.pv rfl rfl rfl (PureV.slcFrom tabOk rfl rfl rfl rfl rfl rfl (show i ≤ i + k by omega) hc2 rfl) ?_
    rw [cutA, if_neg (show ¬ cap2 = i by omega)]
    simp only [Option.map_some, Addr.add_lit]
    (repeat (first | refine WO.run tabOk rfl rfl ?_ | refine WO.nil ?_ | refine WO.skip rfl rfl rfl ?_ | refine WO.pu tabOk rfl rfl rfl rfl ?_ | refine W.seq ?_ | refine W.region ?_ | refine W.block ?_ | refine W.skip ?_ | refine W.exit ?_))
    refine WO.one rfl rfl rfl (OpW.copy (i := 0) (m := m) tabOk rfl rfl rfl rfl rfl rfl (by omega) H2 rfl (hvs H2 (by simp)) (by omega) ?_)
    intro w3 H3
    have hl1 : (spliceL (cs.take (i * 2) ++ zs) (0 + i * 2) vs).length = i * 2 + zs.length := by rw [spliceL_len _ _ _ (by omega), hl0]
    (repeat (first | refine WO.run tabOk rfl rfl ?_ | refine WO.nil ?_ | refine WO.skip rfl rfl rfl ?_ | refine WO.pu tabOk rfl rfl rfl rfl ?_ | refine W.seq ?_ | refine W.region ?_ | refine W.block ?_ | refine W.skip ?_ | refine W.exit ?_))
    refine W.regionD [] (HA []) [0, 1, 2, 3, 4, 5, 6, 7, 8] rfl (by kernel_rfl) (fun _ _ _ h => h) ?_
    (repeat (first | refine WD.run tabOk rfl rfl ?_ | refine WD.nil ?_))
    refine WD.pv rfl rfl rfl rfl rfl (PureV.add (a := i) (b := m) rfl rfl rfl (by omega) (by omega)) ?_
    (repeat (first | refine WD.run tabOk rfl rfl ?_ | refine WD.nil ?_))
    rw [show (i : Int) + m = ((i + m : Nat) : Int) by omega]
    refine WD.pv rfl rfl rfl rfl rfl (PureV.slcFrom tabOk rfl rfl rfl rfl rfl rfl (show i + m ≤ i + k by omega) hc2 rfl) ?_
    (repeat (first | refine WD.run tabOk rfl rfl ?_ | refine WD.nil ?_))
    refine WD.pv rfl rfl rfl rfl rfl (PureV.slcFrom tabOk rfl rfl rfl rfl rfl rfl hi hnc rfl) ?_
    rw [cutA, cutA, if_neg (show ¬ cap = i by omega), if_neg (show ¬ cap2 = i + m by omega)]
    simp only [Option.map_some, Addr.add_lit]
    have H3 := H3.drew
    have hds3 : Shows w3.drew 2 (some ⟨g, o + i * 2, none⟩) (n - i) (cs.drop (i * 2)) := by
      refine ⟨hds.1, hds.2.1, .inr ⟨_, rfl, blk_cells (e := 145) (l := cur) H3 (by simp) ?_⟩⟩
      rw [← hcur, List.drop_take, List.drop_drop]
      simp only [List.length_take, List.length_drop]
      rw [Nat.min_eq_left (by omega)]
    refine WD.one rfl rfl rfl rfl rfl rfl (OpW.copy (i := 0) (m := n - i) tabOk rfl rfl rfl rfl rfl rfl (by omega) H3 rfl hds3 (by omega) ?_)
    intro w4 H4
    (repeat (first | refine WD.run tabOk rfl rfl ?_ | refine WD.nil ?_))
    (repeat (first | refine WO.run tabOk rfl rfl ?_ | refine WO.nil ?_ | refine WO.skip rfl rfl rfl ?_ | refine WO.pu tabOk rfl rfl rfl rfl ?_ | refine W.seq ?_ | refine W.region ?_ | refine W.block ?_ | refine W.skip ?_ | refine W.exit ?_))
    refine W.ret (ret1 Try.results86 rfl ⟨_, rfl, ?_⟩)
    have hins := insert_new (cs := cs) (vs := vs) (zs := zs) (A := i * 2) (B := m * 2) (C := n * 2) hcl (by omega) hz hvl
    rw [Nat.zero_add, Nat.zero_add, show (i + m) * 2 = i * 2 + m * 2 by omega] at H4
    have H5 := H4.close_raw (sz := 2) (n := n + m) (o := 0) (cap := cap2) (cs := cs.take (i * 2) ++ vs ++ cs.drop (i * 2)) (by omega) (by simp only [maxLen]; omega) (by rw [hins.2]; omega) (by rw [show (n + m) * 2 = n * 2 + m * 2 by omega]; exact hins.1) ?_
    · rw [hk']
      have H6 := (H5.to (i := 1) rfl).close_raw (sz := 2) (n := m) (o := ov) (cap := capv) (cs := vs) hvc hvm' hfitv hcurv hv1
      exact ((H6.to (i := 2) rfl).drop).to (i := 1) rfl
    · intro u hu
      simp only [List.mem_append] at hu
      rcases hu with (hu | hu) | hu
      · exact hc1 u (List.mem_of_mem_take hu)
      · exact hv1 u hu
      · exact hc1 u (List.mem_of_mem_drop hu)
  · simp at h2
    have h2 : n + m ≤ cap := by omega
    (repeat (first | refine WO.run tabOk rfl rfl ?_ | refine WO.nil ?_ | refine WO.skip rfl rfl rfl ?_ | refine WO.pu tabOk rfl rfl rfl rfl ?_ | refine W.seq ?_ | refine W.region ?_ | refine W.block ?_ | refine W.skip ?_ | refine W.exit ?_))
    refine WO.pv rfl rfl rfl (PureV.add (a := n) (b := m) rfl rfl rfl (by omega) (by omega)) ?_
    rw [show (n : Int) + m = ((n + m : Nat) : Int) by omega]
    refine WO.pv rfl rfl rfl (PureV.slcTo tabOk rfl rfl rfl rfl rfl rfl (by omega)) ?_
    (repeat (first | refine WO.run tabOk rfl rfl ?_ | refine WO.nil ?_ | refine WO.skip rfl rfl rfl ?_ | refine WO.pu tabOk rfl rfl rfl rfl ?_ | refine W.seq ?_ | refine W.region ?_ | refine W.block ?_ | refine W.skip ?_ | refine W.exit ?_))
    refine WO.pv rfl rfl rfl (PureV.add (a := i) (b := m) rfl rfl rfl (by omega) (by omega)) ?_
    rw [show (i : Int) + m = ((i + m : Nat) : Int) by omega]
    refine WO.pv rfl rfl rfl (PureV.slcFrom tabOk rfl rfl rfl rfl rfl rfl (show i + m ≤ n + m by omega) (by omega) rfl) ?_
    rw [cutA, if_neg (show ¬ cap = i + m by omega)]
    simp only [Option.map_some, Addr.add_lit]
    refine WO.one rfl rfl rfl (OpW.overlaps (tS := 140) (tR := 4) tabOk rfl Try.func114 (by kernel_rfl) (by kernel_rfl) (by kernel_rfl) (by kernel_rfl) rfl rfl rfl rfl Hv (.head _) (.tail _ (.head _)) hne hnl ?_)
    (repeat (first | refine WO.run tabOk rfl rfl ?_ | refine WO.nil ?_ | refine WO.skip rfl rfl rfl ?_ | refine WO.pu tabOk rfl rfl rfl rfl ?_ | refine W.seq ?_ | refine W.region ?_ | refine W.block ?_ | refine W.skip ?_ | refine W.exit ?_))
    refine W.cond_t rfl ?_
    (repeat (first | refine WO.run tabOk rfl rfl ?_ | refine WO.nil ?_ | refine WO.skip rfl rfl rfl ?_ | refine WO.pu tabOk rfl rfl rfl rfl ?_ | refine W.seq ?_ | refine W.region ?_ | refine W.block ?_ | refine W.skip ?_ | refine W.exit ?_))
    refine W.regionD [] (HA []) [0, 1, 2, 3, 4, 5, 6, 7, 8] rfl (by kernel_rfl) (fun _ _ _ h => h) ?_
    (repeat (first | refine WD.run tabOk rfl rfl ?_ | refine WD.nil ?_))
    refine WD.pv rfl rfl rfl rfl rfl (PureV.add (a := i) (b := m) rfl rfl rfl (by omega) (by omega)) ?_
    (repeat (first | refine WD.run tabOk rfl rfl ?_ | refine WD.nil ?_))
    rw [show (i : Int) + m = ((i + m : Nat) : Int) by omega]
    refine WD.pv rfl rfl rfl rfl rfl (PureV.slcFrom tabOk rfl rfl rfl rfl rfl rfl (show i + m ≤ n + m by omega) (by omega) rfl) ?_
    (repeat (first | refine WD.run tabOk rfl rfl ?_ | refine WD.nil ?_))
    refine WD.pv rfl rfl rfl rfl rfl (PureV.slcFrom tabOk rfl rfl rfl rfl rfl rfl (show i ≤ n + m by omega) (by omega) rfl) ?_
    rw [cutA, cutA, if_neg (show ¬ cap = i by omega), if_neg (show ¬ cap = i + m by omega)]
    simp only [Option.map_some, Addr.add_lit]
    have H3 := Hv.drew
    have hds3 : Shows w.drew 2 (some ⟨g, o + i * 2, none⟩) (n - i) (cs.drop (i * 2)) := by
      refine ⟨hds.1, hds.2.1, .inr ⟨_, rfl, blk_cells (e := 145) (l := cur) H3 (by simp) ?_⟩⟩
      rw [← hcur, List.drop_take, List.drop_drop]
      simp only [List.length_take, List.length_drop]
      rw [Nat.min_eq_left (by omega)]
    refine WD.one rfl rfl rfl rfl rfl rfl (OpW.copy (i := 1) (m := n - i) tabOk rfl rfl rfl rfl rfl rfl (by omega) H3 rfl hds3 (by omega) ?_)
    intro w4 H4
    (repeat (first | refine WD.run tabOk rfl rfl ?_ | refine WD.nil ?_))
    (repeat (first | refine WO.run tabOk rfl rfl ?_ | refine WO.nil ?_ | refine WO.skip rfl rfl rfl ?_ | refine WO.pu tabOk rfl rfl rfl rfl ?_ | refine W.seq ?_ | refine W.region ?_ | refine W.block ?_ | refine W.skip ?_ | refine W.exit ?_))
    refine WO.pv rfl rfl rfl (PureV.slcFrom tabOk rfl rfl rfl rfl rfl rfl (show i ≤ n + m by omega) (by omega) rfl) ?_
    rw [cutA, if_neg (show ¬ cap = i by omega)]
    simp only [Option.map_some, Addr.add_lit]
    (repeat (first | refine WO.run tabOk rfl rfl ?_ | refine WO.nil ?_ | refine WO.skip rfl rfl rfl ?_ | refine WO.pu tabOk rfl rfl rfl rfl ?_ | refine W.seq ?_ | refine W.region ?_ | refine W.block ?_ | refine W.skip ?_ | refine W.exit ?_))
    have hl1 : (spliceL cur (o + (i + m) * 2) (cs.drop (i * 2))).length = cur.length := spliceL_len _ _ _ (by rw [List.length_drop]; omega)
    refine WO.one rfl rfl rfl (OpW.copy (i := 0) (m := m) tabOk rfl rfl rfl rfl rfl rfl (by omega) H4 rfl (hvs H4 (by simp)) (by omega) ?_)
    intro w5 H5
    (repeat (first | refine WO.run tabOk rfl rfl ?_ | refine WO.nil ?_ | refine WO.skip rfl rfl rfl ?_ | refine WO.pu tabOk rfl rfl rfl rfl ?_ | refine W.seq ?_ | refine W.region ?_ | refine W.block ?_ | refine W.skip ?_ | refine W.exit ?_))
    refine W.ret (ret1 Try.results86 rfl ⟨_, rfl, ?_⟩)
    have hins := insert_cells (cs := cs) (vs := vs) (o := o) (A := i * 2) (B := m * 2) (C := n * 2) hcur hcl (by omega) (by omega) hvl
    rw [show (i + m) * 2 = i * 2 + m * 2 by omega] at H5
    have H6 := H5.close_raw (sz := 2) (n := n + m) (o := o) (cap := cap) (cs := cs.take (i * 2) ++ vs ++ cs.drop (i * 2)) (by omega) hcm' (by rw [hins.2]; omega) (by rw [show (n + m) * 2 = n * 2 + m * 2 by omega]; exact hins.1) ?_
    · have H7 := (H6.to (i := 1) rfl).close_raw (sz := 2) (n := m) (o := ov) (cap := capv) (cs := vs) hvc hvm' hfitv hcurv hv1
      exact H7.to (i := 1) rfl
    · intro u hu
      simp only [List.mem_append] at hu
      rcases hu with (hu | hu) | hu
      · exact hc1 u (List.mem_of_mem_take hu)
      · exact hv1 u hu
      · exact hc1 u (List.mem_of_mem_drop hu)

theorem insertItem_ok (c : Ctx) (w : World) (Own Ro : List Asn) (sv vv : Value) (n m i : Nat) (cs vs : List Value) (H : St c w (raw 142 3 sv n cs :: raw 142 3 vv m vs :: Own) Ro) (hi : i ≤ n) (hm : 0 < m) (hb : n + m ≤ 1073741824) :
    Calls Try.prog 81 #[sv, .int .i64 i, vv] w (Ret fun v w' => St c w' (raw 142 3 v (n + m) (cs.take (i * 3) ++ vs ++ cs.drop (i * 3)) :: raw 142 3 vv m vs :: Own) Ro) := by
  refine calls_W (args := [_, _, _]) Try.func81 rfl Try.ntmps81 rfl ?_
  obtain ⟨hcl, hc1, a, cap, rfl, hnc, hcm⟩ := H.raw_len
  obtain ⟨hvl, hv1, av, capv, rfl, hvc, hvm⟩ := (H.to (i := 1) rfl).raw_len
  simp only [maxLen] at hcm hvm
  (repeat (first | refine WO.run tabOk rfl rfl ?_ | refine WO.nil ?_ | refine WO.skip rfl rfl rfl ?_ | refine WO.pu tabOk rfl rfl rfl rfl ?_ | refine W.seq ?_ | refine W.region ?_ | refine W.block ?_ | refine W.skip ?_ | refine W.exit ?_))
  refine WO.pv rfl rfl rfl (PureV.slcFrom tabOk rfl rfl rfl rfl rfl rfl hi hnc rfl) ?_
  (repeat (first | refine WO.run tabOk rfl rfl ?_ | refine WO.nil ?_ | refine WO.skip rfl rfl rfl ?_ | refine WO.pu tabOk rfl rfl rfl rfl ?_ | refine W.seq ?_ | refine W.region ?_ | refine W.block ?_ | refine W.skip ?_ | refine W.exit ?_))
  refine W.cond rfl (fun h0 => (by simp at h0; omega)) (fun _ => ?_)
  (repeat (first | refine WO.run tabOk rfl rfl ?_ | refine WO.nil ?_ | refine WO.skip rfl rfl rfl ?_ | refine WO.pu tabOk rfl rfl rfl rfl ?_ | refine W.seq ?_ | refine W.region ?_ | refine W.block ?_ | refine W.skip ?_ | refine W.exit ?_))
  refine W.cond rfl (fun h1 => ?_) (fun h1 => ?_)
  · simp at h1
    obtain rfl : i = n := by omega
    (repeat (first | refine WO.run tabOk rfl rfl ?_ | refine WO.nil ?_ | refine WO.skip rfl rfl rfl ?_ | refine WO.pu tabOk rfl rfl rfl rfl ?_ | refine W.seq ?_ | refine W.region ?_ | refine W.block ?_ | refine W.skip ?_ | refine W.exit ?_))
    obtain ⟨av', capv', e1, _, _, hsh⟩ := raw_shows ((H.to (i := 1) rfl).holds (A := raw 142 3 (.slice av m capv) m vs) (by simp))
    simp only [Value.slice.injEq] at e1
    obtain ⟨rfl, _, rfl⟩ := e1
    refine WO.one rfl rfl rfl (OpW.append2 tabOk rfl rfl rfl rfl rfl zero142 rfl rfl rfl rfl H hsh (by omega) (by simp only [maxLen]; omega) ?_)
    intro v' w1 H1 _
    (repeat (first | refine WO.run tabOk rfl rfl ?_ | refine WO.nil ?_ | refine WO.skip rfl rfl rfl ?_ | refine WO.pu tabOk rfl rfl rfl rfl ?_ | refine W.seq ?_ | refine W.region ?_ | refine W.block ?_ | refine W.skip ?_ | refine W.exit ?_))
    refine W.ret (ret1 Try.results81 rfl ⟨_, rfl, ?_⟩)
    rw [← hcl, List.take_length, List.drop_length, List.append_nil]
    exact H1
  simp at h1
  rcases H.open_raw with ⟨e1, h, _⟩ | ⟨g, o, cap', cur, e1, Hs, hcur, hnc', hcm', hfit⟩
  · omega
  simp only [Value.slice.injEq] at e1
  obtain ⟨rfl, _, rfl⟩ := e1
  rcases (Hs.to (i := 1) rfl).open_raw with ⟨e1, h, _⟩ | ⟨gv, ov, capv', curv, e1, Hv, hcurv, hvc', hvm', hfitv⟩
  · omega
  simp only [Value.slice.injEq] at e1
  obtain ⟨rfl, _, rfl⟩ := e1
  have hne := Hv.blk_ne
  have hvs : ∀ {w : World} {Own Ro : List Asn} {c : Ctx}, St c w Own Ro → blk gv 142 curv ∈ Own ++ Ro → Shows w 3 (some ⟨gv, ov, none⟩) m vs := fun H hm => ⟨hvl, hv1, .inr ⟨_, rfl, blk_cells H hm (by rw [hvl]; exact hcurv)⟩⟩
  have hds : Shows w 3 (some ⟨g, o + i * 3, none⟩) (n - i) (cs.drop (i * 3)) := by
    refine ⟨by rw [List.length_drop, hcl]; omega, fun u hu => hc1 u (List.mem_of_mem_drop hu), .inr ⟨_, rfl, blk_cells (e := 142) (l := cur) Hs (by simp) ?_⟩⟩
    rw [← hcur, List.drop_take, List.drop_drop]
    simp only [List.length_take, List.length_drop]
    rw [Nat.min_eq_left (by omega)]
  have hnl : cur.length ≠ 0 := by omega
  (repeat (first | refine WO.run tabOk rfl rfl ?_ | refine WO.nil ?_ | refine WO.skip rfl rfl rfl ?_ | refine WO.pu tabOk rfl rfl rfl rfl ?_ | refine W.seq ?_ | refine W.region ?_ | refine W.block ?_ | refine W.skip ?_ | refine W.exit ?_))
  refine WO.pv rfl rfl rfl (PureV.add (a := n) (b := m) rfl rfl rfl (by omega) (by omega)) ?_
  (repeat (first | refine WO.run tabOk rfl rfl ?_ | refine WO.nil ?_ | refine WO.skip rfl rfl rfl ?_ | refine WO.pu tabOk rfl rfl rfl rfl ?_ | refine W.seq ?_ | refine W.region ?_ | refine W.block ?_ | refine W.skip ?_ | refine W.exit ?_))
  refine W.cond rfl (fun h2 => ?_) (fun h2 => ?_)
  · simp at h2
    have h2 : cap < n + m := by omega
    (repeat (first | refine WO.run tabOk rfl rfl ?_ | refine WO.nil ?_ | refine WO.skip rfl rfl rfl ?_ | refine WO.pu tabOk rfl rfl rfl rfl ?_ | refine W.seq ?_ | refine W.region ?_ | refine W.block ?_ | refine W.skip ?_ | refine W.exit ?_))
    refine WO.pv rfl rfl rfl (PureV.slcTo tabOk rfl rfl rfl rfl rfl rfl (by omega)) ?_
    (repeat (first | refine WO.run tabOk rfl rfl ?_ | refine WO.nil ?_ | refine WO.skip rfl rfl rfl ?_ | refine WO.pu tabOk rfl rfl rfl rfl ?_ | refine W.seq ?_ | refine W.region ?_ | refine W.block ?_ | refine W.skip ?_ | refine W.exit ?_))
    refine WO.pv rfl rfl rfl (PureV.add (a := n) (b := m) rfl rfl rfl (by omega) (by omega)) ?_
    (repeat (first | refine WO.run tabOk rfl rfl ?_ | refine WO.nil ?_ | refine WO.skip rfl rfl rfl ?_ | refine WO.pu tabOk rfl rfl rfl rfl ?_ | refine W.seq ?_ | refine W.region ?_ | refine W.block ?_ | refine W.skip ?_ | refine W.exit ?_))
    refine WO.pv rfl rfl rfl (PureV.sub (a := (n : Int) + m) (b := i) rfl rfl rfl (by omega) (by omega)) ?_
    obtain ⟨k, hk⟩ : ∃ k : Nat, ((n : Int) + m - i) = k := ⟨n + m - i, by omega⟩
    rw [hk]
    have hk' : i + k = n + m := by omega
    refine WO.one rfl rfl rfl (OpW.appendZ tabOk (k := k) (cap := cap) (n := i) rfl rfl rfl rfl rfl zero142 rfl rfl rfl rfl rfl (by omega) (by omega) Hv (cs := cs.take (i * 3)) ?_ (by rw [List.length_take, hcl]; omega) (by simp only [maxLen]; omega) (by omega) (by simp only [maxLen]; omega) ?_)
    · refine blk_cells (e := 142) (l := cur) Hs (by simp) ?_
      rw [← hcur, List.take_take, List.length_take, List.length_drop]
      rw [Nat.min_eq_left (show min (i * 3) (n * 3) ≤ cur.length - o by omega)]
    intro g2 cap2 zs w2 hc2 hm2 hzl hz1 H2
    have hz : n * 3 + m * 3 ≤ i * 3 + zs.length := by omega
    have htl : (cs.take (i * 3)).length = i * 3 := by rw [List.length_take, hcl]; omega
    have hl0 : (cs.take (i * 3) ++ zs).length = i * 3 + zs.length := by rw [List.length_append, htl]
    simp only [maxLen] at hm2
    (repeat (first | refine WO.run tabOk rfl rfl ?_ | refine WO.nil ?_ | refine WO.skip rfl rfl rfl ?_ | refine WO.pu tabOk rfl rfl rfl rfl ?_ | refine W.seq ?_ | refine W.region ?_ | refine W.block ?_ | refine W.skip ?_ | refine W.exit ?_))
    refine WO.pv rfl rfl rfl (PureV.slcFrom tabOk rfl rfl rfl rfl rfl rfl (show i ≤ i + k by omega) hc2 rfl) ?_
    rw [cutA, if_neg (show ¬ cap2 = i by omega)]
    simp only [Option.map_some, Addr.add_lit]
    (repeat (first | refine WO.run tabOk rfl rfl ?_ | refine WO.nil ?_ | refine WO.skip rfl rfl rfl ?_ | refine WO.pu tabOk rfl rfl rfl rfl ?_ | refine W.seq ?_ | refine W.region ?_ | refine W.block ?_ | refine W.skip ?_ | refine W.exit ?_))
    refine WO.one rfl rfl rfl (OpW.copy (i := 0) (m := m) tabOk rfl rfl rfl rfl rfl rfl (by omega) H2 rfl (hvs H2 (by simp)) (by omega) ?_)
    intro w3 H3
    have hl1 : (spliceL (cs.take (i * 3) ++ zs) (0 + i * 3) vs).length = i * 3 + zs.length := by rw [spliceL_len _ _ _ (by omega), hl0]
    (repeat (first | refine WO.run tabOk rfl rfl ?_ | refine WO.nil ?_ | refine WO.skip rfl rfl rfl ?_ | refine WO.pu tabOk rfl rfl rfl rfl ?_ | refine W.seq ?_ | refine W.region ?_ | refine W.block ?_ | refine W.skip ?_ | refine W.exit ?_))
    refine W.regionD [] (HA []) [0, 1, 2, 3, 4, 5, 6, 7, 8] rfl (by kernel_rfl) (fun _ _ _ h => h) ?_
    (repeat (first | refine WD.run tabOk rfl rfl ?_ | refine WD.nil ?_))
    refine WD.pv rfl rfl rfl rfl rfl (PureV.add (a := i) (b := m) rfl rfl rfl (by omega) (by omega)) ?_
    (repeat (first | refine WD.run tabOk rfl rfl ?_ | refine WD.nil ?_))
    rw [show (i : Int) + m = ((i + m : Nat) : Int) by omega]
    refine WD.pv rfl rfl rfl rfl rfl (PureV.slcFrom tabOk rfl rfl rfl rfl rfl rfl (show i + m ≤ i + k by omega) hc2 rfl) ?_
    (repeat (first | refine WD.run tabOk rfl rfl ?_ | refine WD.nil ?_))
    refine WD.pv rfl rfl rfl rfl rfl (PureV.slcFrom tabOk rfl rfl rfl rfl rfl rfl hi hnc rfl) ?_
    rw [cutA, cutA, if_neg (show ¬ cap = i by omega), if_neg (show ¬ cap2 = i + m by omega)]
    simp only [Option.map_some, Addr.add_lit]
    have H3 := H3.drew
    have hds3 : Shows w3.drew 3 (some ⟨g, o + i * 3, none⟩) (n - i) (cs.drop (i * 3)) := by
      refine ⟨hds.1, hds.2.1, .inr ⟨_, rfl, blk_cells (e := 142) (l := cur) H3 (by simp) ?_⟩⟩
      rw [← hcur, List.drop_take, List.drop_drop]
      simp only [List.length_take, List.length_drop]
      rw [Nat.min_eq_left (by omega)]
    refine WD.one rfl rfl rfl rfl rfl rfl (OpW.copy (i := 0) (m := n - i) tabOk rfl rfl rfl rfl rfl rfl (by omega) H3 rfl hds3 (by omega) ?_)
    intro w4 H4
    (repeat (first | refine WD.run tabOk rfl rfl ?_ | refine WD.nil ?_))
    (repeat (first | refine WO.run tabOk rfl rfl ?_ | refine WO.nil ?_ | refine WO.skip rfl rfl rfl ?_ | refine WO.pu tabOk rfl rfl rfl rfl ?_ | refine W.seq ?_ | refine W.region ?_ | refine W.block ?_ | refine W.skip ?_ | refine W.exit ?_))
    refine W.ret (ret1 Try.results81 rfl ⟨_, rfl, ?_⟩)
    have hins := insert_new (cs := cs) (vs := vs) (zs := zs) (A := i * 3) (B := m * 3) (C := n * 3) hcl (by omega) hz hvl
    rw [Nat.zero_add, Nat.zero_add, show (i + m) * 3 = i * 3 + m * 3 by omega] at H4
    have H5 := H4.close_raw (sz := 3) (n := n + m) (o := 0) (cap := cap2) (cs := cs.take (i * 3) ++ vs ++ cs.drop (i * 3)) (by omega) (by simp only [maxLen]; omega) (by rw [hins.2]; omega) (by rw [show (n + m) * 3 = n * 3 + m * 3 by omega]; exact hins.1) ?_
    · rw [hk']
      have H6 := (H5.to (i := 1) rfl).close_raw (sz := 3) (n := m) (o := ov) (cap := capv) (cs := vs) hvc hvm' hfitv hcurv hv1
      exact ((H6.to (i := 2) rfl).drop).to (i := 1) rfl
    · intro u hu
      simp only [List.mem_append] at hu
      rcases hu with (hu | hu) | hu
      · exact hc1 u (List.mem_of_mem_take hu)
      · exact hv1 u hu
      · exact hc1 u (List.mem_of_mem_drop hu)
  · simp at h2
    have h2 : n + m ≤ cap := by omega
    (repeat (first | refine WO.run tabOk rfl rfl ?_ | refine WO.nil ?_ | refine WO.skip rfl rfl rfl ?_ | refine WO.pu tabOk rfl rfl rfl rfl ?_ | refine W.seq ?_ | refine W.region ?_ | refine W.block ?_ | refine W.skip ?_ | refine W.exit ?_))
    refine WO.pv rfl rfl rfl (PureV.add (a := n) (b := m) rfl rfl rfl (by omega) (by omega)) ?_
    rw [show (n : Int) + m = ((n + m : Nat) : Int) by omega]
    refine WO.pv rfl rfl rfl (PureV.slcTo tabOk rfl rfl rfl rfl rfl rfl (by omega)) ?_
    (repeat (first | refine WO.run tabOk rfl rfl ?_ | refine WO.nil ?_ | refine WO.skip rfl rfl rfl ?_ | refine WO.pu tabOk rfl rfl rfl rfl ?_ | refine W.seq ?_ | refine W.region ?_ | refine W.block ?_ | refine W.skip ?_ | refine W.exit ?_))
    refine WO.pv rfl rfl rfl (PureV.add (a := i) (b := m) rfl rfl rfl (by omega) (by omega)) ?_
    rw [show (i : Int) + m = ((i + m : Nat) : Int) by omega]
    refine WO.pv rfl rfl rfl (PureV.slcFrom tabOk rfl rfl rfl rfl rfl rfl (show i + m ≤ n + m by omega) (by omega) rfl) ?_
    rw [cutA, if_neg (show ¬ cap = i + m by omega)]
    simp only [Option.map_some, Addr.add_lit]
    refine WO.one rfl rfl rfl (OpW.overlaps (tS := 92) (tR := 4) tabOk rfl Try.func109 (by kernel_rfl) (by kernel_rfl) (by kernel_rfl) (by kernel_rfl) rfl rfl rfl rfl Hv (.head _) (.tail _ (.head _)) hne hnl ?_)
    (repeat (first | refine WO.run tabOk rfl rfl ?_ | refine WO.nil ?_ | refine WO.skip rfl rfl rfl ?_ | refine WO.pu tabOk rfl rfl rfl rfl ?_ | refine W.seq ?_ | refine W.region ?_ | refine W.block ?_ | refine W.skip ?_ | refine W.exit ?_))
    refine W.cond_t rfl ?_
    (repeat (first | refine WO.run tabOk rfl rfl ?_ | refine WO.nil ?_ | refine WO.skip rfl rfl rfl ?_ | refine WO.pu tabOk rfl rfl rfl rfl ?_ | refine W.seq ?_ | refine W.region ?_ | refine W.block ?_ | refine W.skip ?_ | refine W.exit ?_))
    refine W.regionD [] (HA []) [0, 1, 2, 3, 4, 5, 6, 7, 8] rfl (by kernel_rfl) (fun _ _ _ h => h) ?_
    (repeat (first | refine WD.run tabOk rfl rfl ?_ | refine WD.nil ?_))
    refine WD.pv rfl rfl rfl rfl rfl (PureV.add (a := i) (b := m) rfl rfl rfl (by omega) (by omega)) ?_
    (repeat (first | refine WD.run tabOk rfl rfl ?_ | refine WD.nil ?_))
    rw [show (i : Int) + m = ((i + m : Nat) : Int) by omega]
    refine WD.pv rfl rfl rfl rfl rfl (PureV.slcFrom tabOk rfl rfl rfl rfl rfl rfl (show i + m ≤ n + m by omega) (by omega) rfl) ?_
    (repeat (first | refine WD.run tabOk rfl rfl ?_ | refine WD.nil ?_))
    refine WD.pv rfl rfl rfl rfl rfl (PureV.slcFrom tabOk rfl rfl rfl rfl rfl rfl (show i ≤ n + m by omega) (by omega) rfl) ?_
    rw [cutA, cutA, if_neg (show ¬ cap = i by omega), if_neg (show ¬ cap = i + m by omega)]
    simp only [Option.map_some, Addr.add_lit]
    have H3 := Hv.drew
    have hds3 : Shows w.drew 3 (some ⟨g, o + i * 3, none⟩) (n - i) (cs.drop (i * 3)) := by
      refine ⟨hds.1, hds.2.1, .inr ⟨_, rfl, blk_cells (e := 142) (l := cur) H3 (by simp) ?_⟩⟩
      rw [← hcur, List.drop_take, List.drop_drop]
      simp only [List.length_take, List.length_drop]
      rw [Nat.min_eq_left (by omega)]
    refine WD.one rfl rfl rfl rfl rfl rfl (OpW.copy (i := 1) (m := n - i) tabOk rfl rfl rfl rfl rfl rfl (by omega) H3 rfl hds3 (by omega) ?_)
    intro w4 H4
    (repeat (first | refine WD.run tabOk rfl rfl ?_ | refine WD.nil ?_))
    (repeat (first | refine WO.run tabOk rfl rfl ?_ | refine WO.nil ?_ | refine WO.skip rfl rfl rfl ?_ | refine WO.pu tabOk rfl rfl rfl rfl ?_ | refine W.seq ?_ | refine W.region ?_ | refine W.block ?_ | refine W.skip ?_ | refine W.exit ?_))
    refine WO.pv rfl rfl rfl (PureV.slcFrom tabOk rfl rfl rfl rfl rfl rfl (show i ≤ n + m by omega) (by omega) rfl) ?_
    rw [cutA, if_neg (show ¬ cap = i by omega)]
    simp only [Option.map_some, Addr.add_lit]
    (repeat (first | refine WO.run tabOk rfl rfl ?_ | refine WO.nil ?_ | refine WO.skip rfl rfl rfl ?_ | refine WO.pu tabOk rfl rfl rfl rfl ?_ | refine W.seq ?_ | refine W.region ?_ | refine W.block ?_ | refine W.skip ?_ | refine W.exit ?_))
    have hl1 : (spliceL cur (o + (i + m) * 3) (cs.drop (i * 3))).length = cur.length := spliceL_len _ _ _ (by rw [List.length_drop]; omega)
    refine WO.one rfl rfl rfl (OpW.copy (i := 0) (m := m) tabOk rfl rfl rfl rfl rfl rfl (by omega) H4 rfl (hvs H4 (by simp)) (by omega) ?_)
    intro w5 H5
    (repeat (first | refine WO.run tabOk rfl rfl ?_ | refine WO.nil ?_ | refine WO.skip rfl rfl rfl ?_ | refine WO.pu tabOk rfl rfl rfl rfl ?_ | refine W.seq ?_ | refine W.region ?_ | refine W.block ?_ | refine W.skip ?_ | refine W.exit ?_))
    refine W.ret (ret1 Try.results81 rfl ⟨_, rfl, ?_⟩)
    have hins := insert_cells (cs := cs) (vs := vs) (o := o) (A := i * 3) (B := m * 3) (C := n * 3) hcur hcl (by omega) (by omega) hvl
    rw [show (i + m) * 3 = i * 3 + m * 3 by omega] at H5
    have H6 := H5.close_raw (sz := 3) (n := n + m) (o := o) (cap := cap) (cs := cs.take (i * 3) ++ vs ++ cs.drop (i * 3)) (by omega) hcm' (by rw [hins.2]; omega) (by rw [show (n + m) * 3 = n * 3 + m * 3 by omega]; exact hins.1) ?_
    · have H7 := (H6.to (i := 1) rfl).close_raw (sz := 3) (n := m) (o := ov) (cap := capv) (cs := vs) hvc hvm' hfitv hcurv hv1
      exact H7.to (i := 1) rfl
    · intro u hu
      simp only [List.mem_append] at hu
      rcases hu with (hu | hu) | hu
      · exact hc1 u (List.mem_of_mem_take hu)
      · exact hv1 u hu
      · exact hc1 u (List.mem_of_mem_drop hu)

end Go.Proofs.Ytpenbdpgpamcbaa
