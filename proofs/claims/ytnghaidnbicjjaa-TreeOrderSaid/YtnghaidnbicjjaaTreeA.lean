/- tree: the slices' functions over keys, texts and kids. -/
import Derived.Test.YtnghaidnbicjjaaGwRoom
import Derived.Test.YtnghaidnbicjjaaGwTab
import Derived.Test.YtnghaidnbicjjaaSlicesA
set_option linter.unusedVariables false
set_option linter.unusedSimpArgs false
set_option maxRecDepth 20000
namespace Go.Proofs.Ytnghaidnbicjjaa
open Go Gw
attribute [local irreducible] W WO WD WF

theorem deleteInt_ok (c : Ctx) (w : World) (Own Ro : List Asn) (sv : Value) (n i : Nat) (cs : List Value) (H : St c w (raw 3 1 sv n cs :: Own) Ro) (hi : i < n) (hb : n ≤ 1073741824) :
    Calls Try.prog 91 #[sv, .int .i64 (i : Int), .int .i64 ((i + 1 : Nat) : Int)] w (Ret fun v w' => St c w' (raw 3 1 v (n - 1) (cs.take (i * 1) ++ cs.drop ((i + 1) * 1)) :: Own) Ro) := by
  refine calls_W (args := [_, _, _]) Try.func91 rfl Try.ntmps91 rfl ?_
  obtain ⟨hcl, hc1, a, cap, rfl, hnc, hcm⟩ := H.raw_len
  simp only [maxLen] at hcm
  (repeat (first | refine WO.run tabOk rfl rfl ?_ | refine WO.nil ?_ | refine WO.skip rfl rfl rfl ?_ | refine WO.pu tabOk rfl rfl rfl rfl ?_ | refine W.seq ?_ | refine W.region ?_ | refine W.block ?_ | refine W.skip ?_ | refine W.exit ?_))
  refine WO.pv rfl rfl rfl (PureV.slc3 tabOk rfl rfl rfl rfl rfl rfl rfl rfl (by omega) (by omega) (by omega) (by omega)) ?_
  (repeat (first | refine WO.run tabOk rfl rfl ?_ | refine WO.nil ?_ | refine WO.skip rfl rfl rfl ?_ | refine WO.pu tabOk rfl rfl rfl rfl ?_ | refine W.seq ?_ | refine W.region ?_ | refine W.block ?_ | refine W.skip ?_ | refine W.exit ?_))
  refine W.cond rfl (fun h => ?_) (fun h => ?_)
  · simp at h
    omega
  (repeat (first | refine WO.run tabOk rfl rfl ?_ | refine WO.nil ?_ | refine WO.skip rfl rfl rfl ?_ | refine WO.pu tabOk rfl rfl rfl rfl ?_ | refine W.seq ?_ | refine W.region ?_ | refine W.block ?_ | refine W.skip ?_ | refine W.exit ?_))
  refine W.regionD [] (HA []) [0, 1, 2, 3, 4, 5, 6, 7] rfl (by kernel_rfl) (fun _ _ _ h => h) ?_
  have H := H.drew
  have hA : HA [] w.drew := HA.nil _
  (repeat (first | refine WD.run tabOk rfl rfl ?_ | refine WD.hv rfl rfl rfl rfl rfl hA (HeldV.load1 tabOk rfl rfl rfl rfl (by (first | exact .head _ | exact .tail _ (.head _) | exact .tail _ (.tail _ (.head _)) | exact .tail _ (.tail _ (.tail _ (.head _))) | exact .tail _ (.tail _ (.tail _ (.tail _ (.head _)))) | exact .tail _ (.tail _ (.tail _ (.tail _ (.tail _ (.head _))))) | exact .tail _ (.tail _ (.tail _ (.tail _ (.tail _ (.tail _ (.head _)))))) | exact .tail _ (.tail _ (.tail _ (.tail _ (.tail _ (.tail _ (.tail _ (.head _))))))))) rfl) ?_ | refine WD.hv rfl rfl rfl rfl rfl hA (HeldV.loadA tabOk rfl rfl rfl rfl (by (first | exact .head _ | exact .tail _ (.head _) | exact .tail _ (.tail _ (.head _)) | exact .tail _ (.tail _ (.tail _ (.head _))) | exact .tail _ (.tail _ (.tail _ (.tail _ (.head _)))) | exact .tail _ (.tail _ (.tail _ (.tail _ (.tail _ (.head _))))) | exact .tail _ (.tail _ (.tail _ (.tail _ (.tail _ (.tail _ (.head _)))))) | exact .tail _ (.tail _ (.tail _ (.tail _ (.tail _ (.tail _ (.tail _ (.head _))))))))) rfl rfl) ?_ | refine WD.pu tabOk rfl rfl rfl rfl rfl rfl ?_))
  refine WD.pv rfl rfl rfl rfl rfl (PureV.slcTo (n := i) tabOk rfl rfl rfl rfl rfl rfl (by omega)) ?_
  (repeat (first | refine WD.run tabOk rfl rfl ?_ | refine WD.hv rfl rfl rfl rfl rfl hA (HeldV.load1 tabOk rfl rfl rfl rfl (by (first | exact .head _ | exact .tail _ (.head _) | exact .tail _ (.tail _ (.head _)) | exact .tail _ (.tail _ (.tail _ (.head _))) | exact .tail _ (.tail _ (.tail _ (.tail _ (.head _)))) | exact .tail _ (.tail _ (.tail _ (.tail _ (.tail _ (.head _))))) | exact .tail _ (.tail _ (.tail _ (.tail _ (.tail _ (.tail _ (.head _)))))) | exact .tail _ (.tail _ (.tail _ (.tail _ (.tail _ (.tail _ (.tail _ (.head _))))))))) rfl) ?_ | refine WD.hv rfl rfl rfl rfl rfl hA (HeldV.loadA tabOk rfl rfl rfl rfl (by (first | exact .head _ | exact .tail _ (.head _) | exact .tail _ (.tail _ (.head _)) | exact .tail _ (.tail _ (.tail _ (.head _))) | exact .tail _ (.tail _ (.tail _ (.tail _ (.head _)))) | exact .tail _ (.tail _ (.tail _ (.tail _ (.tail _ (.head _))))) | exact .tail _ (.tail _ (.tail _ (.tail _ (.tail _ (.tail _ (.head _)))))) | exact .tail _ (.tail _ (.tail _ (.tail _ (.tail _ (.tail _ (.tail _ (.head _))))))))) rfl rfl) ?_ | refine WD.pu tabOk rfl rfl rfl rfl rfl rfl ?_))
  refine WD.pv rfl rfl rfl rfl rfl (PureV.slcFrom (i := i + 1) tabOk rfl rfl rfl rfl rfl rfl (by omega) (by omega) rfl) ?_
  (repeat (first | refine WD.run tabOk rfl rfl ?_ | refine WD.hv rfl rfl rfl rfl rfl hA (HeldV.load1 tabOk rfl rfl rfl rfl (by (first | exact .head _ | exact .tail _ (.head _) | exact .tail _ (.tail _ (.head _)) | exact .tail _ (.tail _ (.tail _ (.head _))) | exact .tail _ (.tail _ (.tail _ (.tail _ (.head _)))) | exact .tail _ (.tail _ (.tail _ (.tail _ (.tail _ (.head _))))) | exact .tail _ (.tail _ (.tail _ (.tail _ (.tail _ (.tail _ (.head _)))))) | exact .tail _ (.tail _ (.tail _ (.tail _ (.tail _ (.tail _ (.tail _ (.head _))))))))) rfl) ?_ | refine WD.hv rfl rfl rfl rfl rfl hA (HeldV.loadA tabOk rfl rfl rfl rfl (by (first | exact .head _ | exact .tail _ (.head _) | exact .tail _ (.tail _ (.head _)) | exact .tail _ (.tail _ (.tail _ (.head _))) | exact .tail _ (.tail _ (.tail _ (.tail _ (.head _)))) | exact .tail _ (.tail _ (.tail _ (.tail _ (.tail _ (.head _))))) | exact .tail _ (.tail _ (.tail _ (.tail _ (.tail _ (.tail _ (.head _)))))) | exact .tail _ (.tail _ (.tail _ (.tail _ (.tail _ (.tail _ (.tail _ (.head _))))))))) rfl rfl) ?_ | refine WD.pu tabOk rfl rfl rfl rfl rfl rfl ?_))
  have hsh := raw_tail_shows (e := 3) (sz := 1) (n := n) (cap := cap) (j := i + 1) (a := a) (cs := cs) H (by simp) (by omega)
  have H1 := H.raw_cut (m := i) (by omega) (fun ha => by
    subst ha
    rcases H.open_raw with ⟨e1, rfl, _⟩ | ⟨g, o, cap', cur, e1, _⟩
    · omega
    · simp at e1)
  refine WD.one rfl rfl rfl rfl rfl (by kernel_rfl) (OpW.appendIn tabOk rfl rfl rfl zero3 rfl rfl H1 hsh (by omega) ?_)
  intro w1 H2
  (repeat (first | refine WD.run tabOk rfl rfl ?_ | refine WD.nil ?_))
  (repeat (first | refine WO.run tabOk rfl rfl ?_ | refine WO.nil ?_ | refine WO.skip rfl rfl rfl ?_ | refine WO.pu tabOk rfl rfl rfl rfl ?_ | refine W.seq ?_ | refine W.region ?_ | refine W.block ?_ | refine W.skip ?_ | refine W.exit ?_))
  refine WO.pv rfl rfl rfl (PureV.slcMid (l := i + (n - (i + 1))) (h := n) tabOk rfl rfl rfl rfl rfl rfl rfl (by omega) (by omega)) ?_
  rcases H2.open_raw with ⟨e1, _⟩ | ⟨g, o, cap', cur, e1, H3, hcur, hnc', hcm', hfit⟩
  · simp only [Value.slice.injEq] at e1
    omega
  simp only [Value.slice.injEq] at e1
  obtain ⟨rfl, _, rfl⟩ := e1
  have hn1 : i + (n - (i + 1)) = n - 1 := by omega
  have hn2 : n - (n - 1) = 1 := by omega
  rw [hn1, hn2] at *
  rw [cutA, if_neg (show ¬ cap = n - 1 by omega)]
  simp only [Option.map_some, Addr.add_lit]
  have hf1 : (n - 1) * 1 + 1 * 1 = n * 1 := by rw [← Nat.add_mul]; congr 1; omega
  have hf2 := Nat.mul_le_mul_right 1 hnc
  refine WO.act rfl rfl (OpW.clear (i := 0) tabOk rfl rfl rfl zero3 rfl rfl rfl H3 rfl (by omega) ?_)
  intro zs w2 hzl H4
  (repeat (first | refine WO.run tabOk rfl rfl ?_ | refine WO.nil ?_ | refine WO.skip rfl rfl rfl ?_ | refine WO.pu tabOk rfl rfl rfl rfl ?_ | refine W.seq ?_ | refine W.region ?_ | refine W.block ?_ | refine W.skip ?_ | refine W.exit ?_))
  refine W.ret (ret1 Try.results91 rfl ⟨_, rfl, ?_⟩)
  refine H4.close_raw (sz := 1) (n := n - 1) (o := o) (cap := cap) (by omega) hcm' (by rw [spliceL_len _ _ _ (by omega)]; exact hfit) ?_ (fun u hu => ?_)
  · rw [← hcur]
    refine window_eq (by rw [List.length_take, List.length_drop]; omega) (by rw [spliceL_len _ _ _ (by omega)]; omega) fun j hj => ?_
    rw [splice_get (by omega), if_pos (by omega), List.getElem?_take, if_pos (show j < (i + (n - (i + 1))) * 1 by rw [show i + (n - (i + 1)) = n - 1 by omega]; exact hj), List.getElem?_drop]
  · rcases List.mem_append.1 hu with hu | hu
    · exact hc1 u (List.mem_of_mem_take hu)
    · exact hc1 u (List.mem_of_mem_drop hu)

theorem deleteStr_ok (c : Ctx) (w : World) (Own Ro : List Asn) (sv : Value) (n i : Nat) (cs : List Value) (H : St c w (raw 9 1 sv n cs :: Own) Ro) (hi : i < n) (hb : n ≤ 1073741824) :
    Calls Try.prog 92 #[sv, .int .i64 (i : Int), .int .i64 ((i + 1 : Nat) : Int)] w (Ret fun v w' => St c w' (raw 9 1 v (n - 1) (cs.take (i * 1) ++ cs.drop ((i + 1) * 1)) :: Own) Ro) := by
  refine calls_W (args := [_, _, _]) Try.func92 rfl Try.ntmps92 rfl ?_
  obtain ⟨hcl, hc1, a, cap, rfl, hnc, hcm⟩ := H.raw_len
  simp only [maxLen] at hcm
  (repeat (first | refine WO.run tabOk rfl rfl ?_ | refine WO.nil ?_ | refine WO.skip rfl rfl rfl ?_ | refine WO.pu tabOk rfl rfl rfl rfl ?_ | refine W.seq ?_ | refine W.region ?_ | refine W.block ?_ | refine W.skip ?_ | refine W.exit ?_))
  refine WO.pv rfl rfl rfl (PureV.slc3 tabOk rfl rfl rfl rfl rfl rfl rfl rfl (by omega) (by omega) (by omega) (by omega)) ?_
  (repeat (first | refine WO.run tabOk rfl rfl ?_ | refine WO.nil ?_ | refine WO.skip rfl rfl rfl ?_ | refine WO.pu tabOk rfl rfl rfl rfl ?_ | refine W.seq ?_ | refine W.region ?_ | refine W.block ?_ | refine W.skip ?_ | refine W.exit ?_))
  refine W.cond rfl (fun h => ?_) (fun h => ?_)
  · simp at h
    omega
  (repeat (first | refine WO.run tabOk rfl rfl ?_ | refine WO.nil ?_ | refine WO.skip rfl rfl rfl ?_ | refine WO.pu tabOk rfl rfl rfl rfl ?_ | refine W.seq ?_ | refine W.region ?_ | refine W.block ?_ | refine W.skip ?_ | refine W.exit ?_))
  refine W.regionD [] (HA []) [0, 1, 2, 3, 4, 5, 6, 7] rfl (by kernel_rfl) (fun _ _ _ h => h) ?_
  have H := H.drew
  have hA : HA [] w.drew := HA.nil _
  (repeat (first | refine WD.run tabOk rfl rfl ?_ | refine WD.hv rfl rfl rfl rfl rfl hA (HeldV.load1 tabOk rfl rfl rfl rfl (by (first | exact .head _ | exact .tail _ (.head _) | exact .tail _ (.tail _ (.head _)) | exact .tail _ (.tail _ (.tail _ (.head _))) | exact .tail _ (.tail _ (.tail _ (.tail _ (.head _)))) | exact .tail _ (.tail _ (.tail _ (.tail _ (.tail _ (.head _))))) | exact .tail _ (.tail _ (.tail _ (.tail _ (.tail _ (.tail _ (.head _)))))) | exact .tail _ (.tail _ (.tail _ (.tail _ (.tail _ (.tail _ (.tail _ (.head _))))))))) rfl) ?_ | refine WD.hv rfl rfl rfl rfl rfl hA (HeldV.loadA tabOk rfl rfl rfl rfl (by (first | exact .head _ | exact .tail _ (.head _) | exact .tail _ (.tail _ (.head _)) | exact .tail _ (.tail _ (.tail _ (.head _))) | exact .tail _ (.tail _ (.tail _ (.tail _ (.head _)))) | exact .tail _ (.tail _ (.tail _ (.tail _ (.tail _ (.head _))))) | exact .tail _ (.tail _ (.tail _ (.tail _ (.tail _ (.tail _ (.head _)))))) | exact .tail _ (.tail _ (.tail _ (.tail _ (.tail _ (.tail _ (.tail _ (.head _))))))))) rfl rfl) ?_ | refine WD.pu tabOk rfl rfl rfl rfl rfl rfl ?_))
  refine WD.pv rfl rfl rfl rfl rfl (PureV.slcTo (n := i) tabOk rfl rfl rfl rfl rfl rfl (by omega)) ?_
  (repeat (first | refine WD.run tabOk rfl rfl ?_ | refine WD.hv rfl rfl rfl rfl rfl hA (HeldV.load1 tabOk rfl rfl rfl rfl (by (first | exact .head _ | exact .tail _ (.head _) | exact .tail _ (.tail _ (.head _)) | exact .tail _ (.tail _ (.tail _ (.head _))) | exact .tail _ (.tail _ (.tail _ (.tail _ (.head _)))) | exact .tail _ (.tail _ (.tail _ (.tail _ (.tail _ (.head _))))) | exact .tail _ (.tail _ (.tail _ (.tail _ (.tail _ (.tail _ (.head _)))))) | exact .tail _ (.tail _ (.tail _ (.tail _ (.tail _ (.tail _ (.tail _ (.head _))))))))) rfl) ?_ | refine WD.hv rfl rfl rfl rfl rfl hA (HeldV.loadA tabOk rfl rfl rfl rfl (by (first | exact .head _ | exact .tail _ (.head _) | exact .tail _ (.tail _ (.head _)) | exact .tail _ (.tail _ (.tail _ (.head _))) | exact .tail _ (.tail _ (.tail _ (.tail _ (.head _)))) | exact .tail _ (.tail _ (.tail _ (.tail _ (.tail _ (.head _))))) | exact .tail _ (.tail _ (.tail _ (.tail _ (.tail _ (.tail _ (.head _)))))) | exact .tail _ (.tail _ (.tail _ (.tail _ (.tail _ (.tail _ (.tail _ (.head _))))))))) rfl rfl) ?_ | refine WD.pu tabOk rfl rfl rfl rfl rfl rfl ?_))
  refine WD.pv rfl rfl rfl rfl rfl (PureV.slcFrom (i := i + 1) tabOk rfl rfl rfl rfl rfl rfl (by omega) (by omega) rfl) ?_
  (repeat (first | refine WD.run tabOk rfl rfl ?_ | refine WD.hv rfl rfl rfl rfl rfl hA (HeldV.load1 tabOk rfl rfl rfl rfl (by (first | exact .head _ | exact .tail _ (.head _) | exact .tail _ (.tail _ (.head _)) | exact .tail _ (.tail _ (.tail _ (.head _))) | exact .tail _ (.tail _ (.tail _ (.tail _ (.head _)))) | exact .tail _ (.tail _ (.tail _ (.tail _ (.tail _ (.head _))))) | exact .tail _ (.tail _ (.tail _ (.tail _ (.tail _ (.tail _ (.head _)))))) | exact .tail _ (.tail _ (.tail _ (.tail _ (.tail _ (.tail _ (.tail _ (.head _))))))))) rfl) ?_ | refine WD.hv rfl rfl rfl rfl rfl hA (HeldV.loadA tabOk rfl rfl rfl rfl (by (first | exact .head _ | exact .tail _ (.head _) | exact .tail _ (.tail _ (.head _)) | exact .tail _ (.tail _ (.tail _ (.head _))) | exact .tail _ (.tail _ (.tail _ (.tail _ (.head _)))) | exact .tail _ (.tail _ (.tail _ (.tail _ (.tail _ (.head _))))) | exact .tail _ (.tail _ (.tail _ (.tail _ (.tail _ (.tail _ (.head _)))))) | exact .tail _ (.tail _ (.tail _ (.tail _ (.tail _ (.tail _ (.tail _ (.head _))))))))) rfl rfl) ?_ | refine WD.pu tabOk rfl rfl rfl rfl rfl rfl ?_))
  have hsh := raw_tail_shows (e := 9) (sz := 1) (n := n) (cap := cap) (j := i + 1) (a := a) (cs := cs) H (by simp) (by omega)
  have H1 := H.raw_cut (m := i) (by omega) (fun ha => by
    subst ha
    rcases H.open_raw with ⟨e1, rfl, _⟩ | ⟨g, o, cap', cur, e1, _⟩
    · omega
    · simp at e1)
  refine WD.one rfl rfl rfl rfl rfl (by kernel_rfl) (OpW.appendIn tabOk rfl rfl rfl zero9 rfl rfl H1 hsh (by omega) ?_)
  intro w1 H2
  (repeat (first | refine WD.run tabOk rfl rfl ?_ | refine WD.nil ?_))
  (repeat (first | refine WO.run tabOk rfl rfl ?_ | refine WO.nil ?_ | refine WO.skip rfl rfl rfl ?_ | refine WO.pu tabOk rfl rfl rfl rfl ?_ | refine W.seq ?_ | refine W.region ?_ | refine W.block ?_ | refine W.skip ?_ | refine W.exit ?_))
  refine WO.pv rfl rfl rfl (PureV.slcMid (l := i + (n - (i + 1))) (h := n) tabOk rfl rfl rfl rfl rfl rfl rfl (by omega) (by omega)) ?_
  rcases H2.open_raw with ⟨e1, _⟩ | ⟨g, o, cap', cur, e1, H3, hcur, hnc', hcm', hfit⟩
  · simp only [Value.slice.injEq] at e1
    omega
  simp only [Value.slice.injEq] at e1
  obtain ⟨rfl, _, rfl⟩ := e1
  have hn1 : i + (n - (i + 1)) = n - 1 := by omega
  have hn2 : n - (n - 1) = 1 := by omega
  rw [hn1, hn2] at *
  rw [cutA, if_neg (show ¬ cap = n - 1 by omega)]
  simp only [Option.map_some, Addr.add_lit]
  have hf1 : (n - 1) * 1 + 1 * 1 = n * 1 := by rw [← Nat.add_mul]; congr 1; omega
  have hf2 := Nat.mul_le_mul_right 1 hnc
  refine WO.act rfl rfl (OpW.clear (i := 0) tabOk rfl rfl rfl zero9 rfl rfl rfl H3 rfl (by omega) ?_)
  intro zs w2 hzl H4
  (repeat (first | refine WO.run tabOk rfl rfl ?_ | refine WO.nil ?_ | refine WO.skip rfl rfl rfl ?_ | refine WO.pu tabOk rfl rfl rfl rfl ?_ | refine W.seq ?_ | refine W.region ?_ | refine W.block ?_ | refine W.skip ?_ | refine W.exit ?_))
  refine W.ret (ret1 Try.results92 rfl ⟨_, rfl, ?_⟩)
  refine H4.close_raw (sz := 1) (n := n - 1) (o := o) (cap := cap) (by omega) hcm' (by rw [spliceL_len _ _ _ (by omega)]; exact hfit) ?_ (fun u hu => ?_)
  · rw [← hcur]
    refine window_eq (by rw [List.length_take, List.length_drop]; omega) (by rw [spliceL_len _ _ _ (by omega)]; omega) fun j hj => ?_
    rw [splice_get (by omega), if_pos (by omega), List.getElem?_take, if_pos (show j < (i + (n - (i + 1))) * 1 by rw [show i + (n - (i + 1)) = n - 1 by omega]; exact hj), List.getElem?_drop]
  · rcases List.mem_append.1 hu with hu | hu
    · exact hc1 u (List.mem_of_mem_take hu)
    · exact hc1 u (List.mem_of_mem_drop hu)

theorem deleteKid_ok (c : Ctx) (w : World) (Own Ro : List Asn) (sv : Value) (n i : Nat) (cs : List Value) (H : St c w (raw 82 1 sv n cs :: Own) Ro) (hi : i < n) (hb : n ≤ 1073741824) :
    Calls Try.prog 144 #[sv, .int .i64 (i : Int), .int .i64 ((i + 1 : Nat) : Int)] w (Ret fun v w' => St c w' (raw 82 1 v (n - 1) (cs.take (i * 1) ++ cs.drop ((i + 1) * 1)) :: Own) Ro) := by
  refine calls_W (args := [_, _, _]) Try.func144 rfl Try.ntmps144 rfl ?_
  obtain ⟨hcl, hc1, a, cap, rfl, hnc, hcm⟩ := H.raw_len
  simp only [maxLen] at hcm
  (repeat (first | refine WO.run tabOk rfl rfl ?_ | refine WO.nil ?_ | refine WO.skip rfl rfl rfl ?_ | refine WO.pu tabOk rfl rfl rfl rfl ?_ | refine W.seq ?_ | refine W.region ?_ | refine W.block ?_ | refine W.skip ?_ | refine W.exit ?_))
  refine WO.pv rfl rfl rfl (PureV.slc3 tabOk rfl rfl rfl rfl rfl rfl rfl rfl (by omega) (by omega) (by omega) (by omega)) ?_
  (repeat (first | refine WO.run tabOk rfl rfl ?_ | refine WO.nil ?_ | refine WO.skip rfl rfl rfl ?_ | refine WO.pu tabOk rfl rfl rfl rfl ?_ | refine W.seq ?_ | refine W.region ?_ | refine W.block ?_ | refine W.skip ?_ | refine W.exit ?_))
  refine W.cond rfl (fun h => ?_) (fun h => ?_)
  · simp at h
    omega
  (repeat (first | refine WO.run tabOk rfl rfl ?_ | refine WO.nil ?_ | refine WO.skip rfl rfl rfl ?_ | refine WO.pu tabOk rfl rfl rfl rfl ?_ | refine W.seq ?_ | refine W.region ?_ | refine W.block ?_ | refine W.skip ?_ | refine W.exit ?_))
  refine W.regionD [] (HA []) [0, 1, 2, 3, 4, 5, 6, 7] rfl (by kernel_rfl) (fun _ _ _ h => h) ?_
  have H := H.drew
  have hA : HA [] w.drew := HA.nil _
  (repeat (first | refine WD.run tabOk rfl rfl ?_ | refine WD.hv rfl rfl rfl rfl rfl hA (HeldV.load1 tabOk rfl rfl rfl rfl (by (first | exact .head _ | exact .tail _ (.head _) | exact .tail _ (.tail _ (.head _)) | exact .tail _ (.tail _ (.tail _ (.head _))) | exact .tail _ (.tail _ (.tail _ (.tail _ (.head _)))) | exact .tail _ (.tail _ (.tail _ (.tail _ (.tail _ (.head _))))) | exact .tail _ (.tail _ (.tail _ (.tail _ (.tail _ (.tail _ (.head _)))))) | exact .tail _ (.tail _ (.tail _ (.tail _ (.tail _ (.tail _ (.tail _ (.head _))))))))) rfl) ?_ | refine WD.hv rfl rfl rfl rfl rfl hA (HeldV.loadA tabOk rfl rfl rfl rfl (by (first | exact .head _ | exact .tail _ (.head _) | exact .tail _ (.tail _ (.head _)) | exact .tail _ (.tail _ (.tail _ (.head _))) | exact .tail _ (.tail _ (.tail _ (.tail _ (.head _)))) | exact .tail _ (.tail _ (.tail _ (.tail _ (.tail _ (.head _))))) | exact .tail _ (.tail _ (.tail _ (.tail _ (.tail _ (.tail _ (.head _)))))) | exact .tail _ (.tail _ (.tail _ (.tail _ (.tail _ (.tail _ (.tail _ (.head _))))))))) rfl rfl) ?_ | refine WD.pu tabOk rfl rfl rfl rfl rfl rfl ?_))
  refine WD.pv rfl rfl rfl rfl rfl (PureV.slcTo (n := i) tabOk rfl rfl rfl rfl rfl rfl (by omega)) ?_
  (repeat (first | refine WD.run tabOk rfl rfl ?_ | refine WD.hv rfl rfl rfl rfl rfl hA (HeldV.load1 tabOk rfl rfl rfl rfl (by (first | exact .head _ | exact .tail _ (.head _) | exact .tail _ (.tail _ (.head _)) | exact .tail _ (.tail _ (.tail _ (.head _))) | exact .tail _ (.tail _ (.tail _ (.tail _ (.head _)))) | exact .tail _ (.tail _ (.tail _ (.tail _ (.tail _ (.head _))))) | exact .tail _ (.tail _ (.tail _ (.tail _ (.tail _ (.tail _ (.head _)))))) | exact .tail _ (.tail _ (.tail _ (.tail _ (.tail _ (.tail _ (.tail _ (.head _))))))))) rfl) ?_ | refine WD.hv rfl rfl rfl rfl rfl hA (HeldV.loadA tabOk rfl rfl rfl rfl (by (first | exact .head _ | exact .tail _ (.head _) | exact .tail _ (.tail _ (.head _)) | exact .tail _ (.tail _ (.tail _ (.head _))) | exact .tail _ (.tail _ (.tail _ (.tail _ (.head _)))) | exact .tail _ (.tail _ (.tail _ (.tail _ (.tail _ (.head _))))) | exact .tail _ (.tail _ (.tail _ (.tail _ (.tail _ (.tail _ (.head _)))))) | exact .tail _ (.tail _ (.tail _ (.tail _ (.tail _ (.tail _ (.tail _ (.head _))))))))) rfl rfl) ?_ | refine WD.pu tabOk rfl rfl rfl rfl rfl rfl ?_))
  refine WD.pv rfl rfl rfl rfl rfl (PureV.slcFrom (i := i + 1) tabOk rfl rfl rfl rfl rfl rfl (by omega) (by omega) rfl) ?_
  (repeat (first | refine WD.run tabOk rfl rfl ?_ | refine WD.hv rfl rfl rfl rfl rfl hA (HeldV.load1 tabOk rfl rfl rfl rfl (by (first | exact .head _ | exact .tail _ (.head _) | exact .tail _ (.tail _ (.head _)) | exact .tail _ (.tail _ (.tail _ (.head _))) | exact .tail _ (.tail _ (.tail _ (.tail _ (.head _)))) | exact .tail _ (.tail _ (.tail _ (.tail _ (.tail _ (.head _))))) | exact .tail _ (.tail _ (.tail _ (.tail _ (.tail _ (.tail _ (.head _)))))) | exact .tail _ (.tail _ (.tail _ (.tail _ (.tail _ (.tail _ (.tail _ (.head _))))))))) rfl) ?_ | refine WD.hv rfl rfl rfl rfl rfl hA (HeldV.loadA tabOk rfl rfl rfl rfl (by (first | exact .head _ | exact .tail _ (.head _) | exact .tail _ (.tail _ (.head _)) | exact .tail _ (.tail _ (.tail _ (.head _))) | exact .tail _ (.tail _ (.tail _ (.tail _ (.head _)))) | exact .tail _ (.tail _ (.tail _ (.tail _ (.tail _ (.head _))))) | exact .tail _ (.tail _ (.tail _ (.tail _ (.tail _ (.tail _ (.head _)))))) | exact .tail _ (.tail _ (.tail _ (.tail _ (.tail _ (.tail _ (.tail _ (.head _))))))))) rfl rfl) ?_ | refine WD.pu tabOk rfl rfl rfl rfl rfl rfl ?_))
  have hsh := raw_tail_shows (e := 82) (sz := 1) (n := n) (cap := cap) (j := i + 1) (a := a) (cs := cs) H (by simp) (by omega)
  have H1 := H.raw_cut (m := i) (by omega) (fun ha => by
    subst ha
    rcases H.open_raw with ⟨e1, rfl, _⟩ | ⟨g, o, cap', cur, e1, _⟩
    · omega
    · simp at e1)
  refine WD.one rfl rfl rfl rfl rfl (by kernel_rfl) (OpW.appendIn tabOk rfl rfl rfl zero82 rfl rfl H1 hsh (by omega) ?_)
  intro w1 H2
  (repeat (first | refine WD.run tabOk rfl rfl ?_ | refine WD.nil ?_))
  (repeat (first | refine WO.run tabOk rfl rfl ?_ | refine WO.nil ?_ | refine WO.skip rfl rfl rfl ?_ | refine WO.pu tabOk rfl rfl rfl rfl ?_ | refine W.seq ?_ | refine W.region ?_ | refine W.block ?_ | refine W.skip ?_ | refine W.exit ?_))
  refine WO.pv rfl rfl rfl (PureV.slcMid (l := i + (n - (i + 1))) (h := n) tabOk rfl rfl rfl rfl rfl rfl rfl (by omega) (by omega)) ?_
  rcases H2.open_raw with ⟨e1, _⟩ | ⟨g, o, cap', cur, e1, H3, hcur, hnc', hcm', hfit⟩
  · simp only [Value.slice.injEq] at e1
    omega
  simp only [Value.slice.injEq] at e1
  obtain ⟨rfl, _, rfl⟩ := e1
  have hn1 : i + (n - (i + 1)) = n - 1 := by omega
  have hn2 : n - (n - 1) = 1 := by omega
  rw [hn1, hn2] at *
  rw [cutA, if_neg (show ¬ cap = n - 1 by omega)]
  simp only [Option.map_some, Addr.add_lit]
  have hf1 : (n - 1) * 1 + 1 * 1 = n * 1 := by rw [← Nat.add_mul]; congr 1; omega
  have hf2 := Nat.mul_le_mul_right 1 hnc
  refine WO.act rfl rfl (OpW.clear (i := 0) tabOk rfl rfl rfl zero82 rfl rfl rfl H3 rfl (by omega) ?_)
  intro zs w2 hzl H4
  (repeat (first | refine WO.run tabOk rfl rfl ?_ | refine WO.nil ?_ | refine WO.skip rfl rfl rfl ?_ | refine WO.pu tabOk rfl rfl rfl rfl ?_ | refine W.seq ?_ | refine W.region ?_ | refine W.block ?_ | refine W.skip ?_ | refine W.exit ?_))
  refine W.ret (ret1 Try.results144 rfl ⟨_, rfl, ?_⟩)
  refine H4.close_raw (sz := 1) (n := n - 1) (o := o) (cap := cap) (by omega) hcm' (by rw [spliceL_len _ _ _ (by omega)]; exact hfit) ?_ (fun u hu => ?_)
  · rw [← hcur]
    refine window_eq (by rw [List.length_take, List.length_drop]; omega) (by rw [spliceL_len _ _ _ (by omega)]; omega) fun j hj => ?_
    rw [splice_get (by omega), if_pos (by omega), List.getElem?_take, if_pos (show j < (i + (n - (i + 1))) * 1 by rw [show i + (n - (i + 1)) = n - 1 by omega]; exact hj), List.getElem?_drop]
  · rcases List.mem_append.1 hu with hu | hu
    · exact hc1 u (List.mem_of_mem_take hu)
    · exact hc1 u (List.mem_of_mem_drop hu)

theorem insertInt_ok (c : Ctx) (w : World) (Own Ro : List Asn) (sv vv : Value) (n m i : Nat) (cs vs : List Value) (H : St c w (raw 3 1 sv n cs :: raw 3 1 vv m vs :: Own) Ro) (hi : i ≤ n) (hm : 0 < m) (hb : n + m ≤ 1073741824) :
    Calls Try.prog 95 #[sv, .int .i64 i, vv] w (Ret fun v w' => St c w' (raw 3 1 v (n + m) (cs.take (i * 1) ++ vs ++ cs.drop (i * 1)) :: raw 3 1 vv m vs :: Own) Ro) := by
  refine calls_W (args := [_, _, _]) Try.func95 rfl Try.ntmps95 rfl ?_
  obtain ⟨hcl, hc1, a, cap, rfl, hnc, hcm⟩ := H.raw_len
  obtain ⟨hvl, hv1, av, capv, rfl, hvc, hvm⟩ := (H.to (i := 1) rfl).raw_len
  simp only [maxLen] at hcm hvm
  (repeat (first | refine WO.run tabOk rfl rfl ?_ | refine WO.nil ?_ | refine WO.skip rfl rfl rfl ?_ | refine WO.pu tabOk rfl rfl rfl rfl ?_ | refine W.seq ?_ | refine W.region ?_ | refine W.block ?_ | refine W.skip ?_ | refine W.exit ?_))
  refine WO.pv rfl rfl rfl (PureV.slcFrom tabOk rfl rfl rfl rfl rfl rfl hi hnc rfl) ?_
  (repeat (first | refine WO.run tabOk rfl rfl ?_ | refine WO.nil ?_ | refine WO.skip rfl rfl rfl ?_ | refine WO.pu tabOk rfl rfl rfl rfl ?_ | refine W.seq ?_ | refine W.region ?_ | refine W.block ?_ | refine W.skip ?_ | refine W.exit ?_))
  refine W.cond rfl (fun h0 => (by simp at h0; omega)) (fun _ => ?_)
  (repeat (first | refine WO.run tabOk rfl rfl ?_ | refine WO.nil ?_ | refine WO.skip rfl rfl rfl ?_ | refine WO.pu tabOk rfl rfl rfl rfl ?_ | refine W.seq ?_ | refine W.region ?_ | refine W.block ?_ | refine W.skip ?_ | refine W.exit ?_))
  refine W.cond rfl (fun h1 => ?_) (fun h1 => ?_)
  · simp at h1
    obtain rfl : i = n := by omega
    (repeat (first | refine WO.run tabOk rfl rfl ?_ | refine WO.nil ?_ | refine WO.skip rfl rfl rfl ?_ | refine WO.pu tabOk rfl rfl rfl rfl ?_ | refine W.seq ?_ | refine W.region ?_ | refine W.block ?_ | refine W.skip ?_ | refine W.exit ?_))
    obtain ⟨av', capv', e1, _, _, hsh⟩ := raw_shows ((H.to (i := 1) rfl).holds (A := raw 3 1 (.slice av m capv) m vs) (by simp))
    simp only [Value.slice.injEq] at e1
    obtain ⟨rfl, _, rfl⟩ := e1
    refine WO.one rfl rfl rfl (OpW.append2 tabOk rfl rfl rfl rfl rfl zero3 rfl rfl rfl rfl H hsh (by omega) (by simp only [maxLen]; omega) ?_)
    intro v' w1 H1 _
    (repeat (first | refine WO.run tabOk rfl rfl ?_ | refine WO.nil ?_ | refine WO.skip rfl rfl rfl ?_ | refine WO.pu tabOk rfl rfl rfl rfl ?_ | refine W.seq ?_ | refine W.region ?_ | refine W.block ?_ | refine W.skip ?_ | refine W.exit ?_))
    refine W.ret (ret1 Try.results95 rfl ⟨_, rfl, ?_⟩)
    rw [← hcl, List.take_length, List.drop_length, List.append_nil]
    exact H1
  simp at h1
  rcases H.open_raw with ⟨e1, h, _⟩ | ⟨g, o, cap', cur, e1, Hs, hcur, hnc', hcm', hfit⟩
  · omega
  simp only [Value.slice.injEq] at e1
  obtain ⟨rfl, _, rfl⟩ := e1
  rcases (Hs.to (i := 1) rfl).open_raw with ⟨e1, h, _⟩ | ⟨gv, ov, capv', curv, e1, Hv, hcurv, hvc', hvm', hfitv⟩
  · omega
  simp only [Value.slice.injEq] at e1
  obtain ⟨rfl, _, rfl⟩ := e1
  have hne := Hv.blk_ne
  have hvs : ∀ {w : World} {Own Ro : List Asn} {c : Ctx}, St c w Own Ro → blk gv 3 curv ∈ Own ++ Ro → Shows w 1 (some ⟨gv, ov, none⟩) m vs := fun H hm => ⟨hvl, hv1, .inr ⟨_, rfl, blk_cells H hm (by rw [hvl]; exact hcurv)⟩⟩
  have hds : Shows w 1 (some ⟨g, o + i * 1, none⟩) (n - i) (cs.drop (i * 1)) := by
    refine ⟨by rw [List.length_drop, hcl]; omega, fun u hu => hc1 u (List.mem_of_mem_drop hu), .inr ⟨_, rfl, blk_cells (e := 3) (l := cur) Hs (by simp) ?_⟩⟩
    rw [← hcur, List.drop_take, List.drop_drop]
    simp only [List.length_take, List.length_drop]
    rw [Nat.min_eq_left (by omega)]
  have hnl : cur.length ≠ 0 := by omega
  (repeat (first | refine WO.run tabOk rfl rfl ?_ | refine WO.nil ?_ | refine WO.skip rfl rfl rfl ?_ | refine WO.pu tabOk rfl rfl rfl rfl ?_ | refine W.seq ?_ | refine W.region ?_ | refine W.block ?_ | refine W.skip ?_ | refine W.exit ?_))
  refine WO.pv rfl rfl rfl (PureV.add (a := n) (b := m) rfl rfl rfl (by omega) (by omega)) ?_
  (repeat (first | refine WO.run tabOk rfl rfl ?_ | refine WO.nil ?_ | refine WO.skip rfl rfl rfl ?_ | refine WO.pu tabOk rfl rfl rfl rfl ?_ | refine W.seq ?_ | refine W.region ?_ | refine W.block ?_ | refine W.skip ?_ | refine W.exit ?_))
  refine W.cond rfl (fun h2 => ?_) (fun h2 => ?_)
  · simp at h2
    have h2 : cap < n + m := by omega
    (repeat (first | refine WO.run tabOk rfl rfl ?_ | refine WO.nil ?_ | refine WO.skip rfl rfl rfl ?_ | refine WO.pu tabOk rfl rfl rfl rfl ?_ | refine W.seq ?_ | refine W.region ?_ | refine W.block ?_ | refine W.skip ?_ | refine W.exit ?_))
    refine WO.pv rfl rfl rfl (PureV.slcTo tabOk rfl rfl rfl rfl rfl rfl (by omega)) ?_
    (repeat (first | refine WO.run tabOk rfl rfl ?_ | refine WO.nil ?_ | refine WO.skip rfl rfl rfl ?_ | refine WO.pu tabOk rfl rfl rfl rfl ?_ | refine W.seq ?_ | refine W.region ?_ | refine W.block ?_ | refine W.skip ?_ | refine W.exit ?_))
    refine WO.pv rfl rfl rfl (PureV.add (a := n) (b := m) rfl rfl rfl (by omega) (by omega)) ?_
    (repeat (first | refine WO.run tabOk rfl rfl ?_ | refine WO.nil ?_ | refine WO.skip rfl rfl rfl ?_ | refine WO.pu tabOk rfl rfl rfl rfl ?_ | refine W.seq ?_ | refine W.region ?_ | refine W.block ?_ | refine W.skip ?_ | refine W.exit ?_))
    refine WO.pv rfl rfl rfl (PureV.sub (a := (n : Int) + m) (b := i) rfl rfl rfl (by omega) (by omega)) ?_
    obtain ⟨k, hk⟩ : ∃ k : Nat, ((n : Int) + m - i) = k := ⟨n + m - i, by omega⟩
    rw [hk]
    have hk' : i + k = n + m := by omega
    refine WO.one rfl rfl rfl (OpW.appendZ tabOk (k := k) (cap := cap) (n := i) rfl rfl rfl rfl rfl zero3 rfl rfl rfl rfl rfl (by omega) (by omega) Hv (cs := cs.take (i * 1)) ?_ (by rw [List.length_take, hcl]; omega) (by simp only [maxLen]; omega) (by omega) (by simp only [maxLen]; omega) ?_)
    · refine blk_cells (e := 3) (l := cur) Hs (by simp) ?_
      rw [← hcur, List.take_take, List.length_take, List.length_drop]
      rw [Nat.min_eq_left (show min (i * 1) (n * 1) ≤ cur.length - o by omega)]
    intro g2 cap2 zs w2 hc2 hm2 hzl hz1 H2
    have hz : n * 1 + m * 1 ≤ i * 1 + zs.length := by omega
    have htl : (cs.take (i * 1)).length = i * 1 := by rw [List.length_take, hcl]; omega
    have hl0 : (cs.take (i * 1) ++ zs).length = i * 1 + zs.length := by rw [List.length_append, htl]
    simp only [maxLen] at hm2
    (repeat (first | refine WO.run tabOk rfl rfl ?_ | refine WO.nil ?_ | refine WO.skip rfl rfl rfl ?_ | refine WO.pu tabOk rfl rfl rfl rfl ?_ | refine W.seq ?_ | refine W.region ?_ | refine W.block ?_ | refine W.skip ?_ | refine W.exit ?_))
    refine WO.pv rfl rfl rfl (PureV.slcFrom tabOk rfl rfl rfl rfl rfl rfl (show i ≤ i + k by omega) hc2 rfl) ?_
    rw [cutA, if_neg (show ¬ cap2 = i by omega)]
    simp only [Option.map_some, Addr.add_lit]
    (repeat (first | refine WO.run tabOk rfl rfl ?_ | refine WO.nil ?_ | refine WO.skip rfl rfl rfl ?_ | refine WO.pu tabOk rfl rfl rfl rfl ?_ | refine W.seq ?_ | refine W.region ?_ | refine W.block ?_ | refine W.skip ?_ | refine W.exit ?_))
    refine WO.one rfl rfl rfl (OpW.copy (i := 0) (m := m) tabOk rfl rfl rfl rfl rfl rfl (by omega) H2 rfl (hvs H2 (by simp)) (by omega) ?_)
    intro w3 H3
    have hl1 : (spliceL (cs.take (i * 1) ++ zs) (0 + i * 1) vs).length = i * 1 + zs.length := by rw [spliceL_len _ _ _ (by omega), hl0]
    (repeat (first | refine WO.run tabOk rfl rfl ?_ | refine WO.nil ?_ | refine WO.skip rfl rfl rfl ?_ | refine WO.pu tabOk rfl rfl rfl rfl ?_ | refine W.seq ?_ | refine W.region ?_ | refine W.block ?_ | refine W.skip ?_ | refine W.exit ?_))
    refine W.regionD [] (HA []) [0, 1, 2, 3, 4, 5, 6, 7, 8] rfl (by kernel_rfl) (fun _ _ _ h => h) ?_
    (repeat (first | refine WD.run tabOk rfl rfl ?_ | refine WD.nil ?_))
    refine WD.pv rfl rfl rfl rfl rfl (PureV.add (a := i) (b := m) rfl rfl rfl (by omega) (by omega)) ?_
    (repeat (first | refine WD.run tabOk rfl rfl ?_ | refine WD.nil ?_))
    rw [show (i : Int) + m = ((i + m : Nat) : Int) by omega]
    refine WD.pv rfl rfl rfl rfl rfl (PureV.slcFrom tabOk rfl rfl rfl rfl rfl rfl (show i + m ≤ i + k by omega) hc2 rfl) ?_
    (repeat (first | refine WD.run tabOk rfl rfl ?_ | refine WD.nil ?_))
    refine WD.pv rfl rfl rfl rfl rfl (PureV.slcFrom tabOk rfl rfl rfl rfl rfl rfl hi hnc rfl) ?_
    rw [cutA, cutA, if_neg (show ¬ cap = i by omega), if_neg (show ¬ cap2 = i + m by omega)]
    simp only [Option.map_some, Addr.add_lit]
    have H3 := H3.drew
    have hds3 : Shows w3.drew 1 (some ⟨g, o + i * 1, none⟩) (n - i) (cs.drop (i * 1)) := by
      refine ⟨hds.1, hds.2.1, .inr ⟨_, rfl, blk_cells (e := 3) (l := cur) H3 (by simp) ?_⟩⟩
      rw [← hcur, List.drop_take, List.drop_drop]
      simp only [List.length_take, List.length_drop]
      rw [Nat.min_eq_left (by omega)]
    refine WD.one rfl rfl rfl rfl rfl rfl (OpW.copy (i := 0) (m := n - i) tabOk rfl rfl rfl rfl rfl rfl (by omega) H3 rfl hds3 (by omega) ?_)
    intro w4 H4
    (repeat (first | refine WD.run tabOk rfl rfl ?_ | refine WD.nil ?_))
    (repeat (first | refine WO.run tabOk rfl rfl ?_ | refine WO.nil ?_ | refine WO.skip rfl rfl rfl ?_ | refine WO.pu tabOk rfl rfl rfl rfl ?_ | refine W.seq ?_ | refine W.region ?_ | refine W.block ?_ | refine W.skip ?_ | refine W.exit ?_))
    refine W.ret (ret1 Try.results95 rfl ⟨_, rfl, ?_⟩)
    have hins := insert_new (cs := cs) (vs := vs) (zs := zs) (A := i * 1) (B := m * 1) (C := n * 1) hcl (by omega) hz hvl
    rw [Nat.zero_add, Nat.zero_add, show (i + m) * 1 = i * 1 + m * 1 by omega] at H4
    have H5 := H4.close_raw (sz := 1) (n := n + m) (o := 0) (cap := cap2) (cs := cs.take (i * 1) ++ vs ++ cs.drop (i * 1)) (by omega) (by simp only [maxLen]; omega) (by rw [hins.2]; omega) (by rw [show (n + m) * 1 = n * 1 + m * 1 by omega]; exact hins.1) ?_
    · rw [hk']
      have H6 := (H5.to (i := 1) rfl).close_raw (sz := 1) (n := m) (o := ov) (cap := capv) (cs := vs) hvc hvm' hfitv hcurv hv1
      exact ((H6.to (i := 2) rfl).drop).to (i := 1) rfl
    · intro u hu
      simp only [List.mem_append] at hu
      rcases hu with (hu | hu) | hu
      · exact hc1 u (List.mem_of_mem_take hu)
      · exact hv1 u hu
      · exact hc1 u (List.mem_of_mem_drop hu)
  · simp at h2
    have h2 : n + m ≤ cap := by omega
    (repeat (first | refine WO.run tabOk rfl rfl ?_ | refine WO.nil ?_ | refine WO.skip rfl rfl rfl ?_ | refine WO.pu tabOk rfl rfl rfl rfl ?_ | refine W.seq ?_ | refine W.region ?_ | refine W.block ?_ | refine W.skip ?_ | refine W.exit ?_))
    refine WO.pv rfl rfl rfl (PureV.add (a := n) (b := m) rfl rfl rfl (by omega) (by omega)) ?_
    rw [show (n : Int) + m = ((n + m : Nat) : Int) by omega]
    refine WO.pv rfl rfl rfl (PureV.slcTo tabOk rfl rfl rfl rfl rfl rfl (by omega)) ?_
    (repeat (first | refine WO.run tabOk rfl rfl ?_ | refine WO.nil ?_ | refine WO.skip rfl rfl rfl ?_ | refine WO.pu tabOk rfl rfl rfl rfl ?_ | refine W.seq ?_ | refine W.region ?_ | refine W.block ?_ | refine W.skip ?_ | refine W.exit ?_))
    refine WO.pv rfl rfl rfl (PureV.add (a := i) (b := m) rfl rfl rfl (by omega) (by omega)) ?_
    rw [show (i : Int) + m = ((i + m : Nat) : Int) by omega]
    refine WO.pv rfl rfl rfl (PureV.slcFrom tabOk rfl rfl rfl rfl rfl rfl (show i + m ≤ n + m by omega) (by omega) rfl) ?_
    rw [cutA, if_neg (show ¬ cap = i + m by omega)]
    simp only [Option.map_some, Addr.add_lit]
    refine WO.one rfl rfl rfl (OpW.overlaps (tS := 30) (tR := 4) tabOk rfl Try.func125 (by kernel_rfl) (by kernel_rfl) (by kernel_rfl) (by kernel_rfl) rfl rfl rfl rfl Hv (.head _) (.tail _ (.head _)) hne hnl ?_)
    (repeat (first | refine WO.run tabOk rfl rfl ?_ | refine WO.nil ?_ | refine WO.skip rfl rfl rfl ?_ | refine WO.pu tabOk rfl rfl rfl rfl ?_ | refine W.seq ?_ | refine W.region ?_ | refine W.block ?_ | refine W.skip ?_ | refine W.exit ?_))
    refine W.cond_t rfl ?_
    (repeat (first | refine WO.run tabOk rfl rfl ?_ | refine WO.nil ?_ | refine WO.skip rfl rfl rfl ?_ | refine WO.pu tabOk rfl rfl rfl rfl ?_ | refine W.seq ?_ | refine W.region ?_ | refine W.block ?_ | refine W.skip ?_ | refine W.exit ?_))
    refine W.regionD [] (HA []) [0, 1, 2, 3, 4, 5, 6, 7, 8] rfl (by kernel_rfl) (fun _ _ _ h => h) ?_
    (repeat (first | refine WD.run tabOk rfl rfl ?_ | refine WD.nil ?_))
    refine WD.pv rfl rfl rfl rfl rfl (PureV.add (a := i) (b := m) rfl rfl rfl (by omega) (by omega)) ?_
    (repeat (first | refine WD.run tabOk rfl rfl ?_ | refine WD.nil ?_))
    rw [show (i : Int) + m = ((i + m : Nat) : Int) by omega]
    refine WD.pv rfl rfl rfl rfl rfl (PureV.slcFrom tabOk rfl rfl rfl rfl rfl rfl (show i + m ≤ n + m by omega) (by omega) rfl) ?_
    (repeat (first | refine WD.run tabOk rfl rfl ?_ | refine WD.nil ?_))
    refine WD.pv rfl rfl rfl rfl rfl (PureV.slcFrom tabOk rfl rfl rfl rfl rfl rfl (show i ≤ n + m by omega) (by omega) rfl) ?_
    rw [cutA, cutA, if_neg (show ¬ cap = i by omega), if_neg (show ¬ cap = i + m by omega)]
    simp only [Option.map_some, Addr.add_lit]
    have H3 := Hv.drew
    have hds3 : Shows w.drew 1 (some ⟨g, o + i * 1, none⟩) (n - i) (cs.drop (i * 1)) := by
      refine ⟨hds.1, hds.2.1, .inr ⟨_, rfl, blk_cells (e := 3) (l := cur) H3 (by simp) ?_⟩⟩
      rw [← hcur, List.drop_take, List.drop_drop]
      simp only [List.length_take, List.length_drop]
      rw [Nat.min_eq_left (by omega)]
    refine WD.one rfl rfl rfl rfl rfl rfl (OpW.copy (i := 1) (m := n - i) tabOk rfl rfl rfl rfl rfl rfl (by omega) H3 rfl hds3 (by omega) ?_)
    intro w4 H4
    (repeat (first | refine WD.run tabOk rfl rfl ?_ | refine WD.nil ?_))
    (repeat (first | refine WO.run tabOk rfl rfl ?_ | refine WO.nil ?_ | refine WO.skip rfl rfl rfl ?_ | refine WO.pu tabOk rfl rfl rfl rfl ?_ | refine W.seq ?_ | refine W.region ?_ | refine W.block ?_ | refine W.skip ?_ | refine W.exit ?_))
    refine WO.pv rfl rfl rfl (PureV.slcFrom tabOk rfl rfl rfl rfl rfl rfl (show i ≤ n + m by omega) (by omega) rfl) ?_
    rw [cutA, if_neg (show ¬ cap = i by omega)]
    simp only [Option.map_some, Addr.add_lit]
    (repeat (first | refine WO.run tabOk rfl rfl ?_ | refine WO.nil ?_ | refine WO.skip rfl rfl rfl ?_ | refine WO.pu tabOk rfl rfl rfl rfl ?_ | refine W.seq ?_ | refine W.region ?_ | refine W.block ?_ | refine W.skip ?_ | refine W.exit ?_))
    have hl1 : (spliceL cur (o + (i + m) * 1) (cs.drop (i * 1))).length = cur.length := spliceL_len _ _ _ (by rw [List.length_drop]; omega)
    refine WO.one rfl rfl rfl (OpW.copy (i := 0) (m := m) tabOk rfl rfl rfl rfl rfl rfl (by omega) H4 rfl (hvs H4 (by simp)) (by omega) ?_)
    intro w5 H5
    (repeat (first | refine WO.run tabOk rfl rfl ?_ | refine WO.nil ?_ | refine WO.skip rfl rfl rfl ?_ | refine WO.pu tabOk rfl rfl rfl rfl ?_ | refine W.seq ?_ | refine W.region ?_ | refine W.block ?_ | refine W.skip ?_ | refine W.exit ?_))
    refine W.ret (ret1 Try.results95 rfl ⟨_, rfl, ?_⟩)
    have hins := insert_cells (cs := cs) (vs := vs) (o := o) (A := i * 1) (B := m * 1) (C := n * 1) hcur hcl (by omega) (by omega) hvl
    rw [show (i + m) * 1 = i * 1 + m * 1 by omega] at H5
    have H6 := H5.close_raw (sz := 1) (n := n + m) (o := o) (cap := cap) (cs := cs.take (i * 1) ++ vs ++ cs.drop (i * 1)) (by omega) hcm' (by rw [hins.2]; omega) (by rw [show (n + m) * 1 = n * 1 + m * 1 by omega]; exact hins.1) ?_
    · have H7 := (H6.to (i := 1) rfl).close_raw (sz := 1) (n := m) (o := ov) (cap := capv) (cs := vs) hvc hvm' hfitv hcurv hv1
      exact H7.to (i := 1) rfl
    · intro u hu
      simp only [List.mem_append] at hu
      rcases hu with (hu | hu) | hu
      · exact hc1 u (List.mem_of_mem_take hu)
      · exact hv1 u hu
      · exact hc1 u (List.mem_of_mem_drop hu)

theorem insertStr_ok (c : Ctx) (w : World) (Own Ro : List Asn) (sv vv : Value) (n m i : Nat) (cs vs : List Value) (H : St c w (raw 9 1 sv n cs :: raw 9 1 vv m vs :: Own) Ro) (hi : i ≤ n) (hm : 0 < m) (hb : n + m ≤ 1073741824) :
    Calls Try.prog 96 #[sv, .int .i64 i, vv] w (Ret fun v w' => St c w' (raw 9 1 v (n + m) (cs.take (i * 1) ++ vs ++ cs.drop (i * 1)) :: raw 9 1 vv m vs :: Own) Ro) := by
  refine calls_W (args := [_, _, _]) Try.func96 rfl Try.ntmps96 rfl ?_
  obtain ⟨hcl, hc1, a, cap, rfl, hnc, hcm⟩ := H.raw_len
  obtain ⟨hvl, hv1, av, capv, rfl, hvc, hvm⟩ := (H.to (i := 1) rfl).raw_len
  simp only [maxLen] at hcm hvm
  (repeat (first | refine WO.run tabOk rfl rfl ?_ | refine WO.nil ?_ | refine WO.skip rfl rfl rfl ?_ | refine WO.pu tabOk rfl rfl rfl rfl ?_ | refine W.seq ?_ | refine W.region ?_ | refine W.block ?_ | refine W.skip ?_ | refine W.exit ?_))
  refine WO.pv rfl rfl rfl (PureV.slcFrom tabOk rfl rfl rfl rfl rfl rfl hi hnc rfl) ?_
  (repeat (first | refine WO.run tabOk rfl rfl ?_ | refine WO.nil ?_ | refine WO.skip rfl rfl rfl ?_ | refine WO.pu tabOk rfl rfl rfl rfl ?_ | refine W.seq ?_ | refine W.region ?_ | refine W.block ?_ | refine W.skip ?_ | refine W.exit ?_))
  refine W.cond rfl (fun h0 => (by simp at h0; omega)) (fun _ => ?_)
  (repeat (first | refine WO.run tabOk rfl rfl ?_ | refine WO.nil ?_ | refine WO.skip rfl rfl rfl ?_ | refine WO.pu tabOk rfl rfl rfl rfl ?_ | refine W.seq ?_ | refine W.region ?_ | refine W.block ?_ | refine W.skip ?_ | refine W.exit ?_))
  refine W.cond rfl (fun h1 => ?_) (fun h1 => ?_)
  · simp at h1
    obtain rfl : i = n := by omega
    (repeat (first | refine WO.run tabOk rfl rfl ?_ | refine WO.nil ?_ | refine WO.skip rfl rfl rfl ?_ | refine WO.pu tabOk rfl rfl rfl rfl ?_ | refine W.seq ?_ | refine W.region ?_ | refine W.block ?_ | refine W.skip ?_ | refine W.exit ?_))
    obtain ⟨av', capv', e1, _, _, hsh⟩ := raw_shows ((H.to (i := 1) rfl).holds (A := raw 9 1 (.slice av m capv) m vs) (by simp))
    simp only [Value.slice.injEq] at e1
    obtain ⟨rfl, _, rfl⟩ := e1
    refine WO.one rfl rfl rfl (OpW.append2 tabOk rfl rfl rfl rfl rfl zero9 rfl rfl rfl rfl H hsh (by omega) (by simp only [maxLen]; omega) ?_)
    intro v' w1 H1 _
    (repeat (first | refine WO.run tabOk rfl rfl ?_ | refine WO.nil ?_ | refine WO.skip rfl rfl rfl ?_ | refine WO.pu tabOk rfl rfl rfl rfl ?_ | refine W.seq ?_ | refine W.region ?_ | refine W.block ?_ | refine W.skip ?_ | refine W.exit ?_))
    refine W.ret (ret1 Try.results96 rfl ⟨_, rfl, ?_⟩)
    rw [← hcl, List.take_length, List.drop_length, List.append_nil]
    exact H1
  simp at h1
  rcases H.open_raw with ⟨e1, h, _⟩ | ⟨g, o, cap', cur, e1, Hs, hcur, hnc', hcm', hfit⟩
  · omega
  simp only [Value.slice.injEq] at e1
  obtain ⟨rfl, _, rfl⟩ := e1
  rcases (Hs.to (i := 1) rfl).open_raw with ⟨e1, h, _⟩ | ⟨gv, ov, capv', curv, e1, Hv, hcurv, hvc', hvm', hfitv⟩
  · omega
  simp only [Value.slice.injEq] at e1
  obtain ⟨rfl, _, rfl⟩ := e1
  have hne := Hv.blk_ne
  have hvs : ∀ {w : World} {Own Ro : List Asn} {c : Ctx}, St c w Own Ro → blk gv 9 curv ∈ Own ++ Ro → Shows w 1 (some ⟨gv, ov, none⟩) m vs := fun H hm => ⟨hvl, hv1, .inr ⟨_, rfl, blk_cells H hm (by rw [hvl]; exact hcurv)⟩⟩
  have hds : Shows w 1 (some ⟨g, o + i * 1, none⟩) (n - i) (cs.drop (i * 1)) := by
    refine ⟨by rw [List.length_drop, hcl]; omega, fun u hu => hc1 u (List.mem_of_mem_drop hu), .inr ⟨_, rfl, blk_cells (e := 9) (l := cur) Hs (by simp) ?_⟩⟩
    rw [← hcur, List.drop_take, List.drop_drop]
    simp only [List.length_take, List.length_drop]
    rw [Nat.min_eq_left (by omega)]
  have hnl : cur.length ≠ 0 := by omega
  (repeat (first | refine WO.run tabOk rfl rfl ?_ | refine WO.nil ?_ | refine WO.skip rfl rfl rfl ?_ | refine WO.pu tabOk rfl rfl rfl rfl ?_ | refine W.seq ?_ | refine W.region ?_ | refine W.block ?_ | refine W.skip ?_ | refine W.exit ?_))
  refine WO.pv rfl rfl rfl (PureV.add (a := n) (b := m) rfl rfl rfl (by omega) (by omega)) ?_
  (repeat (first | refine WO.run tabOk rfl rfl ?_ | refine WO.nil ?_ | refine WO.skip rfl rfl rfl ?_ | refine WO.pu tabOk rfl rfl rfl rfl ?_ | refine W.seq ?_ | refine W.region ?_ | refine W.block ?_ | refine W.skip ?_ | refine W.exit ?_))
  refine W.cond rfl (fun h2 => ?_) (fun h2 => ?_)
  · simp at h2
    have h2 : cap < n + m := by omega
    (repeat (first | refine WO.run tabOk rfl rfl ?_ | refine WO.nil ?_ | refine WO.skip rfl rfl rfl ?_ | refine WO.pu tabOk rfl rfl rfl rfl ?_ | refine W.seq ?_ | refine W.region ?_ | refine W.block ?_ | refine W.skip ?_ | refine W.exit ?_))
    refine WO.pv rfl rfl rfl (PureV.slcTo tabOk rfl rfl rfl rfl rfl rfl (by omega)) ?_
    (repeat (first | refine WO.run tabOk rfl rfl ?_ | refine WO.nil ?_ | refine WO.skip rfl rfl rfl ?_ | refine WO.pu tabOk rfl rfl rfl rfl ?_ | refine W.seq ?_ | refine W.region ?_ | refine W.block ?_ | refine W.skip ?_ | refine W.exit ?_))
    refine WO.pv rfl rfl rfl (PureV.add (a := n) (b := m) rfl rfl rfl (by omega) (by omega)) ?_
    (repeat (first | refine WO.run tabOk rfl rfl ?_ | refine WO.nil ?_ | refine WO.skip rfl rfl rfl ?_ | refine WO.pu tabOk rfl rfl rfl rfl ?_ | refine W.seq ?_ | refine W.region ?_ | refine W.block ?_ | refine W.skip ?_ | refine W.exit ?_))
    refine WO.pv rfl rfl rfl (PureV.sub (a := (n : Int) + m) (b := i) rfl rfl rfl (by omega) (by omega)) ?_
    obtain ⟨k, hk⟩ : ∃ k : Nat, ((n : Int) + m - i) = k := ⟨n + m - i, by omega⟩
    rw [hk]
    have hk' : i + k = n + m := by omega
    refine WO.one rfl rfl rfl (OpW.appendZ tabOk (k := k) (cap := cap) (n := i) rfl rfl rfl rfl rfl zero9 rfl rfl rfl rfl rfl (by omega) (by omega) Hv (cs := cs.take (i * 1)) ?_ (by rw [List.length_take, hcl]; omega) (by simp only [maxLen]; omega) (by omega) (by simp only [maxLen]; omega) ?_)
    · refine blk_cells (e := 9) (l := cur) Hs (by simp) ?_
      rw [← hcur, List.take_take, List.length_take, List.length_drop]
      rw [Nat.min_eq_left (show min (i * 1) (n * 1) ≤ cur.length - o by omega)]
    intro g2 cap2 zs w2 hc2 hm2 hzl hz1 H2
    have hz : n * 1 + m * 1 ≤ i * 1 + zs.length := by omega
    have htl : (cs.take (i * 1)).length = i * 1 := by rw [List.length_take, hcl]; omega
    have hl0 : (cs.take (i * 1) ++ zs).length = i * 1 + zs.length := by rw [List.length_append, htl]
    simp only [maxLen] at hm2
    (repeat (first | refine WO.run tabOk rfl rfl ?_ | refine WO.nil ?_ | refine WO.skip rfl rfl rfl ?_ | refine WO.pu tabOk rfl rfl rfl rfl ?_ | refine W.seq ?_ | refine W.region ?_ | refine W.block ?_ | refine W.skip ?_ | refine W.exit ?_))
    refine WO.pv rfl rfl rfl (PureV.slcFrom tabOk rfl rfl rfl rfl rfl rfl (show i ≤ i + k by omega) hc2 rfl) ?_
    rw [cutA, if_neg (show ¬ cap2 = i by omega)]
    simp only [Option.map_some, Addr.add_lit]
    (repeat (first | refine WO.run tabOk rfl rfl ?_ | refine WO.nil ?_ | refine WO.skip rfl rfl rfl ?_ | refine WO.pu tabOk rfl rfl rfl rfl ?_ | refine W.seq ?_ | refine W.region ?_ | refine W.block ?_ | refine W.skip ?_ | refine W.exit ?_))
    refine WO.one rfl rfl rfl (OpW.copy (i := 0) (m := m) tabOk rfl rfl rfl rfl rfl rfl (by omega) H2 rfl (hvs H2 (by simp)) (by omega) ?_)
    intro w3 H3
    have hl1 : (spliceL (cs.take (i * 1) ++ zs) (0 + i * 1) vs).length = i * 1 + zs.length := by rw [spliceL_len _ _ _ (by omega), hl0]
    (repeat (first | refine WO.run tabOk rfl rfl ?_ | refine WO.nil ?_ | refine WO.skip rfl rfl rfl ?_ | refine WO.pu tabOk rfl rfl rfl rfl ?_ | refine W.seq ?_ | refine W.region ?_ | refine W.block ?_ | refine W.skip ?_ | refine W.exit ?_))
    refine W.regionD [] (HA []) [0, 1, 2, 3, 4, 5, 6, 7, 8] rfl (by kernel_rfl) (fun _ _ _ h => h) ?_
    (repeat (first | refine WD.run tabOk rfl rfl ?_ | refine WD.nil ?_))
    refine WD.pv rfl rfl rfl rfl rfl (PureV.add (a := i) (b := m) rfl rfl rfl (by omega) (by omega)) ?_
    (repeat (first | refine WD.run tabOk rfl rfl ?_ | refine WD.nil ?_))
    rw [show (i : Int) + m = ((i + m : Nat) : Int) by omega]
    refine WD.pv rfl rfl rfl rfl rfl (PureV.slcFrom tabOk rfl rfl rfl rfl rfl rfl (show i + m ≤ i + k by omega) hc2 rfl) ?_
    (repeat (first | refine WD.run tabOk rfl rfl ?_ | refine WD.nil ?_))
    refine WD.pv rfl rfl rfl rfl rfl (PureV.slcFrom tabOk rfl rfl rfl rfl rfl rfl hi hnc rfl) ?_
    rw [cutA, cutA, if_neg (show ¬ cap = i by omega), if_neg (show ¬ cap2 = i + m by omega)]
    simp only [Option.map_some, Addr.add_lit]
    have H3 := H3.drew
    have hds3 : Shows w3.drew 1 (some ⟨g, o + i * 1, none⟩) (n - i) (cs.drop (i * 1)) := by
      refine ⟨hds.1, hds.2.1, .inr ⟨_, rfl, blk_cells (e := 9) (l := cur) H3 (by simp) ?_⟩⟩
      rw [← hcur, List.drop_take, List.drop_drop]
      simp only [List.length_take, List.length_drop]
      rw [Nat.min_eq_left (by omega)]
    refine WD.one rfl rfl rfl rfl rfl rfl (OpW.copy (i := 0) (m := n - i) tabOk rfl rfl rfl rfl rfl rfl (by omega) H3 rfl hds3 (by omega) ?_)
    intro w4 H4
    (repeat (first | refine WD.run tabOk rfl rfl ?_ | refine WD.nil ?_))
    (repeat (first | refine WO.run tabOk rfl rfl ?_ | refine WO.nil ?_ | refine WO.skip rfl rfl rfl ?_ | refine WO.pu tabOk rfl rfl rfl rfl ?_ | refine W.seq ?_ | refine W.region ?_ | refine W.block ?_ | refine W.skip ?_ | refine W.exit ?_))
    refine W.ret (ret1 Try.results96 rfl ⟨_, rfl, ?_⟩)
    have hins := insert_new (cs := cs) (vs := vs) (zs := zs) (A := i * 1) (B := m * 1) (C := n * 1) hcl (by omega) hz hvl
    rw [Nat.zero_add, Nat.zero_add, show (i + m) * 1 = i * 1 + m * 1 by omega] at H4
    have H5 := H4.close_raw (sz := 1) (n := n + m) (o := 0) (cap := cap2) (cs := cs.take (i * 1) ++ vs ++ cs.drop (i * 1)) (by omega) (by simp only [maxLen]; omega) (by rw [hins.2]; omega) (by rw [show (n + m) * 1 = n * 1 + m * 1 by omega]; exact hins.1) ?_
    · rw [hk']
      have H6 := (H5.to (i := 1) rfl).close_raw (sz := 1) (n := m) (o := ov) (cap := capv) (cs := vs) hvc hvm' hfitv hcurv hv1
      exact ((H6.to (i := 2) rfl).drop).to (i := 1) rfl
    · intro u hu
      simp only [List.mem_append] at hu
      rcases hu with (hu | hu) | hu
      · exact hc1 u (List.mem_of_mem_take hu)
      · exact hv1 u hu
      · exact hc1 u (List.mem_of_mem_drop hu)
  · simp at h2
    have h2 : n + m ≤ cap := by omega
    (repeat (first | refine WO.run tabOk rfl rfl ?_ | refine WO.nil ?_ | refine WO.skip rfl rfl rfl ?_ | refine WO.pu tabOk rfl rfl rfl rfl ?_ | refine W.seq ?_ | refine W.region ?_ | refine W.block ?_ | refine W.skip ?_ | refine W.exit ?_))
    refine WO.pv rfl rfl rfl (PureV.add (a := n) (b := m) rfl rfl rfl (by omega) (by omega)) ?_
    rw [show (n : Int) + m = ((n + m : Nat) : Int) by omega]
    refine WO.pv rfl rfl rfl (PureV.slcTo tabOk rfl rfl rfl rfl rfl rfl (by omega)) ?_
    (repeat (first | refine WO.run tabOk rfl rfl ?_ | refine WO.nil ?_ | refine WO.skip rfl rfl rfl ?_ | refine WO.pu tabOk rfl rfl rfl rfl ?_ | refine W.seq ?_ | refine W.region ?_ | refine W.block ?_ | refine W.skip ?_ | refine W.exit ?_))
    refine WO.pv rfl rfl rfl (PureV.add (a := i) (b := m) rfl rfl rfl (by omega) (by omega)) ?_
    rw [show (i : Int) + m = ((i + m : Nat) : Int) by omega]
    refine WO.pv rfl rfl rfl (PureV.slcFrom tabOk rfl rfl rfl rfl rfl rfl (show i + m ≤ n + m by omega) (by omega) rfl) ?_
    rw [cutA, if_neg (show ¬ cap = i + m by omega)]
    simp only [Option.map_some, Addr.add_lit]
    refine WO.one rfl rfl rfl (OpW.overlaps (tS := 86) (tR := 4) tabOk rfl Try.func127 (by kernel_rfl) (by kernel_rfl) (by kernel_rfl) (by kernel_rfl) rfl rfl rfl rfl Hv (.head _) (.tail _ (.head _)) hne hnl ?_)
    (repeat (first | refine WO.run tabOk rfl rfl ?_ | refine WO.nil ?_ | refine WO.skip rfl rfl rfl ?_ | refine WO.pu tabOk rfl rfl rfl rfl ?_ | refine W.seq ?_ | refine W.region ?_ | refine W.block ?_ | refine W.skip ?_ | refine W.exit ?_))
    refine W.cond_t rfl ?_
    (repeat (first | refine WO.run tabOk rfl rfl ?_ | refine WO.nil ?_ | refine WO.skip rfl rfl rfl ?_ | refine WO.pu tabOk rfl rfl rfl rfl ?_ | refine W.seq ?_ | refine W.region ?_ | refine W.block ?_ | refine W.skip ?_ | refine W.exit ?_))
    refine W.regionD [] (HA []) [0, 1, 2, 3, 4, 5, 6, 7, 8] rfl (by kernel_rfl) (fun _ _ _ h => h) ?_
    (repeat (first | refine WD.run tabOk rfl rfl ?_ | refine WD.nil ?_))
    refine WD.pv rfl rfl rfl rfl rfl (PureV.add (a := i) (b := m) rfl rfl rfl (by omega) (by omega)) ?_
    (repeat (first | refine WD.run tabOk rfl rfl ?_ | refine WD.nil ?_))
    rw [show (i : Int) + m = ((i + m : Nat) : Int) by omega]
    refine WD.pv rfl rfl rfl rfl rfl (PureV.slcFrom tabOk rfl rfl rfl rfl rfl rfl (show i + m ≤ n + m by omega) (by omega) rfl) ?_
    (repeat (first | refine WD.run tabOk rfl rfl ?_ | refine WD.nil ?_))
    refine WD.pv rfl rfl rfl rfl rfl (PureV.slcFrom tabOk rfl rfl rfl rfl rfl rfl (show i ≤ n + m by omega) (by omega) rfl) ?_
    rw [cutA, cutA, if_neg (show ¬ cap = i by omega), if_neg (show ¬ cap = i + m by omega)]
    simp only [Option.map_some, Addr.add_lit]
    have H3 := Hv.drew
    have hds3 : Shows w.drew 1 (some ⟨g, o + i * 1, none⟩) (n - i) (cs.drop (i * 1)) := by
      refine ⟨hds.1, hds.2.1, .inr ⟨_, rfl, blk_cells (e := 9) (l := cur) H3 (by simp) ?_⟩⟩
      rw [← hcur, List.drop_take, List.drop_drop]
      simp only [List.length_take, List.length_drop]
      rw [Nat.min_eq_left (by omega)]
    refine WD.one rfl rfl rfl rfl rfl rfl (OpW.copy (i := 1) (m := n - i) tabOk rfl rfl rfl rfl rfl rfl (by omega) H3 rfl hds3 (by omega) ?_)
    intro w4 H4
    (repeat (first | refine WD.run tabOk rfl rfl ?_ | refine WD.nil ?_))
    (repeat (first | refine WO.run tabOk rfl rfl ?_ | refine WO.nil ?_ | refine WO.skip rfl rfl rfl ?_ | refine WO.pu tabOk rfl rfl rfl rfl ?_ | refine W.seq ?_ | refine W.region ?_ | refine W.block ?_ | refine W.skip ?_ | refine W.exit ?_))
    refine WO.pv rfl rfl rfl (PureV.slcFrom tabOk rfl rfl rfl rfl rfl rfl (show i ≤ n + m by omega) (by omega) rfl) ?_
    rw [cutA, if_neg (show ¬ cap = i by omega)]
    simp only [Option.map_some, Addr.add_lit]
    (repeat (first | refine WO.run tabOk rfl rfl ?_ | refine WO.nil ?_ | refine WO.skip rfl rfl rfl ?_ | refine WO.pu tabOk rfl rfl rfl rfl ?_ | refine W.seq ?_ | refine W.region ?_ | refine W.block ?_ | refine W.skip ?_ | refine W.exit ?_))
    have hl1 : (spliceL cur (o + (i + m) * 1) (cs.drop (i * 1))).length = cur.length := spliceL_len _ _ _ (by rw [List.length_drop]; omega)
    refine WO.one rfl rfl rfl (OpW.copy (i := 0) (m := m) tabOk rfl rfl rfl rfl rfl rfl (by omega) H4 rfl (hvs H4 (by simp)) (by omega) ?_)
    intro w5 H5
    (repeat (first | refine WO.run tabOk rfl rfl ?_ | refine WO.nil ?_ | refine WO.skip rfl rfl rfl ?_ | refine WO.pu tabOk rfl rfl rfl rfl ?_ | refine W.seq ?_ | refine W.region ?_ | refine W.block ?_ | refine W.skip ?_ | refine W.exit ?_))
    refine W.ret (ret1 Try.results96 rfl ⟨_, rfl, ?_⟩)
    have hins := insert_cells (cs := cs) (vs := vs) (o := o) (A := i * 1) (B := m * 1) (C := n * 1) hcur hcl (by omega) (by omega) hvl
    rw [show (i + m) * 1 = i * 1 + m * 1 by omega] at H5
    have H6 := H5.close_raw (sz := 1) (n := n + m) (o := o) (cap := cap) (cs := cs.take (i * 1) ++ vs ++ cs.drop (i * 1)) (by omega) hcm' (by rw [hins.2]; omega) (by rw [show (n + m) * 1 = n * 1 + m * 1 by omega]; exact hins.1) ?_
    · have H7 := (H6.to (i := 1) rfl).close_raw (sz := 1) (n := m) (o := ov) (cap := capv) (cs := vs) hvc hvm' hfitv hcurv hv1
      exact H7.to (i := 1) rfl
    · intro u hu
      simp only [List.mem_append] at hu
      rcases hu with (hu | hu) | hu
      · exact hc1 u (List.mem_of_mem_take hu)
      · exact hv1 u hu
      · exact hc1 u (List.mem_of_mem_drop hu)

theorem insertKid_ok (c : Ctx) (w : World) (Own Ro : List Asn) (sv vv : Value) (n m i : Nat) (cs vs : List Value) (H : St c w (raw 82 1 sv n cs :: raw 82 1 vv m vs :: Own) Ro) (hi : i ≤ n) (hm : 0 < m) (hb : n + m ≤ 1073741824) :
    Calls Try.prog 98 #[sv, .int .i64 i, vv] w (Ret fun v w' => St c w' (raw 82 1 v (n + m) (cs.take (i * 1) ++ vs ++ cs.drop (i * 1)) :: raw 82 1 vv m vs :: Own) Ro) := by
  refine calls_W (args := [_, _, _]) Try.func98 rfl Try.ntmps98 rfl ?_
  obtain ⟨hcl, hc1, a, cap, rfl, hnc, hcm⟩ := H.raw_len
  obtain ⟨hvl, hv1, av, capv, rfl, hvc, hvm⟩ := (H.to (i := 1) rfl).raw_len
  simp only [maxLen] at hcm hvm
  (repeat (first | refine WO.run tabOk rfl rfl ?_ | refine WO.nil ?_ | refine WO.skip rfl rfl rfl ?_ | refine WO.pu tabOk rfl rfl rfl rfl ?_ | refine W.seq ?_ | refine W.region ?_ | refine W.block ?_ | refine W.skip ?_ | refine W.exit ?_))
  refine WO.pv rfl rfl rfl (PureV.slcFrom tabOk rfl rfl rfl rfl rfl rfl hi hnc rfl) ?_
  (repeat (first | refine WO.run tabOk rfl rfl ?_ | refine WO.nil ?_ | refine WO.skip rfl rfl rfl ?_ | refine WO.pu tabOk rfl rfl rfl rfl ?_ | refine W.seq ?_ | refine W.region ?_ | refine W.block ?_ | refine W.skip ?_ | refine W.exit ?_))
  refine W.cond rfl (fun h0 => (by simp at h0; omega)) (fun _ => ?_)
  (repeat (first | refine WO.run tabOk rfl rfl ?_ | refine WO.nil ?_ | refine WO.skip rfl rfl rfl ?_ | refine WO.pu tabOk rfl rfl rfl rfl ?_ | refine W.seq ?_ | refine W.region ?_ | refine W.block ?_ | refine W.skip ?_ | refine W.exit ?_))
  refine W.cond rfl (fun h1 => ?_) (fun h1 => ?_)
  · simp at h1
    obtain rfl : i = n := by omega
    (repeat (first | refine WO.run tabOk rfl rfl ?_ | refine WO.nil ?_ | refine WO.skip rfl rfl rfl ?_ | refine WO.pu tabOk rfl rfl rfl rfl ?_ | refine W.seq ?_ | refine W.region ?_ | refine W.block ?_ | refine W.skip ?_ | refine W.exit ?_))
    obtain ⟨av', capv', e1, _, _, hsh⟩ := raw_shows ((H.to (i := 1) rfl).holds (A := raw 82 1 (.slice av m capv) m vs) (by simp))
    simp only [Value.slice.injEq] at e1
    obtain ⟨rfl, _, rfl⟩ := e1
    refine WO.one rfl rfl rfl (OpW.append2 tabOk rfl rfl rfl rfl rfl zero82 rfl rfl rfl rfl H hsh (by omega) (by simp only [maxLen]; omega) ?_)
    intro v' w1 H1 _
    (repeat (first | refine WO.run tabOk rfl rfl ?_ | refine WO.nil ?_ | refine WO.skip rfl rfl rfl ?_ | refine WO.pu tabOk rfl rfl rfl rfl ?_ | refine W.seq ?_ | refine W.region ?_ | refine W.block ?_ | refine W.skip ?_ | refine W.exit ?_))
    refine W.ret (ret1 Try.results98 rfl ⟨_, rfl, ?_⟩)
    rw [← hcl, List.take_length, List.drop_length, List.append_nil]
    exact H1
  simp at h1
  rcases H.open_raw with ⟨e1, h, _⟩ | ⟨g, o, cap', cur, e1, Hs, hcur, hnc', hcm', hfit⟩
  · omega
  simp only [Value.slice.injEq] at e1
  obtain ⟨rfl, _, rfl⟩ := e1
  rcases (Hs.to (i := 1) rfl).open_raw with ⟨e1, h, _⟩ | ⟨gv, ov, capv', curv, e1, Hv, hcurv, hvc', hvm', hfitv⟩
  · omega
  simp only [Value.slice.injEq] at e1
  obtain ⟨rfl, _, rfl⟩ := e1
  have hne := Hv.blk_ne
  have hvs : ∀ {w : World} {Own Ro : List Asn} {c : Ctx}, St c w Own Ro → blk gv 82 curv ∈ Own ++ Ro → Shows w 1 (some ⟨gv, ov, none⟩) m vs := fun H hm => ⟨hvl, hv1, .inr ⟨_, rfl, blk_cells H hm (by rw [hvl]; exact hcurv)⟩⟩
  have hds : Shows w 1 (some ⟨g, o + i * 1, none⟩) (n - i) (cs.drop (i * 1)) := by
    refine ⟨by rw [List.length_drop, hcl]; omega, fun u hu => hc1 u (List.mem_of_mem_drop hu), .inr ⟨_, rfl, blk_cells (e := 82) (l := cur) Hs (by simp) ?_⟩⟩
    rw [← hcur, List.drop_take, List.drop_drop]
    simp only [List.length_take, List.length_drop]
    rw [Nat.min_eq_left (by omega)]
  have hnl : cur.length ≠ 0 := by omega
  (repeat (first | refine WO.run tabOk rfl rfl ?_ | refine WO.nil ?_ | refine WO.skip rfl rfl rfl ?_ | refine WO.pu tabOk rfl rfl rfl rfl ?_ | refine W.seq ?_ | refine W.region ?_ | refine W.block ?_ | refine W.skip ?_ | refine W.exit ?_))
  refine WO.pv rfl rfl rfl (PureV.add (a := n) (b := m) rfl rfl rfl (by omega) (by omega)) ?_
  (repeat (first | refine WO.run tabOk rfl rfl ?_ | refine WO.nil ?_ | refine WO.skip rfl rfl rfl ?_ | refine WO.pu tabOk rfl rfl rfl rfl ?_ | refine W.seq ?_ | refine W.region ?_ | refine W.block ?_ | refine W.skip ?_ | refine W.exit ?_))
  refine W.cond rfl (fun h2 => ?_) (fun h2 => ?_)
  · simp at h2
    have h2 : cap < n + m := by omega
    (repeat (first | refine WO.run tabOk rfl rfl ?_ | refine WO.nil ?_ | refine WO.skip rfl rfl rfl ?_ | refine WO.pu tabOk rfl rfl rfl rfl ?_ | refine W.seq ?_ | refine W.region ?_ | refine W.block ?_ | refine W.skip ?_ | refine W.exit ?_))
    refine WO.pv rfl rfl rfl (PureV.slcTo tabOk rfl rfl rfl rfl rfl rfl (by omega)) ?_
    (repeat (first | refine WO.run tabOk rfl rfl ?_ | refine WO.nil ?_ | refine WO.skip rfl rfl rfl ?_ | refine WO.pu tabOk rfl rfl rfl rfl ?_ | refine W.seq ?_ | refine W.region ?_ | refine W.block ?_ | refine W.skip ?_ | refine W.exit ?_))
    refine WO.pv rfl rfl rfl (PureV.add (a := n) (b := m) rfl rfl rfl (by omega) (by omega)) ?_
    (repeat (first | refine WO.run tabOk rfl rfl ?_ | refine WO.nil ?_ | refine WO.skip rfl rfl rfl ?_ | refine WO.pu tabOk rfl rfl rfl rfl ?_ | refine W.seq ?_ | refine W.region ?_ | refine W.block ?_ | refine W.skip ?_ | refine W.exit ?_))
    refine WO.pv rfl rfl rfl (PureV.sub (a := (n : Int) + m) (b := i) rfl rfl rfl (by omega) (by omega)) ?_
    obtain ⟨k, hk⟩ : ∃ k : Nat, ((n : Int) + m - i) = k := ⟨n + m - i, by omega⟩
    rw [hk]
    have hk' : i + k = n + m := by omega
    refine WO.one rfl rfl rfl (OpW.appendZ tabOk (k := k) (cap := cap) (n := i) rfl rfl rfl rfl rfl zero82 rfl rfl rfl rfl rfl (by omega) (by omega) Hv (cs := cs.take (i * 1)) ?_ (by rw [List.length_take, hcl]; omega) (by simp only [maxLen]; omega) (by omega) (by simp only [maxLen]; omega) ?_)
    · refine blk_cells (e := 82) (l := cur) Hs (by simp) ?_
      rw [← hcur, List.take_take, List.length_take, List.length_drop]
      rw [Nat.min_eq_left (show min (i * 1) (n * 1) ≤ cur.length - o by omega)]
    intro g2 cap2 zs w2 hc2 hm2 hzl hz1 H2
    have hz : n * 1 + m * 1 ≤ i * 1 + zs.length := by omega
    have htl : (cs.take (i * 1)).length = i * 1 := by rw [List.length_take, hcl]; omega
    have hl0 : (cs.take (i * 1) ++ zs).length = i * 1 + zs.length := by rw [List.length_append, htl]
    simp only [maxLen] at hm2
    (repeat (first | refine WO.run tabOk rfl rfl ?_ | refine WO.nil ?_ | refine WO.skip rfl rfl rfl ?_ | refine WO.pu tabOk rfl rfl rfl rfl ?_ | refine W.seq ?_ | refine W.region ?_ | refine W.block ?_ | refine W.skip ?_ | refine W.exit ?_))
    refine WO.pv rfl rfl rfl (PureV.slcFrom tabOk rfl rfl rfl rfl rfl rfl (show i ≤ i + k by omega) hc2 rfl) ?_
    rw [cutA, if_neg (show ¬ cap2 = i by omega)]
    simp only [Option.map_some, Addr.add_lit]
    (repeat (first | refine WO.run tabOk rfl rfl ?_ | refine WO.nil ?_ | refine WO.skip rfl rfl rfl ?_ | refine WO.pu tabOk rfl rfl rfl rfl ?_ | refine W.seq ?_ | refine W.region ?_ | refine W.block ?_ | refine W.skip ?_ | refine W.exit ?_))
    refine WO.one rfl rfl rfl (OpW.copy (i := 0) (m := m) tabOk rfl rfl rfl rfl rfl rfl (by omega) H2 rfl (hvs H2 (by simp)) (by omega) ?_)
    intro w3 H3
    have hl1 : (spliceL (cs.take (i * 1) ++ zs) (0 + i * 1) vs).length = i * 1 + zs.length := by rw [spliceL_len _ _ _ (by omega), hl0]
    (repeat (first | refine WO.run tabOk rfl rfl ?_ | refine WO.nil ?_ | refine WO.skip rfl rfl rfl ?_ | refine WO.pu tabOk rfl rfl rfl rfl ?_ | refine W.seq ?_ | refine W.region ?_ | refine W.block ?_ | refine W.skip ?_ | refine W.exit ?_))
    refine W.regionD [] (HA []) [0, 1, 2, 3, 4, 5, 6, 7, 8] rfl (by kernel_rfl) (fun _ _ _ h => h) ?_
    (repeat (first | refine WD.run tabOk rfl rfl ?_ | refine WD.nil ?_))
    refine WD.pv rfl rfl rfl rfl rfl (PureV.add (a := i) (b := m) rfl rfl rfl (by omega) (by omega)) ?_
    (repeat (first | refine WD.run tabOk rfl rfl ?_ | refine WD.nil ?_))
    rw [show (i : Int) + m = ((i + m : Nat) : Int) by omega]
    refine WD.pv rfl rfl rfl rfl rfl (PureV.slcFrom tabOk rfl rfl rfl rfl rfl rfl (show i + m ≤ i + k by omega) hc2 rfl) ?_
    (repeat (first | refine WD.run tabOk rfl rfl ?_ | refine WD.nil ?_))
    refine WD.pv rfl rfl rfl rfl rfl (PureV.slcFrom tabOk rfl rfl rfl rfl rfl rfl hi hnc rfl) ?_
    rw [cutA, cutA, if_neg (show ¬ cap = i by omega), if_neg (show ¬ cap2 = i + m by omega)]
    simp only [Option.map_some, Addr.add_lit]
    have H3 := H3.drew
    have hds3 : Shows w3.drew 1 (some ⟨g, o + i * 1, none⟩) (n - i) (cs.drop (i * 1)) := by
      refine ⟨hds.1, hds.2.1, .inr ⟨_, rfl, blk_cells (e := 82) (l := cur) H3 (by simp) ?_⟩⟩
      rw [← hcur, List.drop_take, List.drop_drop]
      simp only [List.length_take, List.length_drop]
      rw [Nat.min_eq_left (by omega)]
    refine WD.one rfl rfl rfl rfl rfl rfl (OpW.copy (i := 0) (m := n - i) tabOk rfl rfl rfl rfl rfl rfl (by omega) H3 rfl hds3 (by omega) ?_)
    intro w4 H4
    (repeat (first | refine WD.run tabOk rfl rfl ?_ | refine WD.nil ?_))
    (repeat (first | refine WO.run tabOk rfl rfl ?_ | refine WO.nil ?_ | refine WO.skip rfl rfl rfl ?_ | refine WO.pu tabOk rfl rfl rfl rfl ?_ | refine W.seq ?_ | refine W.region ?_ | refine W.block ?_ | refine W.skip ?_ | refine W.exit ?_))
    refine W.ret (ret1 Try.results98 rfl ⟨_, rfl, ?_⟩)
    have hins := insert_new (cs := cs) (vs := vs) (zs := zs) (A := i * 1) (B := m * 1) (C := n * 1) hcl (by omega) hz hvl
    rw [Nat.zero_add, Nat.zero_add, show (i + m) * 1 = i * 1 + m * 1 by omega] at H4
    have H5 := H4.close_raw (sz := 1) (n := n + m) (o := 0) (cap := cap2) (cs := cs.take (i * 1) ++ vs ++ cs.drop (i * 1)) (by omega) (by simp only [maxLen]; omega) (by rw [hins.2]; omega) (by rw [show (n + m) * 1 = n * 1 + m * 1 by omega]; exact hins.1) ?_
    · rw [hk']
      have H6 := (H5.to (i := 1) rfl).close_raw (sz := 1) (n := m) (o := ov) (cap := capv) (cs := vs) hvc hvm' hfitv hcurv hv1
      exact ((H6.to (i := 2) rfl).drop).to (i := 1) rfl
    · intro u hu
      simp only [List.mem_append] at hu
      rcases hu with (hu | hu) | hu
      · exact hc1 u (List.mem_of_mem_take hu)
      · exact hv1 u hu
      · exact hc1 u (List.mem_of_mem_drop hu)
  · simp at h2
    have h2 : n + m ≤ cap := by omega
    (repeat (first | refine WO.run tabOk rfl rfl ?_ | refine WO.nil ?_ | refine WO.skip rfl rfl rfl ?_ | refine WO.pu tabOk rfl rfl rfl rfl ?_ | refine W.seq ?_ | refine W.region ?_ | refine W.block ?_ | refine W.skip ?_ | refine W.exit ?_))
    refine WO.pv rfl rfl rfl (PureV.add (a := n) (b := m) rfl rfl rfl (by omega) (by omega)) ?_
    rw [show (n : Int) + m = ((n + m : Nat) : Int) by omega]
    refine WO.pv rfl rfl rfl (PureV.slcTo tabOk rfl rfl rfl rfl rfl rfl (by omega)) ?_
    (repeat (first | refine WO.run tabOk rfl rfl ?_ | refine WO.nil ?_ | refine WO.skip rfl rfl rfl ?_ | refine WO.pu tabOk rfl rfl rfl rfl ?_ | refine W.seq ?_ | refine W.region ?_ | refine W.block ?_ | refine W.skip ?_ | refine W.exit ?_))
    refine WO.pv rfl rfl rfl (PureV.add (a := i) (b := m) rfl rfl rfl (by omega) (by omega)) ?_
    rw [show (i : Int) + m = ((i + m : Nat) : Int) by omega]
    refine WO.pv rfl rfl rfl (PureV.slcFrom tabOk rfl rfl rfl rfl rfl rfl (show i + m ≤ n + m by omega) (by omega) rfl) ?_
    rw [cutA, if_neg (show ¬ cap = i + m by omega)]
    simp only [Option.map_some, Addr.add_lit]
    refine WO.one rfl rfl rfl (OpW.overlaps (tS := 85) (tR := 4) tabOk rfl Try.func131 (by kernel_rfl) (by kernel_rfl) (by kernel_rfl) (by kernel_rfl) rfl rfl rfl rfl Hv (.head _) (.tail _ (.head _)) hne hnl ?_)
    (repeat (first | refine WO.run tabOk rfl rfl ?_ | refine WO.nil ?_ | refine WO.skip rfl rfl rfl ?_ | refine WO.pu tabOk rfl rfl rfl rfl ?_ | refine W.seq ?_ | refine W.region ?_ | refine W.block ?_ | refine W.skip ?_ | refine W.exit ?_))
    refine W.cond_t rfl ?_
    (repeat (first | refine WO.run tabOk rfl rfl ?_ | refine WO.nil ?_ | refine WO.skip rfl rfl rfl ?_ | refine WO.pu tabOk rfl rfl rfl rfl ?_ | refine W.seq ?_ | refine W.region ?_ | refine W.block ?_ | refine W.skip ?_ | refine W.exit ?_))
    refine W.regionD [] (HA []) [0, 1, 2, 3, 4, 5, 6, 7, 8] rfl (by kernel_rfl) (fun _ _ _ h => h) ?_
    (repeat (first | refine WD.run tabOk rfl rfl ?_ | refine WD.nil ?_))
    refine WD.pv rfl rfl rfl rfl rfl (PureV.add (a := i) (b := m) rfl rfl rfl (by omega) (by omega)) ?_
    (repeat (first | refine WD.run tabOk rfl rfl ?_ | refine WD.nil ?_))
    rw [show (i : Int) + m = ((i + m : Nat) : Int) by omega]
    refine WD.pv rfl rfl rfl rfl rfl (PureV.slcFrom tabOk rfl rfl rfl rfl rfl rfl (show i + m ≤ n + m by omega) (by omega) rfl) ?_
    (repeat (first | refine WD.run tabOk rfl rfl ?_ | refine WD.nil ?_))
    refine WD.pv rfl rfl rfl rfl rfl (PureV.slcFrom tabOk rfl rfl rfl rfl rfl rfl (show i ≤ n + m by omega) (by omega) rfl) ?_
    rw [cutA, cutA, if_neg (show ¬ cap = i by omega), if_neg (show ¬ cap = i + m by omega)]
    simp only [Option.map_some, Addr.add_lit]
    have H3 := Hv.drew
    have hds3 : Shows w.drew 1 (some ⟨g, o + i * 1, none⟩) (n - i) (cs.drop (i * 1)) := by
      refine ⟨hds.1, hds.2.1, .inr ⟨_, rfl, blk_cells (e := 82) (l := cur) H3 (by simp) ?_⟩⟩
      rw [← hcur, List.drop_take, List.drop_drop]
      simp only [List.length_take, List.length_drop]
      rw [Nat.min_eq_left (by omega)]
    refine WD.one rfl rfl rfl rfl rfl rfl (OpW.copy (i := 1) (m := n - i) tabOk rfl rfl rfl rfl rfl rfl (by omega) H3 rfl hds3 (by omega) ?_)
    intro w4 H4
    (repeat (first | refine WD.run tabOk rfl rfl ?_ | refine WD.nil ?_))
    (repeat (first | refine WO.run tabOk rfl rfl ?_ | refine WO.nil ?_ | refine WO.skip rfl rfl rfl ?_ | refine WO.pu tabOk rfl rfl rfl rfl ?_ | refine W.seq ?_ | refine W.region ?_ | refine W.block ?_ | refine W.skip ?_ | refine W.exit ?_))
    refine WO.pv rfl rfl rfl (PureV.slcFrom tabOk rfl rfl rfl rfl rfl rfl (show i ≤ n + m by omega) (by omega) rfl) ?_
    rw [cutA, if_neg (show ¬ cap = i by omega)]
    simp only [Option.map_some, Addr.add_lit]
    (repeat (first | refine WO.run tabOk rfl rfl ?_ | refine WO.nil ?_ | refine WO.skip rfl rfl rfl ?_ | refine WO.pu tabOk rfl rfl rfl rfl ?_ | refine W.seq ?_ | refine W.region ?_ | refine W.block ?_ | refine W.skip ?_ | refine W.exit ?_))
    have hl1 : (spliceL cur (o + (i + m) * 1) (cs.drop (i * 1))).length = cur.length := spliceL_len _ _ _ (by rw [List.length_drop]; omega)
    refine WO.one rfl rfl rfl (OpW.copy (i := 0) (m := m) tabOk rfl rfl rfl rfl rfl rfl (by omega) H4 rfl (hvs H4 (by simp)) (by omega) ?_)
    intro w5 H5
    (repeat (first | refine WO.run tabOk rfl rfl ?_ | refine WO.nil ?_ | refine WO.skip rfl rfl rfl ?_ | refine WO.pu tabOk rfl rfl rfl rfl ?_ | refine W.seq ?_ | refine W.region ?_ | refine W.block ?_ | refine W.skip ?_ | refine W.exit ?_))
    refine W.ret (ret1 Try.results98 rfl ⟨_, rfl, ?_⟩)
    have hins := insert_cells (cs := cs) (vs := vs) (o := o) (A := i * 1) (B := m * 1) (C := n * 1) hcur hcl (by omega) (by omega) hvl
    rw [show (i + m) * 1 = i * 1 + m * 1 by omega] at H5
    have H6 := H5.close_raw (sz := 1) (n := n + m) (o := o) (cap := cap) (cs := cs.take (i * 1) ++ vs ++ cs.drop (i * 1)) (by omega) hcm' (by rw [hins.2]; omega) (by rw [show (n + m) * 1 = n * 1 + m * 1 by omega]; exact hins.1) ?_
    · have H7 := (H6.to (i := 1) rfl).close_raw (sz := 1) (n := m) (o := ov) (cap := capv) (cs := vs) hvc hvm' hfitv hcurv hv1
      exact H7.to (i := 1) rfl
    · intro u hu
      simp only [List.mem_append] at hu
      rcases hu with (hu | hu) | hu
      · exact hc1 u (List.mem_of_mem_take hu)
      · exact hv1 u hu
      · exact hc1 u (List.mem_of_mem_drop hu)

end Go.Proofs.Ytnghaidnbicjjaa
