/- tree: Drop. -/
import Derived.Test.YtnghaidnbicjjaaTreeQ
set_option linter.unusedVariables false
set_option linter.unusedSimpArgs false
set_option maxRecDepth 20000
namespace Go.Proofs.Ytnghaidnbicjjaa
open Go Gw
attribute [local irreducible] W WO WD WF

theorem dropS_none {l : List En} {key : Int} (h : getS l key = none) : dropS l key = l := by
  refine filter_all fun e he => ?_
  unfold getS at h
  have h1 : l.find? (fun e => decide (e.1 = key)) = none := by
    cases hf : l.find? (fun e => decide (e.1 = key)) with
    | none => rfl
    | some e => rw [hf] at h; cases h
  have := List.find?_eq_none.1 h1 e he
  simpa using this
theorem root_pos {h : Nat} {x : Nd} {key : Int} (hT : Tr h x) (hg : getS (ents h x) key ≠ none) : 1 ≤ x.keys.length := by
  cases h with
  | zero =>
    obtain ⟨t, ht⟩ := Option.ne_none_iff_exists'.1 hg
    have hm : (key, t) ∈ x.keys.zip x.texts := getS_mem ht
    have := (List.of_mem_zip hm).1
    exact List.length_pos_of_mem this
  | succ h => have := hT.bt.lo; simpa using this
theorem ents_sole {h : Nat} {x z : Nd} (H : Sh (h + 1) x) (h0 : x.keys.length = 0) (hz : x.kids[0]? = some z) : ents (h + 1) x = ents h z := by
  have hk := H.kn
  have e1 : x.kids = [z] := by
    match hx : x.kids with
    | [] => rw [hx] at hk; simp at hk
    | [a] => rw [hx] at hz; simp at hz; rw [hz]
    | a :: b :: l => rw [hx] at hk; simp at hk; omega
  have e2 : es x = [] := by unfold es; rw [List.length_eq_zero_iff.1 h0]; rfl
  show weave (x.kids.map (ents h)) (es x) = _
  rw [e1, e2]
  rfl

theorem treeDrop_ok (c : Ctx) (w : World) (Own Ro : List Asn) (bt br h : Nat) (x : Nd) (key : Int) (H : St c w (blk bt 84 [.pointer (some ⟨br, 0, none⟩), .int .i64 ((ents h x).length : Int)] :: nodeA h br x :: Own) Ro) (hT : Tr h x) :
    Calls Try.prog 36 #[.pointer (some ⟨bt, 0, none⟩), .int .i64 key] w (Ret fun v w' => TreeSt c w' bt (dropS (ents h x) key) Own Ro) := by
  refine calls_W (args := [_, _]) Try.func36 rfl Try.ntmps36 rfl ?_
  have hwk := hT.bt.wk (by omega) hT.so
  have hlen := hT.len
  (repeat (first | refine WO.run tabOk rfl rfl ?_ | refine WO.nil ?_ | refine WO.skip rfl rfl rfl ?_ | refine WO.pu tabOk rfl rfl rfl rfl ?_ | refine W.seq ?_ | refine W.region ?_ | refine W.block ?_ | refine W.skip ?_ | refine W.exit ?_))
  refine WO.one rfl rfl rfl (OpW.call rfl Try.call14 rfl (Calls.ret (get_ok w bt br h x ((ents h x).length : Int) key (H.holds (by simp)) (H.holds (by simp)) hwk) ?_))
  rintro _ w1 ⟨hp, rfl⟩
  rw [get_law hT.bt hT.so, putF_err]
  have H := H.after hp
  (repeat (first | refine WO.run tabOk rfl rfl ?_ | refine WO.nil ?_ | refine WO.skip rfl rfl rfl ?_ | refine WO.pu tabOk rfl rfl rfl rfl ?_ | refine W.seq ?_ | refine W.region ?_ | refine W.block ?_ | refine W.skip ?_ | refine W.exit ?_ | refine WO.one rfl rfl rfl (OpW.load1 tabOk rfl rfl rfl rfl H (by (first | exact .head _ | exact .tail _ (.head _) | exact .tail _ (.tail _ (.head _)) | exact .tail _ (.tail _ (.tail _ (.head _))) | exact .tail _ (.tail _ (.tail _ (.tail _ (.head _)))) | exact .tail _ (.tail _ (.tail _ (.tail _ (.tail _ (.head _))))) | exact .tail _ (.tail _ (.tail _ (.tail _ (.tail _ (.tail _ (.head _)))))) | exact .tail _ (.tail _ (.tail _ (.tail _ (.tail _ (.tail _ (.tail _ (.head _))))))) | exact .tail _ (.tail _ (.tail _ (.tail _ (.tail _ (.tail _ (.tail _ (.tail _ (.head _)))))))) | exact .tail _ (.tail _ (.tail _ (.tail _ (.tail _ (.tail _ (.tail _ (.tail _ (.tail _ (.head _))))))))) | exact .tail _ (.tail _ (.tail _ (.tail _ (.tail _ (.tail _ (.tail _ (.tail _ (.tail _ (.tail _ (.head _)))))))))) | exact .tail _ (.tail _ (.tail _ (.tail _ (.tail _ (.tail _ (.tail _ (.tail _ (.tail _ (.tail _ (.tail _ (.head _))))))))))) | exact .tail _ (.tail _ (.tail _ (.tail _ (.tail _ (.tail _ (.tail _ (.tail _ (.tail _ (.tail _ (.tail _ (.tail _ (.head _)))))))))))) | exact .tail _ (.tail _ (.tail _ (.tail _ (.tail _ (.tail _ (.tail _ (.tail _ (.tail _ (.tail _ (.tail _ (.tail _ (.tail _ (.head _))))))))))))) | exact .tail _ (.tail _ (.tail _ (.tail _ (.tail _ (.tail _ (.tail _ (.tail _ (.tail _ (.tail _ (.tail _ (.tail _ (.tail _ (.tail _ (.head _)))))))))))))) | exact .tail _ (.tail _ (.tail _ (.tail _ (.tail _ (.tail _ (.tail _ (.tail _ (.tail _ (.tail _ (.tail _ (.tail _ (.tail _ (.tail _ (.tail _ (.head _))))))))))))))))) rfl ?_)))
  cases hg : getS (ents h x) key with
  | none =>
    refine W.cond rfl (fun h0 => ?_) (fun h0 => ?_)
    rotate_left
    · simp at h0
    (repeat (first | refine WO.run tabOk rfl rfl ?_ | refine WO.nil ?_ | refine WO.skip rfl rfl rfl ?_ | refine WO.pu tabOk rfl rfl rfl rfl ?_ | refine W.seq ?_ | refine W.region ?_ | refine W.block ?_ | refine W.skip ?_ | refine W.exit ?_))
    refine W.ret (ret1 Try.results36 rfl ⟨_, rfl, ?_⟩)
    rw [dropS_none hg]
    exact ⟨br, h, x, H, hT, rfl⟩
  | some t =>
    have hgn : getS (ents h x) key ≠ none := by rw [hg]; exact nofun
    have hpos := root_pos hT hgn
    refine W.cond rfl (fun h0 => ?_) (fun h0 => ?_)
    · simp at h0
    (repeat (first | refine WO.run tabOk rfl rfl ?_ | refine WO.nil ?_ | refine WO.skip rfl rfl rfl ?_ | refine WO.pu tabOk rfl rfl rfl rfl ?_ | refine W.seq ?_ | refine W.region ?_ | refine W.block ?_ | refine W.skip ?_ | refine W.exit ?_ | refine WO.one rfl rfl rfl (OpW.load1 tabOk rfl rfl rfl rfl H (by (first | exact .head _ | exact .tail _ (.head _) | exact .tail _ (.tail _ (.head _)) | exact .tail _ (.tail _ (.tail _ (.head _))) | exact .tail _ (.tail _ (.tail _ (.tail _ (.head _)))) | exact .tail _ (.tail _ (.tail _ (.tail _ (.tail _ (.head _))))) | exact .tail _ (.tail _ (.tail _ (.tail _ (.tail _ (.tail _ (.head _)))))) | exact .tail _ (.tail _ (.tail _ (.tail _ (.tail _ (.tail _ (.tail _ (.head _))))))) | exact .tail _ (.tail _ (.tail _ (.tail _ (.tail _ (.tail _ (.tail _ (.tail _ (.head _)))))))) | exact .tail _ (.tail _ (.tail _ (.tail _ (.tail _ (.tail _ (.tail _ (.tail _ (.tail _ (.head _))))))))) | exact .tail _ (.tail _ (.tail _ (.tail _ (.tail _ (.tail _ (.tail _ (.tail _ (.tail _ (.tail _ (.head _)))))))))) | exact .tail _ (.tail _ (.tail _ (.tail _ (.tail _ (.tail _ (.tail _ (.tail _ (.tail _ (.tail _ (.tail _ (.head _))))))))))) | exact .tail _ (.tail _ (.tail _ (.tail _ (.tail _ (.tail _ (.tail _ (.tail _ (.tail _ (.tail _ (.tail _ (.tail _ (.head _)))))))))))) | exact .tail _ (.tail _ (.tail _ (.tail _ (.tail _ (.tail _ (.tail _ (.tail _ (.tail _ (.tail _ (.tail _ (.tail _ (.tail _ (.head _))))))))))))) | exact .tail _ (.tail _ (.tail _ (.tail _ (.tail _ (.tail _ (.tail _ (.tail _ (.tail _ (.tail _ (.tail _ (.tail _ (.tail _ (.tail _ (.head _)))))))))))))) | exact .tail _ (.tail _ (.tail _ (.tail _ (.tail _ (.tail _ (.tail _ (.tail _ (.tail _ (.tail _ (.tail _ (.tail _ (.tail _ (.tail _ (.tail _ (.head _))))))))))))))))) rfl ?_)))
    refine WO.one rfl rfl rfl (OpW.call rfl Try.call75 rfl (Calls.ret (drop_ok h c w1 _ Ro br _ 4 x key (H.to (i := 1) rfl) hT.bt (by omega) hpos hT.so hgn) ?_))
    clear H
    intro v w2 H
    have H := H.to (i := 1) rfl
    obtain ⟨p1, p2⟩ := drop_law hT.bt hpos hT.so hgn
    have hcnt := drop_count hT.so hgn
    have hso := hT.so.drop key
    (repeat (first | refine WO.run tabOk rfl rfl ?_ | refine WO.nil ?_ | refine WO.skip rfl rfl rfl ?_ | refine WO.pu tabOk rfl rfl rfl rfl ?_ | refine W.seq ?_ | refine W.region ?_ | refine W.block ?_ | refine W.skip ?_ | refine W.exit ?_ | refine WO.one rfl rfl rfl (OpW.load1 tabOk rfl rfl rfl rfl H (by (first | exact .head _ | exact .tail _ (.head _) | exact .tail _ (.tail _ (.head _)) | exact .tail _ (.tail _ (.tail _ (.head _))) | exact .tail _ (.tail _ (.tail _ (.tail _ (.head _)))) | exact .tail _ (.tail _ (.tail _ (.tail _ (.tail _ (.head _))))) | exact .tail _ (.tail _ (.tail _ (.tail _ (.tail _ (.tail _ (.head _)))))) | exact .tail _ (.tail _ (.tail _ (.tail _ (.tail _ (.tail _ (.tail _ (.head _))))))) | exact .tail _ (.tail _ (.tail _ (.tail _ (.tail _ (.tail _ (.tail _ (.tail _ (.head _)))))))) | exact .tail _ (.tail _ (.tail _ (.tail _ (.tail _ (.tail _ (.tail _ (.tail _ (.tail _ (.head _))))))))) | exact .tail _ (.tail _ (.tail _ (.tail _ (.tail _ (.tail _ (.tail _ (.tail _ (.tail _ (.tail _ (.head _)))))))))) | exact .tail _ (.tail _ (.tail _ (.tail _ (.tail _ (.tail _ (.tail _ (.tail _ (.tail _ (.tail _ (.tail _ (.head _))))))))))) | exact .tail _ (.tail _ (.tail _ (.tail _ (.tail _ (.tail _ (.tail _ (.tail _ (.tail _ (.tail _ (.tail _ (.tail _ (.head _)))))))))))) | exact .tail _ (.tail _ (.tail _ (.tail _ (.tail _ (.tail _ (.tail _ (.tail _ (.tail _ (.tail _ (.tail _ (.tail _ (.tail _ (.head _))))))))))))) | exact .tail _ (.tail _ (.tail _ (.tail _ (.tail _ (.tail _ (.tail _ (.tail _ (.tail _ (.tail _ (.tail _ (.tail _ (.tail _ (.tail _ (.head _)))))))))))))) | exact .tail _ (.tail _ (.tail _ (.tail _ (.tail _ (.tail _ (.tail _ (.tail _ (.tail _ (.tail _ (.tail _ (.tail _ (.tail _ (.tail _ (.tail _ (.head _))))))))))))))))) rfl ?_)))
    refine WO.pv rfl rfl rfl (PureV.subN rfl rfl rfl (by omega) (by omega)) ?_
    (repeat (first | refine WO.run tabOk rfl rfl ?_ | refine WO.nil ?_ | refine WO.skip rfl rfl rfl ?_ | refine WO.pu tabOk rfl rfl rfl rfl ?_ | refine W.seq ?_ | refine W.region ?_ | refine W.block ?_ | refine W.skip ?_ | refine W.exit ?_))
    refine WO.act rfl rfl (OpW.store1 (i := 0) tabOk rfl rfl rfl rfl rfl H rfl rfl rfl ?_)
    clear H
    intro w3 H
    have H : St c w3 (blk bt 84 [.pointer (some ⟨br, 0, none⟩), .int .i64 (((ents h x).length - 1 : Nat) : Int)] :: nodeA h br (dropF h x key) :: Own) Ro := H
    rw [show (ents h x).length - 1 = (dropS (ents h x) key).length from by omega] at H
    obtain ⟨vk, vt, vc, H⟩ := node_open (H.to (i := 1) rfl)
    change St c w3 (blk br 88 [vk, vt, vc] :: raw 3 1 vk (dropF h x key).keys.length (kC (dropF h x key).keys) :: raw 9 1 vt (dropF h x key).texts.length (tC (dropF h x key).texts) :: row 82 (kidR h) vc (dropF h x key).kids :: blk bt 84 [.pointer (some ⟨br, 0, none⟩), .int .i64 ((dropS (ents h x) key).length : Int)] :: Own) Ro at H
    obtain ⟨ka, kc, rfl, _, _⟩ := raw_form H (v := vk) (e := 3) (sz := 1) (n := (dropF h x key).keys.length) (cs := kC (dropF h x key).keys) (by simp)
    obtain ⟨ca, cc, rfl⟩ := row_form' H (v := vc) (e := 82) (r := kidR h) (xs := (dropF h x key).kids) (by simp)
    (repeat (first | refine WO.run tabOk rfl rfl ?_ | refine WO.nil ?_ | refine WO.skip rfl rfl rfl ?_ | refine WO.pu tabOk rfl rfl rfl rfl ?_ | refine W.seq ?_ | refine W.region ?_ | refine W.block ?_ | refine W.skip ?_ | refine W.exit ?_ | refine WO.one rfl rfl rfl (OpW.load1 tabOk rfl rfl rfl rfl H (by (first | exact .head _ | exact .tail _ (.head _) | exact .tail _ (.tail _ (.head _)) | exact .tail _ (.tail _ (.tail _ (.head _))) | exact .tail _ (.tail _ (.tail _ (.tail _ (.head _)))) | exact .tail _ (.tail _ (.tail _ (.tail _ (.tail _ (.head _))))) | exact .tail _ (.tail _ (.tail _ (.tail _ (.tail _ (.tail _ (.head _)))))) | exact .tail _ (.tail _ (.tail _ (.tail _ (.tail _ (.tail _ (.tail _ (.head _))))))) | exact .tail _ (.tail _ (.tail _ (.tail _ (.tail _ (.tail _ (.tail _ (.tail _ (.head _)))))))) | exact .tail _ (.tail _ (.tail _ (.tail _ (.tail _ (.tail _ (.tail _ (.tail _ (.tail _ (.head _))))))))) | exact .tail _ (.tail _ (.tail _ (.tail _ (.tail _ (.tail _ (.tail _ (.tail _ (.tail _ (.tail _ (.head _)))))))))) | exact .tail _ (.tail _ (.tail _ (.tail _ (.tail _ (.tail _ (.tail _ (.tail _ (.tail _ (.tail _ (.tail _ (.head _))))))))))) | exact .tail _ (.tail _ (.tail _ (.tail _ (.tail _ (.tail _ (.tail _ (.tail _ (.tail _ (.tail _ (.tail _ (.tail _ (.head _)))))))))))) | exact .tail _ (.tail _ (.tail _ (.tail _ (.tail _ (.tail _ (.tail _ (.tail _ (.tail _ (.tail _ (.tail _ (.tail _ (.tail _ (.head _))))))))))))) | exact .tail _ (.tail _ (.tail _ (.tail _ (.tail _ (.tail _ (.tail _ (.tail _ (.tail _ (.tail _ (.tail _ (.tail _ (.tail _ (.tail _ (.head _)))))))))))))) | exact .tail _ (.tail _ (.tail _ (.tail _ (.tail _ (.tail _ (.tail _ (.tail _ (.tail _ (.tail _ (.tail _ (.tail _ (.tail _ (.tail _ (.tail _ (.head _))))))))))))))))) rfl ?_)))
    by_cases hk0 : (dropF h x key).keys.length = 0
    rotate_left
    · refine WO.tell (d := 38) (u := .bool false) rfl (congrArg Value.bool (decide_eq_false (by omega))) ?_
      (repeat (first | refine WO.run tabOk rfl rfl ?_ | refine WO.nil ?_ | refine WO.skip rfl rfl rfl ?_ | refine WO.pu tabOk rfl rfl rfl rfl ?_ | refine W.seq ?_ | refine W.region ?_ | refine W.block ?_ | refine W.skip ?_ | refine W.exit ?_ | refine WO.one rfl rfl rfl (OpW.load1 tabOk rfl rfl rfl rfl H (by (first | exact .head _ | exact .tail _ (.head _) | exact .tail _ (.tail _ (.head _)) | exact .tail _ (.tail _ (.tail _ (.head _))) | exact .tail _ (.tail _ (.tail _ (.tail _ (.head _)))) | exact .tail _ (.tail _ (.tail _ (.tail _ (.tail _ (.head _))))) | exact .tail _ (.tail _ (.tail _ (.tail _ (.tail _ (.tail _ (.head _)))))) | exact .tail _ (.tail _ (.tail _ (.tail _ (.tail _ (.tail _ (.tail _ (.head _))))))) | exact .tail _ (.tail _ (.tail _ (.tail _ (.tail _ (.tail _ (.tail _ (.tail _ (.head _)))))))) | exact .tail _ (.tail _ (.tail _ (.tail _ (.tail _ (.tail _ (.tail _ (.tail _ (.tail _ (.head _))))))))) | exact .tail _ (.tail _ (.tail _ (.tail _ (.tail _ (.tail _ (.tail _ (.tail _ (.tail _ (.tail _ (.head _)))))))))) | exact .tail _ (.tail _ (.tail _ (.tail _ (.tail _ (.tail _ (.tail _ (.tail _ (.tail _ (.tail _ (.tail _ (.head _))))))))))) | exact .tail _ (.tail _ (.tail _ (.tail _ (.tail _ (.tail _ (.tail _ (.tail _ (.tail _ (.tail _ (.tail _ (.tail _ (.head _)))))))))))) | exact .tail _ (.tail _ (.tail _ (.tail _ (.tail _ (.tail _ (.tail _ (.tail _ (.tail _ (.tail _ (.tail _ (.tail _ (.tail _ (.head _))))))))))))) | exact .tail _ (.tail _ (.tail _ (.tail _ (.tail _ (.tail _ (.tail _ (.tail _ (.tail _ (.tail _ (.tail _ (.tail _ (.tail _ (.tail _ (.head _)))))))))))))) | exact .tail _ (.tail _ (.tail _ (.tail _ (.tail _ (.tail _ (.tail _ (.tail _ (.tail _ (.tail _ (.tail _ (.tail _ (.tail _ (.tail _ (.tail _ (.head _))))))))))))))))) rfl ?_)))
      refine W.cond_f rfl ?_
      have H := (node_close (h := h) (x := dropF h x key) H).to (i := 1) rfl
      (repeat (first | refine WO.run tabOk rfl rfl ?_ | refine WO.nil ?_ | refine WO.skip rfl rfl rfl ?_ | refine WO.pu tabOk rfl rfl rfl rfl ?_ | refine W.seq ?_ | refine W.region ?_ | refine W.block ?_ | refine W.skip ?_ | refine W.exit ?_))
      refine W.ret (ret1 Try.results36 rfl ⟨_, rfl, ?_⟩)
      exact ⟨br, h, _, H, ⟨p1.bounds (by split <;> omega) p1.hi, by rw [p2]; exact hso, by rw [p2]; omega⟩, p2⟩
    refine WO.tell (d := 38) (u := .bool true) rfl (congrArg Value.bool (decide_eq_true (by omega))) ?_
    (repeat (first | refine WO.run tabOk rfl rfl ?_ | refine WO.nil ?_ | refine WO.skip rfl rfl rfl ?_ | refine WO.pu tabOk rfl rfl rfl rfl ?_ | refine W.seq ?_ | refine W.region ?_ | refine W.block ?_ | refine W.skip ?_ | refine W.exit ?_ | refine WO.one rfl rfl rfl (OpW.load1 tabOk rfl rfl rfl rfl H (by (first | exact .head _ | exact .tail _ (.head _) | exact .tail _ (.tail _ (.head _)) | exact .tail _ (.tail _ (.tail _ (.head _))) | exact .tail _ (.tail _ (.tail _ (.tail _ (.head _)))) | exact .tail _ (.tail _ (.tail _ (.tail _ (.tail _ (.head _))))) | exact .tail _ (.tail _ (.tail _ (.tail _ (.tail _ (.tail _ (.head _)))))) | exact .tail _ (.tail _ (.tail _ (.tail _ (.tail _ (.tail _ (.tail _ (.head _))))))) | exact .tail _ (.tail _ (.tail _ (.tail _ (.tail _ (.tail _ (.tail _ (.tail _ (.head _)))))))) | exact .tail _ (.tail _ (.tail _ (.tail _ (.tail _ (.tail _ (.tail _ (.tail _ (.tail _ (.head _))))))))) | exact .tail _ (.tail _ (.tail _ (.tail _ (.tail _ (.tail _ (.tail _ (.tail _ (.tail _ (.tail _ (.head _)))))))))) | exact .tail _ (.tail _ (.tail _ (.tail _ (.tail _ (.tail _ (.tail _ (.tail _ (.tail _ (.tail _ (.tail _ (.head _))))))))))) | exact .tail _ (.tail _ (.tail _ (.tail _ (.tail _ (.tail _ (.tail _ (.tail _ (.tail _ (.tail _ (.tail _ (.tail _ (.head _)))))))))))) | exact .tail _ (.tail _ (.tail _ (.tail _ (.tail _ (.tail _ (.tail _ (.tail _ (.tail _ (.tail _ (.tail _ (.tail _ (.tail _ (.head _))))))))))))) | exact .tail _ (.tail _ (.tail _ (.tail _ (.tail _ (.tail _ (.tail _ (.tail _ (.tail _ (.tail _ (.tail _ (.tail _ (.tail _ (.tail _ (.head _)))))))))))))) | exact .tail _ (.tail _ (.tail _ (.tail _ (.tail _ (.tail _ (.tail _ (.tail _ (.tail _ (.tail _ (.tail _ (.tail _ (.tail _ (.tail _ (.tail _ (.head _))))))))))))))))) rfl ?_)))
    have H := (node_close (h := h) (x := dropF h x key) H).to (i := 1) rfl
    refine W.cond rfl (fun hc0 => ?_) (fun hc0 => ?_)
    · have hc0 : 0 < (dropF h x key).kids.length := by simpa [pickV] using hc0
      cases h with
      | zero => exact absurd (show (dropF 0 x key).kids = [] from p1.sh.kids) (fun e => by rw [e] at hc0; simp at hc0)
      | succ h =>
        obtain ⟨z, hz⟩ : ∃ z, (dropF (h + 1) x key).kids[0]? = some z := ⟨_, List.getElem?_eq_getElem hc0⟩
        have hbz := p1.2.2 z (List.mem_of_getElem? hz)
        have he := ents_sole p1.sh hk0 hz
        obtain ⟨vk, vt, vc, ps, bk, hp, hpl, H⟩ := parent_open (H.to (i := 1) rfl) hz
        obtain ⟨ca, cc, rfl, hc1, hc2⟩ := raw_form H (v := vc) (e := 82) (sz := 1) (n := (dropF (h + 1) x key).kids.length) (cs := ps) (by simp)
        obtain ⟨g, o, rfl, hat⟩ := raw_at H (e := 82) (n := (dropF (h + 1) x key).kids.length) (cap := cc) (cs := ps) (a := ca) (by simp) (by omega)
        (repeat (first | refine WO.run tabOk rfl rfl ?_ | refine WO.nil ?_ | refine WO.skip rfl rfl rfl ?_ | refine WO.pu tabOk rfl rfl rfl rfl ?_ | refine W.seq ?_ | refine W.region ?_ | refine W.block ?_ | refine W.skip ?_ | refine W.exit ?_ | refine WO.one rfl rfl rfl (OpW.load1 tabOk rfl rfl rfl rfl H (by (first | exact .head _ | exact .tail _ (.head _) | exact .tail _ (.tail _ (.head _)) | exact .tail _ (.tail _ (.tail _ (.head _))) | exact .tail _ (.tail _ (.tail _ (.tail _ (.head _)))) | exact .tail _ (.tail _ (.tail _ (.tail _ (.tail _ (.head _))))) | exact .tail _ (.tail _ (.tail _ (.tail _ (.tail _ (.tail _ (.head _)))))) | exact .tail _ (.tail _ (.tail _ (.tail _ (.tail _ (.tail _ (.tail _ (.head _))))))) | exact .tail _ (.tail _ (.tail _ (.tail _ (.tail _ (.tail _ (.tail _ (.tail _ (.head _)))))))) | exact .tail _ (.tail _ (.tail _ (.tail _ (.tail _ (.tail _ (.tail _ (.tail _ (.tail _ (.head _))))))))) | exact .tail _ (.tail _ (.tail _ (.tail _ (.tail _ (.tail _ (.tail _ (.tail _ (.tail _ (.tail _ (.head _)))))))))) | exact .tail _ (.tail _ (.tail _ (.tail _ (.tail _ (.tail _ (.tail _ (.tail _ (.tail _ (.tail _ (.tail _ (.head _))))))))))) | exact .tail _ (.tail _ (.tail _ (.tail _ (.tail _ (.tail _ (.tail _ (.tail _ (.tail _ (.tail _ (.tail _ (.tail _ (.head _)))))))))))) | exact .tail _ (.tail _ (.tail _ (.tail _ (.tail _ (.tail _ (.tail _ (.tail _ (.tail _ (.tail _ (.tail _ (.tail _ (.tail _ (.head _))))))))))))) | exact .tail _ (.tail _ (.tail _ (.tail _ (.tail _ (.tail _ (.tail _ (.tail _ (.tail _ (.tail _ (.tail _ (.tail _ (.tail _ (.tail _ (.head _)))))))))))))) | exact .tail _ (.tail _ (.tail _ (.tail _ (.tail _ (.tail _ (.tail _ (.tail _ (.tail _ (.tail _ (.tail _ (.tail _ (.tail _ (.tail _ (.tail _ (.head _))))))))))))))))) rfl ?_)))
        refine WO.pv rfl rfl rfl (PureV.idxN (i := 0) tabOk rfl rfl rfl rfl rfl rfl (by omega)) ?_
        refine WO.one rfl rfl rfl (OpW.loadc tabOk rfl rfl rfl rfl (hat _ _ hp) ?_)
        (repeat (first | refine WO.run tabOk rfl rfl ?_ | refine WO.nil ?_ | refine WO.skip rfl rfl rfl ?_ | refine WO.pu tabOk rfl rfl rfl rfl ?_ | refine W.seq ?_ | refine W.region ?_ | refine W.block ?_ | refine W.skip ?_ | refine W.exit ?_))
        refine WO.act rfl rfl (OpW.store1 (i := 7) tabOk rfl rfl rfl rfl rfl H rfl rfl rfl ?_)
        clear H hat
        intro w4 H
        (repeat (first | refine WO.run tabOk rfl rfl ?_ | refine WO.nil ?_ | refine WO.skip rfl rfl rfl ?_ | refine WO.pu tabOk rfl rfl rfl rfl ?_ | refine W.seq ?_ | refine W.region ?_ | refine W.block ?_ | refine W.skip ?_ | refine W.exit ?_))
        refine W.ret (ret1 Try.results36 rfl ⟨_, rfl, ?_⟩)
        have H := ((((((H.to (i := 2) rfl).drop.to (i := 2) rfl).drop.to (i := 2) rfl).drop.to (i := 2) rfl).drop.to (i := 2) rfl).drop.to (i := 2) rfl).drop
        refine ⟨bk, h, z, H.bring [0, 1] rfl, ⟨hbz.bounds (by split <;> have := hbz.lo <;> omega) hbz.hi, ?_, ?_⟩, ?_⟩
        · rw [← he, p2]; exact hso
        · rw [← he, p2]; omega
        · rw [← he, p2]
    · have hc0 : (dropF h x key).kids = [] := by simpa [pickV] using hc0
      (repeat (first | refine WO.run tabOk rfl rfl ?_ | refine WO.nil ?_ | refine WO.skip rfl rfl rfl ?_ | refine WO.pu tabOk rfl rfl rfl rfl ?_ | refine W.seq ?_ | refine W.region ?_ | refine W.block ?_ | refine W.skip ?_ | refine W.exit ?_))
      refine W.ret (ret1 Try.results36 rfl ⟨_, rfl, ?_⟩)
      have hh : h = 0 := by
        cases h with
        | zero => rfl
        | succ h => have := p1.sh.kn; rw [hc0] at this; simp at this
      subst hh
      exact ⟨br, 0, _, H, ⟨p1.bounds (by simp) p1.hi, by rw [p2]; exact hso, by rw [p2]; omega⟩, p2⟩
end Go.Proofs.Ytnghaidnbicjjaa
