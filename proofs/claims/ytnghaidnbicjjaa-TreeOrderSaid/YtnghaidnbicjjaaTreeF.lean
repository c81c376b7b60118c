/- tree: put. -/
import Derived.Test.YtnghaidnbicjjaaTreeE
set_option linter.unusedVariables false
set_option linter.unusedSimpArgs false
set_option maxRecDepth 20000
namespace Go.Proofs.Ytnghaidnbicjjaa
open Go Gw
attribute [local irreducible] W WO WD WF

/-- An element of a row of single cells is written. -/
theorem OpW.storeAt {P : Program} {T : List TI} (hT : TabOk P T) {t g o j n cap e i : Nat} {x y : Operand} {ti : TI} {v : Value} {cs : List Value} {op : Oper} {r : Env} {w : World} {K : Value → World → Prop} {c : Ctx} {Own Ro Own' : List Asn}
    (ho : op.op = .store t x y) (hx : Env.ev r x = some (.pointer (some ⟨g, o + j * 1, none⟩))) (hy : Env.ev r y = some v) (ht : nth T t = some ti) (hs : Nat.beq ti.size 1 = true)
    (H : St c w Own Ro) (hi : takeK Own i = some (raw e 1 (.slice (some ⟨g, o, none⟩) n cap) n cs, Own')) (h1 : v.oneCell' = true) (hj : j < n) (hK : ∀ w', St c w' (raw e 1 (.slice (some ⟨g, o, none⟩) n cap) n (cs.set j v) :: Own') Ro → K undef w') : OpW P op r w K := by
  have H1 := H.to hi
  obtain ⟨hcl, hc1, _⟩ := H1.raw_len
  rcases H1.open_raw with ⟨e1, _⟩ | ⟨g', o', cap', cur, e1, H2, hcur, hnc, hcm, hfit⟩
  · simp at e1
  simp only [Value.slice.injEq, Option.some.injEq, Addr.mk.injEq] at e1
  obtain ⟨⟨rfl, rfl, _⟩, _, rfl⟩ := e1
  have hcv : cellsL v = [v] := by cases v <;> first | rfl | (simp [Value.oneCell'] at h1)
  refine OpW.storeB (i := 0) hT ho hx hy ht H2 rfl (by rw [hcv]; intro u hu; simp at hu; subst hu; exact h1) (by rw [hcv]; exact (Nat.eq_of_beq_eq_true hs).symm) (by rw [hcv]; simp; omega) fun w' H3 => hK w' ?_
  rw [hcv] at H3
  have hws := window_splice (xs := [v]) (k := j * 1) hcur (by omega) (by simp; omega)
  have hset : spliceL cs (j * 1) [v] = cs.set j v := by
    rw [Nat.mul_one]
    simp only [spliceL, List.length_singleton]
    rw [List.set_eq_take_append_cons_drop]
    simp [show j < cs.length by omega]
  rw [hset] at hws
  refine H3.close_raw (sz := 1) hnc hcm (by rw [spliceL_len _ _ _ (by simp; omega)]; exact hfit) hws fun u hu => ?_
  rcases List.mem_or_eq_of_mem_set hu with hu | rfl
  · exact hc1 u hu
  · exact h1
theorem tC_set (l : List ByteArray) (k : Nat) (x : ByteArray) : (tC l).set k (.string x) = tC (l.set k x) := by rw [tC_eq, tC_eq, List.map_set]
theorem kC_set (l : List Int) (k : Nat) (x : Int) : (kC l).set k (.int .i64 x) = kC (l.set k x) := by rw [kC_eq, kC_eq, List.map_set]

def putF : Nat → Nd → Int → ByteArray → Nd × Bool
  | 0, x, key, text => if hasF' x.keys key then (.mk x.keys (x.texts.set (posF x.keys key) text) x.kids, false) else (.mk (ins x.keys (posF x.keys key) key) (ins x.texts (posF x.keys key) text) x.kids, true)
  | h + 1, x, key, text => if hasF' x.keys key then (.mk x.keys (x.texts.set (posF x.keys key) text) x.kids, false) else match x.kids[posF x.keys key]? with
    | none => (x, false)
    | some y => (liftF (posF x.keys key) (.mk x.keys x.texts (x.kids.set (posF x.keys key) (putF h y key text).1)), (putF h y key text).2)
/-- Lengths that fit. -/
structure Ln (m : Nat) (x : Nd) : Prop where
  texts : x.texts.length = x.keys.length
  len : x.keys.length ≤ m
  kids : x.kids = [] ∨ x.kids.length = x.keys.length + 1
theorem Wk.ln {h : Nat} {x : Nd} (H : Wk h x) : Ln 1000 x := ⟨H.n.texts, H.n.len, by cases h with | zero => exact .inl H.2 | succ h => exact .inr H.2.1⟩
theorem lift_ln {k m : Nat} {x : Nd} (hx : x.texts.length = x.keys.length) (hl : x.keys.length ≤ m) (hk : x.kids.length = x.keys.length + 1) : Ln (m + 1) (liftF k x) ∧ (liftF k x).kids.length = (liftF k x).keys.length + 1 := by
  unfold liftF
  split
  · exact ⟨⟨hx, by omega, .inr hk⟩, hk⟩
  · rename_i y hy
    have hlt := (List.getElem?_eq_some_iff.1 hy).1
    split
    · exact ⟨⟨hx, by omega, .inr hk⟩, hk⟩
    · have e1 := ins_len (x := keyM y) (show k ≤ x.keys.length by omega)
      have e2 := ins_len (x := textM y) (show k ≤ x.texts.length by omega)
      have e3 : (x.kids.take k ++ lftF y :: rightF y :: x.kids.drop (k + 1)).length = x.kids.length + 1 := by simp; omega
      refine ⟨⟨?_, ?_, .inr ?_⟩, ?_⟩
      · show (ins x.texts k _).length = (ins x.keys k _).length; omega
      · show (ins x.keys k _).length ≤ _; omega
      · show List.length (_ ++ _) = (ins x.keys k _).length + 1; omega
      · show List.length (_ ++ _) = (ins x.keys k _).length + 1; omega
theorem put_ln {h : Nat} {x : Nd} {key : Int} {text : ByteArray} (H : Wk h x) : Ln 1001 (putF h x key text).1 := by
  have hle := posF_le x.keys key
  have hn := H.n
  cases h with
  | zero =>
    unfold putF
    split
    · exact ⟨by simp [Nd.texts, Nd.keys]; exact hn.texts, by have := hn.len; simp [Nd.keys] at *; omega, .inl H.2⟩
    · have e1 := ins_len (x := key) hle
      have e2 := ins_len (x := text) (show posF x.keys key ≤ x.texts.length by rw [hn.texts]; exact hle)
      have := hn.len
      have := hn.texts
      exact ⟨by show (ins x.texts _ _).length = (ins x.keys _ _).length; omega, by show (ins x.keys _ _).length ≤ _; omega, .inl H.2⟩
  | succ h =>
    unfold putF
    split
    · exact ⟨by simp [Nd.texts, Nd.keys]; exact hn.texts, by have := hn.len; simp [Nd.keys] at *; omega, .inr H.2.1⟩
    · split
      · exact ⟨hn.texts, by have := hn.len; show x.keys.length ≤ _; omega, .inr H.2.1⟩
      · rename_i y hy
        exact (lift_ln (m := 1000) (x := .mk x.keys x.texts (x.kids.set (posF x.keys key) (putF h y key text).1)) hn.texts hn.len (by show (x.kids.set _ _).length = x.keys.length + 1; rw [List.length_set]; exact H.2.1)).1

theorem put_ok : ∀ (h : Nat) (c : Ctx) (w : World) (Own Ro : List Asn) (b : Nat) (x : Nd) (key : Int) (text : ByteArray), St c w (nodeA h b x :: Own) Ro → Wk h x →
    Calls Try.prog 76 #[.pointer (some ⟨b, 0, none⟩), .int .i64 key, .string text] w (Ret fun v w' => v = .bool (putF h x key text).2 ∧ St c w' (nodeA h b (putF h x key text).1 :: Own) Ro) := by
  intro h
  induction h with
  | zero =>
    intro c w Own Ro b x key text H hW
    refine calls_W (args := [_, _, _]) Try.func76 rfl Try.ntmps76 rfl ?_
    obtain ⟨vk, vt, vc, H⟩ := node_open H
    have hn := hW.n
    have hle := posF_le x.keys key
    have hlen := hn.len
    have htl := hn.texts
    change St c w (blk b 88 [vk, vt, vc] :: raw 3 1 vk x.keys.length (kC x.keys) :: raw 9 1 vt x.texts.length (tC x.texts) :: row 82 (kidR 0) vc x.kids :: Own) Ro at H
    (repeat (first | refine WO.run tabOk rfl rfl ?_ | refine WO.nil ?_ | refine WO.skip rfl rfl rfl ?_ | refine WO.pu tabOk rfl rfl rfl rfl ?_ | refine W.seq ?_ | refine W.region ?_ | refine W.block ?_ | refine W.skip ?_ | refine W.exit ?_))
    refine WO.one rfl rfl rfl (OpW.call rfl Try.call40 rfl (Calls.ret (find_ok w b vk vt vc x.keys key (H.holds (by simp)) (H.holds (by simp)) (by omega) hn.sorted) ?_))
    rintro _ w1 ⟨hp1, rfl⟩
    have H := H.after hp1
    (repeat (first | refine WO.run tabOk rfl rfl ?_ | refine WO.nil ?_ | refine WO.skip rfl rfl rfl ?_ | refine WO.pu tabOk rfl rfl rfl rfl ?_ | refine W.seq ?_ | refine W.region ?_ | refine W.block ?_ | refine W.skip ?_ | refine W.exit ?_))
    refine W.cond rfl (fun he => ?_) (fun he => ?_)

    · have hlt := hasF_lt he
      obtain ⟨ta, tc, rfl, _, _⟩ := raw_form H (v := vt) (e := 9) (sz := 1) (n := x.texts.length) (cs := tC x.texts) (by simp)
      obtain ⟨g, o, rfl, _⟩ := raw_at H (e := 9) (n := x.texts.length) (cap := tc) (cs := tC x.texts) (a := ta) (by simp) (by omega)
      (repeat (first | refine WO.run tabOk rfl rfl ?_ | refine WO.nil ?_ | refine WO.skip rfl rfl rfl ?_ | refine WO.pu tabOk rfl rfl rfl rfl ?_ | refine W.seq ?_ | refine W.region ?_ | refine W.block ?_ | refine W.skip ?_ | refine W.exit ?_ | refine WO.one rfl rfl rfl (OpW.load1 tabOk rfl rfl rfl rfl H (by (first | exact .head _ | exact .tail _ (.head _) | exact .tail _ (.tail _ (.head _)) | exact .tail _ (.tail _ (.tail _ (.head _))) | exact .tail _ (.tail _ (.tail _ (.tail _ (.head _)))) | exact .tail _ (.tail _ (.tail _ (.tail _ (.tail _ (.head _))))) | exact .tail _ (.tail _ (.tail _ (.tail _ (.tail _ (.tail _ (.head _)))))) | exact .tail _ (.tail _ (.tail _ (.tail _ (.tail _ (.tail _ (.tail _ (.head _))))))))) rfl ?_)))
      refine WO.pv rfl rfl rfl (PureV.idxN (i := posF x.keys key) tabOk rfl rfl rfl rfl rfl rfl (by omega)) ?_
      refine WO.act rfl rfl (OpW.storeAt (i := 2) (j := posF x.keys key) tabOk rfl rfl rfl rfl rfl H rfl rfl (by omega) ?_)
      clear H
      intro w2 H
      (repeat (first | refine WO.run tabOk rfl rfl ?_ | refine WO.nil ?_ | refine WO.skip rfl rfl rfl ?_ | refine WO.pu tabOk rfl rfl rfl rfl ?_ | refine W.seq ?_ | refine W.region ?_ | refine W.block ?_ | refine W.skip ?_ | refine W.exit ?_))
      rw [tC_set] at H
      refine W.ret (ret1 Try.results76 rfl ⟨_, rfl, ?_, ?_⟩)
      · simp [putF, he]
      · have e : (putF 0 x key text).1 = .mk x.keys (x.texts.set (posF x.keys key) text) x.kids := by simp [putF, he]
        rw [e]
        exact node_close (by
          show St c w2 (blk b 88 _ :: raw 3 1 _ x.keys.length _ :: raw 9 1 _ (x.texts.set (posF x.keys key) text).length _ :: row 82 _ _ x.kids :: _) Ro
          rw [List.length_set]
          exact H.bring [1, 2, 0] rfl)

    have hk0 : x.kids = [] := hW.2
    obtain ⟨ca, cc, rfl⟩ := row_form' H (v := vc) (e := 82) (r := kidR 0) (xs := x.kids) (by simp)
    (repeat (first | refine WO.run tabOk rfl rfl ?_ | refine WO.nil ?_ | refine WO.skip rfl rfl rfl ?_ | refine WO.pu tabOk rfl rfl rfl rfl ?_ | refine W.seq ?_ | refine W.region ?_ | refine W.block ?_ | refine W.skip ?_ | refine W.exit ?_ | refine WO.one rfl rfl rfl (OpW.load1 tabOk rfl rfl rfl rfl H (by (first | exact .head _ | exact .tail _ (.head _) | exact .tail _ (.tail _ (.head _)) | exact .tail _ (.tail _ (.tail _ (.head _))) | exact .tail _ (.tail _ (.tail _ (.tail _ (.head _)))) | exact .tail _ (.tail _ (.tail _ (.tail _ (.tail _ (.head _))))) | exact .tail _ (.tail _ (.tail _ (.tail _ (.tail _ (.tail _ (.head _)))))) | exact .tail _ (.tail _ (.tail _ (.tail _ (.tail _ (.tail _ (.tail _ (.head _))))))))) rfl ?_)))
    refine W.cond rfl (fun h0 => ?_) (fun h0 => ?_)
    rotate_left
    · rw [hk0] at h0; simp at h0
    (repeat (first | refine WO.run tabOk rfl rfl ?_ | refine WO.nil ?_ | refine WO.skip rfl rfl rfl ?_ | refine WO.pu tabOk rfl rfl rfl rfl ?_ | refine W.seq ?_ | refine W.region ?_ | refine W.block ?_ | refine W.skip ?_ | refine W.exit ?_ | refine WO.one rfl rfl rfl (OpW.load1 tabOk rfl rfl rfl rfl H (by (first | exact .head _ | exact .tail _ (.head _) | exact .tail _ (.tail _ (.head _)) | exact .tail _ (.tail _ (.tail _ (.head _))) | exact .tail _ (.tail _ (.tail _ (.tail _ (.head _)))) | exact .tail _ (.tail _ (.tail _ (.tail _ (.tail _ (.head _))))) | exact .tail _ (.tail _ (.tail _ (.tail _ (.tail _ (.tail _ (.head _)))))) | exact .tail _ (.tail _ (.tail _ (.tail _ (.tail _ (.tail _ (.tail _ (.head _))))))))) rfl ?_)))
    refine WO.one rfl rfl rfl (OpW.buildSlice tabOk rfl rfl rfl rfl zero3 rfl rfl (l := [.int .i64 key]) rfl H ?_)
    clear H
    intro b39 w2 H
    have H := (raw_of_blk rfl H).to (i := 2) rfl
    refine WO.one rfl rfl rfl (OpW.call rfl Try.call95 rfl (Calls.ret (insertInt_ok c w2 _ Ro _ _ x.keys.length 1 (posF x.keys key) _ _ H hle (by omega) (by omega)) ?_))
    clear H
    intro v w3 H
    rw [kC_ins] at H
    obtain ⟨nka, nkc, rfl, _, _⟩ := raw_form H (v := v) (e := 3) (sz := 1) (n := x.keys.length + 1) (cs := kC (ins x.keys (posF x.keys key) key)) (by simp)
    (repeat (first | refine WO.run tabOk rfl rfl ?_ | refine WO.nil ?_ | refine WO.skip rfl rfl rfl ?_ | refine WO.pu tabOk rfl rfl rfl rfl ?_ | refine W.seq ?_ | refine W.region ?_ | refine W.block ?_ | refine W.skip ?_ | refine W.exit ?_))
    refine WO.act rfl rfl (OpW.store1 (i := 2) tabOk rfl rfl rfl rfl rfl H rfl rfl rfl ?_)
    clear H
    intro w4 H
    have H := (H.to (i := 2) rfl).drop
    (repeat (first | refine WO.run tabOk rfl rfl ?_ | refine WO.nil ?_ | refine WO.skip rfl rfl rfl ?_ | refine WO.pu tabOk rfl rfl rfl rfl ?_ | refine W.seq ?_ | refine W.region ?_ | refine W.block ?_ | refine W.skip ?_ | refine W.exit ?_ | refine WO.one rfl rfl rfl (OpW.load1 tabOk rfl rfl rfl rfl H (by (first | exact .head _ | exact .tail _ (.head _) | exact .tail _ (.tail _ (.head _)) | exact .tail _ (.tail _ (.tail _ (.head _))) | exact .tail _ (.tail _ (.tail _ (.tail _ (.head _)))) | exact .tail _ (.tail _ (.tail _ (.tail _ (.tail _ (.head _))))) | exact .tail _ (.tail _ (.tail _ (.tail _ (.tail _ (.tail _ (.head _)))))) | exact .tail _ (.tail _ (.tail _ (.tail _ (.tail _ (.tail _ (.tail _ (.head _))))))))) rfl ?_)))
    refine WO.one rfl rfl rfl (OpW.buildSlice tabOk rfl rfl rfl rfl zero9 rfl rfl (l := [.string text]) rfl H ?_)
    clear H
    intro b50 w5 H
    have H := (raw_of_blk rfl H).to (i := 3) rfl
    refine WO.one rfl rfl rfl (OpW.call rfl Try.call96 rfl (Calls.ret (insertStr_ok c w5 _ Ro _ _ x.texts.length 1 (posF x.keys key) _ _ H (by omega) (by omega) (by omega)) ?_))
    clear H
    intro v w6 H
    rw [tC_ins] at H
    obtain ⟨nta, ntc, rfl, _, _⟩ := raw_form H (v := v) (e := 9) (sz := 1) (n := x.texts.length + 1) (cs := tC (ins x.texts (posF x.keys key) text)) (by simp)
    (repeat (first | refine WO.run tabOk rfl rfl ?_ | refine WO.nil ?_ | refine WO.skip rfl rfl rfl ?_ | refine WO.pu tabOk rfl rfl rfl rfl ?_ | refine W.seq ?_ | refine W.region ?_ | refine W.block ?_ | refine W.skip ?_ | refine W.exit ?_))
    refine WO.act rfl rfl (OpW.store1 (i := 2) tabOk rfl rfl rfl rfl rfl H rfl rfl rfl ?_)
    clear H
    intro w7 H
    have H := (H.to (i := 2) rfl).drop
    (repeat (first | refine WO.run tabOk rfl rfl ?_ | refine WO.nil ?_ | refine WO.skip rfl rfl rfl ?_ | refine WO.pu tabOk rfl rfl rfl rfl ?_ | refine W.seq ?_ | refine W.region ?_ | refine W.block ?_ | refine W.skip ?_ | refine W.exit ?_))
    refine W.ret (ret1 Try.results76 rfl ⟨_, rfl, ?_, ?_⟩)
    · simp [putF, he]
    · have e : (putF 0 x key text).1 = .mk (ins x.keys (posF x.keys key) key) (ins x.texts (posF x.keys key) text) x.kids := by simp [putF, he]
      rw [e]
      have ik := ins_len (x := key) hle
      have it := ins_len (x := text) (show posF x.keys key ≤ x.texts.length by omega)
      exact node_close (by
        show St c w7 (blk b 88 _ :: raw 3 1 _ (ins x.keys _ _).length _ :: raw 9 1 _ (ins x.texts _ _).length _ :: row 82 _ _ x.kids :: _) Ro
        rw [ik, it]
        exact H.bring [0, 2, 1] rfl)
  | succ h ih =>
    intro c w Own Ro b x key text H hW
    refine calls_W (args := [_, _, _]) Try.func76 rfl Try.ntmps76 rfl ?_
    obtain ⟨vk, vt, vc, H⟩ := node_open H
    have hn := hW.n
    have hle := posF_le x.keys key
    have hlen := hn.len
    have htl := hn.texts
    change St c w (blk b 88 [vk, vt, vc] :: raw 3 1 vk x.keys.length (kC x.keys) :: raw 9 1 vt x.texts.length (tC x.texts) :: row 82 (kidR (h + 1)) vc x.kids :: Own) Ro at H
    (repeat (first | refine WO.run tabOk rfl rfl ?_ | refine WO.nil ?_ | refine WO.skip rfl rfl rfl ?_ | refine WO.pu tabOk rfl rfl rfl rfl ?_ | refine W.seq ?_ | refine W.region ?_ | refine W.block ?_ | refine W.skip ?_ | refine W.exit ?_))
    refine WO.one rfl rfl rfl (OpW.call rfl Try.call40 rfl (Calls.ret (find_ok w b vk vt vc x.keys key (H.holds (by simp)) (H.holds (by simp)) (by omega) hn.sorted) ?_))
    rintro _ w1 ⟨hp1, rfl⟩
    have H := H.after hp1
    (repeat (first | refine WO.run tabOk rfl rfl ?_ | refine WO.nil ?_ | refine WO.skip rfl rfl rfl ?_ | refine WO.pu tabOk rfl rfl rfl rfl ?_ | refine W.seq ?_ | refine W.region ?_ | refine W.block ?_ | refine W.skip ?_ | refine W.exit ?_))
    refine W.cond rfl (fun he => ?_) (fun he => ?_)

    · have hlt := hasF_lt he
      obtain ⟨ta, tc, rfl, _, _⟩ := raw_form H (v := vt) (e := 9) (sz := 1) (n := x.texts.length) (cs := tC x.texts) (by simp)
      obtain ⟨g, o, rfl, _⟩ := raw_at H (e := 9) (n := x.texts.length) (cap := tc) (cs := tC x.texts) (a := ta) (by simp) (by omega)
      (repeat (first | refine WO.run tabOk rfl rfl ?_ | refine WO.nil ?_ | refine WO.skip rfl rfl rfl ?_ | refine WO.pu tabOk rfl rfl rfl rfl ?_ | refine W.seq ?_ | refine W.region ?_ | refine W.block ?_ | refine W.skip ?_ | refine W.exit ?_ | refine WO.one rfl rfl rfl (OpW.load1 tabOk rfl rfl rfl rfl H (by (first | exact .head _ | exact .tail _ (.head _) | exact .tail _ (.tail _ (.head _)) | exact .tail _ (.tail _ (.tail _ (.head _))) | exact .tail _ (.tail _ (.tail _ (.tail _ (.head _)))) | exact .tail _ (.tail _ (.tail _ (.tail _ (.tail _ (.head _))))) | exact .tail _ (.tail _ (.tail _ (.tail _ (.tail _ (.tail _ (.head _)))))) | exact .tail _ (.tail _ (.tail _ (.tail _ (.tail _ (.tail _ (.tail _ (.head _))))))))) rfl ?_)))
      refine WO.pv rfl rfl rfl (PureV.idxN (i := posF x.keys key) tabOk rfl rfl rfl rfl rfl rfl (by omega)) ?_
      refine WO.act rfl rfl (OpW.storeAt (i := 2) (j := posF x.keys key) tabOk rfl rfl rfl rfl rfl H rfl rfl (by omega) ?_)
      clear H
      intro w2 H
      (repeat (first | refine WO.run tabOk rfl rfl ?_ | refine WO.nil ?_ | refine WO.skip rfl rfl rfl ?_ | refine WO.pu tabOk rfl rfl rfl rfl ?_ | refine W.seq ?_ | refine W.region ?_ | refine W.block ?_ | refine W.skip ?_ | refine W.exit ?_))
      rw [tC_set] at H
      refine W.ret (ret1 Try.results76 rfl ⟨_, rfl, ?_, ?_⟩)
      · simp [putF, he]
      · have e : (putF (h + 1) x key text).1 = .mk x.keys (x.texts.set (posF x.keys key) text) x.kids := by simp [putF, he]
        rw [e]
        exact node_close (by
          show St c w2 (blk b 88 _ :: raw 3 1 _ x.keys.length _ :: raw 9 1 _ (x.texts.set (posF x.keys key) text).length _ :: row 82 _ _ x.kids :: _) Ro
          rw [List.length_set]
          exact H.bring [1, 2, 0] rfl)

    have hkl := hW.2.1
    have hy := List.getElem?_eq_getElem (l := x.kids) (i := posF x.keys key) (by omega)
    generalize x.kids[posF x.keys key] = y at hy
    have hWy := hW.2.2 y (List.mem_of_getElem? hy)
    obtain ⟨ca, cc, rfl⟩ := row_form' H (v := vc) (e := 82) (r := kidR (h + 1)) (xs := x.kids) (by simp)
    (repeat (first | refine WO.run tabOk rfl rfl ?_ | refine WO.nil ?_ | refine WO.skip rfl rfl rfl ?_ | refine WO.pu tabOk rfl rfl rfl rfl ?_ | refine W.seq ?_ | refine W.region ?_ | refine W.block ?_ | refine W.skip ?_ | refine W.exit ?_ | refine WO.one rfl rfl rfl (OpW.load1 tabOk rfl rfl rfl rfl H (by (first | exact .head _ | exact .tail _ (.head _) | exact .tail _ (.tail _ (.head _)) | exact .tail _ (.tail _ (.tail _ (.head _))) | exact .tail _ (.tail _ (.tail _ (.tail _ (.head _)))) | exact .tail _ (.tail _ (.tail _ (.tail _ (.tail _ (.head _))))) | exact .tail _ (.tail _ (.tail _ (.tail _ (.tail _ (.tail _ (.head _)))))) | exact .tail _ (.tail _ (.tail _ (.tail _ (.tail _ (.tail _ (.tail _ (.head _))))))))) rfl ?_)))
    refine W.cond rfl (fun h0 => ?_) (fun h0 => ?_)
    · simp at h0
      rw [h0] at hkl
      simp at hkl
    obtain ⟨ps, hpl, H⟩ := kids_open (H.to (i := 3) rfl)
    rw [kidR_succ] at H
    obtain ⟨bk, hp, _, H⟩ := kid_out (H.to (i := 1) rfl) hy
    obtain ⟨g, o, rfl, hat⟩ := raw_at H (e := 82) (n := x.kids.length) (cap := cc) (cs := ps) (a := ca) (by simp) (by omega)
    (repeat (first | refine WO.run tabOk rfl rfl ?_ | refine WO.nil ?_ | refine WO.skip rfl rfl rfl ?_ | refine WO.pu tabOk rfl rfl rfl rfl ?_ | refine W.seq ?_ | refine W.region ?_ | refine W.block ?_ | refine W.skip ?_ | refine W.exit ?_ | refine WO.one rfl rfl rfl (OpW.load1 tabOk rfl rfl rfl rfl H (by (first | exact .head _ | exact .tail _ (.head _) | exact .tail _ (.tail _ (.head _)) | exact .tail _ (.tail _ (.tail _ (.head _))) | exact .tail _ (.tail _ (.tail _ (.tail _ (.head _)))) | exact .tail _ (.tail _ (.tail _ (.tail _ (.tail _ (.head _))))) | exact .tail _ (.tail _ (.tail _ (.tail _ (.tail _ (.tail _ (.head _)))))) | exact .tail _ (.tail _ (.tail _ (.tail _ (.tail _ (.tail _ (.tail _ (.head _))))))))) rfl ?_)))
    refine WO.pv rfl rfl rfl (PureV.idxN (i := posF x.keys key) tabOk rfl rfl rfl rfl rfl rfl (by omega)) ?_
    refine WO.one rfl rfl rfl (OpW.loadc tabOk rfl rfl rfl rfl (hat _ _ hp) ?_)
    (repeat (first | refine WO.run tabOk rfl rfl ?_ | refine WO.nil ?_ | refine WO.skip rfl rfl rfl ?_ | refine WO.pu tabOk rfl rfl rfl rfl ?_ | refine W.seq ?_ | refine W.region ?_ | refine W.block ?_ | refine W.skip ?_ | refine W.exit ?_))
    refine WO.one rfl rfl rfl (OpW.call rfl Try.call76 rfl (Calls.ret (ih c w1 _ Ro bk y key text H hWy) ?_))
    clear H hat
    rintro _ w2 ⟨rfl, H⟩
    have H := parent_close (keys := x.keys) (texts := x.texts) (kids := x.kids) hp hpl rfl H
    (repeat (first | refine WO.run tabOk rfl rfl ?_ | refine WO.nil ?_ | refine WO.skip rfl rfl rfl ?_ | refine WO.pu tabOk rfl rfl rfl rfl ?_ | refine W.seq ?_ | refine W.region ?_ | refine W.block ?_ | refine W.skip ?_ | refine W.exit ?_))
    have hgy : (x.kids.set (posF x.keys key) (putF h y key text).1)[posF x.keys key]? = some (putF h y key text).1 := by rw [List.getElem?_set_self (by omega)]
    have hln := put_ln (key := key) (text := text) hWy
    refine WO.one rfl rfl rfl (OpW.call rfl Try.call77 rfl (Calls.ret (lift_ok c w2 Own Ro h b (posF x.keys key) (.mk x.keys x.texts (x.kids.set (posF x.keys key) (putF h y key text).1)) _ H hgy ⟨htl, by show x.keys.length ≤ _; omega, by show (x.kids.set _ _).length = x.keys.length + 1; rw [List.length_set]; exact hkl⟩
      (fun h5 => ⟨hln.texts, by omega, by have := hln.len; omega, hln.kids⟩)) ?_))
    clear H
    intro v w3 H
    (repeat (first | refine WO.run tabOk rfl rfl ?_ | refine WO.nil ?_ | refine WO.skip rfl rfl rfl ?_ | refine WO.pu tabOk rfl rfl rfl rfl ?_ | refine W.seq ?_ | refine W.region ?_ | refine W.block ?_ | refine W.skip ?_ | refine W.exit ?_))
    have hf : hasF' x.keys key = false := by simpa using he
    refine W.ret (ret1 Try.results76 rfl ⟨_, rfl, ?_, ?_⟩)
    · simp [putF, hf, hy]
    · have e : (putF (h + 1) x key text).1 = liftF (posF x.keys key) (.mk x.keys x.texts (x.kids.set (posF x.keys key) (putF h y key text).1)) := by simp [putF, hf, hy]
      rw [e]
      exact H
end Go.Proofs.Ytnghaidnbicjjaa
