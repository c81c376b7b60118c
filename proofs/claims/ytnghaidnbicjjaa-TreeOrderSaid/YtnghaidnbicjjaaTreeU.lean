/- tree: Levels. -/
import Derived.Test.YtnghaidnbicjjaaTreeT
set_option linter.unusedVariables false
set_option linter.unusedSimpArgs false
set_option maxRecDepth 20000
namespace Go.Proofs.Ytnghaidnbicjjaa
open Go Gw
attribute [local irreducible] W WO WD WF

/-- Pointers to nodes that may be read. -/
def KidsAt (w : World) (k : Nat) (xs : List Nd) (ps : List Value) : Prop :=
  ps.length = xs.length ∧ ∀ (i : Nat) (x : Nd), xs[i]? = some x → ∃ b : Nat, ps[i]? = some (Value.pointer (some ⟨b, 0, none⟩)) ∧ match k with | 0 => False | k + 1 => Holds w (nodeA k b x)
theorem KidsAt.nil (w : World) (k : Nat) : KidsAt w k [] [] := ⟨rfl, fun i x h => by simp at h⟩
theorem KidsAt.app {w : World} {k : Nat} {xs ys : List Nd} {ps qs : List Value} (H : KidsAt w k xs ps) (K : KidsAt w k ys qs) : KidsAt w k (xs ++ ys) (ps ++ qs) := by
  refine ⟨by simp [H.1, K.1], fun i x h => ?_⟩
  rcases Nat.lt_or_ge i xs.length with hi | hi
  · rw [List.getElem?_append_left hi] at h
    rw [List.getElem?_append_left (by rw [H.1]; exact hi)]
    exact H.2 i x h
  · rw [List.getElem?_append_right hi] at h
    rw [List.getElem?_append_right (by rw [H.1]; exact hi), H.1]
    exact K.2 _ x h
theorem seen_kids {w : World} {S : Nat → Prop} {k : Nat} {xs : List Nd} {ps : List Value} (H : SeenL (kidR k) w S xs ps) : KidsAt w k xs ps := by
  have hl := H.len
  rw [kidR_sz, Nat.mul_one] at hl
  refine ⟨hl, fun i x hx => ?_⟩
  have hs := H.at hx
  rw [kidR_sz, Nat.mul_one] at hs
  have hi := (List.getElem?_eq_some_iff.1 hx).1
  have e : (ps.drop i).take 1 = [ps[i]] := by rw [List.drop_eq_getElem_cons (by omega)]; rfl
  rw [e] at hs
  cases k with
  | zero => exact (show False from by obtain ⟨S', h, _⟩ := hs; exact h).elim
  | succ k =>
    obtain ⟨S', ⟨b, vk, vt, vc, e2, hS⟩, _⟩ := hs
    simp only [List.cons.injEq, and_true] at e2
    exact ⟨b, by rw [List.getElem?_eq_getElem (by omega), e2], S', b, vk, vt, vc, rfl, hS⟩
/-- What a node's kids are, where they may be read. -/
theorem node_kids {w : World} {k b : Nat} {x : Nd} (H : Holds w (nodeA k b x)) : ∃ vk vt a c qs ka kc, Holds w (blk b 88 [vk, vt, .slice a x.kids.length c]) ∧ vk = .slice ka x.keys.length kc ∧ Shows w 1 a x.kids.length qs ∧ KidsAt w k x.kids qs := by
  obtain ⟨vk, vt, vc, hb, hk, ht, hc⟩ := node_read H
  obtain ⟨ka, kc, rfl, _⟩ := keys_rd hk
  obtain ⟨ca, cc, rfl, hC⟩ := row_rd hc
  obtain ⟨qs, S, h1, h2, _⟩ := hC.shows
  rw [kidR_sz] at h1
  exact ⟨_, vt, ca, cc, qs, ka, kc, hb, rfl, h1, seen_kids h2⟩
theorem lens_take {xs : List Nd} {j : Nat} {y : Nd} (h : xs[j]? = some y) : lens (xs.take (j + 1)) = lens (xs.take j) ++ [(y.keys.length : Int)] := by
  obtain ⟨h1, rfl⟩ := List.getElem?_eq_some_iff.1 h
  rw [← List.take_append_getElem h1]
  unfold lens
  rw [List.map_append]
  rfl
theorem kids_take {xs : List Nd} {j : Nat} {y : Nd} (h : xs[j]? = some y) : (xs.take (j + 1)).flatMap Nd.kids = (xs.take j).flatMap Nd.kids ++ y.kids := by
  obtain ⟨h1, rfl⟩ := List.getElem?_eq_some_iff.1 h
  rw [← List.take_append_getElem h1, List.flatMap_append, List.flatMap_cons]
  simp only [List.flatMap_nil, List.append_nil]
theorem Lv.flat_le {k : Nat} {xs : List Nd} (H : Lv (k + 1) xs) : (xs.flatMap Nd.kids).length ≤ 10000 := by
  have h3 := H.2.2.1
  have h2 := H.2.1
  have : ∀ l : List Nd, (∀ y ∈ l, Bt 0 4 k y) → (l.flatMap Nd.kids).length ≤ 5 * l.length := by
    intro l
    induction l with
    | nil => intro _; simp
    | cons y l ih =>
      intro h
      have i1 := ih fun z hz => h z (by simp [hz])
      have hb := h y (by simp)
      have h4 := hb.hi
      have hk : y.kids.length ≤ 5 := by
        cases k with
        | zero => rw [show y.kids = [] from hb.sh.kids]; simp
        | succ k => have := hb.sh.kn; omega
      rw [List.flatMap_cons, List.length_append, List.length_cons]
      omega
  have := this xs h3
  omega
theorem flat_take_le {xs : List Nd} (j : Nat) : ((xs.take j).flatMap Nd.kids).length ≤ (xs.flatMap Nd.kids).length := by
  conv => rhs; rw [← List.take_append_drop j xs, List.flatMap_append, List.length_append]
  omega
theorem noRo {c : Ctx} {w : World} {Own Ro : List Asn} (h : St c w Own Ro) : St c w Own [] := ⟨h.like, h.frame, by obtain ⟨O, h1, h2, h3⟩ := h.sep; exact ⟨O, h1, h2, nofun⟩⟩
theorem lens_len (xs : List Nd) : (lens xs).length = xs.length := by simp [lens]

structure LvS where
  k : Nat
  xs : List Nd
  rows : List (List Int)
  vo : Value
  va : Option Addr
  vc : Nat
  ps : List Value
  cs : List Value

theorem levels_ok (w : World) (bt br h : Nat) (x : Nd) (n : Int) (hT : Holds w (blk bt 84 [.pointer (some ⟨br, 0, none⟩), .int .i64 n])) (hN : Holds w (nodeA h br x)) (T : Tr h x) :
    Calls Try.prog 12 #[.pointer (some ⟨bt, 0, none⟩)] w (Ret fun v w' => St (at0 w) w' [row 30 (Rdr.own 3 i64) v (lvk (h + 1) [x])] []) := by
  refine calls_W (args := [_]) Try.func12 rfl Try.ntmps12 rfl ?_
  have hlow := root_low T
  have H := St.start [blk bt 84 [.pointer (some ⟨br, 0, none⟩), .int .i64 n]] (w := w) (by simpa using hT)
  (repeat (first | refine WO.run tabOk rfl rfl ?_ | refine WO.nil ?_ | refine WO.skip rfl rfl rfl ?_ | refine WO.pu tabOk rfl rfl rfl rfl ?_ | refine W.seq ?_ | refine W.region ?_ | refine W.block ?_ | refine W.skip ?_ | refine W.exit ?_ | refine WO.one rfl rfl rfl (OpW.load1 tabOk rfl rfl rfl rfl H (by (first | exact .head _ | exact .tail _ (.head _) | exact .tail _ (.tail _ (.head _)) | exact .tail _ (.tail _ (.tail _ (.head _))) | exact .tail _ (.tail _ (.tail _ (.tail _ (.head _)))) | exact .tail _ (.tail _ (.tail _ (.tail _ (.tail _ (.head _))))) | exact .tail _ (.tail _ (.tail _ (.tail _ (.tail _ (.tail _ (.head _)))))) | exact .tail _ (.tail _ (.tail _ (.tail _ (.tail _ (.tail _ (.tail _ (.head _))))))) | exact .tail _ (.tail _ (.tail _ (.tail _ (.tail _ (.tail _ (.tail _ (.tail _ (.head _)))))))) | exact .tail _ (.tail _ (.tail _ (.tail _ (.tail _ (.tail _ (.tail _ (.tail _ (.tail _ (.head _))))))))) | exact .tail _ (.tail _ (.tail _ (.tail _ (.tail _ (.tail _ (.tail _ (.tail _ (.tail _ (.tail _ (.head _)))))))))) | exact .tail _ (.tail _ (.tail _ (.tail _ (.tail _ (.tail _ (.tail _ (.tail _ (.tail _ (.tail _ (.tail _ (.head _))))))))))) | exact .tail _ (.tail _ (.tail _ (.tail _ (.tail _ (.tail _ (.tail _ (.tail _ (.tail _ (.tail _ (.tail _ (.tail _ (.head _)))))))))))) | exact .tail _ (.tail _ (.tail _ (.tail _ (.tail _ (.tail _ (.tail _ (.tail _ (.tail _ (.tail _ (.tail _ (.tail _ (.tail _ (.head _))))))))))))) | exact .tail _ (.tail _ (.tail _ (.tail _ (.tail _ (.tail _ (.tail _ (.tail _ (.tail _ (.tail _ (.tail _ (.tail _ (.tail _ (.tail _ (.head _)))))))))))))) | exact .tail _ (.tail _ (.tail _ (.tail _ (.tail _ (.tail _ (.tail _ (.tail _ (.tail _ (.tail _ (.tail _ (.tail _ (.tail _ (.tail _ (.tail _ (.head _))))))))))))))))) rfl ?_)))
  refine WO.one rfl rfl rfl (OpW.buildSlice tabOk rfl rfl rfl rfl zero82 rfl rfl (l := [.pointer (some ⟨br, 0, none⟩)]) rfl H ?_)
  clear H
  intro b1 w1 H
  have H := ((raw_of_blk rfl H).hang_nil (r := Rdr.own 3 i64)).add_nil_raw 30 1
  have H : St (at0 w) w1 [raw 30 1 (.slice none 0 0) 0 [], hang (Rdr.own 3 i64) [] [], raw 82 1 (.slice (some ⟨b1, 0, none⟩) 1 1) 1 [.pointer (some ⟨br, 0, none⟩)]] [] := noRo H
  have hk0 : KidsAt w (h + 1) [x] [.pointer (some ⟨br, 0, none⟩)] := ⟨rfl, fun i y hy => by
    cases i with
    | zero => simp at hy; subst hy; exact ⟨br, rfl, hN⟩
    | succ i => simp at hy⟩
  (repeat (first | refine WO.run tabOk rfl rfl ?_ | refine WO.nil ?_ | refine WO.skip rfl rfl rfl ?_ | refine WO.pu tabOk rfl rfl rfl rfl ?_ | refine W.seq ?_ | refine W.region ?_ | refine W.block ?_ | refine W.skip ?_ | refine W.exit ?_))
  refine W.loopS [3, 4] (fun s : LvS => [(3, s.vo), (4, .slice s.va s.xs.length s.vc)])
    (fun s w' => St (at0 w) w' [raw 30 1 s.vo s.rows.length s.cs, hang (Rdr.own 3 i64) s.rows s.cs, raw 82 1 (.slice s.va s.xs.length s.vc) s.xs.length s.ps] [] ∧ KidsAt w s.k s.xs s.ps ∧ Lv s.k s.xs ∧ s.rows ++ lvk s.k s.xs = lvk (h + 1) [x])
    (fun s => s.k) ⟨h + 1, [x], [], .slice none 0 0, some ⟨b1, 0, none⟩, 1, [.pointer (some ⟨br, 0, none⟩)], []⟩ rfl ⟨H, hk0, Lv.top T, rfl⟩ ?_
  clear H hk0
  rintro ⟨k, xs, rows, vo, va, vc, ps, cs⟩ w2 ⟨H, hK, hL, hR⟩
  simp only at H hK hL hR
  (repeat (first | refine WO.run tabOk rfl rfl ?_ | refine WO.nil ?_ | refine WO.skip rfl rfl rfl ?_ | refine WO.pu tabOk rfl rfl rfl rfl ?_ | refine W.seq ?_ | refine W.region ?_ | refine W.block ?_ | refine W.skip ?_ | refine W.exit ?_))
  refine W.cond rfl (fun h0 => ?_) (fun h0 => ?_)
  rotate_left
  · have hx0 : xs = [] := by simpa using h0
    clear h0
    have hk : k = 0 := by
      cases k with
      | zero => rfl
      | succ k => exact absurd hx0 hL.1
    subst hk
    rw [show lvk 0 xs = [] from rfl, List.append_nil] at hR
    subst hR
    (repeat (first | refine WO.run tabOk rfl rfl ?_ | refine WO.nil ?_ | refine WO.skip rfl rfl rfl ?_ | refine WO.pu tabOk rfl rfl rfl rfl ?_ | refine W.seq ?_ | refine W.region ?_ | refine W.block ?_ | refine W.skip ?_ | refine W.exit ?_))
    refine W.ret (ret1 Try.results12 rfl ⟨_, rfl, ?_⟩)
    exact St.close_row (r := Rdr.own 3 i64) (H.bring [0, 1] rfl |> fun H => (((H.to (i := 2) rfl).drop)))
  have hx0 : 0 < xs.length := by simpa using h0
  clear h0
  cases k with
  | zero => rw [show xs = [] from hL] at hx0; simp at hx0
  | succ k =>
  have hxl := hL.2.1
  have hfl := hL.flat_le
  have hrl : rows.length + (k + 1) = h + 1 := by have := congrArg List.length hR; rw [List.length_append, lvk_len, lvk_len] at this; exact this
  obtain ⟨g, o, rfl, _⟩ := raw_at H (e := 82) (n := xs.length) (cap := vc) (cs := ps) (a := va) (by simp) hx0
  (repeat (first | refine WO.run tabOk rfl rfl ?_ | refine WO.nil ?_ | refine WO.skip rfl rfl rfl ?_ | refine WO.pu tabOk rfl rfl rfl rfl ?_ | refine W.seq ?_ | refine W.region ?_ | refine W.block ?_ | refine W.skip ?_ | refine W.exit ?_))
  have H := ((H.add_nil_raw 82 1).add_nil_raw 3 1)
  refine W.loopS [3, 5, 6, 17, 18, 19] (fun s : Nat × Value × Value × List Value => [(3, vo), (5, s.2.1), (6, s.2.2.1), (17, .slice (some ⟨g, o, none⟩) xs.length vc), (18, .int .i64 xs.length), (19, .int .i64 s.1)])
    (fun s w' => s.1 ≤ xs.length ∧ St (at0 w) w' [raw 3 1 s.2.1 s.1 (kC (lens (xs.take s.1))), raw 82 1 s.2.2.1 ((xs.take s.1).flatMap Nd.kids).length s.2.2.2, raw 30 1 vo rows.length cs, hang (Rdr.own 3 i64) rows cs, raw 82 1 (.slice (some ⟨g, o, none⟩) xs.length vc) xs.length ps] [] ∧ KidsAt w k ((xs.take s.1).flatMap Nd.kids) s.2.2.2)
    (fun s => xs.length - s.1) (0, .slice none 0 0, .slice none 0 0, []) rfl ⟨Nat.zero_le _, H, KidsAt.nil w k⟩ ?_
  clear H
  rintro ⟨j, vs, vn, qs⟩ w3 ⟨hj, H, hQ⟩
  simp only at hj H hQ
  have hw3 := H.pure
  (repeat (first | refine WO.run tabOk rfl rfl ?_ | refine WO.nil ?_ | refine WO.skip rfl rfl rfl ?_ | refine WO.pu tabOk rfl rfl rfl rfl ?_ | refine W.seq ?_ | refine W.region ?_ | refine W.block ?_ | refine W.skip ?_ | refine W.exit ?_))
  refine W.cond rfl (fun hlt => ?_) (fun hge => ?_)
  · have hlt : j < xs.length := by simpa using hlt
    have hy := List.getElem?_eq_getElem hlt
    generalize xs[j] = y at hy
    obtain ⟨b, hp, hN⟩ := hK.2 j y hy
    obtain ⟨vk, vt, a, c, ks, ka, kc, hb, rfl, hsh, hKy⟩ := node_kids hN
    have hat := (raw_at H (e := 82) (n := xs.length) (cap := vc) (cs := ps) (a := some ⟨g, o, none⟩) (by simp) hx0)
    obtain ⟨g', o', e, hat⟩ := hat
    simp only [Option.some.injEq, Addr.mk.injEq, and_true] at e
    obtain ⟨rfl, rfl⟩ := e
    have hfle := flat_take_le (xs := xs) j
    have hkt := kids_take hy
    have hlt2 := lens_take hy
    have hfle2 := flat_take_le (xs := xs) (j + 1)
    rw [hkt, List.length_append] at hfle2
    have H1 := St.start [blk b 88 [.slice ka y.keys.length kc, vt, .slice a y.kids.length c]] (w := w3) (by simpa using hb.pure hw3)
    (repeat (first | refine WO.run tabOk rfl rfl ?_ | refine WO.nil ?_ | refine WO.skip rfl rfl rfl ?_ | refine WO.pu tabOk rfl rfl rfl rfl ?_ | refine W.seq ?_ | refine W.region ?_ | refine W.block ?_ | refine W.skip ?_ | refine W.exit ?_))
    refine WO.pv rfl rfl rfl (PureV.idxN tabOk rfl rfl rfl rfl rfl rfl (by omega)) ?_
    refine WO.one rfl rfl rfl (OpW.loadc tabOk rfl rfl rfl rfl (hat _ _ hp) ?_)
    (repeat (first | refine WO.run tabOk rfl rfl ?_ | refine WO.nil ?_ | refine WO.skip rfl rfl rfl ?_ | refine WO.pu tabOk rfl rfl rfl rfl ?_ | refine W.seq ?_ | refine W.region ?_ | refine W.block ?_ | refine W.skip ?_ | refine W.exit ?_ | refine WO.one rfl rfl rfl (OpW.load1 tabOk rfl rfl rfl rfl H1 (by (first | exact .head _ | exact .tail _ (.head _) | exact .tail _ (.tail _ (.head _)) | exact .tail _ (.tail _ (.tail _ (.head _))) | exact .tail _ (.tail _ (.tail _ (.tail _ (.head _)))) | exact .tail _ (.tail _ (.tail _ (.tail _ (.tail _ (.head _))))) | exact .tail _ (.tail _ (.tail _ (.tail _ (.tail _ (.tail _ (.head _)))))) | exact .tail _ (.tail _ (.tail _ (.tail _ (.tail _ (.tail _ (.tail _ (.head _))))))) | exact .tail _ (.tail _ (.tail _ (.tail _ (.tail _ (.tail _ (.tail _ (.tail _ (.head _)))))))) | exact .tail _ (.tail _ (.tail _ (.tail _ (.tail _ (.tail _ (.tail _ (.tail _ (.tail _ (.head _))))))))) | exact .tail _ (.tail _ (.tail _ (.tail _ (.tail _ (.tail _ (.tail _ (.tail _ (.tail _ (.tail _ (.head _)))))))))) | exact .tail _ (.tail _ (.tail _ (.tail _ (.tail _ (.tail _ (.tail _ (.tail _ (.tail _ (.tail _ (.tail _ (.head _))))))))))) | exact .tail _ (.tail _ (.tail _ (.tail _ (.tail _ (.tail _ (.tail _ (.tail _ (.tail _ (.tail _ (.tail _ (.tail _ (.head _)))))))))))) | exact .tail _ (.tail _ (.tail _ (.tail _ (.tail _ (.tail _ (.tail _ (.tail _ (.tail _ (.tail _ (.tail _ (.tail _ (.tail _ (.head _))))))))))))) | exact .tail _ (.tail _ (.tail _ (.tail _ (.tail _ (.tail _ (.tail _ (.tail _ (.tail _ (.tail _ (.tail _ (.tail _ (.tail _ (.tail _ (.head _)))))))))))))) | exact .tail _ (.tail _ (.tail _ (.tail _ (.tail _ (.tail _ (.tail _ (.tail _ (.tail _ (.tail _ (.tail _ (.tail _ (.tail _ (.tail _ (.tail _ (.head _))))))))))))))))) rfl ?_)))
    refine WO.one rfl rfl rfl (OpW.buildSlice tabOk rfl rfl rfl rfl zero3 rfl rfl (l := [.int .i64 (y.keys.length : Int)]) rfl H ?_)
    clear H H1 hat
    intro b4 w4 H
    have hs4 := shows_blk (sz := 1) (m := 1) H (b := b4) (e := 3) (l := [.int .i64 (y.keys.length : Int)]) (by simp) rfl (by intro u hu; simp at hu; subst hu; rfl)
    (repeat (first | refine WO.run tabOk rfl rfl ?_ | refine WO.nil ?_ | refine WO.skip rfl rfl rfl ?_ | refine WO.pu tabOk rfl rfl rfl rfl ?_ | refine W.seq ?_ | refine W.region ?_ | refine W.block ?_ | refine W.skip ?_ | refine W.exit ?_))
    refine WO.one rfl rfl rfl (OpW.append tabOk rfl rfl rfl zero3 rfl rfl rfl rfl (H.to (i := 1) rfl) hs4 (by omega) (by simp only [maxLen]; omega) ?_)
    clear H hs4
    intro vs' w5 H _
    have H := (H.to (i := 1) rfl).drop
    have hw5 := H.pure
    have H1 := St.start [blk b 88 [.slice ka y.keys.length kc, vt, .slice a y.kids.length c]] (w := w5) (by simpa using hb.pure hw5)
    (repeat (first | refine WO.run tabOk rfl rfl ?_ | refine WO.nil ?_ | refine WO.skip rfl rfl rfl ?_ | refine WO.pu tabOk rfl rfl rfl rfl ?_ | refine W.seq ?_ | refine W.region ?_ | refine W.block ?_ | refine W.skip ?_ | refine W.exit ?_ | refine WO.one rfl rfl rfl (OpW.load1 tabOk rfl rfl rfl rfl H1 (by (first | exact .head _ | exact .tail _ (.head _) | exact .tail _ (.tail _ (.head _)) | exact .tail _ (.tail _ (.tail _ (.head _))) | exact .tail _ (.tail _ (.tail _ (.tail _ (.head _)))) | exact .tail _ (.tail _ (.tail _ (.tail _ (.tail _ (.head _))))) | exact .tail _ (.tail _ (.tail _ (.tail _ (.tail _ (.tail _ (.head _)))))) | exact .tail _ (.tail _ (.tail _ (.tail _ (.tail _ (.tail _ (.tail _ (.head _))))))) | exact .tail _ (.tail _ (.tail _ (.tail _ (.tail _ (.tail _ (.tail _ (.tail _ (.head _)))))))) | exact .tail _ (.tail _ (.tail _ (.tail _ (.tail _ (.tail _ (.tail _ (.tail _ (.tail _ (.head _))))))))) | exact .tail _ (.tail _ (.tail _ (.tail _ (.tail _ (.tail _ (.tail _ (.tail _ (.tail _ (.tail _ (.head _)))))))))) | exact .tail _ (.tail _ (.tail _ (.tail _ (.tail _ (.tail _ (.tail _ (.tail _ (.tail _ (.tail _ (.tail _ (.head _))))))))))) | exact .tail _ (.tail _ (.tail _ (.tail _ (.tail _ (.tail _ (.tail _ (.tail _ (.tail _ (.tail _ (.tail _ (.tail _ (.head _)))))))))))) | exact .tail _ (.tail _ (.tail _ (.tail _ (.tail _ (.tail _ (.tail _ (.tail _ (.tail _ (.tail _ (.tail _ (.tail _ (.tail _ (.head _))))))))))))) | exact .tail _ (.tail _ (.tail _ (.tail _ (.tail _ (.tail _ (.tail _ (.tail _ (.tail _ (.tail _ (.tail _ (.tail _ (.tail _ (.tail _ (.head _)))))))))))))) | exact .tail _ (.tail _ (.tail _ (.tail _ (.tail _ (.tail _ (.tail _ (.tail _ (.tail _ (.tail _ (.tail _ (.tail _ (.tail _ (.tail _ (.tail _ (.head _))))))))))))))))) rfl ?_)))
    refine WO.one rfl rfl rfl (OpW.append tabOk rfl rfl rfl zero82 rfl rfl rfl rfl (H.to (i := 1) rfl) (hsh.pure hw5) (by omega) (by simp only [maxLen]; omega) ?_)
    clear H H1
    intro vn' w6 H _
    (repeat (first | refine WO.run tabOk rfl rfl ?_ | refine WO.nil ?_ | refine WO.skip rfl rfl rfl ?_ | refine WO.pu tabOk rfl rfl rfl rfl ?_ | refine W.seq ?_ | refine W.region ?_ | refine W.block ?_ | refine W.skip ?_ | refine W.exit ?_))
    refine WO.pv rfl rfl rfl (PureV.addN rfl rfl rfl (by omega)) ?_
    (repeat (first | refine WO.run tabOk rfl rfl ?_ | refine WO.nil ?_ | refine WO.skip rfl rfl rfl ?_ | refine WO.pu tabOk rfl rfl rfl rfl ?_ | refine W.seq ?_ | refine W.region ?_ | refine W.block ?_ | refine W.skip ?_ | refine W.exit ?_))
    refine ⟨(j + 1, vs', vn', qs ++ ks), rfl, ⟨hlt, ?_, ?_⟩, by simp only; omega⟩
    · simp only
      rw [hlt2, hkt, List.length_append]
      have ek : kC (lens (xs.take j) ++ [(y.keys.length : Int)]) = kC (lens (xs.take j)) ++ [.int .i64 (y.keys.length : Int)] := by simp
      rw [ek]
      exact H.bring [1, 0] rfl
    · simp only
      rw [hkt]
      exact hQ.app hKy
  · have hge : j = xs.length := by simp at hge; omega
    subst hge
    rw [List.take_length] at H hQ
    (repeat (first | refine WO.run tabOk rfl rfl ?_ | refine WO.nil ?_ | refine WO.skip rfl rfl rfl ?_ | refine WO.pu tabOk rfl rfl rfl rfl ?_ | refine W.seq ?_ | refine W.region ?_ | refine W.block ?_ | refine W.skip ?_ | refine W.exit ?_))
    obtain ⟨sa, sc, rfl, _, _⟩ := raw_form H (v := vs) (e := 3) (sz := 1) (n := xs.length) (cs := kC (lens xs)) (by simp)
    obtain ⟨na, nc, rfl, _, _⟩ := raw_form H (v := vn) (e := 82) (sz := 1) (n := (xs.flatMap Nd.kids).length) (cs := qs) (by simp)
    refine WO.one rfl rfl rfl (OpW.buildSlice tabOk rfl rfl rfl rfl zero30 rfl rfl (l := [.slice sa xs.length sc]) rfl H ?_)
    clear H
    intro b7 w7 H
    have hs7 := shows_blk (sz := 1) (m := 1) H (b := b7) (e := 30) (l := [.slice sa xs.length sc]) (by simp) rfl (by intro u hu; simp at hu; subst hu; rfl)
    (repeat (first | refine WO.run tabOk rfl rfl ?_ | refine WO.nil ?_ | refine WO.skip rfl rfl rfl ?_ | refine WO.pu tabOk rfl rfl rfl rfl ?_ | refine W.seq ?_ | refine W.region ?_ | refine W.block ?_ | refine W.skip ?_ | refine W.exit ?_))
    refine WO.one rfl rfl rfl (OpW.append tabOk rfl rfl rfl zero30 rfl rfl rfl rfl (H.to (i := 3) rfl) hs7 (by omega) (by simp only [maxLen]; omega) ?_)
    clear H hs7
    intro vo' w8 H _
    (repeat (first | refine WO.run tabOk rfl rfl ?_ | refine WO.nil ?_ | refine WO.skip rfl rfl rfl ?_ | refine WO.pu tabOk rfl rfl rfl rfl ?_ | refine W.seq ?_ | refine W.region ?_ | refine W.block ?_ | refine W.skip ?_ | refine W.exit ?_))
    have H := (H.to (i := 1) rfl).drop
    have H := (H.to (i := 1) rfl)
    rw [← lens_len xs] at H
    have H : St (at0 w) w8 (row 3 i64 (.slice sa (lens xs).length sc) (lens xs) :: _) [] := H.flat_close
    have H : St (at0 w) w8 (elem (Rdr.own 3 i64) (lens xs) [.slice sa (lens xs).length sc] :: _) [] := H.conv fun S hS => ⟨S, ⟨_, rfl, hS⟩, fun _ h => h⟩
    have H := H.hang_one
    have H := (H.bring [3, 0] rfl).hang_join
    have H := ((H.to (i := 3) rfl).drop.bring [1, 0, 2] rfl)
    refine ⟨⟨k, xs.flatMap Nd.kids, rows ++ [lens xs], vo', na, nc, qs, cs ++ [.slice sa (lens xs).length sc]⟩, rfl, ⟨?_, hQ, hL.next, ?_⟩, Nat.lt_succ_self k⟩
    · simp only
      rw [show (rows ++ [lens xs]).length = rows.length + 1 from by simp]
      exact H
    · simp only
      rw [← hR]
      simp [lvk]
end Go.Proofs.Ytnghaidnbicjjaa
