/- graph: visit: its walk. Conditions: each fact's own premises. -/
import Derived.Test.YtpenbdpgpamcbaaGraphB
set_option linter.unusedVariables false
set_option linter.unusedSimpArgs false
set_option maxRecDepth 20000
namespace Go.Proofs.Ytpenbdpgpamcbaa
open Go Gw
attribute [local irreducible] W WO WD

/-- How much there is of it. -/
structure Sz (n : Nat) (s : Tj) : Prop where
  tot : s.time + s.whn.count 0 = n
  len : s.stk.length + s.parts.flatten.length = s.time
theorem Sz.enter {n k : Nat} {s : Tj} (h : Sz n s) (hk : k < s.whn.length) (h0 : s.wh k = 0) : Sz n (s.enter k) ∧ s.time < n := by
  have hm : (0 : Nat) ∈ s.whn := by
    have : s.whn[k]? = some 0 := by
      rw [List.getElem?_eq_getElem hk]
      simp only [Tj.wh, List.getD_eq_getElem?_getD, List.getElem?_eq_getElem hk, Option.getD_some] at h0
      rw [h0]
    exact List.mem_of_getElem? this
  have hc : 0 < s.whn.count 0 := List.count_pos_iff.2 hm
  have ht := h.tot
  have hl := h.len
  have hg : s.whn[k] = 0 := by simpa [Tj.wh, hk] using h0
  have hs : (s.whn.set k (s.time + 1)).count 0 = s.whn.count 0 - 1 := by
    rw [List.count_set hk]; simp [hg]
  refine ⟨⟨?_, ?_⟩, by omega⟩
  · show s.time + 1 + (s.whn.set k (s.time + 1)).count 0 = n
    rw [hs]; omega
  · show (s.stk ++ [k]).length + s.parts.flatten.length = s.time + 1
    have : (s.stk ++ [k]).length = s.stk.length + 1 := by simp
    omega
theorem Sz.lower {n k v : Nat} {s : Tj} (h : Sz n s) : Sz n (s.lower k v) := ⟨h.tot, h.len⟩
theorem flat_len {l : List (List Nat)} (h : ∀ p ∈ l, p ≠ []) : l.length ≤ l.flatten.length := by
  induction l with
  | nil => simp
  | cons p l ih =>
    have := ih fun q hq => h q (List.mem_cons_of_mem _ hq)
    have h1 := h p (by simp)
    have : 0 < p.length := List.length_pos_iff.2 h1
    rw [List.flatten_cons, List.length_append, List.length_cons]; omega

/-- The walker in memory. -/
def WalkSt (c : Ctx) (w : World) (bw gw gl : Nat) (ta : Option Addr) (tc n : Nat) (to : List (List Nat)) (s : Tj) (Ro : List Asn) : Prop :=
  ∃ vs vp, St c w [blk bw 202 [.slice ta to.length tc, .slice (some ⟨gw, 0, none⟩) n n, .slice (some ⟨gl, 0, none⟩) n n, vs, vp, .int .i64 (s.time : Int)], blk gw 3 (s.whn.flatMap encN), blk gl 3 (s.low.flatMap encN), row 3 natR vs s.stk, row 31 (Rdr.own 3 natR) vp s.parts] Ro

theorem visit_ok {n : Nat} {to : List (List Nat)} {E : List (Int × Int)} (hE : NextOk n E to) (hG : GOk n E) (bw gw gl : Nat) (ta : Option Addr) (tc : Nat) : ∀ (m : Nat) (c : Ctx) (w : World) (Ro : List Asn) (s : Tj) (g : List Nat) (k : Nat),
    n - s.time ≤ m → WalkSt c w bw gw gl ta tc n to s Ro → rd (Rdr.rd natR) ta tc to ∈ Ro → TInv n to g s → Sz n s → k < n → s.wh k = 0 → (∀ y ∈ g, Rch to y k) →
    Calls Try.prog 138 #[.pointer (some ⟨bw, 0, none⟩), .int .i64 (k : Int)] w (Ret fun v w' => v = .tuple #[] ∧ ∃ s', TVis n to g k s s' ∧ Sz n s' ∧ WalkSt c w' bw gw gl ta tc n to s' Ro) := by
  have hn := hG.hi
  have hEl := hG.len
  intro m
  induction m with
  | zero =>
    intro c w Ro s g k hm hW hRo hI hS hk h0 hg
    have := (hS.enter (by rw [hI.lw]; exact hk) h0).2; omega
  | succ m ih =>
  intro c w Ro s g k hm ⟨vs, vp, H⟩ hRo hI hS hk h0 hg
  obtain ⟨hS1, htn⟩ := hS.enter (by rw [hI.lw]; exact hk) h0
  have hlw := hI.lw
  have hll := hI.ll
  refine calls_W (args := [_, _]) Try.func138 rfl Try.ntmps138 rfl ?_
  (repeat (first | refine WO.run tabOk rfl rfl ?_ | refine WO.nil ?_ | refine WO.skip rfl rfl rfl ?_ | refine WO.pu tabOk rfl rfl rfl rfl ?_ | refine W.seq ?_ | refine W.region ?_ | refine W.block ?_ | refine W.skip ?_ | refine W.exit ?_ | refine WO.one rfl rfl rfl (OpW.load1 tabOk rfl rfl rfl rfl H (by (repeat (first | exact .head _ | refine .tail _ ?_))) rfl ?_)))
  refine WO.pv rfl rfl rfl (PureV.addN rfl rfl rfl (by omega)) ?_
  (repeat (first | refine WO.run tabOk rfl rfl ?_ | refine WO.nil ?_ | refine WO.skip rfl rfl rfl ?_ | refine WO.pu tabOk rfl rfl rfl rfl ?_ | refine W.seq ?_ | refine W.region ?_ | refine W.block ?_ | refine W.skip ?_ | refine W.exit ?_))
  refine WO.act rfl rfl (OpW.store1 (i := 0) tabOk rfl rfl rfl rfl rfl H rfl rfl rfl ?_); intro w1 H1
  (repeat (first | refine WO.run tabOk rfl rfl ?_ | refine WO.nil ?_ | refine WO.skip rfl rfl rfl ?_ | refine WO.pu tabOk rfl rfl rfl rfl ?_ | refine W.seq ?_ | refine W.region ?_ | refine W.block ?_ | refine W.skip ?_ | refine W.exit ?_))
  have H2 := H1.drew
  have hA := H2.ha (L := [blk bw 202 [.slice ta to.length tc, .slice (some ⟨gw, 0, none⟩) n n, .slice (some ⟨gl, 0, none⟩) n n, vs, vp, .int .i64 ((s.time + 1 : Nat) : Int)]]) (by simp)
  refine W.regionD [3, 8, 13, 17] (HA [blk bw 202 [.slice ta to.length tc, .slice (some ⟨gw, 0, none⟩) n n, .slice (some ⟨gl, 0, none⟩) n n, vs, vp, .int .i64 ((s.time + 1 : Nat) : Int)]]) [0, 1, 2, 3, 4, 5, 6, 7, 8, 9, 10, 11, 12, 13, 14, 15, 16, 17, 18, 19, 20, 21] rfl (by kernel_rfl) (fun _ _ _ h => h) ?_
  (repeat (first | refine WD.run tabOk rfl rfl ?_ | refine WD.hv rfl rfl rfl rfl rfl hA (HeldV.load1 tabOk rfl rfl rfl rfl (by (repeat (first | exact .head _ | refine .tail _ ?_))) rfl) ?_ | refine WD.hv rfl rfl rfl rfl rfl hA (HeldV.loadA tabOk rfl rfl rfl rfl (by (repeat (first | exact .head _ | refine .tail _ ?_))) rfl rfl) ?_ | refine WD.pu tabOk rfl rfl rfl rfl rfl rfl ?_))
  refine WD.pv rfl rfl rfl rfl rfl (PureV.idxN tabOk rfl rfl rfl rfl rfl rfl hk) ?_
  refine WD.act rfl rfl rfl rfl (by kernel_rfl) (OpW.storeB (i := 1) tabOk rfl rfl rfl rfl H2 rfl (v := .int .i64 ((s.time + 1 : Nat) : Int)) (by intro u hu; simp [cellsL] at hu; subst hu; rfl) rfl (by rw [encN_len]; simp [cellsL]; omega) ?_)
  intro w3 H3
  refine WD.pv rfl rfl rfl rfl rfl (PureV.idxN tabOk rfl rfl rfl rfl rfl rfl hk) ?_
  refine WD.act rfl rfl rfl rfl (by kernel_rfl) (OpW.storeB (i := 2) tabOk rfl rfl rfl rfl H3 rfl (v := .int .i64 ((s.time + 1 : Nat) : Int)) (by intro u hu; simp [cellsL] at hu; subst hu; rfl) rfl (by rw [encN_len]; simp [cellsL]; omega) ?_)
  intro w4 H4
  (repeat (first | refine WD.run tabOk rfl rfl ?_ | refine WD.nil ?_))
  clear hA H H1 H2 H3
  have esw : ∀ (l : List Nat) (v : Nat), k < l.length → spliceL (l.flatMap encN) (0 + k * 1) (cellsL (.int .i64 (v : Int))) = (l.set k v).flatMap encN := fun l v h => by
    rw [Nat.zero_add, Nat.mul_one]; exact encN_set v h
  rw [esw _ _ (by omega), esw _ _ (by omega)] at H4
  (repeat (first | refine WO.run tabOk rfl rfl ?_ | refine WO.nil ?_ | refine WO.skip rfl rfl rfl ?_ | refine WO.pu tabOk rfl rfl rfl rfl ?_ | refine W.seq ?_ | refine W.region ?_ | refine W.block ?_ | refine W.skip ?_ | refine W.exit ?_ | refine WO.one rfl rfl rfl (OpW.load1 tabOk rfl rfl rfl rfl H4 (by (repeat (first | exact .head _ | refine .tail _ ?_))) rfl ?_)))
  refine WO.one rfl rfl rfl (OpW.buildSlice tabOk rfl rfl rfl rfl zero3 rfl rfl (l := [.int .i64 (k : Int)]) rfl H4 ?_)
  intro b9 w5 H5
  have hsh := shows_blk (sz := 1) (m := 1) (e := 3) (l := [.int .i64 (k : Int)]) H5 (b := b9) (by simp) rfl (by intro u hu; simp at hu; subst hu; rfl)
  have H6 := (H5.to (i := 4) rfl).nat_open
  have hlen := hS.len
  refine WO.one rfl rfl rfl (OpW.append tabOk rfl rfl rfl zero3 rfl rfl rfl rfl H6 hsh (by omega) (by simp only [maxLen]; omega) ?_)
  intro vs1 w7 H7 _
  have e1 : s.stk.flatMap encN ++ [.int .i64 (k : Int)] = (s.stk ++ [k]).flatMap encN := by simp [encN]
  have e2 : s.stk.length + 1 = (s.stk ++ [k]).length := by simp
  rw [e1, e2] at H7
  have H8 := H7.nat_close
  obtain ⟨u1, d1, rfl⟩ := rowForm H8 (v := vs1) (e := 3) (r := natR) (xs := s.stk ++ [k]) (by simp)
  (repeat (first | refine WO.run tabOk rfl rfl ?_ | refine WO.nil ?_ | refine WO.skip rfl rfl rfl ?_ | refine WO.pu tabOk rfl rfl rfl rfl ?_ | refine W.seq ?_ | refine W.region ?_ | refine W.block ?_ | refine W.skip ?_ | refine W.exit ?_))
  refine WO.act rfl rfl (OpW.store1 (i := 4) tabOk rfl rfl rfl rfl rfl H8 rfl rfl rfl ?_); intro w9 H9
  have H10 : WalkSt c w9 bw gw gl ta tc n to (s.enter k) Ro := ⟨_, _, ((H9.bring [0, 4, 3, 1, 5] rfl).bring [5] rfl).drop⟩
  clear H4 H5 H6 H7 H8 H9 hsh
  obtain ⟨vs2, vp2, H⟩ := H10
  have hy := List.getElem?_eq_getElem (l := to) (i := k) (by rw [hE.len]; exact hk)
  generalize to[k]'_ = l at hy
  have hlm : l ∈ to := List.mem_of_getElem? hy
  have hls := hE.short l hlm
  obtain ⟨tb, tof, a1, c1, rfl, hcell, H11⟩ := H.roSub hRo hy
  (repeat (first | refine WO.run tabOk rfl rfl ?_ | refine WO.nil ?_ | refine WO.skip rfl rfl rfl ?_ | refine WO.pu tabOk rfl rfl rfl rfl ?_ | refine W.seq ?_ | refine W.region ?_ | refine W.block ?_ | refine W.skip ?_ | refine W.exit ?_ | refine WO.one rfl rfl rfl (OpW.load1 tabOk rfl rfl rfl rfl H (by (repeat (first | exact .head _ | refine .tail _ ?_))) rfl ?_)))
  refine WO.pv rfl rfl rfl (PureV.idxN tabOk rfl rfl rfl rfl rfl rfl (by rw [hE.len]; exact hk)) ?_
  refine WO.one rfl rfl rfl (OpW.loadc tabOk rfl rfl rfl rfl hcell ?_)
  (repeat (first | refine WO.run tabOk rfl rfl ?_ | refine WO.nil ?_ | refine WO.skip rfl rfl rfl ?_ | refine WO.pu tabOk rfl rfl rfl rfl ?_ | refine W.seq ?_ | refine W.region ?_ | refine W.block ?_ | refine W.skip ?_ | refine W.exit ?_))
  refine W.loopS [0, 1, 51, 52, 53] (fun st : Nat × Tj => [(0, .pointer (some ⟨bw, 0, none⟩)), (1, .int .i64 (k : Int)), (51, .slice a1 l.length c1), (52, .int .i64 (l.length : Int)), (53, .int .i64 (st.1 : Int))])
    (fun st w' => st.1 ≤ l.length ∧ TLoop n to g k st.1 l s st.2 ∧ Sz n st.2 ∧ WalkSt c w' bw gw gl (some ⟨tb, tof, none⟩) tc n to st.2 (rd natR a1 c1 l :: Ro)) (fun st => l.length - st.1) (0, s.enter k) rfl ⟨Nat.zero_le _, TLoop.start hI hk h0 hg, hS1, _, _, H11⟩ ?_
  clear H H11 hcell vs2 vp2
  rintro ⟨i, s1⟩ w11 ⟨hi, hL, hSz, vs1, vp1, H⟩
  simp only at hi hL hSz H
  have hlw1 := hL.inv.lw
  have hll1 := hL.inv.ll
  (repeat (first | refine WO.run tabOk rfl rfl ?_ | refine WO.nil ?_ | refine WO.skip rfl rfl rfl ?_ | refine WO.pu tabOk rfl rfl rfl rfl ?_ | refine W.seq ?_ | refine W.region ?_ | refine W.block ?_ | refine W.skip ?_ | refine W.exit ?_))
  refine W.cond rfl (fun hlt => ?_) (fun hge => ?_)
  · have hlt : i < l.length := by simpa using hlt
    have hR : Holds w11 (rd natR a1 c1 l) := H.holds (by simp)
    obtain ⟨lb, lo, rfl⟩ := hR.addr (by omega)
    have hx := List.getElem?_eq_getElem hlt
    generalize l[i] = x at hx
    have hxn : x < n := hE.lt hG hlm (List.mem_of_getElem? hx)
    (repeat (first | refine WO.run tabOk rfl rfl ?_ | refine WO.nil ?_ | refine WO.skip rfl rfl rfl ?_ | refine WO.pu tabOk rfl rfl rfl rfl ?_ | refine W.seq ?_ | refine W.region ?_ | refine W.block ?_ | refine W.skip ?_ | refine W.exit ?_))
    refine WO.pv rfl rfl rfl (PureV.idxN tabOk rfl rfl rfl rfl rfl rfl (by omega)) ?_
    refine WO.one rfl rfl rfl (OpW.elem1 (i := i) (j := 0) tabOk rfl rfl rfl rfl hR hx rfl rfl ?_)
    (repeat (first | refine WO.run tabOk rfl rfl ?_ | refine WO.nil ?_ | refine WO.skip rfl rfl rfl ?_ | refine WO.pu tabOk rfl rfl rfl rfl ?_ | refine W.seq ?_ | refine W.region ?_ | refine W.block ?_ | refine W.skip ?_ | refine W.exit ?_ | refine WO.one rfl rfl rfl (OpW.load1 tabOk rfl rfl rfl rfl H (by (repeat (first | exact .head _ | refine .tail _ ?_))) rfl ?_)))
    refine WO.pv rfl rfl rfl (PureV.idxN tabOk rfl rfl rfl rfl rfl rfl hxn) ?_
    have cell : ∀ (l : List Nat) (j : Nat), j < l.length → (l.flatMap encN)[0 + j * 1]? = some (.int .i64 ((l.getD j 0 : Nat) : Int)) := fun l j h => by
      rw [Nat.zero_add, Nat.mul_one]; exact encN_at (by rw [List.getElem?_eq_getElem h, List.getD_eq_getElem?_getD, List.getElem?_eq_getElem h]; rfl)
    refine WO.one rfl rfl rfl (OpW.loadB tabOk rfl rfl rfl rfl H (.tail _ (.head _)) (cell s1.whn x (by omega)) ?_)
    (repeat (first | refine WO.run tabOk rfl rfl ?_ | refine WO.nil ?_ | refine WO.skip rfl rfl rfl ?_ | refine WO.pu tabOk rfl rfl rfl rfl ?_ | refine W.seq ?_ | refine W.region ?_ | refine W.block ?_ | refine W.skip ?_ | refine W.exit ?_))
    refine W.cond rfl (fun hz => ?_) (fun hz => ?_)
    · have hz : s1.wh x = 0 := by simp at hz; simpa using hz
      (repeat (first | refine WO.run tabOk rfl rfl ?_ | refine WO.nil ?_ | refine WO.skip rfl rfl rfl ?_ | refine WO.pu tabOk rfl rfl rfl rfl ?_ | refine W.seq ?_ | refine W.region ?_ | refine W.block ?_ | refine W.skip ?_ | refine W.exit ?_))
      refine WO.one rfl rfl rfl (OpW.call rfl Try.call138 rfl (Calls.ret (ih c w11 _ s1 (k :: g) x (by have := hL.tm; omega) ⟨vs1, vp1, H⟩ (.tail _ hRo) hL.inv hSz hxn hz (hL.ask hI hy hx)) ?_))
      rintro _ w12 ⟨rfl, s2, hV, hS2, vs3, vp3, H12⟩
      clear H
      have hll2 := hV.inv.ll
      (repeat (first | refine WO.run tabOk rfl rfl ?_ | refine WO.nil ?_ | refine WO.skip rfl rfl rfl ?_ | refine WO.pu tabOk rfl rfl rfl rfl ?_ | refine W.seq ?_ | refine W.region ?_ | refine W.block ?_ | refine W.skip ?_ | refine W.exit ?_))
      have H13 := H12.drew
      have hA := H13.ha (L := [blk bw 202 [.slice (some ⟨tb, tof, none⟩) to.length tc, .slice (some ⟨gw, 0, none⟩) n n, .slice (some ⟨gl, 0, none⟩) n n, vs3, vp3, .int .i64 (s2.time : Int)], blk gl 3 (s2.low.flatMap encN)]) (by simp)
      refine W.regionD [3, 8, 11, 15, 18] (HA [blk bw 202 [.slice (some ⟨tb, tof, none⟩) to.length tc, .slice (some ⟨gw, 0, none⟩) n n, .slice (some ⟨gl, 0, none⟩) n n, vs3, vp3, .int .i64 (s2.time : Int)], blk gl 3 (s2.low.flatMap encN)]) [0, 1, 2, 3, 4, 5, 6, 7, 8, 9, 10, 11, 12, 13, 14, 15, 16, 17, 18, 19, 20, 21] rfl (by kernel_rfl) (fun _ _ _ h => h) ?_
      (repeat (first | refine WD.run tabOk rfl rfl ?_ | refine WD.hv rfl rfl rfl rfl rfl hA (HeldV.load1 tabOk rfl rfl rfl rfl (by (repeat (first | exact .head _ | refine .tail _ ?_))) rfl) ?_ | refine WD.hv rfl rfl rfl rfl rfl hA (HeldV.loadA tabOk rfl rfl rfl rfl (by (repeat (first | exact .head _ | refine .tail _ ?_))) rfl rfl) ?_ | refine WD.pu tabOk rfl rfl rfl rfl rfl rfl ?_))
      refine WD.pv rfl rfl rfl rfl rfl (PureV.idxN tabOk rfl rfl rfl rfl rfl rfl hk) ?_
      (repeat (first | refine WD.run tabOk rfl rfl ?_ | refine WD.hv rfl rfl rfl rfl rfl hA (HeldV.load1 tabOk rfl rfl rfl rfl (by (repeat (first | exact .head _ | refine .tail _ ?_))) rfl) ?_ | refine WD.hv rfl rfl rfl rfl rfl hA (HeldV.loadA tabOk rfl rfl rfl rfl (by (repeat (first | exact .head _ | refine .tail _ ?_))) rfl rfl) ?_ | refine WD.pu tabOk rfl rfl rfl rfl rfl rfl ?_))
      refine WD.hv rfl rfl rfl rfl rfl hA (HeldV.loadB tabOk rfl rfl rfl rfl (.tail _ (.head _)) (cell s2.low k (by omega))) ?_
      (repeat (first | refine WD.run tabOk rfl rfl ?_ | refine WD.hv rfl rfl rfl rfl rfl hA (HeldV.load1 tabOk rfl rfl rfl rfl (by (repeat (first | exact .head _ | refine .tail _ ?_))) rfl) ?_ | refine WD.hv rfl rfl rfl rfl rfl hA (HeldV.loadA tabOk rfl rfl rfl rfl (by (repeat (first | exact .head _ | refine .tail _ ?_))) rfl rfl) ?_ | refine WD.pu tabOk rfl rfl rfl rfl rfl rfl ?_))
      refine WD.pv rfl rfl rfl rfl rfl (PureV.idxN tabOk rfl rfl rfl rfl rfl rfl hxn) ?_
      (repeat (first | refine WD.run tabOk rfl rfl ?_ | refine WD.hv rfl rfl rfl rfl rfl hA (HeldV.load1 tabOk rfl rfl rfl rfl (by (repeat (first | exact .head _ | refine .tail _ ?_))) rfl) ?_ | refine WD.hv rfl rfl rfl rfl rfl hA (HeldV.loadA tabOk rfl rfl rfl rfl (by (repeat (first | exact .head _ | refine .tail _ ?_))) rfl rfl) ?_ | refine WD.pu tabOk rfl rfl rfl rfl rfl rfl ?_))
      refine WD.hv rfl rfl rfl rfl rfl hA (HeldV.loadB tabOk rfl rfl rfl rfl (.tail _ (.head _)) (cell s2.low x (by omega))) ?_
      (repeat (first | refine WD.run tabOk rfl rfl ?_ | refine WD.hv rfl rfl rfl rfl rfl hA (HeldV.load1 tabOk rfl rfl rfl rfl (by (repeat (first | exact .head _ | refine .tail _ ?_))) rfl) ?_ | refine WD.hv rfl rfl rfl rfl rfl hA (HeldV.loadA tabOk rfl rfl rfl rfl (by (repeat (first | exact .head _ | refine .tail _ ?_))) rfl rfl) ?_ | refine WD.pu tabOk rfl rfl rfl rfl rfl rfl ?_))
      refine WD.tell (d := 88) (u := .int .i64 ((min (s2.lo k) (s2.lo x) : Nat) : Int)) rfl (by simp only [Tj.lo, Tj.wh]; congr 1; omega) ?_
      refine WD.pv rfl rfl rfl rfl rfl (PureV.idxN tabOk rfl rfl rfl rfl rfl rfl hk) ?_
      refine WD.act rfl rfl rfl rfl (by kernel_rfl) (OpW.storeB (i := 2) tabOk rfl rfl rfl rfl H13 rfl (v := .int .i64 ((min (s2.lo k) (s2.lo x) : Nat) : Int)) (by intro u hu; simp [cellsL] at hu; subst hu; rfl) rfl (by rw [encN_len]; simp [cellsL]; omega) ?_)
      intro w14 H14
      rw [esw _ _ (by omega)] at H14
      (repeat (first | refine WD.run tabOk rfl rfl ?_ | refine WD.nil ?_))
      (repeat (first | refine WO.run tabOk rfl rfl ?_ | refine WO.nil ?_ | refine WO.skip rfl rfl rfl ?_ | refine WO.pu tabOk rfl rfl rfl rfl ?_ | refine W.seq ?_ | refine W.region ?_ | refine W.block ?_ | refine W.skip ?_ | refine W.exit ?_))
      refine WO.pv rfl rfl rfl (PureV.addN (n := i) rfl rfl rfl (by omega)) ?_
      (repeat (first | refine WO.run tabOk rfl rfl ?_ | refine WO.nil ?_ | refine WO.skip rfl rfl rfl ?_ | refine WO.pu tabOk rfl rfl rfl rfl ?_ | refine W.seq ?_ | refine W.region ?_ | refine W.block ?_ | refine W.skip ?_ | refine W.exit ?_))
      exact ⟨(i + 1, s2.lower k (min (s2.lo k) (s2.lo x))), rfl, ⟨by simp only; omega, hL.child hk hy hx hz hV, hS2.lower, _, _, H14.bring [1, 2] rfl⟩, by simp only; omega⟩
    · have hz : s1.wh x ≠ 0 := by simp at hz; simpa using hz
      (repeat (first | refine WO.run tabOk rfl rfl ?_ | refine WO.nil ?_ | refine WO.skip rfl rfl rfl ?_ | refine WO.pu tabOk rfl rfl rfl rfl ?_ | refine W.seq ?_ | refine W.region ?_ | refine W.block ?_ | refine W.skip ?_ | refine W.exit ?_ | refine WO.one rfl rfl rfl (OpW.load1 tabOk rfl rfl rfl rfl H (by (repeat (first | exact .head _ | refine .tail _ ?_))) rfl ?_)))
      obtain ⟨ua, uc, rfl, hus⟩ := row_rd (H.holds (A := row 3 natR vs1 s1.stk) (by simp))
      refine WO.one rfl rfl rfl (OpW.call rfl Try.call18 rfl (Calls.ret (hasN_ok w11 ua uc s1.stk x hus) ?_))
      rintro _ w12 ⟨hp12, rfl⟩
      have H12 := H.after hp12
      clear H
      (repeat (first | refine WO.run tabOk rfl rfl ?_ | refine WO.nil ?_ | refine WO.skip rfl rfl rfl ?_ | refine WO.pu tabOk rfl rfl rfl rfl ?_ | refine W.seq ?_ | refine W.region ?_ | refine W.block ?_ | refine W.skip ?_ | refine W.exit ?_))
      refine W.cond rfl (fun hm => ?_) (fun hm => ?_)
      · have hm : x ∈ s1.stk := by simpa using hm
        (repeat (first | refine WO.run tabOk rfl rfl ?_ | refine WO.nil ?_ | refine WO.skip rfl rfl rfl ?_ | refine WO.pu tabOk rfl rfl rfl rfl ?_ | refine W.seq ?_ | refine W.region ?_ | refine W.block ?_ | refine W.skip ?_ | refine W.exit ?_))
        have H13 := H12.drew
        have hA := H13.ha (L := [blk bw 202 [.slice (some ⟨tb, tof, none⟩) to.length tc, .slice (some ⟨gw, 0, none⟩) n n, .slice (some ⟨gl, 0, none⟩) n n, .slice ua s1.stk.length uc, vp1, .int .i64 (s1.time : Int)], blk gl 3 (s1.low.flatMap encN), blk gw 3 (s1.whn.flatMap encN)]) (by simp)
        refine W.regionD [3, 8, 11, 15, 18] (HA [blk bw 202 [.slice (some ⟨tb, tof, none⟩) to.length tc, .slice (some ⟨gw, 0, none⟩) n n, .slice (some ⟨gl, 0, none⟩) n n, .slice ua s1.stk.length uc, vp1, .int .i64 (s1.time : Int)], blk gl 3 (s1.low.flatMap encN), blk gw 3 (s1.whn.flatMap encN)]) [0, 1, 2, 3, 4, 5, 6, 7, 8, 9, 10, 11, 12, 13, 14, 15, 16, 17, 18, 19, 20, 21] rfl (by kernel_rfl) (fun _ _ _ h => h) ?_
        (repeat (first | refine WD.run tabOk rfl rfl ?_ | refine WD.hv rfl rfl rfl rfl rfl hA (HeldV.load1 tabOk rfl rfl rfl rfl (by (repeat (first | exact .head _ | refine .tail _ ?_))) rfl) ?_ | refine WD.hv rfl rfl rfl rfl rfl hA (HeldV.loadA tabOk rfl rfl rfl rfl (by (repeat (first | exact .head _ | refine .tail _ ?_))) rfl rfl) ?_ | refine WD.pu tabOk rfl rfl rfl rfl rfl rfl ?_))
        refine WD.pv rfl rfl rfl rfl rfl (PureV.idxN tabOk rfl rfl rfl rfl rfl rfl hk) ?_
        (repeat (first | refine WD.run tabOk rfl rfl ?_ | refine WD.hv rfl rfl rfl rfl rfl hA (HeldV.load1 tabOk rfl rfl rfl rfl (by (repeat (first | exact .head _ | refine .tail _ ?_))) rfl) ?_ | refine WD.hv rfl rfl rfl rfl rfl hA (HeldV.loadA tabOk rfl rfl rfl rfl (by (repeat (first | exact .head _ | refine .tail _ ?_))) rfl rfl) ?_ | refine WD.pu tabOk rfl rfl rfl rfl rfl rfl ?_))
        refine WD.hv rfl rfl rfl rfl rfl hA (HeldV.loadB tabOk rfl rfl rfl rfl (.tail _ (.head _)) (cell s1.low k (by omega))) ?_
        (repeat (first | refine WD.run tabOk rfl rfl ?_ | refine WD.hv rfl rfl rfl rfl rfl hA (HeldV.load1 tabOk rfl rfl rfl rfl (by (repeat (first | exact .head _ | refine .tail _ ?_))) rfl) ?_ | refine WD.hv rfl rfl rfl rfl rfl hA (HeldV.loadA tabOk rfl rfl rfl rfl (by (repeat (first | exact .head _ | refine .tail _ ?_))) rfl rfl) ?_ | refine WD.pu tabOk rfl rfl rfl rfl rfl rfl ?_))
        refine WD.pv rfl rfl rfl rfl rfl (PureV.idxN tabOk rfl rfl rfl rfl rfl rfl hxn) ?_
        (repeat (first | refine WD.run tabOk rfl rfl ?_ | refine WD.hv rfl rfl rfl rfl rfl hA (HeldV.load1 tabOk rfl rfl rfl rfl (by (repeat (first | exact .head _ | refine .tail _ ?_))) rfl) ?_ | refine WD.hv rfl rfl rfl rfl rfl hA (HeldV.loadA tabOk rfl rfl rfl rfl (by (repeat (first | exact .head _ | refine .tail _ ?_))) rfl rfl) ?_ | refine WD.pu tabOk rfl rfl rfl rfl rfl rfl ?_))
        refine WD.hv rfl rfl rfl rfl rfl hA (HeldV.loadB tabOk rfl rfl rfl rfl (.tail _ (.tail _ (.head _))) (cell s1.whn x (by omega))) ?_
        (repeat (first | refine WD.run tabOk rfl rfl ?_ | refine WD.hv rfl rfl rfl rfl rfl hA (HeldV.load1 tabOk rfl rfl rfl rfl (by (repeat (first | exact .head _ | refine .tail _ ?_))) rfl) ?_ | refine WD.hv rfl rfl rfl rfl rfl hA (HeldV.loadA tabOk rfl rfl rfl rfl (by (repeat (first | exact .head _ | refine .tail _ ?_))) rfl rfl) ?_ | refine WD.pu tabOk rfl rfl rfl rfl rfl rfl ?_))
        refine WD.tell (d := 116) (u := .int .i64 ((min (s1.lo k) (s1.wh x) : Nat) : Int)) rfl (by simp only [Tj.lo, Tj.wh]; congr 1; omega) ?_
        refine WD.pv rfl rfl rfl rfl rfl (PureV.idxN tabOk rfl rfl rfl rfl rfl rfl hk) ?_
        refine WD.act rfl rfl rfl rfl (by kernel_rfl) (OpW.storeB (i := 2) tabOk rfl rfl rfl rfl H13 rfl (v := .int .i64 ((min (s1.lo k) (s1.wh x) : Nat) : Int)) (by intro u hu; simp [cellsL] at hu; subst hu; rfl) rfl (by rw [encN_len]; simp [cellsL]; omega) ?_)
        intro w14 H14
        rw [esw _ _ (by omega)] at H14
        (repeat (first | refine WD.run tabOk rfl rfl ?_ | refine WD.nil ?_))
        (repeat (first | refine WO.run tabOk rfl rfl ?_ | refine WO.nil ?_ | refine WO.skip rfl rfl rfl ?_ | refine WO.pu tabOk rfl rfl rfl rfl ?_ | refine W.seq ?_ | refine W.region ?_ | refine W.block ?_ | refine W.skip ?_ | refine W.exit ?_))
        refine WO.pv rfl rfl rfl (PureV.addN (n := i) rfl rfl rfl (by omega)) ?_
        (repeat (first | refine WO.run tabOk rfl rfl ?_ | refine WO.nil ?_ | refine WO.skip rfl rfl rfl ?_ | refine WO.pu tabOk rfl rfl rfl rfl ?_ | refine W.seq ?_ | refine W.region ?_ | refine W.block ?_ | refine W.skip ?_ | refine W.exit ?_))
        exact ⟨(i + 1, s1.lower k (min (s1.lo k) (s1.wh x))), rfl, ⟨by simp only; omega, hL.onstack hk hy hx hz hm, hSz.lower, _, _, H14.bring [1, 2] rfl⟩, by simp only; omega⟩
      · have hm : x ∉ s1.stk := by simpa using hm
        (repeat (first | refine WO.run tabOk rfl rfl ?_ | refine WO.nil ?_ | refine WO.skip rfl rfl rfl ?_ | refine WO.pu tabOk rfl rfl rfl rfl ?_ | refine W.seq ?_ | refine W.region ?_ | refine W.block ?_ | refine W.skip ?_ | refine W.exit ?_))
        refine WO.pv rfl rfl rfl (PureV.addN (n := i) rfl rfl rfl (by omega)) ?_
        (repeat (first | refine WO.run tabOk rfl rfl ?_ | refine WO.nil ?_ | refine WO.skip rfl rfl rfl ?_ | refine WO.pu tabOk rfl rfl rfl rfl ?_ | refine W.seq ?_ | refine W.region ?_ | refine W.block ?_ | refine W.skip ?_ | refine W.exit ?_))
        exact ⟨(i + 1, s1), rfl, ⟨by simp only; omega, hL.past hx hz hm, hSz, _, _, H12⟩, by simp only; omega⟩
  · have hge : i = l.length := by simp at hge; omega
    subst hge
    clear ih
    (repeat (first | refine WO.run tabOk rfl rfl ?_ | refine WO.nil ?_ | refine WO.skip rfl rfl rfl ?_ | refine WO.pu tabOk rfl rfl rfl rfl ?_ | refine W.seq ?_ | refine W.region ?_ | refine W.block ?_ | refine W.skip ?_ | refine W.exit ?_))
    have H2 := H.drew
    clear H
    have cell : ∀ (l : List Nat) (j : Nat), j < l.length → (l.flatMap encN)[0 + j * 1]? = some (.int .i64 ((l.getD j 0 : Nat) : Int)) := fun l j h => by
      rw [Nat.zero_add, Nat.mul_one]; exact encN_at (by rw [List.getElem?_eq_getElem h, List.getD_eq_getElem?_getD, List.getElem?_eq_getElem h]; rfl)
    have hA := H2.ha (L := [blk bw 202 [.slice (some ⟨tb, tof, none⟩) to.length tc, .slice (some ⟨gw, 0, none⟩) n n, .slice (some ⟨gl, 0, none⟩) n n, vs1, vp1, .int .i64 (s1.time : Int)], blk gl 3 (s1.low.flatMap encN), blk gw 3 (s1.whn.flatMap encN)]) (by simp)
    refine W.regionD [3, 6, 10, 13] (HA [blk bw 202 [.slice (some ⟨tb, tof, none⟩) to.length tc, .slice (some ⟨gw, 0, none⟩) n n, .slice (some ⟨gl, 0, none⟩) n n, vs1, vp1, .int .i64 (s1.time : Int)], blk gl 3 (s1.low.flatMap encN), blk gw 3 (s1.whn.flatMap encN)]) [0, 1, 2, 3, 4, 5, 6, 7, 8, 9, 10, 11, 12, 13, 14] rfl (by kernel_rfl) (fun _ _ _ h => h) ?_
    (repeat (first | refine WD.run tabOk rfl rfl ?_ | refine WD.hv rfl rfl rfl rfl rfl hA (HeldV.load1 tabOk rfl rfl rfl rfl (by (repeat (first | exact .head _ | refine .tail _ ?_))) rfl) ?_ | refine WD.hv rfl rfl rfl rfl rfl hA (HeldV.loadA tabOk rfl rfl rfl rfl (by (repeat (first | exact .head _ | refine .tail _ ?_))) rfl rfl) ?_ | refine WD.pu tabOk rfl rfl rfl rfl rfl rfl ?_))
    refine WD.pv rfl rfl rfl rfl rfl (PureV.idxN tabOk rfl rfl rfl rfl rfl rfl hk) ?_
    (repeat (first | refine WD.run tabOk rfl rfl ?_ | refine WD.hv rfl rfl rfl rfl rfl hA (HeldV.load1 tabOk rfl rfl rfl rfl (by (repeat (first | exact .head _ | refine .tail _ ?_))) rfl) ?_ | refine WD.hv rfl rfl rfl rfl rfl hA (HeldV.loadA tabOk rfl rfl rfl rfl (by (repeat (first | exact .head _ | refine .tail _ ?_))) rfl rfl) ?_ | refine WD.pu tabOk rfl rfl rfl rfl rfl rfl ?_))
    refine WD.hv rfl rfl rfl rfl rfl hA (HeldV.loadB tabOk rfl rfl rfl rfl (.tail _ (.head _)) (cell s1.low k (by omega))) ?_
    (repeat (first | refine WD.run tabOk rfl rfl ?_ | refine WD.hv rfl rfl rfl rfl rfl hA (HeldV.load1 tabOk rfl rfl rfl rfl (by (repeat (first | exact .head _ | refine .tail _ ?_))) rfl) ?_ | refine WD.hv rfl rfl rfl rfl rfl hA (HeldV.loadA tabOk rfl rfl rfl rfl (by (repeat (first | exact .head _ | refine .tail _ ?_))) rfl rfl) ?_ | refine WD.pu tabOk rfl rfl rfl rfl rfl rfl ?_))
    refine WD.pv rfl rfl rfl rfl rfl (PureV.idxN tabOk rfl rfl rfl rfl rfl rfl hk) ?_
    (repeat (first | refine WD.run tabOk rfl rfl ?_ | refine WD.hv rfl rfl rfl rfl rfl hA (HeldV.load1 tabOk rfl rfl rfl rfl (by (repeat (first | exact .head _ | refine .tail _ ?_))) rfl) ?_ | refine WD.hv rfl rfl rfl rfl rfl hA (HeldV.loadA tabOk rfl rfl rfl rfl (by (repeat (first | exact .head _ | refine .tail _ ?_))) rfl rfl) ?_ | refine WD.pu tabOk rfl rfl rfl rfl rfl rfl ?_))
    refine WD.hv rfl rfl rfl rfl rfl hA (HeldV.loadB tabOk rfl rfl rfl rfl (.tail _ (.tail _ (.head _))) (cell s1.whn k (by omega))) ?_
    (repeat (first | refine WD.run tabOk rfl rfl ?_ | refine WD.hv rfl rfl rfl rfl rfl hA (HeldV.load1 tabOk rfl rfl rfl rfl (by (repeat (first | exact .head _ | refine .tail _ ?_))) rfl) ?_ | refine WD.hv rfl rfl rfl rfl rfl hA (HeldV.loadA tabOk rfl rfl rfl rfl (by (repeat (first | exact .head _ | refine .tail _ ?_))) rfl rfl) ?_ | refine WD.pu tabOk rfl rfl rfl rfl rfl rfl ?_))
    (repeat (first | refine WD.run tabOk rfl rfl ?_ | refine WD.nil ?_))
    clear hA
    refine W.cond rfl (fun he => ?_) (fun he => ?_)
    · have he : s1.lo k = s1.wh k := by simp only [decide_eq_true_eq] at he; show s1.low.getD k 0 = s1.whn.getD k 0; omega
      obtain ⟨seg, hseg, _⟩ := hL.seg
      have hkm : k ∉ s.stk := fun hm => hI.stk_vis hm h0
      have hidx : idxF (fun y => decide (k = y)) s1.stk = (s.stk.length : Int) := by
        refine idxF_hit (x := k) (fun j hj y hy => ?_) (by rw [hseg]; simp) (by simp)
        rw [hseg, List.getElem?_append_left hj] at hy
        have : y ∈ s.stk := List.mem_of_getElem? hy
        simp only [decide_eq_false_iff_not]
        intro e; subst e; exact hkm this
      have hsl : s1.stk.length = s.stk.length + (seg.length + 1) := by rw [hseg]; simp
      have hszl := hSz.len
      have hszt := hSz.tot
      (repeat (first | refine WO.run tabOk rfl rfl ?_ | refine WO.nil ?_ | refine WO.skip rfl rfl rfl ?_ | refine WO.pu tabOk rfl rfl rfl rfl ?_ | refine W.seq ?_ | refine W.region ?_ | refine W.block ?_ | refine W.skip ?_ | refine W.exit ?_ | refine WO.one rfl rfl rfl (OpW.load1 tabOk rfl rfl rfl rfl H2 (by (repeat (first | exact .head _ | refine .tail _ ?_))) rfl ?_)))
      obtain ⟨ua, uc, rfl, hus⟩ := row_rd (H2.holds (A := row 3 natR vs1 s1.stk) (by simp))
      obtain ⟨ub, uo, rfl⟩ := hus.addr (by omega)
      have hule := hus.le
      refine WO.one rfl rfl rfl (OpW.call rfl Try.call10 rfl (Calls.ret (idxN_ok _ _ uc s1.stk k hus) ?_))
      rintro _ w12 ⟨hp12, rfl⟩
      rw [hidx]
      have H3 := (H2.after hp12).to (i := 3) rfl
      have H4 := H3.nat_open
      clear H2 H3 hus
      (repeat (first | refine WO.run tabOk rfl rfl ?_ | refine WO.nil ?_ | refine WO.skip rfl rfl rfl ?_ | refine WO.pu tabOk rfl rfl rfl rfl ?_ | refine W.seq ?_ | refine W.region ?_ | refine W.block ?_ | refine W.skip ?_ | refine W.exit ?_ | refine WO.one rfl rfl rfl (OpW.load1 tabOk rfl rfl rfl rfl H4 (by (repeat (first | exact .head _ | refine .tail _ ?_))) rfl ?_)))
      refine WO.pv rfl rfl rfl (PureV.slcFrom (i := s.stk.length) (n' := seg.length + 1) tabOk rfl rfl rfl rfl rfl rfl (by omega) hule.1 (by omega)) ?_
      have hsh := raw_tail_shows (e := 3) (sz := 1) (n := s1.stk.length) (cap := uc) (j := s.stk.length) (a := some ⟨ub, uo, none⟩) (cs := s1.stk.flatMap encN) H4 (by simp) (by omega)
      have hcut : (s1.stk.flatMap encN).drop (s.stk.length * 1) = (k :: seg).flatMap encN := by
        rw [hseg, List.flatMap_append, Nat.mul_one]
        conv => lhs; rw [← encN_len s.stk]
        rw [List.drop_left]
      rw [hcut, show s1.stk.length - s.stk.length = seg.length + 1 by omega] at hsh
      refine WO.one rfl rfl rfl (OpW.call rfl Try.call148 rfl (Calls.ret (cloneI_ok _ _ _ _ _ hsh (by omega)) ?_))
      intro v4 w13 K13
      have H5 := H4.take K13
      have H6 : St c w13 (row 3 natR v4 (k :: seg) :: _) _ := St.nat_close (xs := k :: seg) H5
      clear H4 H5 K13 hsh
      obtain ⟨u4, d4, rfl⟩ := rowForm H6 (v := v4) (e := 3) (r := natR) (xs := k :: seg) (by simp)
      (repeat (first | refine WO.run tabOk rfl rfl ?_ | refine WO.nil ?_ | refine WO.skip rfl rfl rfl ?_ | refine WO.pu tabOk rfl rfl rfl rfl ?_ | refine W.seq ?_ | refine W.region ?_ | refine W.block ?_ | refine W.skip ?_ | refine W.exit ?_))
      refine WO.one rfl rfl rfl (OpW.call rfl Try.call56 rfl (Calls.ret (sort_row sh.slices_Sort_int sh.slices_Sort_int_none H6 (by simp; omega)) ?_))
      rintro _ w14 ⟨rfl, part, hpp, hps, H7⟩
      have hpl : part.length = seg.length + 1 := by rw [hpp.length_eq]; simp
      clear H6
      (repeat (first | refine WO.run tabOk rfl rfl ?_ | refine WO.nil ?_ | refine WO.skip rfl rfl rfl ?_ | refine WO.pu tabOk rfl rfl rfl rfl ?_ | refine W.seq ?_ | refine W.region ?_ | refine W.block ?_ | refine W.skip ?_ | refine W.exit ?_ | refine WO.one rfl rfl rfl (OpW.load1 tabOk rfl rfl rfl rfl H7 (by (repeat (first | exact .head _ | refine .tail _ ?_))) rfl ?_)))
      refine WO.one rfl rfl rfl (OpW.buildSlice tabOk rfl rfl rfl rfl zero31 rfl rfl (l := [.slice u4 (k :: seg).length d4]) rfl H7 ?_)
      intro b9 w15 H8
      have hsh2 := shows_blk (sz := 1) (m := 1) (e := 31) (l := [.slice u4 (k :: seg).length d4]) H8 (b := b9) (by simp) rfl (by intro u hu; simp at hu; subst hu; rfl)
      obtain ⟨pcs, H9⟩ := (H8.to (i := 6) rfl).open_row
      have hpnd := flat_len fun p hp => (hL.inv.ne p hp).1
      refine WO.one rfl rfl rfl (OpW.append tabOk rfl rfl rfl zero31 rfl rfl rfl rfl H9 hsh2 (by omega) (by simp only [maxLen]; omega) ?_)
      intro vp2 w16 H10 _
      have H11 := (((H10.to (i := 3) rfl).own_in).hang_one.to (i := 2) rfl).hang_join
      have H12 := H11.to (i := 1) rfl
      have e3 : s1.parts.length + 1 = (s1.parts ++ [part]).length := by simp
      rw [e3] at H12
      have H13 := St.close_row (r := Rdr.own 3 natR) H12
      clear H7 H8 H9 H10 H11 H12 hsh2
      obtain ⟨u5, d5, rfl⟩ := rowForm H13 (v := vp2) (e := 31) (r := Rdr.own 3 natR) (xs := s1.parts ++ [part]) (by simp)
      (repeat (first | refine WO.run tabOk rfl rfl ?_ | refine WO.nil ?_ | refine WO.skip rfl rfl rfl ?_ | refine WO.pu tabOk rfl rfl rfl rfl ?_ | refine W.seq ?_ | refine W.region ?_ | refine W.block ?_ | refine W.skip ?_ | refine W.exit ?_))
      refine WO.act rfl rfl (OpW.store1 (i := 3) tabOk rfl rfl rfl rfl rfl H13 rfl rfl rfl ?_); intro w17 H14
      (repeat (first | refine WO.run tabOk rfl rfl ?_ | refine WO.nil ?_ | refine WO.skip rfl rfl rfl ?_ | refine WO.pu tabOk rfl rfl rfl rfl ?_ | refine W.seq ?_ | refine W.region ?_ | refine W.block ?_ | refine W.skip ?_ | refine W.exit ?_ | refine WO.one rfl rfl rfl (OpW.load1 tabOk rfl rfl rfl rfl H14 (by (repeat (first | exact .head _ | refine .tail _ ?_))) rfl ?_)))
      refine WO.pv rfl rfl rfl (PureV.slcTo (n := s.stk.length) tabOk rfl rfl rfl rfl rfl rfl (by omega)) ?_
      (repeat (first | refine WO.run tabOk rfl rfl ?_ | refine WO.nil ?_ | refine WO.skip rfl rfl rfl ?_ | refine WO.pu tabOk rfl rfl rfl rfl ?_ | refine W.seq ?_ | refine W.region ?_ | refine W.block ?_ | refine W.skip ?_ | refine W.exit ?_))
      refine WO.act rfl rfl (OpW.store1 (i := 0) tabOk rfl rfl rfl rfl rfl H14 rfl rfl rfl ?_); intro w18 H15
      (repeat (first | refine WO.run tabOk rfl rfl ?_ | refine WO.nil ?_ | refine WO.skip rfl rfl rfl ?_ | refine WO.pu tabOk rfl rfl rfl rfl ?_ | refine W.seq ?_ | refine W.region ?_ | refine W.block ?_ | refine W.skip ?_ | refine W.exit ?_))
      have H16 := (H15.to (i := 3) rfl).raw_cut (m := s.stk.length) (by omega) (fun h => nomatch h)
      have hcut2 : (s1.stk.flatMap encN).take (s.stk.length * 1) = s.stk.flatMap encN := by
        rw [hseg, List.flatMap_append, Nat.mul_one]
        conv => lhs; rw [← encN_len s.stk]
        rw [List.take_left]
      rw [hcut2] at H16
      have H17 := H16.nat_close
      refine ret0n Try.results138 ⟨_, rfl, rfl, s.close s1 part, hL.pop hI hy he hseg hpp hps, ⟨hszt, ?_⟩, _, _, (((H17.bring [1, 4, 5, 0, 2] rfl).bring [5] rfl).drop).ro (fun A hA => by simp_all)⟩
      show s.stk.length + (s1.parts ++ [part]).flatten.length = s1.time
      have : (s1.parts ++ [part]).flatten.length = s1.parts.flatten.length + part.length := by rw [List.flatten_append, List.length_append]; simp
      omega
    · have he : s1.lo k ≠ s1.wh k := by
        simp only [decide_eq_false_iff_not] at he
        intro e
        have e : s1.low.getD k 0 = s1.whn.getD k 0 := e
        exact he (by rw [e])
      (repeat (first | refine WO.run tabOk rfl rfl ?_ | refine WO.nil ?_ | refine WO.skip rfl rfl rfl ?_ | refine WO.pu tabOk rfl rfl rfl rfl ?_ | refine W.seq ?_ | refine W.region ?_ | refine W.block ?_ | refine W.skip ?_ | refine W.exit ?_))
      refine ret0n Try.results138 ⟨_, rfl, rfl, s1, hL.stay hy he, hSz, _, _, H2.ro (by simp_all)⟩
end Go.Proofs.Ytpenbdpgpamcbaa
