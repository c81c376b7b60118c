/- lock: Drop. -/
import Derived.Test.YtpenbdpgpamcbaaLockJ
set_option linter.unusedVariables false
set_option linter.unusedSimpArgs false
set_option maxRecDepth 20000
namespace Go.Proofs.Ytpenbdpgpamcbaa
open Go Gw
attribute [local irreducible] W WO WD

/-- Those in front are given what they ask for, as long as they can have it. -/
def grantF : List (Int × Int) → List (Int × Int) → List (Int × Int) × List (Int × Int) × List Int
  | hs, [] => (hs, [], [])
  | hs, q :: qs => if canF hs q.1 q.2 then ((grantF (giveF hs q.1 q.2) qs).1, (grantF (giveF hs q.1 q.2) qs).2.1, q.1 :: (grantF (giveF hs q.1 q.2) qs).2.2) else (hs, q :: qs, [])
def sansTx (tx : Int) (l : List (Int × Int)) : List (Int × Int) := l.filter fun h => !decide (h.1 = tx)
def dropItem (tx : Int) (x : Item) : List (Int × Int) × List (Int × Int) × List Int := grantF (sansTx tx x.2.1) (sansTx tx x.2.2)
def dropF (tx : Int) : List Item → List Item × List Int
  | [] => ([], [])
  | x :: l => ((if (dropItem tx x).1.length = 0 then (dropF tx l).1 else (x.1, (dropItem tx x).1, (dropItem tx x).2.1) :: (dropF tx l).1), (dropItem tx x).2.2 ++ (dropF tx l).2)
theorem dropF_append (tx : Int) : ∀ (a b : List Item), dropF tx (a ++ b) = ((dropF tx a).1 ++ (dropF tx b).1, (dropF tx a).2 ++ (dropF tx b).2)
  | [], b => by simp [dropF]
  | x :: a, b => by
    rw [List.cons_append, dropF, dropF_append tx a b, dropF]
    split <;> simp

theorem dropF_len (tx : Int) : ∀ (t : List Item), (dropF tx t).1.length ≤ t.length
  | [] => by simp [dropF]
  | x :: l => by
    have := dropF_len tx l
    rw [dropF]
    simp only
    split <;> simp <;> omega
theorem dropTx_ok (w : World) (h : Int × Int) (tx : Int) (b5 : Nat) (h5 : Holds w (blk b5 3 [.int .i64 tx])) :
    Calls Try.prog 104 (#[] ++ [Value.agg (encLock h).toArray].toArray ++ #[.pointer (some ⟨b5, 0, none⟩)]) w (Ret fun v w' => Pure w w' ∧ v = .bool (decide (h.1 = tx))) := by
  show Calls Try.prog 104 #[.agg #[.int .i64 h.1, .int .i64 h.2], .pointer (some ⟨b5, 0, none⟩)] w _
  refine calls_W (args := [_, _]) Try.func104 rfl Try.ntmps104 rfl ?_
  have H := St.start [blk b5 3 [.int .i64 tx]] (w := w) (by simpa using h5)
  (repeat (first | refine W.seq ?_ | refine W.block ?_ | refine W.skip ?_ | refine W.exit ?_ | refine W.region ?_))
  refine WO.one rfl rfl rfl (OpW.box rfl rfl rfl H ?_); intro b w1 H1
  (repeat (first | refine WO.run tabOk rfl rfl ?_ | refine WO.nil ?_ | refine WO.skip rfl rfl rfl ?_ | refine WO.pu tabOk rfl rfl rfl rfl ?_ | refine W.seq ?_ | refine W.region ?_ | refine W.block ?_ | refine W.skip ?_ | refine W.exit ?_ | refine WO.one rfl rfl rfl (OpW.load1 tabOk rfl rfl rfl rfl H1 (by (repeat (first | exact .head _ | refine .tail _ ?_))) rfl ?_)))
  exact W.ret (ret1 Try.results104 rfl ⟨_, rfl, H1.pure, rfl⟩)

structure DropOk (t : List Item) (tx : Int) : Prop where
  valid : Valid t
  txOk : 0 ≤ tx ∧ tx < 12
def DropPost (w w' : World) (t : List Item) (tx : Int) (v : Value) : Prop :=
  ∃ tv gv e, v = .tuple #[tv, gv, .int .i64 e] ∧ ((e ≠ 0 ∧ ¬ DropOk t tx ∧ tv = .slice none 0 0 ∧ gv = .slice none 0 0 ∧ Pure w w') ∨
    (e = 0 ∧ DropOk t tx ∧ St (at0 w) w' [row 142 itemO tv (dropF tx t).1, row 3 i64 gv (dropF tx t).2] []))

theorem setF_len {tx m : Int} : ∀ {hs : List (Int × Int)}, (setF tx m hs).length ≤ hs.length + 1
  | [] => by simp [setF]
  | h :: l => by rw [setF]; split <;> simp; exact setF_len
def frontCan (hs : List (Int × Int)) : List (Int × Int) → Bool
  | [] => false
  | q :: _ => canF hs q.1 q.2
theorem joinF_mode {a b : Int} (ha : isModeF a = true) (hb : isModeF b = true) : isModeF (joinF a b) = true := by
  simp only [joinF, ha, hb, Bool.and_self, if_true]
  simp only [isModeF, decide_eq_true_eq] at ha hb ⊢
  split
  · omega
  · omega
theorem wishF_mode {hs : List (Int × Int)} {tx mode : Int} (hh : ∀ h ∈ hs, isModeF h.2 = true) (hm : isModeF mode = true) : isModeF (wishF hs tx mode) = true := by
  unfold wishF
  split
  · rename_i h hf
    exact joinF_mode (hh h (List.mem_of_find?_eq_some hf)) hm
  · exact hm
theorem setF_mode {tx m : Int} (hm : isModeF m = true) : ∀ {hs : List (Int × Int)}, (∀ h ∈ hs, isModeF h.2 = true) → ∀ h ∈ setF tx m hs, isModeF h.2 = true
  | [], _, h, hh => by simp [setF] at hh; subst hh; exact hm
  | x :: l, hl, h, hh => by
    rw [setF] at hh
    split at hh
    · rcases List.mem_cons.1 hh with rfl | hh
      · exact hm
      · exact hl h (by simp [hh])
    · rcases List.mem_cons.1 hh with rfl | hh
      · exact hl _ (by simp)
      · exact setF_mode hm (fun y hy => hl y (by simp [hy])) h hh
theorem giveF_mode {hs : List (Int × Int)} {tx mode : Int} (hh : ∀ h ∈ hs, isModeF h.2 = true) (hm : isModeF mode = true) : ∀ h ∈ giveF hs tx mode, isModeF h.2 = true := setF_mode (wishF_mode hh hm) hh
theorem grantF_len : ∀ (hs qs : List (Int × Int)), (grantF hs qs).2.2.length ≤ qs.length
  | hs, [] => by simp [grantF]
  | hs, q :: qs => by
    rw [grantF]
    split
    · have := grantF_len (giveF hs q.1 q.2) qs; simp; exact this
    · simp
theorem raw_cells {c : Ctx} {w : World} {Own Ro : List Asn} {e sz n cap : Nat} {a : Option Addr} {cs : List Value} (H : St c w Own Ro) (hm : raw e sz (.slice a n cap) n cs ∈ Own ++ Ro) (hn : 0 < n) : ∃ g o, a = some ⟨g, o, none⟩ ∧ CellsAt w ⟨g, o, none⟩ cs := by
  obtain ⟨S, hS⟩ := H.has hm
  rcases hS.at_ with ⟨_, h, _⟩ | ⟨g, o, cap', cur, h1, h2, h3, h4, h5, h6, h7⟩
  · omega
  · simp only [Value.slice.injEq] at h1
    refine ⟨g, o, h1.1, cellsAt_list (l := cur.toList) (by simpa using h2) ?_⟩
    rw [hS.len]; exact h6

theorem drop_ok (w : World) (a : Option Addr) (c : Nat) (t : List Item) (tx : Int) (hH : Holds w (rd itemS a c t)) :
    Calls Try.prog 72 #[.slice a t.length c, .int .i64 tx] w (Ret fun v w' => DropPost w w' t tx v) := by
  refine calls_W (args := [_, _]) Try.func72 rfl Try.ntmps72 rfl ?_
  have bad : ∀ {w' : World} {e : Int}, Pure w w' → e ≠ 0 → ¬ DropOk t tx → DropPost w w' t tx (.tuple #[.slice none 0 0, .slice none 0 0, .int .i64 e]) := fun hp he hb => ⟨_, _, _, rfl, .inl ⟨he, hb, rfl, rfl, hp⟩⟩
  have H0 := St.start [] (w := w) (by simp)
  (repeat (first | refine W.seq ?_ | refine W.block ?_ | refine W.skip ?_ | refine W.exit ?_ | refine W.region ?_))
  refine WO.one rfl rfl rfl (OpW.box rfl rfl rfl H0 ?_); intro b3 w1 H1
  (repeat (first | refine WO.run tabOk rfl rfl ?_ | refine WO.nil ?_ | refine WO.skip rfl rfl rfl ?_ | refine WO.pu tabOk rfl rfl rfl rfl ?_ | refine W.seq ?_ | refine W.region ?_ | refine W.block ?_ | refine W.skip ?_ | refine W.exit ?_))
  refine WO.one rfl rfl rfl (OpW.call rfl Try.call74 rfl (Calls.ret (check_ok _ a c t (hH.pure H1.pure)) ?_))
  rintro _ w2 ⟨hp2, e, rfl, he⟩
  have H2 := H1.after hp2
  (repeat (first | refine WO.run tabOk rfl rfl ?_ | refine WO.nil ?_ | refine WO.skip rfl rfl rfl ?_ | refine WO.pu tabOk rfl rfl rfl rfl ?_ | refine W.seq ?_ | refine W.region ?_ | refine W.block ?_ | refine W.skip ?_ | refine W.exit ?_))
  refine W.cond rfl (fun h1 => ?_) (fun h1 => ?_)
  · (repeat (first | refine WO.run tabOk rfl rfl ?_ | refine WO.nil ?_ | refine WO.skip rfl rfl rfl ?_ | refine WO.pu tabOk rfl rfl rfl rfl ?_ | refine W.seq ?_ | refine W.region ?_ | refine W.block ?_ | refine W.skip ?_ | refine W.exit ?_))
    simp at h1
    exact W.ret (ret3 Try.results72 rfl rfl rfl ⟨_, rfl, bad H2.pure h1 fun h => h1 (he.2 h.valid)⟩)
  simp at h1
  have hv := he.1 h1
  subst h1
  clear he
  (repeat (first | refine WO.run tabOk rfl rfl ?_ | refine WO.nil ?_ | refine WO.skip rfl rfl rfl ?_ | refine WO.pu tabOk rfl rfl rfl rfl ?_ | refine W.seq ?_ | refine W.region ?_ | refine W.block ?_ | refine W.skip ?_ | refine W.exit ?_ | refine WO.one rfl rfl rfl (OpW.load1 tabOk rfl rfl rfl rfl H2 (by (repeat (first | exact .head _ | refine .tail _ ?_))) rfl ?_)))
  refine WO.caseG rfl rfl (fun g1 => ?_) (fun g1 => ?_)
  · (repeat (first | refine WO.run tabOk rfl rfl ?_ | refine WO.nil ?_ | refine WO.skip rfl rfl rfl ?_ | refine WO.pu tabOk rfl rfl rfl rfl ?_ | refine W.seq ?_ | refine W.region ?_ | refine W.block ?_ | refine W.skip ?_ | refine W.exit ?_))
    refine W.cond_t rfl ?_
    (repeat (first | refine WO.run tabOk rfl rfl ?_ | refine WO.nil ?_ | refine WO.skip rfl rfl rfl ?_ | refine WO.pu tabOk rfl rfl rfl rfl ?_ | refine W.seq ?_ | refine W.region ?_ | refine W.block ?_ | refine W.skip ?_ | refine W.exit ?_))
    simp at g1
    exact W.ret (ret3 Try.results72 rfl rfl rfl ⟨_, rfl, bad H2.pure (by decide) fun h => (by have := h.txOk; omega)⟩)
  (repeat (first | refine WO.run tabOk rfl rfl ?_ | refine WO.nil ?_ | refine WO.skip rfl rfl rfl ?_ | refine WO.pu tabOk rfl rfl rfl rfl ?_ | refine W.seq ?_ | refine W.region ?_ | refine W.block ?_ | refine W.skip ?_ | refine W.exit ?_ | refine WO.one rfl rfl rfl (OpW.load1 tabOk rfl rfl rfl rfl H2 (by (repeat (first | exact .head _ | refine .tail _ ?_))) rfl ?_)))
  simp at g1
  refine W.cond rfl (fun g2 => ?_) (fun g2 => ?_)
  · (repeat (first | refine WO.run tabOk rfl rfl ?_ | refine WO.nil ?_ | refine WO.skip rfl rfl rfl ?_ | refine WO.pu tabOk rfl rfl rfl rfl ?_ | refine W.seq ?_ | refine W.region ?_ | refine W.block ?_ | refine W.skip ?_ | refine W.exit ?_))
    simp [pickV] at g2
    exact W.ret (ret3 Try.results72 rfl rfl rfl ⟨_, rfl, bad H2.pure (by decide) fun h => (by have := h.txOk; omega)⟩)
  simp [pickV] at g2
  have hok : DropOk t tx := ⟨hv, g1, g2⟩
  (repeat (first | refine WO.run tabOk rfl rfl ?_ | refine WO.nil ?_ | refine WO.skip rfl rfl rfl ?_ | refine WO.pu tabOk rfl rfl rfl rfl ?_ | refine W.seq ?_ | refine W.region ?_ | refine W.block ?_ | refine W.skip ?_ | refine W.exit ?_))
  refine WO.one rfl rfl rfl (OpW.call rfl Try.call78 rfl (Calls.ret (copied_ok _ a c t (hH.pure H2.pure) (valid_short hv)) ?_))
  intro tv w4 K4
  have H4 := H2.take K4
  obtain ⟨cs, H5⟩ := H4.open_row
  obtain ⟨hcl, hc1, ta, tc, rfl, hle, hmax⟩ := H5.raw_len
  simp only [maxLen] at hmax
  (repeat (first | refine WO.run tabOk rfl rfl ?_ | refine WO.nil ?_ | refine WO.skip rfl rfl rfl ?_ | refine WO.pu tabOk rfl rfl rfl rfl ?_ | refine W.seq ?_ | refine W.region ?_ | refine W.block ?_ | refine W.skip ?_ | refine W.exit ?_))
  refine W.loopS [3, 8, 9, 10, 26, 27, 28] (fun s : Nat × Value × Value => [(3, .pointer (some ⟨b3, 0, none⟩)), (8, .func (.func 104) #[] #[.pointer (some ⟨b3, 0, none⟩)]), (9, s.2.1), (10, s.2.2), (26, .slice ta t.length tc), (27, .int .i64 t.length), (28, .int .i64 s.1)])
    (fun s w' => s.1 ≤ t.length ∧ (dropF tx (t.take s.1)).2.length ≤ 20 * s.1 ∧ St (at0 w) w' [row 142 itemO s.2.1 (dropF tx (t.take s.1)).1, row 3 i64 s.2.2 (dropF tx (t.take s.1)).2, raw 142 3 (.slice ta t.length tc) t.length cs, hang itemO (t.drop s.1) (cs.drop (s.1 * 3)), blk b3 3 [.int .i64 tx]] []) (fun s => t.length - s.1) (0, .slice none 0 0, .slice none 0 0) rfl
    ⟨Nat.zero_le _, by simp [dropF], ((H5.add_nil 3 i64).add_nil 142 itemO)⟩ ?_
  clear H4 H5 H2 K4 hp2
  rintro ⟨i, vo, vg⟩ w5 ⟨hi, hgl, H⟩
  simp only at hi hgl H
  have hlen := hv.len
  (repeat (first | refine WO.run tabOk rfl rfl ?_ | refine WO.nil ?_ | refine WO.skip rfl rfl rfl ?_ | refine WO.pu tabOk rfl rfl rfl rfl ?_ | refine W.seq ?_ | refine W.region ?_ | refine W.block ?_ | refine W.skip ?_ | refine W.exit ?_))
  refine W.cond rfl (fun hlt => ?_) (fun hge => ?_)
  · have hlt : i < t.length := by simpa using hlt
    obtain ⟨g, o, rfl, hcells⟩ := raw_cells (H := H) (e := 142) (sz := 3) (a := ta) (n := t.length) (cap := tc) (cs := cs) (by simp) (by omega)
    have hx := List.getElem?_eq_getElem hlt
    have hdr : t.drop i = t[i] :: t.drop (i + 1) := List.drop_eq_getElem_cons hlt
    generalize t[i] = x at hx hdr
    have hm : x ∈ t := List.mem_of_getElem? hx
    rw [hdr] at H
    obtain ⟨v1, v2, hcx, H1⟩ := ((H.to (i := 3) rfl).hang_out).item_out
    rw [List.drop_drop] at H1
    have hsub := hcells.sub (i * 3) 3
    change List.take 3 (List.drop (i * 3) cs) = _ at hcx
    rw [hcx] at hsub
    change St _ _ (row 145 lockR v1 x.2.1 :: row 145 lockR v2 x.2.2 :: hang itemO (t.drop (i + 1)) (cs.drop (i * 3 + 3)) :: _) _ at H1
    obtain ⟨a1, c1, e1⟩ := row_form H1 (v := v1) (e := 145) (r := lockR) (xs := x.2.1) (by simp)
    obtain ⟨a2, c2, e2⟩ := row_form H1 (v := v2) (e := 145) (r := lockR) (xs := x.2.2) (by simp)
    subst e1 e2
    obtain ⟨hl1, hl2, hmode⟩ := valid_lens hv hm
    (repeat (first | refine WO.run tabOk rfl rfl ?_ | refine WO.nil ?_ | refine WO.skip rfl rfl rfl ?_ | refine WO.pu tabOk rfl rfl rfl rfl ?_ | refine W.seq ?_ | refine W.region ?_ | refine W.block ?_ | refine W.skip ?_ | refine W.exit ?_))
    refine WO.pv rfl rfl rfl (PureV.idxN tabOk rfl rfl rfl rfl rfl rfl (by omega)) ?_
    refine WO.one rfl rfl rfl (OpW.loadcs tabOk rfl rfl rfl rfl rfl hsub ?_)
    refine WO.one rfl rfl rfl (OpW.alloc rfl zero142 rfl H1 ?_); intro b12 w6 H6
    refine WO.act rfl rfl (OpW.storeA (i := 0) tabOk rfl rfl rfl rfl H6 rfl rfl rfl rfl rfl ?_); intro w7 H7
    (repeat (first | refine WO.run tabOk rfl rfl ?_ | refine WO.nil ?_ | refine WO.skip rfl rfl rfl ?_ | refine WO.pu tabOk rfl rfl rfl rfl ?_ | refine W.seq ?_ | refine W.region ?_ | refine W.block ?_ | refine W.skip ?_ | refine W.exit ?_))
    clear H H1 H6
    have H7 := H7.drew
    have hA := H7.ha (L := [blk b12 142 [.int .i64 x.1, .slice a1 x.2.1.length c1, .slice a2 x.2.2.length c2]]) (by simp)
    refine W.regionD [1, 5] (HA [blk b12 142 [.int .i64 x.1, .slice a1 x.2.1.length c1, .slice a2 x.2.2.length c2]]) [0, 1, 2, 4, 5, 6, 3, 7, 8, 9, 10, 11] rfl (by kernel_rfl) (fun _ _ _ h => h) ?_
    (repeat (first | refine WD.run tabOk rfl rfl ?_ | refine WD.hv rfl rfl rfl rfl rfl hA (HeldV.load1 tabOk rfl rfl rfl rfl (by (repeat (first | exact .head _ | refine .tail _ ?_))) rfl) ?_ | refine WD.hv rfl rfl rfl rfl rfl hA (HeldV.loadA tabOk rfl rfl rfl rfl (by (repeat (first | exact .head _ | refine .tail _ ?_))) rfl rfl) ?_ | refine WD.pu tabOk rfl rfl rfl rfl rfl rfl ?_))
    refine WD.oneS rfl rfl rfl rfl rfl (OpW.call rfl Try.call105 rfl (Calls.ret (deleteLock_ok _ _ _ _ _ x.2.1 (H7.to (i := 1) rfl) 104 #[.pointer (some ⟨b3, 0, none⟩)] (fun h => decide (h.1 = tx)) Try.call104 fun y w' A hA => dropTx_ok w' y tx b3 (hA.holds (by simp))) ?_))
    intro u1 w8 H8
    change St _ _ (row 145 lockR u1 (sansTx tx x.2.1) :: _) _ at H8
    refine ⟨H8.ha (by simp), ?_⟩
    refine WD.oneS rfl rfl rfl rfl rfl (OpW.call rfl Try.call105 rfl (Calls.ret (deleteLock_ok _ _ _ _ _ x.2.2 (H8.to (i := 2) rfl) 104 #[.pointer (some ⟨b3, 0, none⟩)] (fun h => decide (h.1 = tx)) Try.call104 fun y w' A hA => dropTx_ok w' y tx b3 (hA.holds (by simp))) ?_))
    intro u2 w9 H9
    change St _ _ (row 145 lockR u2 (sansTx tx x.2.2) :: _) _ at H9
    refine ⟨H9.ha (by simp), ?_⟩
    obtain ⟨d1, k1, rfl⟩ := row_form H9 (v := u1) (e := 145) (r := lockR) (xs := sansTx tx x.2.1) (by simp)
    obtain ⟨d2, k2, rfl⟩ := row_form H9 (v := u2) (e := 145) (r := lockR) (xs := sansTx tx x.2.2) (by simp)
    (repeat (first | refine WD.run tabOk rfl rfl ?_ | refine WD.nil ?_))
    refine WD.act rfl rfl rfl rfl (by kernel_rfl) (OpW.store1 (i := 2) tabOk rfl rfl rfl rfl rfl H9 rfl rfl rfl ?_)
    intro w10 H10
    (repeat (first | refine WD.run tabOk rfl rfl ?_ | refine WD.nil ?_))
    refine WD.act rfl rfl rfl rfl (by kernel_rfl) (OpW.store1 (i := 0) tabOk rfl rfl rfl rfl rfl H10 rfl rfl rfl ?_)
    intro w11 H11
    clear H7 H8 H9 H10 hA
    (repeat (first | refine WD.run tabOk rfl rfl ?_ | refine WD.nil ?_))
    (repeat (first | refine WO.run tabOk rfl rfl ?_ | refine WO.nil ?_ | refine WO.skip rfl rfl rfl ?_ | refine WO.pu tabOk rfl rfl rfl rfl ?_ | refine W.seq ?_ | refine W.region ?_ | refine W.block ?_ | refine W.skip ?_ | refine W.exit ?_))
    have hmode' : ∀ y ∈ sansTx tx x.2.1, isModeF y.2 = true := fun y hy => hmode y (List.mem_filter.1 hy).1
    have hl1' : (sansTx tx x.2.1).length ≤ 12 := Nat.le_trans (List.length_filter_le _ _) hl1
    have hl2' : (sansTx tx x.2.2).length ≤ 12 := Nat.le_trans (List.length_filter_le _ _) hl2
    have hgr := grantF_len (sansTx tx x.2.1) (sansTx tx x.2.2)
    have hmodeq : ∀ y ∈ sansTx tx x.2.2, isModeF y.2 = true := fun y hy => by
      have hl := (hv.ok x hm).line
      simp only [lineF, Bool.and_eq_true] at hl
      exact okSide_mode hl.1.2 y (List.mem_filter.1 hy).1
    refine W.loopS (S := (List (Int × Int) × List (Int × Int) × List Int) × Value × Value × Value) [3, 8, 9, 10, 12, 26, 27, 28] (fun s => [(3, .pointer (some ⟨b3, 0, none⟩)), (8, .func (.func 104) #[] #[.pointer (some ⟨b3, 0, none⟩)]), (9, vo), (10, s.2.2.2), (12, .pointer (some ⟨b12, 0, none⟩)), (26, .slice (some ⟨g, o, none⟩) t.length tc), (27, .int .i64 t.length), (28, .int .i64 i)])
      (fun s w' => s.1.1.length + s.1.2.1.length ≤ 24 ∧ (∀ y ∈ s.1.1, isModeF y.2 = true) ∧ (∀ y ∈ s.1.2.1, isModeF y.2 = true) ∧ s.1.2.2.length + s.1.2.1.length ≤ 12 ∧ (dropItem tx x) = ((grantF s.1.1 s.1.2.1).1, (grantF s.1.1 s.1.2.1).2.1, s.1.2.2 ++ (grantF s.1.1 s.1.2.1).2.2) ∧
        St (at0 w) w' [blk b12 142 [.int .i64 x.1, s.2.1, s.2.2.1], row 145 lockR s.2.1 s.1.1, row 145 lockR s.2.2.1 s.1.2.1, row 3 i64 s.2.2.2 ((dropF tx (t.take i)).2 ++ s.1.2.2), hang itemO (t.drop (i + 1)) (cs.drop (i * 3 + 3)), row 142 itemO vo (dropF tx (t.take i)).1, raw 142 3 (.slice (some ⟨g, o, none⟩) t.length tc) t.length cs, blk b3 3 [.int .i64 tx]] []) (fun s => s.1.2.1.length)
      ((sansTx tx x.2.1, sansTx tx x.2.2, []), .slice d1 (sansTx tx x.2.1).length k1, .slice d2 (sansTx tx x.2.2).length k2, vg) rfl ?_ ?_
    · refine ⟨by simp only; omega, hmode', hmodeq, by simp; exact hl2', rfl, ?_⟩
      simp only [List.append_nil]
      exact H11.bring [0, 2, 1, 5, 3, 4] rfl
    clear H11 hgr hmode' hl1' hl2' hmodeq
    rintro ⟨⟨hs, qs, gs⟩, v1, v2, vg'⟩ w12 ⟨hlen2, hmh, hmq, hgs, hdi, H⟩
    simp only at hlen2 hmh hmq hgs hdi H
    refine W.seq ?_
    refine W.seq ?_
    refine W.mono (Q := fun e r w' => e = .normal ∧ Env.keep r [3, 8, 9, 10, 12, 26, 27, 28, 53] = [(3, .pointer (some ⟨b3, 0, none⟩)), (8, .func (.func 104) #[] #[.pointer (some ⟨b3, 0, none⟩)]), (9, vo), (10, vg'), (12, .pointer (some ⟨b12, 0, none⟩)), (26, .slice (some ⟨g, o, none⟩) t.length tc), (27, .int .i64 t.length), (28, .int .i64 i), (53, .bool (frontCan hs qs))] ∧
      St (at0 w) w' [blk b12 142 [.int .i64 x.1, v1, v2], row 145 lockR v1 hs, row 145 lockR v2 qs, row 3 i64 vg' ((dropF tx (t.take i)).2 ++ gs), hang itemO (t.drop (i + 1)) (cs.drop (i * 3 + 3)), row 142 itemO vo (dropF tx (t.take i)).1, raw 142 3 (.slice (some ⟨g, o, none⟩) t.length tc) t.length cs, blk b3 3 [.int .i64 tx]] []) ?_ ?_
    · have H := H.drew
      obtain ⟨a1, c1, rfl, hr1⟩ := row_rd (H.holds (A := row 145 lockR v1 hs) (by simp))
      obtain ⟨a2, c2, rfl, hr2⟩ := row_rd (H.holds (A := row 145 lockR v2 qs) (by simp))
      have hA : HA [blk b12 142 [.int .i64 x.1, .slice a1 hs.length c1, .slice a2 qs.length c2], rd lockR a2 c2 qs] w12.drew := HA.cons (H.holds (by simp)) (HA.cons hr2 (HA.nil _))
      refine W.regionD [1, 5, 7, 9] (HA [blk b12 142 [.int .i64 x.1, .slice a1 hs.length c1, .slice a2 qs.length c2], rd lockR a2 c2 qs]) [0, 1, 2, 3, 4, 5, 6, 7, 8, 9, 10, 11] rfl (by kernel_rfl) (fun _ _ _ h => nomatch h.1) ?_
      (repeat (first | refine WD.run tabOk rfl rfl ?_ | refine WD.hv rfl rfl rfl rfl rfl hA (HeldV.load1 tabOk rfl rfl rfl rfl (by (repeat (first | exact .head _ | refine .tail _ ?_))) rfl) ?_ | refine WD.hv rfl rfl rfl rfl rfl hA (HeldV.loadA tabOk rfl rfl rfl rfl (by (repeat (first | exact .head _ | refine .tail _ ?_))) rfl rfl) ?_ | refine WD.pu tabOk rfl rfl rfl rfl rfl rfl ?_))
      cases qs with
      | nil =>
        refine WD.caseG rfl rfl rfl (fun hg => (by simp at hg)) (fun hg => ?_)
        (repeat (first | refine WD.skip rfl rfl rfl rfl rfl ?_ | refine WD.skipS rfl rfl rfl rfl ‹HA _ _› ?_))
        (repeat (first | refine WD.run tabOk rfl rfl ?_ | refine WD.hv rfl rfl rfl rfl rfl hA (HeldV.load1 tabOk rfl rfl rfl rfl (by (repeat (first | exact .head _ | refine .tail _ ?_))) rfl) ?_ | refine WD.hv rfl rfl rfl rfl rfl hA (HeldV.loadA tabOk rfl rfl rfl rfl (by (repeat (first | exact .head _ | refine .tail _ ?_))) rfl rfl) ?_ | refine WD.pu tabOk rfl rfl rfl rfl rfl rfl ?_))
        (repeat (first | refine WD.run tabOk rfl rfl ?_ | refine WD.nil ?_))
        refine ⟨rfl, ?_, H⟩
        show [(3, _), (8, _), (9, _), (10, _), (12, _), (26, _), (27, _), (28, _), (53, _)] = _
        simp [pickV, undef, frontCan]
      | cons q qs =>
        refine WD.caseG rfl rfl rfl (fun hg => ?_) (fun hg => (by simp at hg; try omega))
        obtain ⟨bb, oo, rfl⟩ := hr2.addr (by simp)
        (repeat (first | refine WD.run tabOk rfl rfl ?_ | refine WD.hv rfl rfl rfl rfl rfl hA (HeldV.load1 tabOk rfl rfl rfl rfl (by (repeat (first | exact .head _ | refine .tail _ ?_))) rfl) ?_ | refine WD.hv rfl rfl rfl rfl rfl hA (HeldV.loadA tabOk rfl rfl rfl rfl (by (repeat (first | exact .head _ | refine .tail _ ?_))) rfl rfl) ?_ | refine WD.pu tabOk rfl rfl rfl rfl rfl rfl ?_))
        refine WD.pv rfl rfl rfl rfl rfl (PureV.idxN (i := 0) tabOk rfl rfl rfl rfl rfl rfl (by simp)) ?_
        refine WD.hv rfl rfl rfl rfl rfl hA (HeldV.elemA (i := 0) tabOk rfl rfl rfl rfl (.tail _ (.head _)) rfl rfl rfl) ?_
        refine WD.oneS rfl rfl rfl rfl rfl (OpW.call rfl Try.call83 rfl (Calls.ret (can_ok _ x.1 a1 c1 hs _ rfl q.1 q.2 hr1 hmh) ?_))
        rintro _ w13 ⟨hp13, rfl⟩
        have H := H.after hp13
        refine ⟨HA.cons (H.holds (by simp)) (HA.cons (hr2.pure hp13) (HA.nil _)), ?_⟩
        (repeat (first | refine WD.run tabOk rfl rfl ?_ | refine WD.nil ?_))
        refine ⟨rfl, ?_, H⟩
        show [(3, _), (8, _), (9, _), (10, _), (12, _), (26, _), (27, _), (28, _), (53, _)] = _
        simp [pickV, frontCan]
    rintro _ r w13 ⟨rfl, hr, H⟩
    show W _ _ _ _ _ _
    refine W.keep [3, 8, 9, 10, 12, 26, 27, 28, 53] ?_
    rw [hr]
    clear hr r
    refine W.cond rfl (fun hgo => ?_) (fun hgo => ?_)
    · cases qs with
      | nil => cases hgo
      | cons q qs =>
        (repeat (first | refine WO.run tabOk rfl rfl ?_ | refine WO.nil ?_ | refine WO.skip rfl rfl rfl ?_ | refine WO.pu tabOk rfl rfl rfl rfl ?_ | refine W.seq ?_ | refine W.region ?_ | refine W.block ?_ | refine W.skip ?_ | refine W.exit ?_ | refine WO.one rfl rfl rfl (OpW.load1 tabOk rfl rfl rfl rfl H (by (repeat (first | exact .head _ | refine .tail _ ?_))) rfl ?_)))
        obtain ⟨a1, c1, rfl, hr1⟩ := row_rd (H.holds (A := row 145 lockR v1 hs) (by simp))
        obtain ⟨a2, c2, rfl, hr2⟩ := row_rd (H.holds (A := row 145 lockR v2 (q :: qs)) (by simp))
        obtain ⟨bb, oo, rfl⟩ := hr2.addr (by simp)
        refine WO.pv rfl rfl rfl (PureV.idxN (i := 0) tabOk rfl rfl rfl rfl rfl rfl (by simp)) ?_
        refine WO.one rfl rfl rfl (OpW.elemA (i := 0) tabOk rfl rfl rfl rfl hr2 rfl rfl rfl ?_)
        refine WO.one rfl rfl rfl (OpW.call rfl Try.call84 rfl (Calls.ret (give_ok _ _ _ _ b12 0 [.int .i64 x.1, .slice a1 hs.length c1, .slice (some ⟨bb, oo, none⟩) (q :: qs).length c2] x.1 _ _ hs q.1 q.2 H rfl rfl (by omega)) ?_))
        rintro _ w14 ⟨u1, H14⟩
        change St (at0 w) w14 (blk b12 142 [.int .i64 x.1, u1, .slice (some ⟨bb, oo, none⟩) (q :: qs).length c2] :: _) [] at H14
        obtain ⟨e1, f1, rfl⟩ := row_form H14 (v := u1) (e := 145) (r := lockR) (xs := giveF hs q.1 q.2) (by simp)
        obtain ⟨a2', c2', ee, hr2⟩ := row_rd (H14.holds (A := row 145 lockR (.slice (some ⟨bb, oo, none⟩) (q :: qs).length c2) (q :: qs)) (by simp))
        simp only [Value.slice.injEq] at ee
        obtain ⟨rfl, _, rfl⟩ := ee
        (repeat (first | refine WO.run tabOk rfl rfl ?_ | refine WO.nil ?_ | refine WO.skip rfl rfl rfl ?_ | refine WO.pu tabOk rfl rfl rfl rfl ?_ | refine W.seq ?_ | refine W.region ?_ | refine W.block ?_ | refine W.skip ?_ | refine W.exit ?_ | refine WO.one rfl rfl rfl (OpW.load1 tabOk rfl rfl rfl rfl H14 (by (repeat (first | exact .head _ | refine .tail _ ?_))) rfl ?_)))
        refine WO.pv rfl rfl rfl (PureV.idxN (i := 0) tabOk rfl rfl rfl rfl rfl rfl (by simp)) ?_
        (repeat (first | refine WO.run tabOk rfl rfl ?_ | refine WO.nil ?_ | refine WO.skip rfl rfl rfl ?_ | refine WO.pu tabOk rfl rfl rfl rfl ?_ | refine W.seq ?_ | refine W.region ?_ | refine W.block ?_ | refine W.skip ?_ | refine W.exit ?_))
        refine WO.one rfl rfl rfl (OpW.elem1 (i := 0) (j := 0) tabOk rfl rfl rfl rfl hr2 rfl rfl rfl ?_)
        refine WO.one rfl rfl rfl (OpW.buildSlice tabOk rfl rfl rfl rfl zero3 rfl rfl rfl H14 ?_)
        intro b15 w15 H15
        have hsh := shows_blk (sz := 1) (m := 1) (e := 3) (l := [.int .i64 q.1]) H15 (b := b15) (by simp) rfl (by intro u hu; simp at hu; subst hu; rfl)
        have H16 := St.flat_open (sz := 1) (enc := fun x : Int => [.int .i64 x]) (H15.to (i := 4) rfl)
        refine WO.one rfl rfl rfl (OpW.append tabOk rfl rfl rfl zero3 rfl rfl rfl rfl H16 hsh (by simp; omega) (by simp only [maxLen]; simp; omega) ?_)
        intro vg2 w16 H17 _
        (repeat (first | refine WO.run tabOk rfl rfl ?_ | refine WO.nil ?_ | refine WO.skip rfl rfl rfl ?_ | refine WO.pu tabOk rfl rfl rfl rfl ?_ | refine W.seq ?_ | refine W.region ?_ | refine W.block ?_ | refine W.skip ?_ | refine W.exit ?_ | refine WO.one rfl rfl rfl (OpW.load1 tabOk rfl rfl rfl rfl H17 (by (repeat (first | exact .head _ | refine .tail _ ?_))) rfl ?_)))
        refine WO.pv rfl rfl rfl (PureV.slcFrom (i := 1) (n' := qs.length) tabOk rfl rfl rfl rfl rfl rfl (by simp) hr2.le.1 (by simp)) ?_
        (repeat (first | refine WO.run tabOk rfl rfl ?_ | refine WO.nil ?_ | refine WO.skip rfl rfl rfl ?_ | refine WO.pu tabOk rfl rfl rfl rfl ?_ | refine W.seq ?_ | refine W.region ?_ | refine W.block ?_ | refine W.skip ?_ | refine W.exit ?_))
        refine WO.act rfl rfl (OpW.store1 (i := 2) tabOk rfl rfl rfl rfl rfl H17 rfl rfl rfl ?_)
        intro w17 H18
        (repeat (first | refine WO.run tabOk rfl rfl ?_ | refine WO.nil ?_ | refine WO.skip rfl rfl rfl ?_ | refine WO.pu tabOk rfl rfl rfl rfl ?_ | refine W.seq ?_ | refine W.region ?_ | refine W.block ?_ | refine W.skip ?_ | refine W.exit ?_))
        have H19 := H18.to (i := 1) rfl
        have eg : ((dropF tx (t.take i)).2 ++ gs).flatMap (fun x : Int => [Value.int .i64 x]) ++ [.int .i64 q.1] = ((dropF tx (t.take i)).2 ++ (gs ++ [q.1])).flatMap (fun x : Int => [Value.int .i64 x]) := by simp
        rw [eg, show ((dropF tx (t.take i)).2 ++ gs).length + 1 = ((dropF tx (t.take i)).2 ++ (gs ++ [q.1])).length by simp; omega] at H19
        have H20 := St.flat_close (enc := fun x : Int => [.int .i64 x]) (sz := 1) (hl := fun _ => rfl) (h1 := fun x v hv => by simp at hv; subst hv; rfl) H19
        change St (at0 w) w17 (row 3 i64 vg2 ((dropF tx (t.take i)).2 ++ (gs ++ [q.1])) :: _) [] at H20
        have H21 := St.raw_tail (n := qs.length) (St.flat_open (sz := 2) (enc := encLock) (H20.to (i := 4) rfl))
        have eq2 : ((q :: qs).flatMap encLock).drop 2 = qs.flatMap encLock := rfl
        rw [eq2] at H21
        have H22 := St.flat_close (enc := encLock) (sz := 2) (hl := fun _ => rfl) (h1 := fun x v hv => by simp [encLock] at hv; rcases hv with rfl | rfl <;> rfl) H21
        have hgl2 : (giveF hs q.1 q.2).length ≤ hs.length + 1 := setF_len
        simp only [List.length_cons] at hlen2 hgs
        refine ⟨((giveF hs q.1 q.2, qs, gs ++ [q.1]), .slice e1 (giveF hs q.1 q.2).length f1, .slice (cutA (some ⟨bb, oo, none⟩) c2 1 2) qs.length (c2 - 1), vg2), rfl, ⟨by simp only; omega, giveF_mode hmh (hmq q (by simp)), fun y hy => hmq y (by simp [hy]), by simp; omega, ?_, ?_⟩, by simp⟩
        · rw [hdi, grantF, if_pos (show canF hs q.1 q.2 = true from hgo)]; simp
        · exact (H22.bring [2, 4, 0, 1, 5, 6, 7, 8] rfl).perm (.refl _) |> fun h => (h.bring [8] rfl).drop
    · (repeat (first | refine WO.run tabOk rfl rfl ?_ | refine WO.nil ?_ | refine WO.skip rfl rfl rfl ?_ | refine WO.pu tabOk rfl rfl rfl rfl ?_ | refine W.seq ?_ | refine W.region ?_ | refine W.block ?_ | refine W.skip ?_ | refine W.exit ?_ | refine WO.one rfl rfl rfl (OpW.load1 tabOk rfl rfl rfl rfl H (by (repeat (first | exact .head _ | refine .tail _ ?_))) rfl ?_)))
      obtain ⟨a1, c1, rfl, hr1⟩ := row_rd (H.holds (A := row 145 lockR v1 hs) (by simp))
      (repeat (first | refine WO.run tabOk rfl rfl ?_ | refine WO.nil ?_ | refine WO.skip rfl rfl rfl ?_ | refine WO.pu tabOk rfl rfl rfl rfl ?_ | refine W.seq ?_ | refine W.region ?_ | refine W.block ?_ | refine W.skip ?_ | refine W.exit ?_))
      have hgr : grantF hs qs = (hs, qs, []) := by
        cases qs with
        | nil => rfl
        | cons q qs => rw [grantF, if_neg (by rw [show canF hs q.1 q.2 = false from hgo]; simp)]
      rw [hgr] at hdi
      simp only [List.append_nil] at hdi
      have hstep : dropF tx (t.take (i + 1)) = ((dropF tx (t.take i)).1 ++ (if hs.length = 0 then [] else [(x.1, hs, qs)]), (dropF tx (t.take i)).2 ++ gs) := by
        rw [take_snoc hx, dropF_append]
        simp only [dropF, hdi, List.append_nil]
      refine W.cond rfl (fun hpos => ?_) (fun hpos => ?_)
      · obtain ⟨a2, c2, rfl⟩ := row_form H (v := v2) (e := 145) (r := lockR) (xs := qs) (by simp)
        simp at hpos
        (repeat (first | refine WO.run tabOk rfl rfl ?_ | refine WO.nil ?_ | refine WO.skip rfl rfl rfl ?_ | refine WO.pu tabOk rfl rfl rfl rfl ?_ | refine W.seq ?_ | refine W.region ?_ | refine W.block ?_ | refine W.skip ?_ | refine W.exit ?_))
        refine WO.one rfl rfl rfl (OpW.loadA tabOk rfl rfl rfl rfl H (by (repeat (first | exact .head _ | refine .tail _ ?_))) rfl rfl ?_)
        refine WO.one rfl rfl rfl (OpW.buildSlice tabOk rfl rfl rfl rfl zero142 rfl rfl (l := [.int .i64 x.1, .slice a1 hs.length c1, .slice a2 qs.length c2]) rfl H ?_)
        intro b14 w14 H14
        have hsh := shows_blk (sz := 3) (m := 1) (e := 142) H14 (b := b14) (l := [.int .i64 x.1, .slice a1 hs.length c1, .slice a2 qs.length c2]) (by simp) rfl (by intro u hu; simp at hu; rcases hu with rfl | rfl | rfl <;> rfl)
        obtain ⟨cs', H15⟩ := (H14.to (i := 6) rfl).open_row
        have hdl : (dropF tx (t.take i)).1.length ≤ i := by
          have := dropF_len tx (t.take i)
          rw [List.length_take] at this; omega
        refine WO.one rfl rfl rfl (OpW.append tabOk rfl rfl rfl zero142 rfl rfl rfl rfl H15 hsh (by omega) (by simp only [maxLen]; omega) ?_)
        intro vo2 w16 H16 _
        (repeat (first | refine WO.run tabOk rfl rfl ?_ | refine WO.nil ?_ | refine WO.skip rfl rfl rfl ?_ | refine WO.pu tabOk rfl rfl rfl rfl ?_ | refine W.seq ?_ | refine W.region ?_ | refine W.block ?_ | refine W.skip ?_ | refine W.exit ?_))
        refine WO.pv rfl rfl rfl (PureV.addN (n := i) rfl rfl rfl (by omega)) ?_
        (repeat (first | refine WO.run tabOk rfl rfl ?_ | refine WO.nil ?_ | refine WO.skip rfl rfl rfl ?_ | refine WO.pu tabOk rfl rfl rfl rfl ?_ | refine W.seq ?_ | refine W.region ?_ | refine W.block ?_ | refine W.skip ?_ | refine W.exit ?_))
        refine ⟨(i + 1, vo2, vg'), rfl, ⟨by simp only; omega, ?_, ?_⟩, by simp only; omega⟩
        · simp only; rw [hstep]; simp; omega
        · simp only
          rw [hstep, if_neg (by omega), show (i + 1) * 3 = i * 3 + 3 by omega]
          -- raw vo, hang, blk b14, blk b12, row v1, row v2, row 3, hang, raw, b3
          have H17 := (((H16.bring [4, 5] rfl).item_in (i := x.1)).hang_one.to (i := 2) rfl).hang_join
          have H18 := H17.to (i := 1) rfl
          rw [show (dropF tx (t.take i)).1.length + 1 = ((dropF tx (t.take i)).1 ++ [(x.1, hs, qs)]).length by simp] at H18
          have H19 := St.close_row (r := itemO) H18
          exact (((H19.bring [0, 3, 5, 4, 6] rfl).bring [5, 6] rfl).drop.drop)
      · (repeat (first | refine WO.run tabOk rfl rfl ?_ | refine WO.nil ?_ | refine WO.skip rfl rfl rfl ?_ | refine WO.pu tabOk rfl rfl rfl rfl ?_ | refine W.seq ?_ | refine W.region ?_ | refine W.block ?_ | refine W.skip ?_ | refine W.exit ?_))
        refine WO.pv rfl rfl rfl (PureV.addN (n := i) rfl rfl rfl (by omega)) ?_
        (repeat (first | refine WO.run tabOk rfl rfl ?_ | refine WO.nil ?_ | refine WO.skip rfl rfl rfl ?_ | refine WO.pu tabOk rfl rfl rfl rfl ?_ | refine W.seq ?_ | refine W.region ?_ | refine W.block ?_ | refine W.skip ?_ | refine W.exit ?_))
        simp at hpos
        refine ⟨(i + 1, vo, vg'), rfl, ⟨by simp only; omega, ?_, ?_⟩, by simp only; omega⟩
        · simp only; rw [hstep]; simp; omega
        · simp only
          rw [hstep, if_pos (by rw [hpos]; rfl)]
          rw [List.append_nil, show (i + 1) * 3 = i * 3 + 3 by omega]
          exact ((H.bring [5, 3, 6, 4, 7] rfl).bring [5, 6, 7] rfl).drop.drop.drop
  · simp at hge
    obtain rfl : i = t.length := by omega
    (repeat (first | refine WO.run tabOk rfl rfl ?_ | refine WO.nil ?_ | refine WO.skip rfl rfl rfl ?_ | refine WO.pu tabOk rfl rfl rfl rfl ?_ | refine W.seq ?_ | refine W.region ?_ | refine W.block ?_ | refine W.skip ?_ | refine W.exit ?_))
    refine W.ret (ret3 Try.results72 rfl rfl rfl ⟨_, rfl, _, _, 0, rfl, .inr ⟨rfl, hok, ?_⟩⟩)
    rw [List.take_length] at H
    exact ((H.bring [2, 3, 4] rfl).drop.drop.drop)
end Go.Proofs.Ytpenbdpgpamcbaa
