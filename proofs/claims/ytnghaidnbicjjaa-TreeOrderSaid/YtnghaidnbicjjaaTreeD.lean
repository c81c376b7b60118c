/- tree: split. -/
import Derived.Test.YtnghaidnbicjjaaTreeC
set_option linter.unusedVariables false
set_option linter.unusedSimpArgs false
set_option maxRecDepth 20000
namespace Go.Proofs.Ytnghaidnbicjjaa
open Go Gw
attribute [local irreducible] W WO WD WF

theorem cloneInt_ok (w : World) (a : Option Addr) (m c : Nat) (cs : List Value) (hs : Shows w 1 a m cs) (hlen : m ≤ 1073741824) (hc : m ≤ c) (hz : a = none → c = 0) :
    Calls Try.prog 69 #[.slice a m c] w (Ret fun v w' => St (at0 w) w' [raw 3 1 v m cs] []) := by
  refine calls_W (args := [_]) Try.func69 rfl Try.ntmps69 rfl ?_
  have H := St.start [] (w := w) (by simp)
  (repeat (first | refine WO.run tabOk rfl rfl ?_ | refine WO.nil ?_ | refine WO.skip rfl rfl rfl ?_ | refine WO.pu tabOk rfl rfl rfl rfl ?_ | refine W.seq ?_ | refine W.region ?_ | refine W.block ?_ | refine W.skip ?_ | refine W.exit ?_))
  refine W.cond rfl (fun hn => ?_) (fun hn => ?_)
  · (repeat (first | refine WO.run tabOk rfl rfl ?_ | refine WO.nil ?_ | refine WO.skip rfl rfl rfl ?_ | refine WO.pu tabOk rfl rfl rfl rfl ?_ | refine W.seq ?_ | refine W.region ?_ | refine W.block ?_ | refine W.skip ?_ | refine W.exit ?_))
    refine W.ret (ret1 Try.results69 rfl ⟨_, rfl, ?_⟩)
    have ha : a = none := by simpa using hn
    have hm : m = 0 := by have := hz ha; omega
    subst hm
    have : cs = [] := List.eq_nil_of_length_eq_zero (by simp [hs.1])
    subst this
    exact H.add_nil_raw _ _
  · (repeat (first | refine WO.run tabOk rfl rfl ?_ | refine WO.nil ?_ | refine WO.skip rfl rfl rfl ?_ | refine WO.pu tabOk rfl rfl rfl rfl ?_ | refine W.seq ?_ | refine W.region ?_ | refine W.block ?_ | refine W.skip ?_ | refine W.exit ?_))
    refine WO.one rfl rfl rfl (OpW.buildSlice tabOk rfl rfl rfl rfl zero3 rfl rfl rfl H ?_)
    intro b w1 H1
    have H2 := H1.close_raw (sz := 1) (n := 0) (o := 0) (cap := 0) (cs := []) (Nat.le_refl _) (Nat.zero_le _) (by simp) (by simp) (by simp)
    (repeat (first | refine WO.run tabOk rfl rfl ?_ | refine WO.nil ?_ | refine WO.skip rfl rfl rfl ?_ | refine WO.pu tabOk rfl rfl rfl rfl ?_ | refine W.seq ?_ | refine W.region ?_ | refine W.block ?_ | refine W.skip ?_ | refine W.exit ?_))
    refine WO.one rfl rfl rfl (OpW.append tabOk rfl rfl rfl zero3 rfl rfl rfl rfl H2 (hs.pure H1.pure) (by omega) (by simp only [maxLen]; omega) ?_)
    intro v w2 H3 _
    (repeat (first | refine WO.run tabOk rfl rfl ?_ | refine WO.nil ?_ | refine WO.skip rfl rfl rfl ?_ | refine WO.pu tabOk rfl rfl rfl rfl ?_ | refine W.seq ?_ | refine W.region ?_ | refine W.block ?_ | refine W.skip ?_ | refine W.exit ?_))
    refine W.ret (ret1 Try.results69 rfl ⟨_, rfl, ?_⟩)
    rwa [Nat.zero_add, List.nil_append] at H3

theorem cloneStr_ok (w : World) (a : Option Addr) (m c : Nat) (cs : List Value) (hs : Shows w 1 a m cs) (hlen : m ≤ 1073741824) (hc : m ≤ c) (hz : a = none → c = 0) :
    Calls Try.prog 129 #[.slice a m c] w (Ret fun v w' => St (at0 w) w' [raw 9 1 v m cs] []) := by
  refine calls_W (args := [_]) Try.func129 rfl Try.ntmps129 rfl ?_
  have H := St.start [] (w := w) (by simp)
  (repeat (first | refine WO.run tabOk rfl rfl ?_ | refine WO.nil ?_ | refine WO.skip rfl rfl rfl ?_ | refine WO.pu tabOk rfl rfl rfl rfl ?_ | refine W.seq ?_ | refine W.region ?_ | refine W.block ?_ | refine W.skip ?_ | refine W.exit ?_))
  refine W.cond rfl (fun hn => ?_) (fun hn => ?_)
  · (repeat (first | refine WO.run tabOk rfl rfl ?_ | refine WO.nil ?_ | refine WO.skip rfl rfl rfl ?_ | refine WO.pu tabOk rfl rfl rfl rfl ?_ | refine W.seq ?_ | refine W.region ?_ | refine W.block ?_ | refine W.skip ?_ | refine W.exit ?_))
    refine W.ret (ret1 Try.results129 rfl ⟨_, rfl, ?_⟩)
    have ha : a = none := by simpa using hn
    have hm : m = 0 := by have := hz ha; omega
    subst hm
    have : cs = [] := List.eq_nil_of_length_eq_zero (by simp [hs.1])
    subst this
    exact H.add_nil_raw _ _
  · (repeat (first | refine WO.run tabOk rfl rfl ?_ | refine WO.nil ?_ | refine WO.skip rfl rfl rfl ?_ | refine WO.pu tabOk rfl rfl rfl rfl ?_ | refine W.seq ?_ | refine W.region ?_ | refine W.block ?_ | refine W.skip ?_ | refine W.exit ?_))
    refine WO.one rfl rfl rfl (OpW.buildSlice tabOk rfl rfl rfl rfl zero9 rfl rfl rfl H ?_)
    intro b w1 H1
    have H2 := H1.close_raw (sz := 1) (n := 0) (o := 0) (cap := 0) (cs := []) (Nat.le_refl _) (Nat.zero_le _) (by simp) (by simp) (by simp)
    (repeat (first | refine WO.run tabOk rfl rfl ?_ | refine WO.nil ?_ | refine WO.skip rfl rfl rfl ?_ | refine WO.pu tabOk rfl rfl rfl rfl ?_ | refine W.seq ?_ | refine W.region ?_ | refine W.block ?_ | refine W.skip ?_ | refine W.exit ?_))
    refine WO.one rfl rfl rfl (OpW.append tabOk rfl rfl rfl zero9 rfl rfl rfl rfl H2 (hs.pure H1.pure) (by omega) (by simp only [maxLen]; omega) ?_)
    intro v w2 H3 _
    (repeat (first | refine WO.run tabOk rfl rfl ?_ | refine WO.nil ?_ | refine WO.skip rfl rfl rfl ?_ | refine WO.pu tabOk rfl rfl rfl rfl ?_ | refine W.seq ?_ | refine W.region ?_ | refine W.block ?_ | refine W.skip ?_ | refine W.exit ?_))
    refine W.ret (ret1 Try.results129 rfl ⟨_, rfl, ?_⟩)
    rwa [Nat.zero_add, List.nil_append] at H3

theorem cloneKid_ok (w : World) (a : Option Addr) (m c : Nat) (cs : List Value) (hs : Shows w 1 a m cs) (hlen : m ≤ 1073741824) (hc : m ≤ c) (hz : a = none → c = 0) :
    Calls Try.prog 130 #[.slice a m c] w (Ret fun v w' => St (at0 w) w' [raw 82 1 v m cs] []) := by
  refine calls_W (args := [_]) Try.func130 rfl Try.ntmps130 rfl ?_
  have H := St.start [] (w := w) (by simp)
  (repeat (first | refine WO.run tabOk rfl rfl ?_ | refine WO.nil ?_ | refine WO.skip rfl rfl rfl ?_ | refine WO.pu tabOk rfl rfl rfl rfl ?_ | refine W.seq ?_ | refine W.region ?_ | refine W.block ?_ | refine W.skip ?_ | refine W.exit ?_))
  refine W.cond rfl (fun hn => ?_) (fun hn => ?_)
  · (repeat (first | refine WO.run tabOk rfl rfl ?_ | refine WO.nil ?_ | refine WO.skip rfl rfl rfl ?_ | refine WO.pu tabOk rfl rfl rfl rfl ?_ | refine W.seq ?_ | refine W.region ?_ | refine W.block ?_ | refine W.skip ?_ | refine W.exit ?_))
    refine W.ret (ret1 Try.results130 rfl ⟨_, rfl, ?_⟩)
    have ha : a = none := by simpa using hn
    have hm : m = 0 := by have := hz ha; omega
    subst hm
    have : cs = [] := List.eq_nil_of_length_eq_zero (by simp [hs.1])
    subst this
    exact H.add_nil_raw _ _
  · (repeat (first | refine WO.run tabOk rfl rfl ?_ | refine WO.nil ?_ | refine WO.skip rfl rfl rfl ?_ | refine WO.pu tabOk rfl rfl rfl rfl ?_ | refine W.seq ?_ | refine W.region ?_ | refine W.block ?_ | refine W.skip ?_ | refine W.exit ?_))
    refine WO.one rfl rfl rfl (OpW.buildSlice tabOk rfl rfl rfl rfl zero82 rfl rfl rfl H ?_)
    intro b w1 H1
    have H2 := H1.close_raw (sz := 1) (n := 0) (o := 0) (cap := 0) (cs := []) (Nat.le_refl _) (Nat.zero_le _) (by simp) (by simp) (by simp)
    (repeat (first | refine WO.run tabOk rfl rfl ?_ | refine WO.nil ?_ | refine WO.skip rfl rfl rfl ?_ | refine WO.pu tabOk rfl rfl rfl rfl ?_ | refine W.seq ?_ | refine W.region ?_ | refine W.block ?_ | refine W.skip ?_ | refine W.exit ?_))
    refine WO.one rfl rfl rfl (OpW.append tabOk rfl rfl rfl zero82 rfl rfl rfl rfl H2 (hs.pure H1.pure) (by omega) (by simp only [maxLen]; omega) ?_)
    intro v w2 H3 _
    (repeat (first | refine WO.run tabOk rfl rfl ?_ | refine WO.nil ?_ | refine WO.skip rfl rfl rfl ?_ | refine WO.pu tabOk rfl rfl rfl rfl ?_ | refine W.seq ?_ | refine W.region ?_ | refine W.block ?_ | refine W.skip ?_ | refine W.exit ?_))
    refine W.ret (ret1 Try.results130 rfl ⟨_, rfl, ?_⟩)
    rwa [Nat.zero_add, List.nil_append] at H3


theorem kC_eq (l : List Int) : kC l = l.map fun x => .int .i64 x := by induction l <;> simp_all
theorem tC_eq (l : List ByteArray) : tC l = l.map fun x => .string x := by induction l <;> simp_all
theorem kC_take (l : List Int) (n : Nat) : (kC l).take n = kC (l.take n) := by rw [kC_eq, kC_eq, List.map_take]
theorem kC_drop (l : List Int) (n : Nat) : (kC l).drop n = kC (l.drop n) := by rw [kC_eq, kC_eq, List.map_drop]
theorem tC_take (l : List ByteArray) (n : Nat) : (tC l).take n = tC (l.take n) := by rw [tC_eq, tC_eq, List.map_take]
theorem tC_drop (l : List ByteArray) (n : Nat) : (tC l).drop n = tC (l.drop n) := by rw [tC_eq, tC_eq, List.map_drop]

def midF (x : Nd) : Nat := x.keys.length / 2
def leftF (x : Nd) : Nd := .mk (x.keys.take (midF x + 1)) (x.texts.take (midF x + 1)) (x.kids.take (midF x + 1))
def rightF (x : Nd) : Nd := .mk (x.keys.drop (midF x + 1)) (x.texts.drop (midF x + 1)) (x.kids.drop (midF x + 1))

/-- What may be split. -/
structure Sp (x : Nd) : Prop where
  texts : x.texts.length = x.keys.length
  pos : 1 ≤ x.keys.length
  len : x.keys.length ≤ 100000
  kids : x.kids = [] ∨ x.kids.length = x.keys.length + 1

theorem raw_nil0 {c : Ctx} {w : World} {Own Ro : List Asn} {e sz n cap : Nat} {a : Option Addr} {cs : List Value} (H : St c w (raw e sz (.slice a n cap) n cs :: Own) Ro) (ha : a = none) : n = 0 ∧ cap = 0 := by
  subst ha
  rcases H.open_raw with ⟨e1, rfl, _⟩ | ⟨g, o, cap', cur, e1, _⟩
  · simp only [Value.slice.injEq] at e1; exact ⟨rfl, e1.2.2⟩
  · simp at e1

theorem split_ok (c : Ctx) (w : World) (Own Ro : List Asn) (h b : Nat) (x : Nd) (H : St c w (nodeA h b x :: Own) Ro) (hx : Sp x) :
    Calls Try.prog 97 #[.pointer (some ⟨b, 0, none⟩)] w (Ret fun v w' => ∃ b', v = .pointer (some ⟨b', 0, none⟩) ∧ St c w' (nodeA h b (leftF x) :: nodeA h b' (rightF x) :: Own) Ro) := by
  refine calls_W (args := [_]) Try.func97 rfl Try.ntmps97 rfl ?_
  obtain ⟨vk, vt, vc, H⟩ := node_open H
  change St c w (blk b 88 [vk, vt, vc] :: raw 3 1 vk x.keys.length (kC x.keys) :: raw 9 1 vt x.texts.length (tC x.texts) :: row 82 (kidR h) vc x.kids :: Own) Ro at H
  obtain ⟨_, _, ka, kc, rfl, hk1, hk2⟩ := (H.to (i := 1) rfl).raw_len
  obtain ⟨_, _, ta, tc, rfl, ht1, ht2⟩ := (H.to (i := 2) rfl).raw_len
  obtain ⟨ca, cc, rfl⟩ := row_form' H (v := vc) (e := 82) (r := kidR h) (xs := x.kids) (by simp)
  have hl1 := hx.texts
  have hl2 := hx.pos
  have hl3 := hx.len
  simp only [maxLen] at hk2 ht2
  (repeat (first | refine WO.run tabOk rfl rfl ?_ | refine WO.nil ?_ | refine WO.skip rfl rfl rfl ?_ | refine WO.pu tabOk rfl rfl rfl rfl ?_ | refine W.seq ?_ | refine W.region ?_ | refine W.block ?_ | refine W.skip ?_ | refine W.exit ?_ | refine WO.one rfl rfl rfl (OpW.load1 tabOk rfl rfl rfl rfl H (by (first | exact .head _ | exact .tail _ (.head _) | exact .tail _ (.tail _ (.head _)) | exact .tail _ (.tail _ (.tail _ (.head _))) | exact .tail _ (.tail _ (.tail _ (.tail _ (.head _)))) | exact .tail _ (.tail _ (.tail _ (.tail _ (.tail _ (.head _))))) | exact .tail _ (.tail _ (.tail _ (.tail _ (.tail _ (.tail _ (.head _)))))) | exact .tail _ (.tail _ (.tail _ (.tail _ (.tail _ (.tail _ (.tail _ (.head _))))))))) rfl ?_)))
  refine WO.pv rfl rfl rfl (PureV.quo rfl rfl rfl (by omega) (by omega) (by omega)) ?_
  refine WO.tell (d := 10) rfl (show Value.int .i64 ((x.keys.length : Int) / 2) = .int .i64 ((midF x : Nat) : Int) from by simp [midF]) ?_
  have hm : midF x < x.keys.length := by simp only [midF]; omega
  generalize hmid : midF x = mid at hm
  (repeat (first | refine WO.run tabOk rfl rfl ?_ | refine WO.nil ?_ | refine WO.skip rfl rfl rfl ?_ | refine WO.pu tabOk rfl rfl rfl rfl ?_ | refine W.seq ?_ | refine W.region ?_ | refine W.block ?_ | refine W.skip ?_ | refine W.exit ?_))
  refine W.regionD [3, 11] (HA [blk b 88 [.slice ka x.keys.length kc, .slice ta x.texts.length tc, .slice ca x.kids.length cc]]) [0, 1, 2, 3, 4, 5, 6, 8, 9, 10, 11, 12, 13, 14, 7, 15, 16, 17, 18] rfl (by kernel_rfl) (fun _ _ _ h => h) ?_
  have H := H.drew
  have hA := H.ha (L := [blk b 88 [.slice ka x.keys.length kc, .slice ta x.texts.length tc, .slice ca x.kids.length cc]]) (by simp)
  (repeat (first | refine WD.run tabOk rfl rfl ?_ | refine WD.hv rfl rfl rfl rfl rfl hA (HeldV.load1 tabOk rfl rfl rfl rfl (by (first | exact .head _ | exact .tail _ (.head _) | exact .tail _ (.tail _ (.head _)) | exact .tail _ (.tail _ (.tail _ (.head _))) | exact .tail _ (.tail _ (.tail _ (.tail _ (.head _)))) | exact .tail _ (.tail _ (.tail _ (.tail _ (.tail _ (.head _))))) | exact .tail _ (.tail _ (.tail _ (.tail _ (.tail _ (.tail _ (.head _)))))) | exact .tail _ (.tail _ (.tail _ (.tail _ (.tail _ (.tail _ (.tail _ (.head _))))))))) rfl) ?_ | refine WD.hv rfl rfl rfl rfl rfl hA (HeldV.loadA tabOk rfl rfl rfl rfl (by (first | exact .head _ | exact .tail _ (.head _) | exact .tail _ (.tail _ (.head _)) | exact .tail _ (.tail _ (.tail _ (.head _))) | exact .tail _ (.tail _ (.tail _ (.tail _ (.head _)))) | exact .tail _ (.tail _ (.tail _ (.tail _ (.tail _ (.head _))))) | exact .tail _ (.tail _ (.tail _ (.tail _ (.tail _ (.tail _ (.head _)))))) | exact .tail _ (.tail _ (.tail _ (.tail _ (.tail _ (.tail _ (.tail _ (.head _))))))))) rfl rfl) ?_ | refine WD.pu tabOk rfl rfl rfl rfl rfl rfl ?_))
  refine WD.pv rfl rfl rfl rfl rfl (PureV.addN rfl rfl rfl (by omega)) ?_
  (repeat (first | refine WD.run tabOk rfl rfl ?_ | refine WD.hv rfl rfl rfl rfl rfl hA (HeldV.load1 tabOk rfl rfl rfl rfl (by (first | exact .head _ | exact .tail _ (.head _) | exact .tail _ (.tail _ (.head _)) | exact .tail _ (.tail _ (.tail _ (.head _))) | exact .tail _ (.tail _ (.tail _ (.tail _ (.head _)))) | exact .tail _ (.tail _ (.tail _ (.tail _ (.tail _ (.head _))))) | exact .tail _ (.tail _ (.tail _ (.tail _ (.tail _ (.tail _ (.head _)))))) | exact .tail _ (.tail _ (.tail _ (.tail _ (.tail _ (.tail _ (.tail _ (.head _))))))))) rfl) ?_ | refine WD.hv rfl rfl rfl rfl rfl hA (HeldV.loadA tabOk rfl rfl rfl rfl (by (first | exact .head _ | exact .tail _ (.head _) | exact .tail _ (.tail _ (.head _)) | exact .tail _ (.tail _ (.tail _ (.head _))) | exact .tail _ (.tail _ (.tail _ (.tail _ (.head _)))) | exact .tail _ (.tail _ (.tail _ (.tail _ (.tail _ (.head _))))) | exact .tail _ (.tail _ (.tail _ (.tail _ (.tail _ (.tail _ (.head _)))))) | exact .tail _ (.tail _ (.tail _ (.tail _ (.tail _ (.tail _ (.tail _ (.head _))))))))) rfl rfl) ?_ | refine WD.pu tabOk rfl rfl rfl rfl rfl rfl ?_))
  refine WD.pv rfl rfl rfl rfl rfl (PureV.slcFrom (i := mid + 1) tabOk rfl rfl rfl rfl rfl rfl (by omega) (by omega) rfl) ?_
  (repeat (first | refine WD.run tabOk rfl rfl ?_ | refine WD.hv rfl rfl rfl rfl rfl hA (HeldV.load1 tabOk rfl rfl rfl rfl (by (first | exact .head _ | exact .tail _ (.head _) | exact .tail _ (.tail _ (.head _)) | exact .tail _ (.tail _ (.tail _ (.head _))) | exact .tail _ (.tail _ (.tail _ (.tail _ (.head _)))) | exact .tail _ (.tail _ (.tail _ (.tail _ (.tail _ (.head _))))) | exact .tail _ (.tail _ (.tail _ (.tail _ (.tail _ (.tail _ (.head _)))))) | exact .tail _ (.tail _ (.tail _ (.tail _ (.tail _ (.tail _ (.tail _ (.head _))))))))) rfl) ?_ | refine WD.hv rfl rfl rfl rfl rfl hA (HeldV.loadA tabOk rfl rfl rfl rfl (by (first | exact .head _ | exact .tail _ (.head _) | exact .tail _ (.tail _ (.head _)) | exact .tail _ (.tail _ (.tail _ (.head _))) | exact .tail _ (.tail _ (.tail _ (.tail _ (.head _)))) | exact .tail _ (.tail _ (.tail _ (.tail _ (.tail _ (.head _))))) | exact .tail _ (.tail _ (.tail _ (.tail _ (.tail _ (.tail _ (.head _)))))) | exact .tail _ (.tail _ (.tail _ (.tail _ (.tail _ (.tail _ (.tail _ (.head _))))))))) rfl rfl) ?_ | refine WD.pu tabOk rfl rfl rfl rfl rfl rfl ?_))
  refine WD.pv rfl rfl rfl rfl rfl (PureV.addN rfl rfl rfl (by omega)) ?_
  (repeat (first | refine WD.run tabOk rfl rfl ?_ | refine WD.hv rfl rfl rfl rfl rfl hA (HeldV.load1 tabOk rfl rfl rfl rfl (by (first | exact .head _ | exact .tail _ (.head _) | exact .tail _ (.tail _ (.head _)) | exact .tail _ (.tail _ (.tail _ (.head _))) | exact .tail _ (.tail _ (.tail _ (.tail _ (.head _)))) | exact .tail _ (.tail _ (.tail _ (.tail _ (.tail _ (.head _))))) | exact .tail _ (.tail _ (.tail _ (.tail _ (.tail _ (.tail _ (.head _)))))) | exact .tail _ (.tail _ (.tail _ (.tail _ (.tail _ (.tail _ (.tail _ (.head _))))))))) rfl) ?_ | refine WD.hv rfl rfl rfl rfl rfl hA (HeldV.loadA tabOk rfl rfl rfl rfl (by (first | exact .head _ | exact .tail _ (.head _) | exact .tail _ (.tail _ (.head _)) | exact .tail _ (.tail _ (.tail _ (.head _))) | exact .tail _ (.tail _ (.tail _ (.tail _ (.head _)))) | exact .tail _ (.tail _ (.tail _ (.tail _ (.tail _ (.head _))))) | exact .tail _ (.tail _ (.tail _ (.tail _ (.tail _ (.tail _ (.head _)))))) | exact .tail _ (.tail _ (.tail _ (.tail _ (.tail _ (.tail _ (.tail _ (.head _))))))))) rfl rfl) ?_ | refine WD.pu tabOk rfl rfl rfl rfl rfl rfl ?_))
  refine WD.pv rfl rfl rfl rfl rfl (PureV.slcFrom (i := mid + 1) tabOk rfl rfl rfl rfl rfl rfl (by omega) (by omega) rfl) ?_
  (repeat (first | refine WD.run tabOk rfl rfl ?_ | refine WD.hv rfl rfl rfl rfl rfl hA (HeldV.load1 tabOk rfl rfl rfl rfl (by (first | exact .head _ | exact .tail _ (.head _) | exact .tail _ (.tail _ (.head _)) | exact .tail _ (.tail _ (.tail _ (.head _))) | exact .tail _ (.tail _ (.tail _ (.tail _ (.head _)))) | exact .tail _ (.tail _ (.tail _ (.tail _ (.tail _ (.head _))))) | exact .tail _ (.tail _ (.tail _ (.tail _ (.tail _ (.tail _ (.head _)))))) | exact .tail _ (.tail _ (.tail _ (.tail _ (.tail _ (.tail _ (.tail _ (.head _))))))))) rfl) ?_ | refine WD.hv rfl rfl rfl rfl rfl hA (HeldV.loadA tabOk rfl rfl rfl rfl (by (first | exact .head _ | exact .tail _ (.head _) | exact .tail _ (.tail _ (.head _)) | exact .tail _ (.tail _ (.tail _ (.head _))) | exact .tail _ (.tail _ (.tail _ (.tail _ (.head _)))) | exact .tail _ (.tail _ (.tail _ (.tail _ (.tail _ (.head _))))) | exact .tail _ (.tail _ (.tail _ (.tail _ (.tail _ (.tail _ (.head _)))))) | exact .tail _ (.tail _ (.tail _ (.tail _ (.tail _ (.tail _ (.tail _ (.head _))))))))) rfl rfl) ?_ | refine WD.pu tabOk rfl rfl rfl rfl rfl rfl ?_))
  have hnk := raw_nil0 (H.to (i := 1) rfl)
  have hnt := raw_nil0 (H.to (i := 2) rfl)
  have hsk := raw_tail_shows (e := 3) (sz := 1) (n := x.keys.length) (cap := kc) (j := mid + 1) (a := ka) (cs := kC x.keys) H (by simp) (by omega)
  have hst := raw_tail_shows (e := 9) (sz := 1) (n := x.texts.length) (cap := tc) (j := mid + 1) (a := ta) (cs := tC x.texts) H (by simp) (by omega)
  have cut0 : ∀ {a : Option Addr} {cap j : Nat}, cutA a cap j 1 = none → j ≤ cap → (a = none → cap = 0) → cap - j = 0 := fun {a cap j} h1 h2 h3 => by
    unfold cutA at h1
    split at h1
    · omega
    · cases a with
      | none => have := h3 rfl; omega
      | some a => simp at h1
  refine WD.oneS rfl rfl rfl rfl rfl (OpW.call rfl Try.call69 rfl (Calls.ret (cloneInt_ok _ _ _ _ _ hsk (by omega) (by omega) (fun h => cut0 h (by omega) fun h => (hnk h).2)) ?_))
  intro v18 w1 K1
  have H := H.take K1
  have hA := H.ha (L := [blk b 88 [.slice ka x.keys.length kc, .slice ta x.texts.length tc, .slice ca x.kids.length cc]]) (by simp)
  refine ⟨hA, ?_⟩
  (repeat (first | refine WD.run tabOk rfl rfl ?_ | refine WD.hv rfl rfl rfl rfl rfl hA (HeldV.load1 tabOk rfl rfl rfl rfl (by (first | exact .head _ | exact .tail _ (.head _) | exact .tail _ (.tail _ (.head _)) | exact .tail _ (.tail _ (.tail _ (.head _))) | exact .tail _ (.tail _ (.tail _ (.tail _ (.head _)))) | exact .tail _ (.tail _ (.tail _ (.tail _ (.tail _ (.head _))))) | exact .tail _ (.tail _ (.tail _ (.tail _ (.tail _ (.tail _ (.head _)))))) | exact .tail _ (.tail _ (.tail _ (.tail _ (.tail _ (.tail _ (.tail _ (.head _))))))))) rfl) ?_ | refine WD.hv rfl rfl rfl rfl rfl hA (HeldV.loadA tabOk rfl rfl rfl rfl (by (first | exact .head _ | exact .tail _ (.head _) | exact .tail _ (.tail _ (.head _)) | exact .tail _ (.tail _ (.tail _ (.head _))) | exact .tail _ (.tail _ (.tail _ (.tail _ (.head _)))) | exact .tail _ (.tail _ (.tail _ (.tail _ (.tail _ (.head _))))) | exact .tail _ (.tail _ (.tail _ (.tail _ (.tail _ (.tail _ (.head _)))))) | exact .tail _ (.tail _ (.tail _ (.tail _ (.tail _ (.tail _ (.tail _ (.head _))))))))) rfl rfl) ?_ | refine WD.pu tabOk rfl rfl rfl rfl rfl rfl ?_))
  refine WD.oneS rfl rfl rfl rfl rfl (OpW.call rfl Try.call129 rfl (Calls.ret (cloneStr_ok _ _ _ _ _ (hst.pure K1.pure) (by omega) (by omega) (fun h => cut0 h (by omega) fun h => (hnt h).2)) ?_))
  intro v26 w2 K2
  have H := H.take K2
  have hA := H.ha (L := [blk b 88 [.slice ka x.keys.length kc, .slice ta x.texts.length tc, .slice ca x.kids.length cc]]) (by simp)
  refine ⟨hA, ?_⟩
  change St c w2 (raw 9 1 v26 (x.texts.length - (mid + 1)) ((tC x.texts).drop ((mid + 1) * 1)) :: raw 3 1 v18 (x.keys.length - (mid + 1)) ((kC x.keys).drop ((mid + 1) * 1)) :: _) Ro at H
  obtain ⟨_, _, a26, c26, rfl, _⟩ := H.raw_len
  obtain ⟨_, _, a18, c18, rfl, _⟩ := (H.to (i := 1) rfl).raw_len
  refine WD.pv rfl rfl rfl rfl rfl (PureV.build tabOk rfl rfl rfl zero88 (l := [.slice a18 (x.keys.length - (mid + 1)) c18, .slice a26 (x.texts.length - (mid + 1)) c26, .slice none 0 0]) rfl) ?_
  refine WD.oneS rfl rfl rfl rfl rfl (OpW.box rfl rfl rfl H ?_)
  intro b4 w3 H
  refine ⟨H.ha (by simp), ?_⟩
  clear K1 K2 hsk hst hA
  have hA := HA.nil w3
  (repeat (first | refine WD.run tabOk rfl rfl ?_ | refine WD.hv rfl rfl rfl rfl rfl hA (HeldV.load1 tabOk rfl rfl rfl rfl (by (first | exact .head _ | exact .tail _ (.head _) | exact .tail _ (.tail _ (.head _)) | exact .tail _ (.tail _ (.tail _ (.head _))) | exact .tail _ (.tail _ (.tail _ (.tail _ (.head _)))) | exact .tail _ (.tail _ (.tail _ (.tail _ (.tail _ (.head _))))) | exact .tail _ (.tail _ (.tail _ (.tail _ (.tail _ (.tail _ (.head _)))))) | exact .tail _ (.tail _ (.tail _ (.tail _ (.tail _ (.tail _ (.tail _ (.head _))))))))) rfl) ?_ | refine WD.hv rfl rfl rfl rfl rfl hA (HeldV.loadA tabOk rfl rfl rfl rfl (by (first | exact .head _ | exact .tail _ (.head _) | exact .tail _ (.tail _ (.head _)) | exact .tail _ (.tail _ (.tail _ (.head _))) | exact .tail _ (.tail _ (.tail _ (.tail _ (.head _)))) | exact .tail _ (.tail _ (.tail _ (.tail _ (.tail _ (.head _))))) | exact .tail _ (.tail _ (.tail _ (.tail _ (.tail _ (.tail _ (.head _)))))) | exact .tail _ (.tail _ (.tail _ (.tail _ (.tail _ (.tail _ (.tail _ (.head _))))))))) rfl rfl) ?_ | refine WD.pu tabOk rfl rfl rfl rfl rfl rfl ?_))
  (repeat (first | refine WD.run tabOk rfl rfl ?_ | refine WD.nil ?_))
  (repeat (first | refine WO.run tabOk rfl rfl ?_ | refine WO.nil ?_ | refine WO.skip rfl rfl rfl ?_ | refine WO.pu tabOk rfl rfl rfl rfl ?_ | refine W.seq ?_ | refine W.region ?_ | refine W.block ?_ | refine W.skip ?_ | refine W.exit ?_))
  refine W.regionD [5, 12] (HA [blk b 88 [.slice ka x.keys.length kc, .slice ta x.texts.length tc, .slice ca x.kids.length cc]]) [0, 1, 2, 3, 4, 5, 6, 7, 8, 9, 10, 11, 12, 13, 14, 15, 16, 17, 18, 19, 20, 21] rfl (by kernel_rfl) (fun _ _ _ h => h) ?_
  have H := H.drew
  have hA := H.ha (L := [blk b 88 [.slice ka x.keys.length kc, .slice ta x.texts.length tc, .slice ca x.kids.length cc]]) (by simp)
  (repeat (first | refine WD.run tabOk rfl rfl ?_ | refine WD.hv rfl rfl rfl rfl rfl hA (HeldV.load1 tabOk rfl rfl rfl rfl (by (first | exact .head _ | exact .tail _ (.head _) | exact .tail _ (.tail _ (.head _)) | exact .tail _ (.tail _ (.tail _ (.head _))) | exact .tail _ (.tail _ (.tail _ (.tail _ (.head _)))) | exact .tail _ (.tail _ (.tail _ (.tail _ (.tail _ (.head _))))) | exact .tail _ (.tail _ (.tail _ (.tail _ (.tail _ (.tail _ (.head _)))))) | exact .tail _ (.tail _ (.tail _ (.tail _ (.tail _ (.tail _ (.tail _ (.head _))))))))) rfl) ?_ | refine WD.hv rfl rfl rfl rfl rfl hA (HeldV.loadA tabOk rfl rfl rfl rfl (by (first | exact .head _ | exact .tail _ (.head _) | exact .tail _ (.tail _ (.head _)) | exact .tail _ (.tail _ (.tail _ (.head _))) | exact .tail _ (.tail _ (.tail _ (.tail _ (.head _)))) | exact .tail _ (.tail _ (.tail _ (.tail _ (.tail _ (.head _))))) | exact .tail _ (.tail _ (.tail _ (.tail _ (.tail _ (.tail _ (.head _)))))) | exact .tail _ (.tail _ (.tail _ (.tail _ (.tail _ (.tail _ (.tail _ (.head _))))))))) rfl rfl) ?_ | refine WD.pu tabOk rfl rfl rfl rfl rfl rfl ?_))
  refine WD.pv rfl rfl rfl rfl rfl (PureV.addN rfl rfl rfl (by omega)) ?_
  (repeat (first | refine WD.run tabOk rfl rfl ?_ | refine WD.hv rfl rfl rfl rfl rfl hA (HeldV.load1 tabOk rfl rfl rfl rfl (by (first | exact .head _ | exact .tail _ (.head _) | exact .tail _ (.tail _ (.head _)) | exact .tail _ (.tail _ (.tail _ (.head _))) | exact .tail _ (.tail _ (.tail _ (.tail _ (.head _)))) | exact .tail _ (.tail _ (.tail _ (.tail _ (.tail _ (.head _))))) | exact .tail _ (.tail _ (.tail _ (.tail _ (.tail _ (.tail _ (.head _)))))) | exact .tail _ (.tail _ (.tail _ (.tail _ (.tail _ (.tail _ (.tail _ (.head _))))))))) rfl) ?_ | refine WD.hv rfl rfl rfl rfl rfl hA (HeldV.loadA tabOk rfl rfl rfl rfl (by (first | exact .head _ | exact .tail _ (.head _) | exact .tail _ (.tail _ (.head _)) | exact .tail _ (.tail _ (.tail _ (.head _))) | exact .tail _ (.tail _ (.tail _ (.tail _ (.head _)))) | exact .tail _ (.tail _ (.tail _ (.tail _ (.tail _ (.head _))))) | exact .tail _ (.tail _ (.tail _ (.tail _ (.tail _ (.tail _ (.head _)))))) | exact .tail _ (.tail _ (.tail _ (.tail _ (.tail _ (.tail _ (.tail _ (.head _))))))))) rfl rfl) ?_ | refine WD.pu tabOk rfl rfl rfl rfl rfl rfl ?_))
  refine WD.pv rfl rfl rfl rfl rfl (PureV.slcTo (n := mid + 1) tabOk rfl rfl rfl rfl rfl rfl (by omega)) ?_
  (repeat (first | refine WD.run tabOk rfl rfl ?_ | refine WD.hv rfl rfl rfl rfl rfl hA (HeldV.load1 tabOk rfl rfl rfl rfl (by (first | exact .head _ | exact .tail _ (.head _) | exact .tail _ (.tail _ (.head _)) | exact .tail _ (.tail _ (.tail _ (.head _))) | exact .tail _ (.tail _ (.tail _ (.tail _ (.head _)))) | exact .tail _ (.tail _ (.tail _ (.tail _ (.tail _ (.head _))))) | exact .tail _ (.tail _ (.tail _ (.tail _ (.tail _ (.tail _ (.head _)))))) | exact .tail _ (.tail _ (.tail _ (.tail _ (.tail _ (.tail _ (.tail _ (.head _))))))))) rfl) ?_ | refine WD.hv rfl rfl rfl rfl rfl hA (HeldV.loadA tabOk rfl rfl rfl rfl (by (first | exact .head _ | exact .tail _ (.head _) | exact .tail _ (.tail _ (.head _)) | exact .tail _ (.tail _ (.tail _ (.head _))) | exact .tail _ (.tail _ (.tail _ (.tail _ (.head _)))) | exact .tail _ (.tail _ (.tail _ (.tail _ (.tail _ (.head _))))) | exact .tail _ (.tail _ (.tail _ (.tail _ (.tail _ (.tail _ (.head _)))))) | exact .tail _ (.tail _ (.tail _ (.tail _ (.tail _ (.tail _ (.tail _ (.head _))))))))) rfl rfl) ?_ | refine WD.pu tabOk rfl rfl rfl rfl rfl rfl ?_))
  refine WD.pv rfl rfl rfl rfl rfl (PureV.addN rfl rfl rfl (by omega)) ?_
  (repeat (first | refine WD.run tabOk rfl rfl ?_ | refine WD.hv rfl rfl rfl rfl rfl hA (HeldV.load1 tabOk rfl rfl rfl rfl (by (first | exact .head _ | exact .tail _ (.head _) | exact .tail _ (.tail _ (.head _)) | exact .tail _ (.tail _ (.tail _ (.head _))) | exact .tail _ (.tail _ (.tail _ (.tail _ (.head _)))) | exact .tail _ (.tail _ (.tail _ (.tail _ (.tail _ (.head _))))) | exact .tail _ (.tail _ (.tail _ (.tail _ (.tail _ (.tail _ (.head _)))))) | exact .tail _ (.tail _ (.tail _ (.tail _ (.tail _ (.tail _ (.tail _ (.head _))))))))) rfl) ?_ | refine WD.hv rfl rfl rfl rfl rfl hA (HeldV.loadA tabOk rfl rfl rfl rfl (by (first | exact .head _ | exact .tail _ (.head _) | exact .tail _ (.tail _ (.head _)) | exact .tail _ (.tail _ (.tail _ (.head _))) | exact .tail _ (.tail _ (.tail _ (.tail _ (.head _)))) | exact .tail _ (.tail _ (.tail _ (.tail _ (.tail _ (.head _))))) | exact .tail _ (.tail _ (.tail _ (.tail _ (.tail _ (.tail _ (.head _)))))) | exact .tail _ (.tail _ (.tail _ (.tail _ (.tail _ (.tail _ (.tail _ (.head _))))))))) rfl rfl) ?_ | refine WD.pu tabOk rfl rfl rfl rfl rfl rfl ?_))
  refine WD.pv rfl rfl rfl rfl rfl (PureV.slcTo (n := mid + 1) tabOk rfl rfl rfl rfl rfl rfl (by omega)) ?_
  (repeat (first | refine WD.run tabOk rfl rfl ?_ | refine WD.hv rfl rfl rfl rfl rfl hA (HeldV.load1 tabOk rfl rfl rfl rfl (by (first | exact .head _ | exact .tail _ (.head _) | exact .tail _ (.tail _ (.head _)) | exact .tail _ (.tail _ (.tail _ (.head _))) | exact .tail _ (.tail _ (.tail _ (.tail _ (.head _)))) | exact .tail _ (.tail _ (.tail _ (.tail _ (.tail _ (.head _))))) | exact .tail _ (.tail _ (.tail _ (.tail _ (.tail _ (.tail _ (.head _)))))) | exact .tail _ (.tail _ (.tail _ (.tail _ (.tail _ (.tail _ (.tail _ (.head _))))))))) rfl) ?_ | refine WD.hv rfl rfl rfl rfl rfl hA (HeldV.loadA tabOk rfl rfl rfl rfl (by (first | exact .head _ | exact .tail _ (.head _) | exact .tail _ (.tail _ (.head _)) | exact .tail _ (.tail _ (.tail _ (.head _))) | exact .tail _ (.tail _ (.tail _ (.tail _ (.head _)))) | exact .tail _ (.tail _ (.tail _ (.tail _ (.tail _ (.head _))))) | exact .tail _ (.tail _ (.tail _ (.tail _ (.tail _ (.tail _ (.head _)))))) | exact .tail _ (.tail _ (.tail _ (.tail _ (.tail _ (.tail _ (.tail _ (.head _))))))))) rfl rfl) ?_ | refine WD.pu tabOk rfl rfl rfl rfl rfl rfl ?_))
  refine WD.act rfl rfl rfl rfl (by kernel_rfl) (OpW.store1 (i := 3) tabOk rfl rfl rfl rfl rfl H rfl rfl rfl ?_)
  intro w4 H
  have hA := HA.nil w4
  (repeat (first | refine WD.run tabOk rfl rfl ?_ | refine WD.hv rfl rfl rfl rfl rfl hA (HeldV.load1 tabOk rfl rfl rfl rfl (by (first | exact .head _ | exact .tail _ (.head _) | exact .tail _ (.tail _ (.head _)) | exact .tail _ (.tail _ (.tail _ (.head _))) | exact .tail _ (.tail _ (.tail _ (.tail _ (.head _)))) | exact .tail _ (.tail _ (.tail _ (.tail _ (.tail _ (.head _))))) | exact .tail _ (.tail _ (.tail _ (.tail _ (.tail _ (.tail _ (.head _)))))) | exact .tail _ (.tail _ (.tail _ (.tail _ (.tail _ (.tail _ (.tail _ (.head _))))))))) rfl) ?_ | refine WD.hv rfl rfl rfl rfl rfl hA (HeldV.loadA tabOk rfl rfl rfl rfl (by (first | exact .head _ | exact .tail _ (.head _) | exact .tail _ (.tail _ (.head _)) | exact .tail _ (.tail _ (.tail _ (.head _))) | exact .tail _ (.tail _ (.tail _ (.tail _ (.head _)))) | exact .tail _ (.tail _ (.tail _ (.tail _ (.tail _ (.head _))))) | exact .tail _ (.tail _ (.tail _ (.tail _ (.tail _ (.tail _ (.head _)))))) | exact .tail _ (.tail _ (.tail _ (.tail _ (.tail _ (.tail _ (.tail _ (.head _))))))))) rfl rfl) ?_ | refine WD.pu tabOk rfl rfl rfl rfl rfl rfl ?_))
  refine WD.act rfl rfl rfl rfl (by kernel_rfl) (OpW.store1 (i := 0) tabOk rfl rfl rfl rfl rfl H rfl rfl rfl ?_)
  intro w5 H
  (repeat (first | refine WD.run tabOk rfl rfl ?_ | refine WD.nil ?_))
  have H := (H.bring [4, 5, 0, 1, 2, 3, 6] rfl)
  have H := H.raw_cut (m := mid + 1) (by omega) (fun h => by have := hnk h; omega)
  have H := (H.to (i := 1) rfl).raw_cut (m := mid + 1) (by omega) (fun h => by have := hnt h; omega)
  rw [Nat.mul_one, kC_take, kC_drop, tC_take, tC_drop] at H
  have ek1 : (x.keys.take (mid + 1)).length = mid + 1 := by rw [List.length_take]; omega
  have et1 : (x.texts.take (mid + 1)).length = mid + 1 := by rw [List.length_take]; omega
  have ek2 : (x.keys.drop (mid + 1)).length = x.keys.length - (mid + 1) := List.length_drop
  have et2 : (x.texts.drop (mid + 1)).length = x.texts.length - (mid + 1) := List.length_drop
  clear hnk hnt cut0 hA
  (repeat (first | refine WO.run tabOk rfl rfl ?_ | refine WO.nil ?_ | refine WO.skip rfl rfl rfl ?_ | refine WO.pu tabOk rfl rfl rfl rfl ?_ | refine W.seq ?_ | refine W.region ?_ | refine W.block ?_ | refine W.skip ?_ | refine W.exit ?_ | refine WO.one rfl rfl rfl (OpW.load1 tabOk rfl rfl rfl rfl H (by (first | exact .head _ | exact .tail _ (.head _) | exact .tail _ (.tail _ (.head _)) | exact .tail _ (.tail _ (.tail _ (.head _))) | exact .tail _ (.tail _ (.tail _ (.tail _ (.head _)))) | exact .tail _ (.tail _ (.tail _ (.tail _ (.tail _ (.head _))))) | exact .tail _ (.tail _ (.tail _ (.tail _ (.tail _ (.tail _ (.head _)))))) | exact .tail _ (.tail _ (.tail _ (.tail _ (.tail _ (.tail _ (.tail _ (.head _))))))))) rfl ?_)))
  refine W.cond rfl (fun h0 => ?_) (fun h0 => ?_)
  · have hkl : x.kids.length = x.keys.length + 1 := by
      rcases hx.kids with e | e
      · rw [e] at h0; simp at h0
      · exact e
    obtain ⟨ps, hps, H⟩ := kids_open (H.to (i := 6) rfl)
    have hnc := raw_nil0 H
    have hsc := raw_tail_shows (e := 82) (sz := 1) (n := x.kids.length) (cap := cc) (j := mid + 1) (a := ca) (cs := ps) H (by simp) (by omega)
    obtain ⟨_, _, _, _, e, hc1, hc2⟩ := H.raw_len
    simp only [Value.slice.injEq] at e
    obtain ⟨_, _, rfl⟩ := e
    simp only [maxLen] at hc2
    (repeat (first | refine WO.run tabOk rfl rfl ?_ | refine WO.nil ?_ | refine WO.skip rfl rfl rfl ?_ | refine WO.pu tabOk rfl rfl rfl rfl ?_ | refine W.seq ?_ | refine W.region ?_ | refine W.block ?_ | refine W.skip ?_ | refine W.exit ?_ | refine WO.one rfl rfl rfl (OpW.load1 tabOk rfl rfl rfl rfl H (by (first | exact .head _ | exact .tail _ (.head _) | exact .tail _ (.tail _ (.head _)) | exact .tail _ (.tail _ (.tail _ (.head _))) | exact .tail _ (.tail _ (.tail _ (.tail _ (.head _)))) | exact .tail _ (.tail _ (.tail _ (.tail _ (.tail _ (.head _))))) | exact .tail _ (.tail _ (.tail _ (.tail _ (.tail _ (.tail _ (.head _)))))) | exact .tail _ (.tail _ (.tail _ (.tail _ (.tail _ (.tail _ (.tail _ (.head _))))))))) rfl ?_)))
    refine WO.pv rfl rfl rfl (PureV.addN rfl rfl rfl (by omega)) ?_
    refine WO.pv rfl rfl rfl (PureV.slcFrom (i := mid + 1) tabOk rfl rfl rfl rfl rfl rfl (by omega) (by omega) rfl) ?_
    refine WO.one rfl rfl rfl (OpW.call rfl Try.call130 rfl (Calls.ret (cloneKid_ok _ _ _ _ _ hsc (by omega) (by omega) (fun h1 => by
      unfold cutA at h1
      split at h1
      · omega
      · cases ca with
        | none => have := hnc rfl; omega
        | some a => simp at h1)) ?_))
    intro v63 w6 K
    have H := H.take K
    clear K hsc
    change St c w6 (raw 82 1 v63 (x.kids.length - (mid + 1)) (ps.drop ((mid + 1) * 1)) :: _) Ro at H
    obtain ⟨_, _, a63, c63, rfl, _⟩ := H.raw_len
    (repeat (first | refine WO.run tabOk rfl rfl ?_ | refine WO.nil ?_ | refine WO.skip rfl rfl rfl ?_ | refine WO.pu tabOk rfl rfl rfl rfl ?_ | refine W.seq ?_ | refine W.region ?_ | refine W.block ?_ | refine W.skip ?_ | refine W.exit ?_))
    refine WO.act rfl rfl (OpW.store1 (i := 6) tabOk rfl rfl rfl rfl rfl H rfl rfl rfl ?_)
    intro w7 H
    (repeat (first | refine WO.run tabOk rfl rfl ?_ | refine WO.nil ?_ | refine WO.skip rfl rfl rfl ?_ | refine WO.pu tabOk rfl rfl rfl rfl ?_ | refine W.seq ?_ | refine W.region ?_ | refine W.block ?_ | refine W.skip ?_ | refine W.exit ?_ | refine WO.one rfl rfl rfl (OpW.load1 tabOk rfl rfl rfl rfl H (by (first | exact .head _ | exact .tail _ (.head _) | exact .tail _ (.tail _ (.head _)) | exact .tail _ (.tail _ (.tail _ (.head _))) | exact .tail _ (.tail _ (.tail _ (.tail _ (.head _)))) | exact .tail _ (.tail _ (.tail _ (.tail _ (.tail _ (.head _))))) | exact .tail _ (.tail _ (.tail _ (.tail _ (.tail _ (.tail _ (.head _)))))) | exact .tail _ (.tail _ (.tail _ (.tail _ (.tail _ (.tail _ (.tail _ (.head _))))))))) rfl ?_)))
    refine WO.pv rfl rfl rfl (PureV.addN rfl rfl rfl (by omega)) ?_
    refine WO.pv rfl rfl rfl (PureV.slcTo (n := mid + 1) tabOk rfl rfl rfl rfl rfl rfl (by omega)) ?_
    (repeat (first | refine WO.run tabOk rfl rfl ?_ | refine WO.nil ?_ | refine WO.skip rfl rfl rfl ?_ | refine WO.pu tabOk rfl rfl rfl rfl ?_ | refine W.seq ?_ | refine W.region ?_ | refine W.block ?_ | refine W.skip ?_ | refine W.exit ?_))
    refine WO.act rfl rfl (OpW.store1 (i := 6) tabOk rfl rfl rfl rfl rfl H rfl rfl rfl ?_)
    intro w8 H
    (repeat (first | refine WO.run tabOk rfl rfl ?_ | refine WO.nil ?_ | refine WO.skip rfl rfl rfl ?_ | refine WO.pu tabOk rfl rfl rfl rfl ?_ | refine W.seq ?_ | refine W.region ?_ | refine W.block ?_ | refine W.skip ?_ | refine W.exit ?_))
    refine W.ret (ret1 Try.results97 rfl ⟨_, rfl, b4, rfl, ?_⟩)
    subst hmid
    rw [Nat.mul_one] at H
    have ec1 : (x.kids.take (midF x + 1)).length = midF x + 1 := by rw [List.length_take]; omega
    have ec2 : (x.kids.drop (midF x + 1)).length = x.kids.length - (midF x + 1) := List.length_drop
    have H := (H.to (i := 3) rfl).raw_cut (m := midF x + 1) (by omega) (fun h => by have := hnc h; omega)
    have H := H.to (i := 4) rfl
    rw [show hang (kidR h) x.kids ps = hang (kidR h) (x.kids.take (midF x + 1) ++ x.kids.drop (midF x + 1)) ps by rw [List.take_append_drop]] at H
    have H := H.hang_cut
    rw [kidR_sz, ec1, Nat.mul_one] at H
    have H := H.bring [2, 0] rfl
    have H : St c w8 (row 82 (kidR h) (.slice ca (midF x + 1) cc) (x.kids.take (midF x + 1)) :: _) Ro := kids_close (by rw [ec1]; exact H)
    have H := H.bring [4, 1] rfl
    have H : St c w8 (row 82 (kidR h) (.slice a63 (x.kids.length - (midF x + 1)) c63) (x.kids.drop (midF x + 1)) :: _) Ro := kids_close (by rw [ec2]; exact H)
    have H := H.bring [2, 5, 4, 1] rfl
    have H : St c w8 (nodeA h b (leftF x) :: _) Ro := node_close (by
      show St c w8 (blk b 88 _ :: raw 3 1 _ (x.keys.take (midF x + 1)).length _ :: raw 9 1 _ (x.texts.take (midF x + 1)).length _ :: row 82 _ _ _ :: _) Ro
      rw [ek1, et1]
      exact H)
    have H := H.bring [2, 4, 3, 1] rfl
    have H : St c w8 (nodeA h b4 (rightF x) :: _) Ro := node_close (by
      show St c w8 (blk b4 88 _ :: raw 3 1 _ (x.keys.drop (midF x + 1)).length _ :: raw 9 1 _ (x.texts.drop (midF x + 1)).length _ :: row 82 _ _ _ :: _) Ro
      rw [ek2, et2]
      exact H)
    exact H.bring [1, 0] rfl
  · have hk0 : x.kids = [] := by simpa using h0
    (repeat (first | refine WO.run tabOk rfl rfl ?_ | refine WO.nil ?_ | refine WO.skip rfl rfl rfl ?_ | refine WO.pu tabOk rfl rfl rfl rfl ?_ | refine W.seq ?_ | refine W.region ?_ | refine W.block ?_ | refine W.skip ?_ | refine W.exit ?_))
    refine W.ret (ret1 Try.results97 rfl ⟨_, rfl, b4, rfl, ?_⟩)
    subst hmid
    have H := H.bring [2, 1, 0, 6] rfl
    have H : St c _ (nodeA h b (leftF x) :: _) Ro := node_close (by
      show St c _ (blk b 88 _ :: raw 3 1 _ (x.keys.take (midF x + 1)).length _ :: raw 9 1 _ (x.texts.take (midF x + 1)).length _ :: row 82 _ _ (x.kids.take (midF x + 1)) :: _) Ro
      rw [ek1, et1, show x.kids.take (midF x + 1) = x.kids by rw [hk0]; rfl]
      exact H)
    have H := (H.add_nil 82 (kidR h)).bring [2, 4, 3, 0] rfl
    have H : St c _ (nodeA h b4 (rightF x) :: _) Ro := node_close (by
      show St c _ (blk b4 88 _ :: raw 3 1 _ (x.keys.drop (midF x + 1)).length _ :: raw 9 1 _ (x.texts.drop (midF x + 1)).length _ :: row 82 _ _ (x.kids.drop (midF x + 1)) :: _) Ro
      rw [ek2, et2, show x.kids.drop (midF x + 1) = [] by rw [hk0]; rfl]
      exact H)
    exact H.bring [1, 0] rfl
end Go.Proofs.Ytnghaidnbicjjaa
