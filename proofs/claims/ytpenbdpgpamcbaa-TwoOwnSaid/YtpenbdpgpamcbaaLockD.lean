/- lock: tables; Check. -/
import Derived.Test.YtpenbdpgpamcbaaLockC
set_option linter.unusedVariables false
set_option linter.unusedSimpArgs false
set_option maxRecDepth 20000
namespace Go.Proofs.Ytpenbdpgpamcbaa
open Go Gw
attribute [local irreducible] W WO WD

abbrev Item := Int × List (Int × Int) × List (Int × Int)

/-- An item that is read: its lists wherever they lie. -/
def itemS : Rdr Item where
  sz := 3
  R w S x cs := ∃ a1 c1 a2 c2, cs = [.int .i64 x.1, .slice a1 x.2.1.length c1, .slice a2 x.2.2.length c2] ∧ ReadR lockR w S a1 c1 x.2.1 ∧ ReadR lockR w S a2 c2 x.2.2
  len := fun ⟨_, _, _, _, h, _, _⟩ => by rw [h]; rfl
  loc := fun ⟨a1, c1, a2, c2, h, h1, h2⟩ hw => ⟨a1, c1, a2, c2, h, h1.loc hw, h2.loc hw⟩
  dom := fun ⟨_, _, _, _, _, h1, _⟩ => h1.dom
  one := fun ⟨_, _, _, _, h, _, _⟩ v hv => by subst h; simp at hv; rcases hv with rfl | rfl | rfl <;> rfl

/-- An item that is owned. -/
def itemO : Rdr Item where
  sz := 3
  R w S x cs := ∃ v1 v2 S1 S2, cs = [.int .i64 x.1, v1, v2] ∧ OwnR 145 lockR w S1 v1 x.2.1 ∧ OwnR 145 lockR w S2 v2 x.2.2 ∧ (∀ b, S b ↔ S1 b ∨ S2 b) ∧ ∀ b, S1 b → ¬ S2 b
  len := fun ⟨_, _, _, _, h, _⟩ => by rw [h]; rfl
  loc := fun ⟨v1, v2, S1, S2, h, h1, h2, h3, h4⟩ hw => ⟨v1, v2, S1, S2, h, h1.loc fun b hb => hw b ((h3 b).2 (.inl hb)), h2.loc fun b hb => hw b ((h3 b).2 (.inr hb)), h3, h4⟩
  dom := fun ⟨v1, v2, S1, S2, h, h1, h2, h3, h4⟩ b hb => ((h3 b).1 hb).elim (h1.dom b) (h2.dom b)
  one := fun ⟨v1, v2, S1, S2, h, h1, h2, h3, h4⟩ v hv => by
    obtain ⟨a1, c1, rfl, _⟩ := h1.form
    obtain ⟨a2, c2, rfl, _⟩ := h2.form
    subst h; simp at hv; rcases hv with rfl | rfl | rfl <;> rfl

theorem item_elem {w : World} {b o cap i : Nat} {xs : List Item} {x : Item} (h : Holds w (rd itemS (some ⟨b, o, none⟩) cap xs)) (hi : xs[i]? = some x) :
    ∃ a1 c1 a2 c2, CellsAt w ⟨b, o + i * 3, none⟩ [.int .i64 x.1, .slice a1 x.2.1.length c1, .slice a2 x.2.2.length c2] ∧ Holds w (rd lockR a1 c1 x.2.1) ∧ Holds w (rd lockR a2 c2 x.2.2) := by
  obtain ⟨S, cs, ⟨S', ⟨a1, c1, a2, c2, h1, h2, h3⟩, hs⟩, hc, hd⟩ := h.elem hi
  subst h1
  exact ⟨a1, c1, a2, c2, hc, ⟨_, h2⟩, ⟨_, h3⟩⟩
theorem item_cell0 {w : World} {b o cap i : Nat} {xs : List Item} {x : Item} (h : Holds w (rd itemS (some ⟨b, o, none⟩) cap xs)) (hi : xs[i]? = some x) : w.cell? ⟨b, o + i * 3, none⟩ = some (.int .i64 x.1) := by
  obtain ⟨a1, c1, a2, c2, hc, _⟩ := item_elem h hi
  have := hc 0 _ rfl
  rwa [Addr.add_zero'] at this

structure ItemOk (x : Item) : Prop where
  lo : 0 ≤ x.1
  hi : x.1 < 20
  held : x.2.1 ≠ []
  line : lineF x.2.1 x.2.2 = true
structure Valid (t : List Item) : Prop where
  len : t.length ≤ 20
  ok : ∀ x ∈ t, ItemOk x
  inc : t.Pairwise fun x y => x.1 < y.1

theorem pairwise_of_steps : ∀ {t : List Item}, (∀ j x y, t[j]? = some x → t[j + 1]? = some y → x.1 < y.1) → t.Pairwise fun x y => x.1 < y.1
  | [], _ => .nil
  | [x], _ => by simp
  | x :: y :: l, h => by
    have ih := pairwise_of_steps (t := y :: l) fun j a b ha hb => h (j + 1) a b (by simpa using ha) (by simpa using hb)
    have hxy := h 0 x y rfl rfl
    refine List.pairwise_cons.2 ⟨fun z hz => ?_, ih⟩
    rcases List.mem_cons.1 hz with rfl | hz
    · exact hxy
    · have := (List.pairwise_cons.1 ih).1 z hz; omega

theorem check_ok (w : World) (a : Option Addr) (c : Nat) (t : List Item) (hH : Holds w (rd itemS a c t)) :
    Calls Try.prog 74 #[.slice a t.length c] w (Ret fun v w' => Pure w w' ∧ ∃ e, v = .int .i64 e ∧ (e = 0 ↔ Valid t)) := by
  refine calls_W (args := [_]) Try.func74 rfl Try.ntmps74 rfl ?_
  have H := St.start [rd itemS a c t] (w := w) (by simpa using hH)
  (repeat (first | refine WO.run tabOk rfl rfl ?_ | refine WO.nil ?_ | refine WO.skip rfl rfl rfl ?_ | refine WO.pu tabOk rfl rfl rfl rfl ?_ | refine W.seq ?_ | refine W.region ?_ | refine W.block ?_ | refine W.skip ?_ | refine W.exit ?_))
  refine W.cond rfl (fun hl => ?_) (fun hl => ?_)
  · (repeat (first | refine WO.run tabOk rfl rfl ?_ | refine WO.nil ?_ | refine WO.skip rfl rfl rfl ?_ | refine WO.pu tabOk rfl rfl rfl rfl ?_ | refine W.seq ?_ | refine W.region ?_ | refine W.block ?_ | refine W.skip ?_ | refine W.exit ?_))
    refine W.ret (ret1 Try.results74 rfl ⟨_, rfl, H.pure, _, rfl, ?_⟩)
    simp at hl
    exact ⟨fun h => (by cases h), fun h => absurd h.len (by omega)⟩
  simp at hl
  (repeat (first | refine WO.run tabOk rfl rfl ?_ | refine WO.nil ?_ | refine WO.skip rfl rfl rfl ?_ | refine WO.pu tabOk rfl rfl rfl rfl ?_ | refine W.seq ?_ | refine W.region ?_ | refine W.block ?_ | refine W.skip ?_ | refine W.exit ?_))
  refine W.loopS [0, 2, 9, 10, 11] (fun i : Nat => [(0, .slice a t.length c), (2, .int .i64 0), (9, .slice a t.length c), (10, .int .i64 t.length), (11, .int .i64 i)])
    (fun i w' => i ≤ t.length ∧ (∀ j x, j < i → t[j]? = some x → ItemOk x) ∧ (∀ j x y, j + 1 < i → t[j]? = some x → t[j + 1]? = some y → x.1 < y.1) ∧ St (at0 w) w' [] [rd itemS a c t]) (fun i => t.length - i) 0 rfl
    ⟨Nat.zero_le _, fun j x hj => (by omega), fun j x y hj => (by omega), H⟩ ?_
  clear H
  rintro i w3 ⟨hi, hok, hinc, H⟩
  (repeat (first | refine WO.run tabOk rfl rfl ?_ | refine WO.nil ?_ | refine WO.skip rfl rfl rfl ?_ | refine WO.pu tabOk rfl rfl rfl rfl ?_ | refine W.seq ?_ | refine W.region ?_ | refine W.block ?_ | refine W.skip ?_ | refine W.exit ?_))
  refine W.cond rfl (fun hlt => ?_) (fun hge => ?_)
  · have hlt : i < t.length := by simpa using hlt
    obtain ⟨b, o, rfl⟩ := hH.addr (by omega)
    have hle := hH.le
    simp only [maxLen] at hle
    (repeat (first | refine WO.run tabOk rfl rfl ?_ | refine WO.nil ?_ | refine WO.skip rfl rfl rfl ?_ | refine WO.pu tabOk rfl rfl rfl rfl ?_ | refine W.seq ?_ | refine W.region ?_ | refine W.block ?_ | refine W.skip ?_ | refine W.exit ?_))
    refine WO.pv rfl rfl rfl (PureV.idxN tabOk rfl rfl rfl rfl rfl rfl (by omega)) ?_
    have hx := List.getElem?_eq_getElem hlt
    generalize t[i] = x at hx
    have hm : x ∈ t := List.mem_of_getElem? hx
    obtain ⟨a1, c1, a2, c2, hcs, hh, hq⟩ := item_elem hH hx
    refine WO.one rfl rfl rfl (OpW.loadcs tabOk rfl rfl rfl rfl rfl (hcs.pure H.pure) ?_)
    refine WO.one rfl rfl rfl (OpW.alloc rfl zero142 rfl H ?_); intro b4 w4 H4
    (repeat (first | refine WO.run tabOk rfl rfl ?_ | refine WO.nil ?_ | refine WO.skip rfl rfl rfl ?_ | refine WO.pu tabOk rfl rfl rfl rfl ?_ | refine W.seq ?_ | refine W.region ?_ | refine W.block ?_ | refine W.skip ?_ | refine W.exit ?_))
    refine WO.act rfl rfl (OpW.storeA (i := 0) tabOk rfl rfl rfl rfl H4 rfl rfl rfl rfl rfl ?_); intro w5 H5
    (repeat (first | refine WO.run tabOk rfl rfl ?_ | refine WO.nil ?_ | refine WO.skip rfl rfl rfl ?_ | refine WO.pu tabOk rfl rfl rfl rfl ?_ | refine W.seq ?_ | refine W.region ?_ | refine W.block ?_ | refine W.skip ?_ | refine W.exit ?_ | refine WO.one rfl rfl rfl (OpW.load1 tabOk rfl rfl rfl rfl H5 (by (repeat (first | exact .head _ | refine .tail _ ?_))) rfl ?_)))
    have fin : ∀ {w' : World} {e : Int}, Pure w w' → e ≠ 0 → (Valid t → False) → Pure w w' ∧ ∃ e', (Value.int .i64 e) = .int .i64 e' ∧ (e' = 0 ↔ Valid t) := fun hp he hv => ⟨hp, _, rfl, fun h => absurd h he, fun h => (hv h).elim⟩
    refine WO.caseG rfl rfl (fun g1 => ?_) (fun g1 => ?_)
    · (repeat (first | refine WO.run tabOk rfl rfl ?_ | refine WO.nil ?_ | refine WO.skip rfl rfl rfl ?_ | refine WO.pu tabOk rfl rfl rfl rfl ?_ | refine W.seq ?_ | refine W.region ?_ | refine W.block ?_ | refine W.skip ?_ | refine W.exit ?_))
      refine W.cond_t rfl ?_
      (repeat (first | refine WO.run tabOk rfl rfl ?_ | refine WO.nil ?_ | refine WO.skip rfl rfl rfl ?_ | refine WO.pu tabOk rfl rfl rfl rfl ?_ | refine W.seq ?_ | refine W.region ?_ | refine W.block ?_ | refine W.skip ?_ | refine W.exit ?_))
      refine W.ret (ret1 Try.results74 rfl ⟨_, rfl, fin H5.pure (by decide) fun hv => ?_⟩)
      simp at g1
      have := (hv.ok x hm).lo
      omega
    (repeat (first | refine WO.run tabOk rfl rfl ?_ | refine WO.nil ?_ | refine WO.skip rfl rfl rfl ?_ | refine WO.pu tabOk rfl rfl rfl rfl ?_ | refine W.seq ?_ | refine W.region ?_ | refine W.block ?_ | refine W.skip ?_ | refine W.exit ?_ | refine WO.one rfl rfl rfl (OpW.load1 tabOk rfl rfl rfl rfl H5 (by (repeat (first | exact .head _ | refine .tail _ ?_))) rfl ?_)))
    simp at g1
    refine W.cond rfl (fun g2 => ?_) (fun g2 => ?_)
    · (repeat (first | refine WO.run tabOk rfl rfl ?_ | refine WO.nil ?_ | refine WO.skip rfl rfl rfl ?_ | refine WO.pu tabOk rfl rfl rfl rfl ?_ | refine W.seq ?_ | refine W.region ?_ | refine W.block ?_ | refine W.skip ?_ | refine W.exit ?_))
      refine W.ret (ret1 Try.results74 rfl ⟨_, rfl, fin H5.pure (by decide) fun hv => ?_⟩)
      simp [pickV] at g2
      have := (hv.ok x hm).hi
      omega
    simp [pickV] at g2
    have g2' : x.1 < 20 := by omega
    clear g2
    (repeat (first | refine WO.run tabOk rfl rfl ?_ | refine WO.nil ?_ | refine WO.skip rfl rfl rfl ?_ | refine WO.pu tabOk rfl rfl rfl rfl ?_ | refine W.seq ?_ | refine W.region ?_ | refine W.block ?_ | refine W.skip ?_ | refine W.exit ?_))
    refine W.regionD [4, 10, 15] (HA [blk b4 142 [.int .i64 x.1, .slice a1 x.2.1.length c1, .slice a2 x.2.2.length c2], rd itemS (some ⟨b, o, none⟩) c t]) [0, 1, 2, 3, 4, 5, 6, 7, 8, 9, 10, 11, 12, 13, 14, 15, 16, 17, 18] rfl (by kernel_rfl) (fun _ _ _ h => h) ?_
    have hA := H5.drew.ha (L := [blk b4 142 [.int .i64 x.1, .slice a1 x.2.1.length c1, .slice a2 x.2.2.length c2], rd itemS (some ⟨b, o, none⟩) c t]) (by simp)
    (repeat (first | refine WD.run tabOk rfl rfl ?_ | refine WD.hv rfl rfl rfl rfl rfl hA (HeldV.load1 tabOk rfl rfl rfl rfl (by (repeat (first | exact .head _ | refine .tail _ ?_))) rfl) ?_ | refine WD.hv rfl rfl rfl rfl rfl hA (HeldV.loadA tabOk rfl rfl rfl rfl (by (repeat (first | exact .head _ | refine .tail _ ?_))) rfl rfl) ?_ | refine WD.pu tabOk rfl rfl rfl rfl rfl rfl ?_))
    rcases Nat.eq_zero_or_pos i with h0 | hpos
    · subst h0
      refine WD.caseG rfl rfl rfl (fun hg => (by simp at hg)) (fun _ => ?_)
      (repeat (first | refine WD.skip rfl rfl rfl rfl rfl ?_ | refine WD.skipS rfl rfl rfl rfl ‹HA _ _› ?_))
      (repeat (first | refine WD.run tabOk rfl rfl ?_ | refine WD.hv rfl rfl rfl rfl rfl hA (HeldV.load1 tabOk rfl rfl rfl rfl (by (repeat (first | exact .head _ | refine .tail _ ?_))) rfl) ?_ | refine WD.hv rfl rfl rfl rfl rfl hA (HeldV.loadA tabOk rfl rfl rfl rfl (by (repeat (first | exact .head _ | refine .tail _ ?_))) rfl rfl) ?_ | refine WD.pu tabOk rfl rfl rfl rfl rfl rfl ?_))
      (repeat (first | refine WD.run tabOk rfl rfl ?_ | refine WD.hv rfl rfl rfl rfl rfl hA (HeldV.load1 tabOk rfl rfl rfl rfl (by (repeat (first | exact .head _ | refine .tail _ ?_))) rfl) ?_ | refine WD.hv rfl rfl rfl rfl rfl hA (HeldV.loadA tabOk rfl rfl rfl rfl (by (repeat (first | exact .head _ | refine .tail _ ?_))) rfl rfl) ?_ | refine WD.pu tabOk rfl rfl rfl rfl rfl rfl ?_))
      (repeat (first | refine WD.run tabOk rfl rfl ?_ | refine WD.nil ?_))
      refine W.cond rfl (fun g4 => ?_) (fun g4 => ?_)
      · (repeat (first | refine WO.run tabOk rfl rfl ?_ | refine WO.nil ?_ | refine WO.skip rfl rfl rfl ?_ | refine WO.pu tabOk rfl rfl rfl rfl ?_ | refine W.seq ?_ | refine W.region ?_ | refine W.block ?_ | refine W.skip ?_ | refine W.exit ?_))
        refine W.ret (ret1 Try.results74 rfl ⟨_, rfl, fin H5.drew.pure (by decide) fun hv => ?_⟩)
        have := (hv.ok x hm).held
        simp [pickV, undef] at g4
        exact this g4
      simp [pickV, undef] at g4
      have H6 := H5.drew
      (repeat (first | refine WO.run tabOk rfl rfl ?_ | refine WO.nil ?_ | refine WO.skip rfl rfl rfl ?_ | refine WO.pu tabOk rfl rfl rfl rfl ?_ | refine W.seq ?_ | refine W.region ?_ | refine W.block ?_ | refine W.skip ?_ | refine W.exit ?_))
      refine WO.one rfl rfl rfl (OpW.loadA tabOk rfl rfl rfl rfl H6 (by (repeat (first | exact .head _ | refine .tail _ ?_))) rfl rfl ?_)
      refine WO.one rfl rfl rfl (OpW.call rfl Try.call106 rfl (Calls.ret (line_ok _ x.1 a1 a2 c1 c2 x.2.1 x.2.2 (hh.pure H6.pure) (hq.pure H6.pure)) ?_))
      rintro _ w7 ⟨hp7, rfl⟩
      (repeat (first | refine WO.run tabOk rfl rfl ?_ | refine WO.nil ?_ | refine WO.skip rfl rfl rfl ?_ | refine WO.pu tabOk rfl rfl rfl rfl ?_ | refine W.seq ?_ | refine W.region ?_ | refine W.block ?_ | refine W.skip ?_ | refine W.exit ?_))
      refine W.cond rfl (fun g5 => ?_) (fun g5 => ?_)
      · (repeat (first | refine WO.run tabOk rfl rfl ?_ | refine WO.nil ?_ | refine WO.skip rfl rfl rfl ?_ | refine WO.pu tabOk rfl rfl rfl rfl ?_ | refine W.seq ?_ | refine W.region ?_ | refine W.block ?_ | refine W.skip ?_ | refine W.exit ?_))
        refine W.ret (ret1 Try.results74 rfl ⟨_, rfl, fin (H6.pure.trans hp7) ?_ fun hv => ?_⟩)
        · simp at g5; simp [g5]
        · have := (hv.ok x hm).line
          simp at g5; rw [this] at g5; cases g5
      simp at g5
      (repeat (first | refine WO.run tabOk rfl rfl ?_ | refine WO.nil ?_ | refine WO.skip rfl rfl rfl ?_ | refine WO.pu tabOk rfl rfl rfl rfl ?_ | refine W.seq ?_ | refine W.region ?_ | refine W.block ?_ | refine W.skip ?_ | refine W.exit ?_))
      refine WO.pv rfl rfl rfl (PureV.addN rfl rfl rfl (by omega)) ?_
      (repeat (first | refine WO.run tabOk rfl rfl ?_ | refine WO.nil ?_ | refine WO.skip rfl rfl rfl ?_ | refine WO.pu tabOk rfl rfl rfl rfl ?_ | refine W.seq ?_ | refine W.region ?_ | refine W.block ?_ | refine W.skip ?_ | refine W.exit ?_))
      refine ⟨0 + 1, ?_, ⟨by omega, ?_, ?_, (H6.drop).after hp7⟩, by omega⟩
      · first | rfl | (simp [Env.keep, Env.get])
      · intro j y hj hy
        rcases Nat.lt_succ_iff_lt_or_eq.1 hj with h | rfl
        · exact hok j y h hy
        · rw [hx] at hy; cases hy
          exact ⟨g1, g2', g4, g5⟩
      · intro j y z hj hy hz
        rcases Nat.lt_succ_iff_lt_or_eq.1 hj with h | h
        · exact hinc j y z (by omega) hy hz
        · exact absurd h (by omega)

    obtain ⟨k, rfl⟩ : ∃ k, i = k + 1 := ⟨i - 1, by omega⟩
    refine WD.caseG rfl rfl rfl (fun _ => ?_) (fun hg => (by simp at hg))
    (repeat (first | refine WD.run tabOk rfl rfl ?_ | refine WD.hv rfl rfl rfl rfl rfl hA (HeldV.load1 tabOk rfl rfl rfl rfl (by (repeat (first | exact .head _ | refine .tail _ ?_))) rfl) ?_ | refine WD.hv rfl rfl rfl rfl rfl hA (HeldV.loadA tabOk rfl rfl rfl rfl (by (repeat (first | exact .head _ | refine .tail _ ?_))) rfl rfl) ?_ | refine WD.pu tabOk rfl rfl rfl rfl rfl rfl ?_))
    refine WD.pv rfl rfl rfl rfl rfl (PureV.subN rfl rfl rfl (by omega) (by omega)) ?_
    refine WD.pv rfl rfl rfl rfl rfl (PureV.idxN tabOk rfl rfl rfl rfl rfl rfl (by omega)) ?_
    have hkx := List.getElem?_eq_getElem (l := t) (i := k) (by omega)
    generalize t[k] = xk at hkx
    (repeat (first | refine WD.run tabOk rfl rfl ?_ | refine WD.hv rfl rfl rfl rfl rfl hA (HeldV.load1 tabOk rfl rfl rfl rfl (by (repeat (first | exact .head _ | refine .tail _ ?_))) rfl) ?_ | refine WD.hv rfl rfl rfl rfl rfl hA (HeldV.loadA tabOk rfl rfl rfl rfl (by (repeat (first | exact .head _ | refine .tail _ ?_))) rfl rfl) ?_ | refine WD.pu tabOk rfl rfl rfl rfl rfl rfl ?_))
    refine WD.hv rfl rfl rfl rfl rfl hA (HeldV.load rfl fun w' hw => OpW.loadc tabOk rfl rfl rfl rfl (item_cell0 (hw _ (.tail _ (.head _))) hkx) ⟨rfl, rfl⟩) ?_
    (repeat (first | refine WD.run tabOk rfl rfl ?_ | refine WD.hv rfl rfl rfl rfl rfl hA (HeldV.load1 tabOk rfl rfl rfl rfl (by (repeat (first | exact .head _ | refine .tail _ ?_))) rfl) ?_ | refine WD.hv rfl rfl rfl rfl rfl hA (HeldV.loadA tabOk rfl rfl rfl rfl (by (repeat (first | exact .head _ | refine .tail _ ?_))) rfl rfl) ?_ | refine WD.pu tabOk rfl rfl rfl rfl rfl rfl ?_))
    refine WD.caseG rfl rfl rfl (fun g3 => ?_) (fun g3 => ?_)
    · (repeat (first | refine WD.skip rfl rfl rfl rfl rfl ?_ | refine WD.skipS rfl rfl rfl rfl ‹HA _ _› ?_))
      (repeat (first | refine WD.run tabOk rfl rfl ?_ | refine WD.nil ?_))
      refine W.cond_t rfl ?_
      (repeat (first | refine WO.run tabOk rfl rfl ?_ | refine WO.nil ?_ | refine WO.skip rfl rfl rfl ?_ | refine WO.pu tabOk rfl rfl rfl rfl ?_ | refine W.seq ?_ | refine W.region ?_ | refine W.block ?_ | refine W.skip ?_ | refine W.exit ?_))
      refine W.ret (ret1 Try.results74 rfl ⟨_, rfl, fin H5.drew.pure (by decide) fun hv => ?_⟩)
      simp [pickV] at g3
      obtain ⟨l1, e1⟩ := List.getElem?_eq_some_iff.1 hkx
      obtain ⟨l2, e2⟩ := List.getElem?_eq_some_iff.1 hx
      have := List.pairwise_iff_getElem.1 hv.inc k (k + 1) l1 l2 (by omega)
      rw [e1, e2] at this
      omega
    simp [pickV] at g3
    (repeat (first | refine WD.run tabOk rfl rfl ?_ | refine WD.hv rfl rfl rfl rfl rfl hA (HeldV.load1 tabOk rfl rfl rfl rfl (by (repeat (first | exact .head _ | refine .tail _ ?_))) rfl) ?_ | refine WD.hv rfl rfl rfl rfl rfl hA (HeldV.loadA tabOk rfl rfl rfl rfl (by (repeat (first | exact .head _ | refine .tail _ ?_))) rfl rfl) ?_ | refine WD.pu tabOk rfl rfl rfl rfl rfl rfl ?_))
    (repeat (first | refine WD.run tabOk rfl rfl ?_ | refine WD.nil ?_))
    refine W.cond rfl (fun g4 => ?_) (fun g4 => ?_)
    · (repeat (first | refine WO.run tabOk rfl rfl ?_ | refine WO.nil ?_ | refine WO.skip rfl rfl rfl ?_ | refine WO.pu tabOk rfl rfl rfl rfl ?_ | refine W.seq ?_ | refine W.region ?_ | refine W.block ?_ | refine W.skip ?_ | refine W.exit ?_))
      refine W.ret (ret1 Try.results74 rfl ⟨_, rfl, fin H5.drew.pure (by decide) fun hv => ?_⟩)
      have := (hv.ok x hm).held
      simp [pickV, undef] at g4
      exact this g4
    simp [pickV, undef] at g4
    have H6 := H5.drew
    (repeat (first | refine WO.run tabOk rfl rfl ?_ | refine WO.nil ?_ | refine WO.skip rfl rfl rfl ?_ | refine WO.pu tabOk rfl rfl rfl rfl ?_ | refine W.seq ?_ | refine W.region ?_ | refine W.block ?_ | refine W.skip ?_ | refine W.exit ?_))
    refine WO.one rfl rfl rfl (OpW.loadA tabOk rfl rfl rfl rfl H6 (by (repeat (first | exact .head _ | refine .tail _ ?_))) rfl rfl ?_)
    refine WO.one rfl rfl rfl (OpW.call rfl Try.call106 rfl (Calls.ret (line_ok _ x.1 a1 a2 c1 c2 x.2.1 x.2.2 (hh.pure H6.pure) (hq.pure H6.pure)) ?_))
    rintro _ w7 ⟨hp7, rfl⟩
    (repeat (first | refine WO.run tabOk rfl rfl ?_ | refine WO.nil ?_ | refine WO.skip rfl rfl rfl ?_ | refine WO.pu tabOk rfl rfl rfl rfl ?_ | refine W.seq ?_ | refine W.region ?_ | refine W.block ?_ | refine W.skip ?_ | refine W.exit ?_))
    refine W.cond rfl (fun g5 => ?_) (fun g5 => ?_)
    · (repeat (first | refine WO.run tabOk rfl rfl ?_ | refine WO.nil ?_ | refine WO.skip rfl rfl rfl ?_ | refine WO.pu tabOk rfl rfl rfl rfl ?_ | refine W.seq ?_ | refine W.region ?_ | refine W.block ?_ | refine W.skip ?_ | refine W.exit ?_))
      refine W.ret (ret1 Try.results74 rfl ⟨_, rfl, fin (H6.pure.trans hp7) ?_ fun hv => ?_⟩)
      · simp at g5; simp [g5]
      · have := (hv.ok x hm).line
        simp at g5; rw [this] at g5; cases g5
    simp at g5
    (repeat (first | refine WO.run tabOk rfl rfl ?_ | refine WO.nil ?_ | refine WO.skip rfl rfl rfl ?_ | refine WO.pu tabOk rfl rfl rfl rfl ?_ | refine W.seq ?_ | refine W.region ?_ | refine W.block ?_ | refine W.skip ?_ | refine W.exit ?_))
    refine WO.pv rfl rfl rfl (PureV.addN rfl rfl rfl (by omega)) ?_
    (repeat (first | refine WO.run tabOk rfl rfl ?_ | refine WO.nil ?_ | refine WO.skip rfl rfl rfl ?_ | refine WO.pu tabOk rfl rfl rfl rfl ?_ | refine W.seq ?_ | refine W.region ?_ | refine W.block ?_ | refine W.skip ?_ | refine W.exit ?_))
    refine ⟨k + 1 + 1, ?_, ⟨by omega, ?_, ?_, (H6.drop).after hp7⟩, by omega⟩
    · first | rfl | (simp [Env.keep, Env.get])
    · intro j y hj hy
      rcases Nat.lt_succ_iff_lt_or_eq.1 hj with h | rfl
      · exact hok j y h hy
      · rw [hx] at hy; cases hy
        exact ⟨g1, g2', g4, g5⟩
    · intro j y z hj hy hz
      rcases Nat.lt_succ_iff_lt_or_eq.1 hj with h | h
      · exact hinc j y z (by omega) hy hz
      · have hjk : j = k := (by omega)
        subst hjk
        rw [hkx] at hy
        rw [hx] at hz
        cases hy
        cases hz
        exact g3

  simp at hge
  (repeat (first | refine WO.run tabOk rfl rfl ?_ | refine WO.nil ?_ | refine WO.skip rfl rfl rfl ?_ | refine WO.pu tabOk rfl rfl rfl rfl ?_ | refine W.seq ?_ | refine W.region ?_ | refine W.block ?_ | refine W.skip ?_ | refine W.exit ?_))
  refine W.ret (ret1 Try.results74 rfl ⟨_, rfl, H.pure, _, rfl, ?_⟩)
  refine ⟨fun _ => ⟨by omega, fun x hx => ?_, ?_⟩, fun _ => rfl⟩
  · obtain ⟨j, hj, rfl⟩ := List.mem_iff_getElem.1 hx
    exact hok j _ (by omega) (List.getElem?_eq_getElem hj)
  · refine pairwise_of_steps fun j x y h1 h2 => hinc j x y ?_ h1 h2
    have := (List.getElem?_eq_some_iff.1 h2).1; omega
end Go.Proofs.Ytpenbdpgpamcbaa
