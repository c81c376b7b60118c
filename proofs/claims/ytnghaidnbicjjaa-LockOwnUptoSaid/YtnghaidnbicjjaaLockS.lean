/- lock: tables copied and compared; tables whose lists have room behind them. -/
import Derived.Test.YtnghaidnbicjjaaLockR
set_option linter.unusedVariables false
set_option linter.unusedSimpArgs false
set_option maxRecDepth 20000
namespace Go.Proofs.Ytnghaidnbicjjaa
open Go Gw
attribute [local irreducible] W WO WD WF

theorem cloneItems_ok (w : World) (a : Option Addr) (c : Nat) (t : List Item) (hH : Holds w (rd itemS a c t)) (hl : t.length ≤ 2097152) :
    Calls Try.prog 25 #[.slice a t.length c] w (Ret fun v w' => ∃ cs S, St (at0 w) w' [raw 51 3 v t.length cs] [] ∧ SeenL itemS w S t cs ∧ ∀ b, S b → b < w.heap.size) := by
  refine calls_W (args := [_]) Try.func25 rfl Try.ntmps25 rfl ?_
  have H := St.start [] (w := w) (by simp)
  (repeat (first | refine WO.run tabOk rfl rfl ?_ | refine WO.nil ?_ | refine WO.skip rfl rfl rfl ?_ | refine WO.pu tabOk rfl rfl rfl rfl ?_ | refine W.seq ?_ | refine W.region ?_ | refine W.block ?_ | refine W.skip ?_ | refine W.exit ?_))
  refine W.cond rfl (fun hn => ?_) (fun hn => ?_)
  · (repeat (first | refine WO.run tabOk rfl rfl ?_ | refine WO.nil ?_ | refine WO.skip rfl rfl rfl ?_ | refine WO.pu tabOk rfl rfl rfl rfl ?_ | refine W.seq ?_ | refine W.region ?_ | refine W.block ?_ | refine W.skip ?_ | refine W.exit ?_))
    have hx : t = [] := by
      rcases t with _ | ⟨x, xs⟩
      · rfl
      · obtain ⟨b, o, e⟩ := hH.addr (by simp)
        rw [e] at hn; cases hn
    subst hx
    exact W.ret (ret1 Try.results25 rfl ⟨_, rfl, [], fun _ => False, H.add_nil_raw 51 3, rfl, fun _ h => h.elim⟩)
  · (repeat (first | refine WO.run tabOk rfl rfl ?_ | refine WO.nil ?_ | refine WO.skip rfl rfl rfl ?_ | refine WO.pu tabOk rfl rfl rfl rfl ?_ | refine W.seq ?_ | refine W.region ?_ | refine W.block ?_ | refine W.skip ?_ | refine W.exit ?_))
    refine WO.one rfl rfl rfl (OpW.buildSlice tabOk rfl rfl rfl rfl zero51 rfl rfl rfl H ?_)
    intro b w1 H1
    have H2 := H1.close_raw (sz := 3) (n := 0) (o := 0) (cap := 0) (cs := []) (Nat.le_refl _) (Nat.zero_le _) (by simp) (by simp) (by simp)
    (repeat (first | refine WO.run tabOk rfl rfl ?_ | refine WO.nil ?_ | refine WO.skip rfl rfl rfl ?_ | refine WO.pu tabOk rfl rfl rfl rfl ?_ | refine W.seq ?_ | refine W.region ?_ | refine W.block ?_ | refine W.skip ?_ | refine W.exit ?_))
    obtain ⟨cs, S, hs, hseen, hS⟩ := hH.shows
    refine WO.one rfl rfl rfl (OpW.append tabOk rfl rfl rfl zero51 rfl rfl rfl rfl H2 (hs.pure H1.pure) (by omega) (by simp only [maxLen]; omega) ?_)
    intro v w2 H3 _
    (repeat (first | refine WO.run tabOk rfl rfl ?_ | refine WO.nil ?_ | refine WO.skip rfl rfl rfl ?_ | refine WO.pu tabOk rfl rfl rfl rfl ?_ | refine W.seq ?_ | refine W.region ?_ | refine W.block ?_ | refine W.skip ?_ | refine W.exit ?_))
    refine W.ret (ret1 Try.results25 rfl ⟨_, rfl, cs, S, ?_, hseen, hS⟩)
    rwa [Nat.zero_add, List.nil_append] at H3

theorem sameItem_ok (w : World) (x : Item) (a1 a2 b1 b2 : Option Addr) (c1 c2 d1 d2 : Nat) (h1 : Holds w (rd lockR a1 c1 x.2.1)) (h2 : Holds w (rd lockR a2 c2 x.2.2)) (k1 : Holds w (rd lockR b1 d1 x.2.1)) (k2 : Holds w (rd lockR b2 d2 x.2.2)) :
    Calls Try.prog 63 (#[] ++ [Value.agg #[.int .i64 x.1, .slice a1 x.2.1.length c1, .slice a2 x.2.2.length c2], .agg #[.int .i64 x.1, .slice b1 x.2.1.length d1, .slice b2 x.2.2.length d2]].toArray ++ #[]) w (Ret fun v w' => Pure w w' ∧ v = .bool true) := by
  show Calls Try.prog 63 #[Value.agg #[.int .i64 x.1, .slice a1 x.2.1.length c1, .slice a2 x.2.2.length c2], .agg #[.int .i64 x.1, .slice b1 x.2.1.length d1, .slice b2 x.2.2.length d2]] w _
  refine calls_W (args := [_, _]) Try.func63 rfl Try.ntmps63 rfl ?_
  have H := St.start [rd lockR a1 c1 x.2.1, rd lockR a2 c2 x.2.2, rd lockR b1 d1 x.2.1, rd lockR b2 d2 x.2.2] (w := w) (by simpa using ⟨h1, h2, k1, k2⟩)
  (repeat (first | refine W.seq ?_ | refine W.block ?_ | refine W.skip ?_ | refine W.exit ?_ | refine W.region ?_))
  refine WO.one rfl rfl rfl (OpW.box rfl rfl rfl H ?_); intro p2 w1 H1
  refine WO.one rfl rfl rfl (OpW.box rfl rfl rfl H1 ?_); intro p3 w2 H2
  (repeat (first | refine WO.run tabOk rfl rfl ?_ | refine WO.nil ?_ | refine WO.skip rfl rfl rfl ?_ | refine WO.pu tabOk rfl rfl rfl rfl ?_ | refine W.seq ?_ | refine W.region ?_ | refine W.block ?_ | refine W.skip ?_ | refine W.exit ?_ | refine WO.one rfl rfl rfl (OpW.load1 tabOk rfl rfl rfl rfl H2 (by (first | exact .head _ | exact .tail _ (.head _) | exact .tail _ (.tail _ (.head _)) | exact .tail _ (.tail _ (.tail _ (.head _))) | exact .tail _ (.tail _ (.tail _ (.tail _ (.head _)))) | exact .tail _ (.tail _ (.tail _ (.tail _ (.tail _ (.head _))))) | exact .tail _ (.tail _ (.tail _ (.tail _ (.tail _ (.tail _ (.head _)))))) | exact .tail _ (.tail _ (.tail _ (.tail _ (.tail _ (.tail _ (.tail _ (.head _))))))))) rfl ?_)))
  refine WO.tell (d := 10) rfl (show Value.bool (decide (x.1 = x.1)) = .bool true from by simp) ?_
  (repeat (first | refine WO.run tabOk rfl rfl ?_ | refine WO.nil ?_ | refine WO.skip rfl rfl rfl ?_ | refine WO.pu tabOk rfl rfl rfl rfl ?_ | refine W.seq ?_ | refine W.region ?_ | refine W.block ?_ | refine W.skip ?_ | refine W.exit ?_ | refine WO.one rfl rfl rfl (OpW.load1 tabOk rfl rfl rfl rfl H2 (by (first | exact .head _ | exact .tail _ (.head _) | exact .tail _ (.tail _ (.head _)) | exact .tail _ (.tail _ (.tail _ (.head _))) | exact .tail _ (.tail _ (.tail _ (.tail _ (.head _)))) | exact .tail _ (.tail _ (.tail _ (.tail _ (.tail _ (.head _))))) | exact .tail _ (.tail _ (.tail _ (.tail _ (.tail _ (.tail _ (.head _)))))) | exact .tail _ (.tail _ (.tail _ (.tail _ (.tail _ (.tail _ (.tail _ (.head _))))))))) rfl ?_)))
  refine WO.one rfl rfl rfl (OpW.call rfl Try.call61 rfl (Calls.ret (equalLock_ok w2 a1 b1 c1 d1 x.2.1 x.2.1 (H2.holds (by simp)) (H2.holds (by simp))) ?_))
  rintro _ w3 ⟨hp3, rfl⟩
  have H3 := H2.after hp3
  refine WO.tell (d := 15) rfl (show Value.bool (decide (x.2.1 = x.2.1)) = .bool true from by simp) ?_
  (repeat (first | refine WO.run tabOk rfl rfl ?_ | refine WO.nil ?_ | refine WO.skip rfl rfl rfl ?_ | refine WO.pu tabOk rfl rfl rfl rfl ?_ | refine W.seq ?_ | refine W.region ?_ | refine W.block ?_ | refine W.skip ?_ | refine W.exit ?_ | refine WO.one rfl rfl rfl (OpW.load1 tabOk rfl rfl rfl rfl H3 (by (first | exact .head _ | exact .tail _ (.head _) | exact .tail _ (.tail _ (.head _)) | exact .tail _ (.tail _ (.tail _ (.head _))) | exact .tail _ (.tail _ (.tail _ (.tail _ (.head _)))) | exact .tail _ (.tail _ (.tail _ (.tail _ (.tail _ (.head _))))) | exact .tail _ (.tail _ (.tail _ (.tail _ (.tail _ (.tail _ (.head _)))))) | exact .tail _ (.tail _ (.tail _ (.tail _ (.tail _ (.tail _ (.tail _ (.head _))))))))) rfl ?_)))
  refine WO.one rfl rfl rfl (OpW.call rfl Try.call61 rfl (Calls.ret (equalLock_ok w3 a2 b2 c2 d2 x.2.2 x.2.2 (H3.holds (by simp)) (H3.holds (by simp))) ?_))
  rintro _ w4 ⟨hp4, rfl⟩
  refine WO.tell (d := 22) rfl (show Value.bool (decide (x.2.2 = x.2.2)) = .bool true from by simp) ?_
  (repeat (first | refine WO.run tabOk rfl rfl ?_ | refine WO.nil ?_ | refine WO.skip rfl rfl rfl ?_ | refine WO.pu tabOk rfl rfl rfl rfl ?_ | refine W.seq ?_ | refine W.region ?_ | refine W.block ?_ | refine W.skip ?_ | refine W.exit ?_ | refine WO.one rfl rfl rfl (OpW.load1 tabOk rfl rfl rfl rfl H3 (by (first | exact .head _ | exact .tail _ (.head _) | exact .tail _ (.tail _ (.head _)) | exact .tail _ (.tail _ (.tail _ (.head _))) | exact .tail _ (.tail _ (.tail _ (.tail _ (.head _)))) | exact .tail _ (.tail _ (.tail _ (.tail _ (.tail _ (.head _))))) | exact .tail _ (.tail _ (.tail _ (.tail _ (.tail _ (.tail _ (.head _)))))) | exact .tail _ (.tail _ (.tail _ (.tail _ (.tail _ (.tail _ (.tail _ (.head _))))))))) rfl ?_)))
  exact W.ret (ret1 Try.results63 rfl ⟨_, rfl, H3.pure.trans hp4, rfl⟩)

theorem equalItems_ok (w : World) (a b : Option Addr) (c d : Nat) (t : List Item) (h1 : Holds w (rd itemS a c t)) (h2 : Holds w (rd itemS b d t)) :
    Calls Try.prog 62 #[.slice a t.length c, .slice b t.length d, .func (.func 63) #[] #[]] w (Ret fun v w' => Pure w w' ∧ v = .bool true) := by
  refine calls_W (args := [_, _, _]) Try.func62 rfl Try.ntmps62 rfl ?_
  have hle := h1.le
  simp only [maxLen] at hle
  (repeat (first | refine WO.run tabOk rfl rfl ?_ | refine WO.nil ?_ | refine WO.skip rfl rfl rfl ?_ | refine WO.pu tabOk rfl rfl rfl rfl ?_ | refine W.seq ?_ | refine W.region ?_ | refine W.block ?_ | refine W.skip ?_ | refine W.exit ?_))
  refine W.cond rfl (fun h => ?_) (fun h => ?_)
  · simp at h
  (repeat (first | refine WO.run tabOk rfl rfl ?_ | refine WO.nil ?_ | refine WO.skip rfl rfl rfl ?_ | refine WO.pu tabOk rfl rfl rfl rfl ?_ | refine W.seq ?_ | refine W.region ?_ | refine W.block ?_ | refine W.skip ?_ | refine W.exit ?_))
  refine W.loopS [1, 2, 15, 16, 17] (fun i : Nat => [(1, .slice b t.length d), (2, .func (.func 63) #[] #[]), (15, .slice a t.length c), (16, .int .i64 t.length), (17, .int .i64 i)])
    (fun i w' => i ≤ t.length ∧ Pure w w') (fun i => t.length - i) 0 rfl ⟨Nat.zero_le _, Pure.refl w⟩ ?_
  rintro i w1 ⟨hi, hp⟩
  (repeat (first | refine WO.run tabOk rfl rfl ?_ | refine WO.nil ?_ | refine WO.skip rfl rfl rfl ?_ | refine WO.pu tabOk rfl rfl rfl rfl ?_ | refine W.seq ?_ | refine W.region ?_ | refine W.block ?_ | refine W.skip ?_ | refine W.exit ?_))
  refine W.cond rfl (fun hlt => ?_) (fun hge => ?_)
  · have hlt : i < t.length := by simpa using hlt
    obtain ⟨ab, ao, rfl⟩ := h1.addr (by omega)
    obtain ⟨bb, bo, rfl⟩ := h2.addr (by omega)
    (repeat (first | refine WO.run tabOk rfl rfl ?_ | refine WO.nil ?_ | refine WO.skip rfl rfl rfl ?_ | refine WO.pu tabOk rfl rfl rfl rfl ?_ | refine W.seq ?_ | refine W.region ?_ | refine W.block ?_ | refine W.skip ?_ | refine W.exit ?_))
    refine WO.pv rfl rfl rfl (PureV.idxN tabOk rfl rfl rfl rfl rfl rfl (by omega)) ?_
    have hx := List.getElem?_eq_getElem hlt
    generalize t[i] = x at hx
    obtain ⟨a1, c1, a2, c2, hcs, hh, hq⟩ := item_elem (h1.pure hp) hx
    obtain ⟨b1, d1, b2, d2, hds, kh, kq⟩ := item_elem (h2.pure hp) hx
    refine WO.one rfl rfl rfl (OpW.loadcs tabOk rfl rfl rfl rfl rfl hcs ?_)
    have H := St.start [] (w := w1) (by simp)
    refine WO.one rfl rfl rfl (OpW.alloc rfl zero51 rfl H ?_); intro b8 w2 H2
    (repeat (first | refine WO.run tabOk rfl rfl ?_ | refine WO.nil ?_ | refine WO.skip rfl rfl rfl ?_ | refine WO.pu tabOk rfl rfl rfl rfl ?_ | refine W.seq ?_ | refine W.region ?_ | refine W.block ?_ | refine W.skip ?_ | refine W.exit ?_))
    refine WO.act rfl rfl (OpW.storeA (i := 0) tabOk rfl rfl rfl rfl H2 rfl rfl rfl rfl rfl ?_); intro w3 H3
    (repeat (first | refine WO.run tabOk rfl rfl ?_ | refine WO.nil ?_ | refine WO.skip rfl rfl rfl ?_ | refine WO.pu tabOk rfl rfl rfl rfl ?_ | refine W.seq ?_ | refine W.region ?_ | refine W.block ?_ | refine W.skip ?_ | refine W.exit ?_))
    refine WO.pv rfl rfl rfl (PureV.idxN tabOk rfl rfl rfl rfl rfl rfl (by omega)) ?_
    refine WO.one rfl rfl rfl (OpW.loadcs tabOk rfl rfl rfl rfl rfl (hds.pure H3.pure) ?_)
    refine WO.one rfl rfl rfl (OpW.alloc rfl zero51 rfl H3 ?_); intro b9 w4 H4
    refine WO.act rfl rfl (OpW.storeA (i := 0) tabOk rfl rfl rfl rfl H4 rfl rfl rfl rfl rfl ?_); intro w5 H5
    (repeat (first | refine WO.run tabOk rfl rfl ?_ | refine WO.nil ?_ | refine WO.skip rfl rfl rfl ?_ | refine WO.pu tabOk rfl rfl rfl rfl ?_ | refine W.seq ?_ | refine W.region ?_ | refine W.block ?_ | refine W.skip ?_ | refine W.exit ?_))
    refine WO.one rfl rfl rfl (OpW.loadA tabOk rfl rfl rfl rfl H5 (by (first | exact .head _ | exact .tail _ (.head _) | exact .tail _ (.tail _ (.head _)) | exact .tail _ (.tail _ (.tail _ (.head _))) | exact .tail _ (.tail _ (.tail _ (.tail _ (.head _)))) | exact .tail _ (.tail _ (.tail _ (.tail _ (.tail _ (.head _))))) | exact .tail _ (.tail _ (.tail _ (.tail _ (.tail _ (.tail _ (.head _)))))) | exact .tail _ (.tail _ (.tail _ (.tail _ (.tail _ (.tail _ (.tail _ (.head _))))))))) rfl rfl ?_)
    refine WO.one rfl rfl rfl (OpW.loadA tabOk rfl rfl rfl rfl H5 (by (first | exact .head _ | exact .tail _ (.head _) | exact .tail _ (.tail _ (.head _)) | exact .tail _ (.tail _ (.tail _ (.head _))) | exact .tail _ (.tail _ (.tail _ (.tail _ (.head _)))) | exact .tail _ (.tail _ (.tail _ (.tail _ (.tail _ (.head _))))) | exact .tail _ (.tail _ (.tail _ (.tail _ (.tail _ (.tail _ (.head _)))))) | exact .tail _ (.tail _ (.tail _ (.tail _ (.tail _ (.tail _ (.tail _ (.head _))))))))) rfl rfl ?_)
    have hp5 := H5.pure
    refine WO.one rfl rfl rfl (OpW.callv (first := #[]) (cap := #[]) rfl rfl Try.call63 rfl (Calls.ret (sameItem_ok w5 x a1 a2 b1 b2 c1 c2 d1 d2 (hh.pure hp5) (hq.pure hp5) (kh.pure hp5) (kq.pure hp5)) ?_))
    rintro _ w6 ⟨hp6, rfl⟩
    (repeat (first | refine WO.run tabOk rfl rfl ?_ | refine WO.nil ?_ | refine WO.skip rfl rfl rfl ?_ | refine WO.pu tabOk rfl rfl rfl rfl ?_ | refine W.seq ?_ | refine W.region ?_ | refine W.block ?_ | refine W.skip ?_ | refine W.exit ?_))
    refine W.cond_f rfl ?_
    (repeat (first | refine WO.run tabOk rfl rfl ?_ | refine WO.nil ?_ | refine WO.skip rfl rfl rfl ?_ | refine WO.pu tabOk rfl rfl rfl rfl ?_ | refine W.seq ?_ | refine W.region ?_ | refine W.block ?_ | refine W.skip ?_ | refine W.exit ?_))
    refine WO.pv rfl rfl rfl (PureV.addN rfl rfl rfl (by omega)) ?_
    (repeat (first | refine WO.run tabOk rfl rfl ?_ | refine WO.nil ?_ | refine WO.skip rfl rfl rfl ?_ | refine WO.pu tabOk rfl rfl rfl rfl ?_ | refine W.seq ?_ | refine W.region ?_ | refine W.block ?_ | refine W.skip ?_ | refine W.exit ?_))
    exact ⟨i + 1, rfl, ⟨by omega, hp.trans (hp5.trans hp6)⟩, by omega⟩
  · (repeat (first | refine WO.run tabOk rfl rfl ?_ | refine WO.nil ?_ | refine WO.skip rfl rfl rfl ?_ | refine WO.pu tabOk rfl rfl rfl rfl ?_ | refine W.seq ?_ | refine W.region ?_ | refine W.block ?_ | refine W.skip ?_ | refine W.exit ?_))
    exact W.ret (ret1 Try.results62 rfl ⟨_, rfl, hp, rfl⟩)
theorem sameLocks_ok (w : World) (a b : Option Addr) (c d : Nat) (t : List Item) (h1 : Holds w (rd itemS a c t)) (h2 : Holds w (rd itemS b d t)) :
    Calls Try.prog 29 #[.slice a t.length c, .slice b t.length d] w (Ret fun v w' => Pure w w' ∧ v = .bool true) := by
  refine calls_W (args := [_, _]) Try.func29 rfl Try.ntmps29 rfl ?_
  (repeat (first | refine WO.run tabOk rfl rfl ?_ | refine WO.nil ?_ | refine WO.skip rfl rfl rfl ?_ | refine WO.pu tabOk rfl rfl rfl rfl ?_ | refine W.seq ?_ | refine W.region ?_ | refine W.block ?_ | refine W.skip ?_ | refine W.exit ?_))
  refine WO.one rfl rfl rfl (OpW.call rfl Try.call62 rfl (Calls.ret (equalItems_ok w a b c d t h1 h2) ?_))
  rintro _ w1 ⟨hp1, rfl⟩
  (repeat (first | refine WO.run tabOk rfl rfl ?_ | refine WO.nil ?_ | refine WO.skip rfl rfl rfl ?_ | refine WO.pu tabOk rfl rfl rfl rfl ?_ | refine W.seq ?_ | refine W.region ?_ | refine W.block ?_ | refine W.skip ?_ | refine W.exit ?_))
  exact W.ret (ret1 Try.results29 rfl ⟨_, rfl, hp1, rfl⟩)

/-! ### Tables whose lists have room behind them -/
def ampR (f : Int × Int) : Rdr (List (Int × Int)) where
  sz := 1
  R w S x cs := ∃ b cap, cs = [.slice b x.length cap] ∧ RawR 53 2 w S (.slice b (x.length + 2) cap) (x.length + 2) (ampCells f x)
  len := fun ⟨_, _, h, _⟩ => by rw [h]; rfl
  loc := fun ⟨b, cap, h, h1⟩ hw => ⟨b, cap, h, h1.loc hw⟩
  dom := fun ⟨_, _, _, h1⟩ => h1.dom
  one := fun ⟨_, _, h, _⟩ v hv => by subst h; simp at hv; subst hv; rfl
theorem ampR_read {f : Int × Int} {w : World} {S : Nat → Prop} {x : List (Int × Int)} {b : Option Addr} {cap : Nat} (h : RawR 53 2 w S (.slice b (x.length + 2) cap) (x.length + 2) (ampCells f x)) : ReadR lockR w S b cap x := by
  have h2 : OwnR 53 lockR w S (.slice b (x.length + 2) cap) (x ++ [f, f]) := by
    refine ⟨ampCells f x, S, fun _ => False, ?_, flat_elems _, fun b => by simp, fun b _ h => h⟩
    rw [show (x ++ [f, f]).length = x.length + 2 by simp]
    exact h
  obtain ⟨a, c, e, h3⟩ := h2.read
  simp only [Value.slice.injEq] at e
  obtain ⟨rfl, _, rfl⟩ := e
  have := h3.take (i := x.length) (by simp)
  rwa [List.take_left] at this

def itemA (f : Int × Int) : Rdr Item where
  sz := 3
  R w S x cs := ∃ v1 v2 S1 S2, cs = [.int .i64 x.1, v1, v2] ∧ (ampR f).R w S1 x.2.1 [v1] ∧ (ampR f).R w S2 x.2.2 [v2] ∧ (∀ b, S b ↔ S1 b ∨ S2 b) ∧ ∀ b, S1 b → ¬ S2 b
  len := fun ⟨_, _, _, _, h, _⟩ => by rw [h]; rfl
  loc := fun ⟨v1, v2, S1, S2, h, h1, h2, h3, h4⟩ hw => ⟨v1, v2, S1, S2, h, (ampR f).loc h1 fun b hb => hw b ((h3 b).2 (.inl hb)), (ampR f).loc h2 fun b hb => hw b ((h3 b).2 (.inr hb)), h3, h4⟩
  dom := fun ⟨v1, v2, S1, S2, h, h1, h2, h3, h4⟩ b hb => ((h3 b).1 hb).elim ((ampR f).dom h1 b) ((ampR f).dom h2 b)
  one := fun ⟨v1, v2, S1, S2, h, h1, h2, h3, h4⟩ v hv => by
    have e1 := (ampR f).one h1 v1 (by simp)
    have e2 := (ampR f).one h2 v2 (by simp)
    subst h; simp at hv; rcases hv with rfl | rfl | rfl
    · rfl
    · exact e1
    · exact e2
theorem itemA_le (f : Int × Int) : Rdr.le (itemA f) itemS := ⟨rfl, fun {w S x cs} ⟨v1, v2, S1, S2, h, ⟨a1, c1, e1, h1⟩, ⟨a2, c2, e2, h2⟩, h3, h4⟩ => by
  simp only [List.cons.injEq, and_true] at e1 e2
  subst e1; subst e2
  have k1 := ampR_read h1
  have k2 := ampR_read h2
  have hd : ∀ b, S b → b < w.heap.size := fun b hb => ((h3 b).1 hb).elim (k1.dom b) (k2.dom b)
  exact ⟨S, ⟨a1, c1, a2, c2, h, k1.more (fun b hb => (h3 b).2 (.inl hb)) hd, k2.more (fun b hb => (h3 b).2 (.inr hb)) hd⟩, fun _ h => h⟩⟩
theorem Gw.St.itemA_in {f : Int × Int} {c : Ctx} {w : World} {Own Ro : List Asn} {i : Int} {b1 b2 : Option Addr} {c1 c2 : Nat} {h q : List (Int × Int)}
    (H : St c w (raw 53 2 (.slice b1 (h.length + 2) c1) (h.length + 2) (ampCells f h) :: raw 53 2 (.slice b2 (q.length + 2) c2) (q.length + 2) (ampCells f q) :: Own) Ro) :
    St c w (elem (itemA f) (i, h, q) [.int .i64 i, .slice b1 h.length c1, .slice b2 q.length c2] :: Own) Ro :=
  H.join fun S1 S2 h1 h2 hd => ⟨fun b => S1 b ∨ S2 b, ⟨_, _, S1, S2, rfl, ⟨b1, c1, rfl, h1⟩, ⟨b2, c2, rfl, h2⟩, fun _ => Iff.rfl, hd⟩, fun b hb => hb⟩
theorem Gw.St.itemA_out {f : Int × Int} {c : Ctx} {w : World} {Own Ro : List Asn} {x : Item} {cs : List Value} (H : St c w (elem (itemA f) x cs :: Own) Ro) :
    ∃ b1 c1 b2 c2, cs = [.int .i64 x.1, .slice b1 x.2.1.length c1, .slice b2 x.2.2.length c2] ∧
      St c w (raw 53 2 (.slice b1 (x.2.1.length + 2) c1) (x.2.1.length + 2) (ampCells f x.2.1) :: raw 53 2 (.slice b2 (x.2.2.length + 2) c2) (x.2.2.length + 2) (ampCells f x.2.2) :: Own) Ro := by
  obtain ⟨S, v1, v2, S1, S2, h, ⟨b1, c1, e1, _⟩, ⟨b2, c2, e2, _⟩, _⟩ := H.has (A := elem (itemA f) x cs) (by simp)
  simp only [List.cons.injEq, and_true] at e1 e2
  subst e1; subst e2
  refine ⟨b1, c1, b2, c2, h, H.split fun S hS => ?_⟩
  obtain ⟨u1, u2, S1, S2, h', ⟨d1, e1, g1, h1⟩, ⟨d2, e2, g2, h2⟩, h3, h4⟩ := hS
  rw [h] at h'
  simp only [List.cons.injEq, and_true, true_and] at h' g1 g2
  obtain ⟨rfl, rfl⟩ := h'
  simp only [Value.slice.injEq] at g1 g2
  obtain ⟨rfl, _, rfl⟩ := g1
  obtain ⟨rfl, _, rfl⟩ := g2
  exact ⟨S1, S2, h1, h2, fun b hb => (h3 b).2 (.inl hb), fun b hb => (h3 b).2 (.inr hb), h4⟩
theorem itemA_elem {f : Int × Int} {w : World} {b o cap i : Nat} {xs : List Item} {x : Item} (h : Holds w (rd (itemA f) (some ⟨b, o, none⟩) cap xs)) (hi : xs[i]? = some x) :
    ∃ b1 c1 b2 c2, CellsAt w ⟨b, o + i * 3, none⟩ [.int .i64 x.1, .slice b1 x.2.1.length c1, .slice b2 x.2.2.length c2] ∧ Holds w (raw 53 2 (.slice b1 (x.2.1.length + 2) c1) (x.2.1.length + 2) (ampCells f x.2.1)) ∧ Holds w (raw 53 2 (.slice b2 (x.2.2.length + 2) c2) (x.2.2.length + 2) (ampCells f x.2.2)) := by
  obtain ⟨S, cs, ⟨S', ⟨v1, v2, S1, S2, h0, ⟨b1, c1, e1, h1⟩, ⟨b2, c2, e2, h2⟩, _⟩, hs⟩, hc, hd⟩ := h.elem hi
  simp only [List.cons.injEq, and_true] at e1 e2
  subst e1; subst e2; subst h0
  exact ⟨b1, c1, b2, c2, hc, ⟨_, h1⟩, ⟨_, h2⟩⟩
end Go.Proofs.Ytnghaidnbicjjaa
