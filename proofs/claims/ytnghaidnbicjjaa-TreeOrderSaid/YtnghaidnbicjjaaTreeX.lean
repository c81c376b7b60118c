/- tree: each, walked. -/
import Derived.Test.YtnghaidnbicjjaaTreeW
set_option linter.unusedVariables false
set_option linter.unusedSimpArgs false
set_option maxRecDepth 20000
namespace Go.Proofs.Ytnghaidnbicjjaa
open Go Gw
open Go.RowKit (Below)
attribute [local irreducible] W WO WD WF Wi WOi WDi

structure EachS where
  i : Nat
  q : List En
/-- What the loop's bodies keep, and what they hand back. -/
structure Yl (l N : Nat) (w0 : World) (J Jx : List En → World → Prop) : Prop where
  keep : ∀ s W W', J s W → Pure W W' → J s W'
  round : ∀ pre (e : En) W, J pre W → pre.length < N → YieldAt Fence.wide 0 Try.prog l #[.int .i64 e.1, .string e.2] W fun r W' =>
    (r = .returned (.bool true) ∧ J (pre ++ [e]) W' ∧ Below w0.heap.size W W') ∨ (r = .returned (.bool false) ∧ Jx (pre ++ [e]) W')
def EachPost (w0 : World) (J Jx : List En → World → Prop) (pre out : List En) (v : Value) (W' : World) : Prop :=
  (v = .bool true ∧ J (pre ++ out) W' ∧ Below w0.heap.size w0 W') ∨ (v = .bool false ∧ ∃ q, q <+: out ∧ Jx (pre ++ q) W')

def restS (h i : Nat) (y : Nd) (frm : Int) : List En := if i < y.keys.length then (kAt y.keys i, tAt y.texts i) :: leftS h (i + 1) y frm else []
theorem leftS_rest {h i : Nat} {y : Nd} {frm : Int} (H : Sh h y) (hi : i ≤ y.keys.length) (hf : i < y.keys.length → frm ≤ kAt y.keys i) : leftS h i y frm = kidS h i y frm ++ restS h i y frm := by
  unfold restS
  by_cases hlt : i < y.keys.length
  · rw [if_pos hlt, leftS_at H hlt (hf hlt)]
  · rw [if_neg hlt, List.append_nil, show i = y.keys.length from by omega, leftS_end H]
theorem from_le {keys : List Int} {frm : Int} {i : Nat} (hs : keys.Pairwise (· < ·)) (h1 : posF keys frm ≤ i) (hlt : i < keys.length) : frm ≤ kAt keys i := by
  have h2 := posF_ge (kAt_get (l := keys) (i := posF keys frm) (by omega))
  rcases Nat.lt_or_ge (posF keys frm) i with h3 | h3
  · have := sorted_get hs (kAt_get (l := keys) (i := posF keys frm) (by omega)) (kAt_get hlt) h3
    omega
  · rw [show i = posF keys frm from by omega]; exact h2
theorem int_cell {w : World} {b o cap i : Nat} {xs : List Int} {x : Int} (h : Holds w (rd i64 (some ⟨b, o, none⟩) cap xs)) (hi : xs[i]? = some x) : w.cell? ⟨b, o + i * 1, none⟩ = some (.int .i64 x) := by
  obtain ⟨S, cs, hs, hc, _⟩ := h.elem hi
  have e := seen_flat hs
  subst e
  exact Holds.cell hc
theorem str_cell {w : World} {b o cap i : Nat} {xs : List ByteArray} {x : ByteArray} (h : Holds w (rd strR (some ⟨b, o, none⟩) cap xs)) (hi : xs[i]? = some x) : w.cell? ⟨b, o + i * 1, none⟩ = some (.string x) := by
  obtain ⟨S, cs, hs, hc, _⟩ := h.elem hi
  have e := seen_flat hs
  subst e
  exact Holds.cell hc
theorem cell_below {w W : World} {a : Addr} {v : Value} (h : w.cell? a = some v) (hb : Below w.heap.size w W) : W.cell? a = some v := by
  obtain ⟨S, hS⟩ := (cellA_of h).below hb
  exact hS.2

-- MEM 4

theorem each_ok {l N : Nat} {w0 : World} {J Jx : List En → World → Prop} {frm : Int} (hY : Yl l N w0 J Jx) : ∀ (h b lo hi : Nat) (y : Nd) (W0 : World) (pre : List En), Holds w0 (nodeA h b y) → Bt lo hi h y → hi ≤ 1000 → So (ents h y) → Below w0.heap.size w0 W0 → J pre W0 → pre.length + (fromS frm (ents h y)).length ≤ N →
    Calls Try.prog 39 #[.pointer (some ⟨b, 0, none⟩), .int .i64 frm, .func (.yield l) #[] #[]] W0 (Ret (EachPost w0 J Jx pre (fromS frm (ents h y)))) := by
  intro h
  induction h with
  | zero =>
    intro b lo hi y W0 pre hN hb hhi hso hbel hJ hlenN
    refine calls_W (args := [_, _, _]) Try.func39 rfl Try.ntmps39 rfl (ofTurn ?_)
    have hlen := hb.hi
    have ht := hb.sh.texts
    have hsk := keys_sorted hb hso
    have hle := posF_le y.keys frm
    obtain ⟨vk, vt, vc, hblk, hk, htx, hc⟩ := node_read hN
    (repeat (first | refine WOi.run tabOk rfl rfl ?_ | refine WOi.nil ?_ | refine WOi.skip rfl rfl rfl ?_ | refine WOi.pu tabOk rfl rfl rfl rfl ?_ | refine Wi.seq ?_ | refine Wi.region ?_ | refine Wi.block ?_ | refine Wi.skip ?_ | refine Wi.exit ?_))
    refine WOi.one rfl rfl rfl (OpW.call rfl Try.call40 rfl (Calls.ret (find_ok W0 b vk vt vc y.keys frm (hblk.below hbel) (hk.below hbel) (by omega) hsk) ?_))
    rintro _ w1 ⟨hp1, rfl⟩
    have hbel1 : Below w0.heap.size w0 w1 := hbel.trans (hp1.below hbel.size)
    have hJ1 := hY.keep _ _ _ hJ hp1
    have hleft := leftS_start (frm := frm) hb hso
    obtain ⟨ka, kc, rfl, hK⟩ := keys_rd hk
    obtain ⟨ta, tc, rfl, hT⟩ := texts_rd htx
    obtain ⟨ca, cc, rfl, hC⟩ := row_rd hc
    (repeat (first | refine WOi.run tabOk rfl rfl ?_ | refine WOi.nil ?_ | refine WOi.skip rfl rfl rfl ?_ | refine WOi.pu tabOk rfl rfl rfl rfl ?_ | refine Wi.seq ?_ | refine Wi.region ?_ | refine Wi.block ?_ | refine Wi.skip ?_ | refine Wi.exit ?_))
    refine Wi.loopS [0, 1, 2, 9] (fun s : EachS => [(0, .pointer (some ⟨b, 0, none⟩)), (1, .int .i64 frm), (2, .func (.yield l) #[] #[]), (9, .int .i64 s.i)])
      (fun s w' => posF y.keys frm ≤ s.i ∧ s.i ≤ y.keys.length + 1 ∧ s.q ++ leftS 0 s.i y frm = fromS frm (ents 0 y) ∧ J (pre ++ s.q) w' ∧ Below w0.heap.size w0 w') (fun s => y.keys.length + 1 - s.i) ⟨posF y.keys frm, []⟩ rfl ⟨Nat.le_refl _, by simp only; omega, hleft, by simpa using hJ1, hbel1⟩ ?_
    rintro ⟨i, q⟩ w2 ⟨hi1, hi2, hq, hJ2, hbel2⟩
    simp only at hi1 hi2 hq hJ2
    have H1 := St.start [blk b 88 [.slice ka y.keys.length kc, .slice ta y.texts.length tc, .slice ca y.kids.length cc]] (w := w2) (by simpa using hblk.below hbel2)
    (repeat (first | refine WOi.run tabOk rfl rfl ?_ | refine WOi.nil ?_ | refine WOi.skip rfl rfl rfl ?_ | refine WOi.pu tabOk rfl rfl rfl rfl ?_ | refine Wi.seq ?_ | refine Wi.region ?_ | refine Wi.block ?_ | refine Wi.skip ?_ | refine Wi.exit ?_ | refine WOi.one rfl rfl rfl (OpW.load1 tabOk rfl rfl rfl rfl H1 (by (first | exact .head _ | exact .tail _ (.head _) | exact .tail _ (.tail _ (.head _)) | exact .tail _ (.tail _ (.tail _ (.head _))))) rfl ?_)))
    refine Wi.cond rfl (fun hin => ?_) (fun hout => ?_)
    rotate_left
    · have hi : i = y.keys.length + 1 := by simp at hout; omega
      rw [hi, leftS_past hb.sh, List.append_nil] at hq
      (repeat (first | refine WOi.run tabOk rfl rfl ?_ | refine WOi.nil ?_ | refine WOi.skip rfl rfl rfl ?_ | refine WOi.pu tabOk rfl rfl rfl rfl ?_ | refine Wi.seq ?_ | refine Wi.region ?_ | refine Wi.block ?_ | refine Wi.skip ?_ | refine Wi.exit ?_))
      refine Wi.ret (ret1 Try.results39 rfl ⟨_, rfl, .inl ⟨rfl, ?_, hbel2⟩⟩)
      rw [← hq]
      exact hJ2
    have hil : i ≤ y.keys.length := by simp at hin; omega
    have hrest := leftS_rest hb.sh hil (fun hlt => from_le hsk hi1 hlt)
    rw [hrest] at hq

    have hk0 : y.kids = [] := hb.sh.kids
    rw [show kidS 0 i y frm = [] from rfl, List.nil_append] at hq
    (repeat (first | refine WOi.run tabOk rfl rfl ?_ | refine WOi.nil ?_ | refine WOi.skip rfl rfl rfl ?_ | refine WOi.pu tabOk rfl rfl rfl rfl ?_ | refine Wi.seq ?_ | refine Wi.region ?_ | refine Wi.block ?_ | refine Wi.skip ?_ | refine Wi.exit ?_ | refine WOi.one rfl rfl rfl (OpW.load1 tabOk rfl rfl rfl rfl H1 (by (first | exact .head _ | exact .tail _ (.head _) | exact .tail _ (.tail _ (.head _)) | exact .tail _ (.tail _ (.tail _ (.head _))))) rfl ?_)))
    refine WOi.tell (d := 32) (u := .bool false) rfl (congrArg Value.bool (decide_eq_false (by rw [hk0]; simp))) ?_
    (repeat (first | refine WOi.run tabOk rfl rfl ?_ | refine WOi.nil ?_ | refine WOi.skip rfl rfl rfl ?_ | refine WOi.pu tabOk rfl rfl rfl rfl ?_ | refine Wi.seq ?_ | refine Wi.region ?_ | refine Wi.block ?_ | refine Wi.skip ?_ | refine Wi.exit ?_ | refine WOi.one rfl rfl rfl (OpW.load1 tabOk rfl rfl rfl rfl H1 (by (first | exact .head _ | exact .tail _ (.head _) | exact .tail _ (.tail _ (.head _)) | exact .tail _ (.tail _ (.tail _ (.head _))))) rfl ?_)))
    refine Wi.cond_f rfl ?_
    (repeat (first | refine WOi.run tabOk rfl rfl ?_ | refine WOi.nil ?_ | refine WOi.skip rfl rfl rfl ?_ | refine WOi.pu tabOk rfl rfl rfl rfl ?_ | refine Wi.seq ?_ | refine Wi.region ?_ | refine Wi.block ?_ | refine Wi.skip ?_ | refine Wi.exit ?_))
    have hJ3 := hJ2
    have hbel3 := hbel2
    have hq3 := hq
    by_cases hlt : i < y.keys.length
    · have hlt2 : i < y.texts.length := by omega
      rw [restS, if_pos hlt] at hq3
      have hN3 : (pre ++ q).length < N := by
        have := congrArg List.length hq3
        simp only [List.length_append, List.length_cons] at this hlenN ⊢
        omega
      obtain ⟨kb, ko, rfl⟩ := hK.addr (by omega)
      obtain ⟨tb, to, rfl⟩ := hT.addr (by omega)
      have hck := (cellA_of (int_cell hK (kAt_get hlt))).below hbel3
      have hct := (cellA_of (str_cell hT (tAt_get hlt2))).below hbel3
      refine Wi.regionD rfl [4, 12, 15, 19, 22] (HA [blk b 88 [.slice (some ⟨kb, ko, none⟩) y.keys.length kc, .slice (some ⟨tb, to, none⟩) y.texts.length tc, .slice ca y.kids.length cc], cellA ⟨kb, ko + i * 1, none⟩ (.int .i64 (kAt y.keys i)), cellA ⟨tb, to + i * 1, none⟩ (.string (tAt y.texts i))]) [0, 1, 2, 3, 4, 5, 6, 7, 8, 9, 10, 11, 12, 13, 14, 15, 16, 17, 18, 19, 20, 21, 22, 23, 24, 25] rfl (by kernel_rfl) (fun _ _ _ h => h) ?_
      have hA : HA [blk b 88 [.slice (some ⟨kb, ko, none⟩) y.keys.length kc, .slice (some ⟨tb, to, none⟩) y.texts.length tc, .slice ca y.kids.length cc], cellA ⟨kb, ko + i * 1, none⟩ (.int .i64 (kAt y.keys i)), cellA ⟨tb, to + i * 1, none⟩ (.string (tAt y.texts i))] w2.drew :=
        HA.cons ((hblk.below hbel3).pure (Pure.drew w2)) (HA.cons (hck.pure (Pure.drew w2)) (HA.cons (hct.pure (Pure.drew w2)) (HA.nil _)))
      have hJ3 := hY.keep _ _ _ hJ3 (Pure.drew w2)
      have hbel3 : Below w0.heap.size w0 w2.drew := hbel3.trans ((Pure.drew w2).below hbel3.size)
      (repeat (first | refine WDi.run tabOk rfl rfl ?_ | refine WDi.hv rfl rfl rfl rfl rfl hA (HeldV.load1 tabOk rfl rfl rfl rfl (by (first | exact .head _ | exact .tail _ (.head _) | exact .tail _ (.tail _ (.head _)) | exact .tail _ (.tail _ (.tail _ (.head _))))) rfl) ?_ | refine WDi.hv rfl rfl rfl rfl rfl hA (HeldV.loadA tabOk rfl rfl rfl rfl (by (first | exact .head _ | exact .tail _ (.head _) | exact .tail _ (.tail _ (.head _)) | exact .tail _ (.tail _ (.tail _ (.head _))))) rfl rfl) ?_ | refine WDi.pu tabOk rfl rfl rfl rfl rfl rfl ?_))
      refine WDi.tell (d := 52) (u := .bool true) rfl (congrArg Value.bool (decide_eq_true (by show (i : Int) < (y.keys.length : Int); omega))) ?_
      (repeat (first | refine WDi.run tabOk rfl rfl ?_ | refine WDi.hv rfl rfl rfl rfl rfl hA (HeldV.load1 tabOk rfl rfl rfl rfl (by (first | exact .head _ | exact .tail _ (.head _) | exact .tail _ (.tail _ (.head _)) | exact .tail _ (.tail _ (.tail _ (.head _))))) rfl) ?_ | refine WDi.hv rfl rfl rfl rfl rfl hA (HeldV.loadA tabOk rfl rfl rfl rfl (by (first | exact .head _ | exact .tail _ (.head _) | exact .tail _ (.tail _ (.head _)) | exact .tail _ (.tail _ (.tail _ (.head _))))) rfl rfl) ?_ | refine WDi.pu tabOk rfl rfl rfl rfl rfl rfl ?_))
      refine WDi.pv rfl rfl rfl rfl rfl (PureV.idxN (i := i) tabOk rfl rfl rfl rfl rfl rfl (by omega)) ?_
      (repeat (first | refine WDi.run tabOk rfl rfl ?_ | refine WDi.hv rfl rfl rfl rfl rfl hA (HeldV.load1 tabOk rfl rfl rfl rfl (by (first | exact .head _ | exact .tail _ (.head _) | exact .tail _ (.tail _ (.head _)) | exact .tail _ (.tail _ (.tail _ (.head _))))) rfl) ?_ | refine WDi.hv rfl rfl rfl rfl rfl hA (HeldV.loadA tabOk rfl rfl rfl rfl (by (first | exact .head _ | exact .tail _ (.head _) | exact .tail _ (.tail _ (.head _)) | exact .tail _ (.tail _ (.tail _ (.head _))))) rfl rfl) ?_ | refine WDi.pu tabOk rfl rfl rfl rfl rfl rfl ?_))
      refine WDi.hv rfl rfl rfl rfl rfl hA (HeldV.cell tabOk rfl rfl rfl rfl (by (first | exact .head _ | exact .tail _ (.head _) | exact .tail _ (.tail _ (.head _)) | exact .tail _ (.tail _ (.tail _ (.head _)))))) ?_
      (repeat (first | refine WDi.run tabOk rfl rfl ?_ | refine WDi.hv rfl rfl rfl rfl rfl hA (HeldV.load1 tabOk rfl rfl rfl rfl (by (first | exact .head _ | exact .tail _ (.head _) | exact .tail _ (.tail _ (.head _)) | exact .tail _ (.tail _ (.tail _ (.head _))))) rfl) ?_ | refine WDi.hv rfl rfl rfl rfl rfl hA (HeldV.loadA tabOk rfl rfl rfl rfl (by (first | exact .head _ | exact .tail _ (.head _) | exact .tail _ (.tail _ (.head _)) | exact .tail _ (.tail _ (.tail _ (.head _))))) rfl rfl) ?_ | refine WDi.pu tabOk rfl rfl rfl rfl rfl rfl ?_))
      refine WDi.pv rfl rfl rfl rfl rfl (PureV.idxN (i := i) tabOk rfl rfl rfl rfl rfl rfl (by omega)) ?_
      (repeat (first | refine WDi.run tabOk rfl rfl ?_ | refine WDi.hv rfl rfl rfl rfl rfl hA (HeldV.load1 tabOk rfl rfl rfl rfl (by (first | exact .head _ | exact .tail _ (.head _) | exact .tail _ (.tail _ (.head _)) | exact .tail _ (.tail _ (.tail _ (.head _))))) rfl) ?_ | refine WDi.hv rfl rfl rfl rfl rfl hA (HeldV.loadA tabOk rfl rfl rfl rfl (by (first | exact .head _ | exact .tail _ (.head _) | exact .tail _ (.tail _ (.head _)) | exact .tail _ (.tail _ (.tail _ (.head _))))) rfl rfl) ?_ | refine WDi.pu tabOk rfl rfl rfl rfl rfl rfl ?_))
      refine WDi.hv rfl rfl rfl rfl rfl hA (HeldV.cell tabOk rfl rfl rfl rfl (by (first | exact .head _ | exact .tail _ (.head _) | exact .tail _ (.tail _ (.head _)) | exact .tail _ (.tail _ (.tail _ (.head _)))))) ?_
      (repeat (first | refine WDi.run tabOk rfl rfl ?_ | refine WDi.hv rfl rfl rfl rfl rfl hA (HeldV.load1 tabOk rfl rfl rfl rfl (by (first | exact .head _ | exact .tail _ (.head _) | exact .tail _ (.tail _ (.head _)) | exact .tail _ (.tail _ (.tail _ (.head _))))) rfl) ?_ | refine WDi.hv rfl rfl rfl rfl rfl hA (HeldV.loadA tabOk rfl rfl rfl rfl (by (first | exact .head _ | exact .tail _ (.head _) | exact .tail _ (.tail _ (.head _)) | exact .tail _ (.tail _ (.tail _ (.head _))))) rfl rfl) ?_ | refine WDi.pu tabOk rfl rfl rfl rfl rfl rfl ?_))
      refine WDi.oneI rfl rfl rfl rfl rfl (by kernel_rfl) (OpI.yield rfl rfl rfl rfl (hY.round (pre ++ q) (kAt y.keys i, tAt y.texts i) w2.drew hJ3 hN3) ?_)
      clear hA
      rintro e w4 (⟨rfl, hJ4, hb4⟩ | ⟨rfl, hJx⟩)
      · refine ⟨_, rfl, ?_⟩
        (repeat (first | refine WDi.run tabOk rfl rfl ?_ | refine WDi.hv rfl rfl rfl rfl rfl HA.nil _ (HeldV.load1 tabOk rfl rfl rfl rfl (by (first | exact .head _ | exact .tail _ (.head _) | exact .tail _ (.tail _ (.head _)) | exact .tail _ (.tail _ (.tail _ (.head _))))) rfl) ?_ | refine WDi.hv rfl rfl rfl rfl rfl HA.nil _ (HeldV.loadA tabOk rfl rfl rfl rfl (by (first | exact .head _ | exact .tail _ (.head _) | exact .tail _ (.tail _ (.head _)) | exact .tail _ (.tail _ (.tail _ (.head _))))) rfl rfl) ?_ | refine WDi.pu tabOk rfl rfl rfl rfl rfl rfl ?_))
        (repeat (first | refine WDi.run tabOk rfl rfl ?_ | refine WDi.nil ?_))
        (repeat (first | refine WOi.run tabOk rfl rfl ?_ | refine WOi.nil ?_ | refine WOi.skip rfl rfl rfl ?_ | refine WOi.pu tabOk rfl rfl rfl rfl ?_ | refine Wi.seq ?_ | refine Wi.region ?_ | refine Wi.block ?_ | refine Wi.skip ?_ | refine Wi.exit ?_))
        refine Wi.cond_f rfl ?_
        (repeat (first | refine WOi.run tabOk rfl rfl ?_ | refine WOi.nil ?_ | refine WOi.skip rfl rfl rfl ?_ | refine WOi.pu tabOk rfl rfl rfl rfl ?_ | refine Wi.seq ?_ | refine Wi.region ?_ | refine Wi.block ?_ | refine Wi.skip ?_ | refine Wi.exit ?_))
        refine WOi.pv rfl rfl rfl (PureV.addN (n := i) rfl rfl rfl (by omega)) ?_
        (repeat (first | refine WOi.run tabOk rfl rfl ?_ | refine WOi.nil ?_ | refine WOi.skip rfl rfl rfl ?_ | refine WOi.pu tabOk rfl rfl rfl rfl ?_ | refine Wi.seq ?_ | refine Wi.region ?_ | refine Wi.block ?_ | refine Wi.skip ?_ | refine Wi.exit ?_))
        refine ⟨⟨i + 1, q ++ [(kAt y.keys i, tAt y.texts i)]⟩, rfl, ⟨by simp only; omega, by simp only; omega, by simp only [List.append_assoc, List.cons_append, List.nil_append]; exact hq3, by simp only; rw [← List.append_assoc]; exact hJ4, hbel3.trans hb4⟩, by simp only; omega⟩
      · refine ⟨_, rfl, ?_⟩
        (repeat (first | refine WDi.run tabOk rfl rfl ?_ | refine WDi.hv rfl rfl rfl rfl rfl HA.nil _ (HeldV.load1 tabOk rfl rfl rfl rfl (by (first | exact .head _ | exact .tail _ (.head _) | exact .tail _ (.tail _ (.head _)) | exact .tail _ (.tail _ (.tail _ (.head _))))) rfl) ?_ | refine WDi.hv rfl rfl rfl rfl rfl HA.nil _ (HeldV.loadA tabOk rfl rfl rfl rfl (by (first | exact .head _ | exact .tail _ (.head _) | exact .tail _ (.tail _ (.head _)) | exact .tail _ (.tail _ (.tail _ (.head _))))) rfl rfl) ?_ | refine WDi.pu tabOk rfl rfl rfl rfl rfl rfl ?_))
        (repeat (first | refine WDi.run tabOk rfl rfl ?_ | refine WDi.nil ?_))
        (repeat (first | refine WOi.run tabOk rfl rfl ?_ | refine WOi.nil ?_ | refine WOi.skip rfl rfl rfl ?_ | refine WOi.pu tabOk rfl rfl rfl rfl ?_ | refine Wi.seq ?_ | refine Wi.region ?_ | refine Wi.block ?_ | refine Wi.skip ?_ | refine Wi.exit ?_))
        refine Wi.cond_t rfl ?_
        (repeat (first | refine WOi.run tabOk rfl rfl ?_ | refine WOi.nil ?_ | refine WOi.skip rfl rfl rfl ?_ | refine WOi.pu tabOk rfl rfl rfl rfl ?_ | refine Wi.seq ?_ | refine Wi.region ?_ | refine Wi.block ?_ | refine Wi.skip ?_ | refine Wi.exit ?_))
        refine Wi.ret (ret1 Try.results39 rfl ⟨_, rfl, .inr ⟨rfl, q ++ [(kAt y.keys i, tAt y.texts i)], ?_, by rw [← List.append_assoc]; exact hJx⟩⟩)
        rw [← hq3]
        exact ⟨leftS 0 (i + 1) y frm, by simp⟩
    · rw [restS, if_neg hlt, List.append_nil] at hq3
      refine Wi.regionD rfl [4, 12, 15, 19, 22] (HA [blk b 88 [.slice ka y.keys.length kc, .slice ta y.texts.length tc, .slice ca y.kids.length cc]]) [0, 1, 2, 3, 4, 5, 6, 7, 8, 9, 10, 11, 12, 13, 14, 15, 16, 17, 18, 19, 20, 21, 22, 23, 24, 25] rfl (by kernel_rfl) (fun _ _ _ h => h) ?_
      have hA : HA [blk b 88 [.slice ka y.keys.length kc, .slice ta y.texts.length tc, .slice ca y.kids.length cc]] w2.drew := HA.cons ((hblk.below hbel3).pure (Pure.drew w2)) (HA.nil _)
      have hJ3 := hY.keep _ _ _ hJ3 (Pure.drew w2)
      have hbel3 : Below w0.heap.size w0 w2.drew := hbel3.trans ((Pure.drew w2).below hbel3.size)
      (repeat (first | refine WDi.run tabOk rfl rfl ?_ | refine WDi.hv rfl rfl rfl rfl rfl hA (HeldV.load1 tabOk rfl rfl rfl rfl (by (first | exact .head _ | exact .tail _ (.head _) | exact .tail _ (.tail _ (.head _)) | exact .tail _ (.tail _ (.tail _ (.head _))))) rfl) ?_ | refine WDi.hv rfl rfl rfl rfl rfl hA (HeldV.loadA tabOk rfl rfl rfl rfl (by (first | exact .head _ | exact .tail _ (.head _) | exact .tail _ (.tail _ (.head _)) | exact .tail _ (.tail _ (.tail _ (.head _))))) rfl rfl) ?_ | refine WDi.pu tabOk rfl rfl rfl rfl rfl rfl ?_))
      refine WDi.tell (d := 52) (u := .bool false) rfl (congrArg Value.bool (decide_eq_false (by show ¬ (i : Int) < (y.keys.length : Int); omega))) ?_
      (repeat (first | refine WDi.run tabOk rfl rfl ?_ | refine WDi.skip rfl rfl rfl rfl rfl ?_ | refine WDi.skipS rfl rfl rfl rfl hA ?_ | refine WDi.pu tabOk rfl rfl rfl rfl rfl rfl ?_))
      (repeat (first | refine WDi.run tabOk rfl rfl ?_ | refine WDi.nil ?_))
      (repeat (first | refine WOi.run tabOk rfl rfl ?_ | refine WOi.nil ?_ | refine WOi.skip rfl rfl rfl ?_ | refine WOi.pu tabOk rfl rfl rfl rfl ?_ | refine Wi.seq ?_ | refine Wi.region ?_ | refine Wi.block ?_ | refine Wi.skip ?_ | refine Wi.exit ?_))
      refine Wi.cond_f rfl ?_
      (repeat (first | refine WOi.run tabOk rfl rfl ?_ | refine WOi.nil ?_ | refine WOi.skip rfl rfl rfl ?_ | refine WOi.pu tabOk rfl rfl rfl rfl ?_ | refine Wi.seq ?_ | refine Wi.region ?_ | refine Wi.block ?_ | refine Wi.skip ?_ | refine Wi.exit ?_))
      refine WOi.pv rfl rfl rfl (PureV.addN (n := i) rfl rfl rfl (by omega)) ?_
      (repeat (first | refine WOi.run tabOk rfl rfl ?_ | refine WOi.nil ?_ | refine WOi.skip rfl rfl rfl ?_ | refine WOi.pu tabOk rfl rfl rfl rfl ?_ | refine Wi.seq ?_ | refine Wi.region ?_ | refine Wi.block ?_ | refine Wi.skip ?_ | refine Wi.exit ?_))
      have hp : leftS 0 (i + 1) y frm = [] := by rw [show i = y.keys.length from by omega]; exact leftS_past hb.sh
      refine ⟨⟨i + 1, q⟩, rfl, ⟨by simp only; omega, by simp only; omega, by simp only; rw [hp, List.append_nil]; exact hq3, hJ3, hbel3⟩, by simp only; omega⟩

  | succ h ih =>
    intro b lo hi y W0 pre hN hb hhi hso hbel hJ hlenN
    refine calls_W (args := [_, _, _]) Try.func39 rfl Try.ntmps39 rfl (ofTurn ?_)
    have hlen := hb.hi
    have ht := hb.sh.texts
    have hsk := keys_sorted hb hso
    have hle := posF_le y.keys frm
    obtain ⟨vk, vt, vc, hblk, hk, htx, hc⟩ := node_read hN
    (repeat (first | refine WOi.run tabOk rfl rfl ?_ | refine WOi.nil ?_ | refine WOi.skip rfl rfl rfl ?_ | refine WOi.pu tabOk rfl rfl rfl rfl ?_ | refine Wi.seq ?_ | refine Wi.region ?_ | refine Wi.block ?_ | refine Wi.skip ?_ | refine Wi.exit ?_))
    refine WOi.one rfl rfl rfl (OpW.call rfl Try.call40 rfl (Calls.ret (find_ok W0 b vk vt vc y.keys frm (hblk.below hbel) (hk.below hbel) (by omega) hsk) ?_))
    rintro _ w1 ⟨hp1, rfl⟩
    have hbel1 : Below w0.heap.size w0 w1 := hbel.trans (hp1.below hbel.size)
    have hJ1 := hY.keep _ _ _ hJ hp1
    have hleft := leftS_start (frm := frm) hb hso
    obtain ⟨ka, kc, rfl, hK⟩ := keys_rd hk
    obtain ⟨ta, tc, rfl, hT⟩ := texts_rd htx
    obtain ⟨ca, cc, rfl, hC⟩ := row_rd hc
    (repeat (first | refine WOi.run tabOk rfl rfl ?_ | refine WOi.nil ?_ | refine WOi.skip rfl rfl rfl ?_ | refine WOi.pu tabOk rfl rfl rfl rfl ?_ | refine Wi.seq ?_ | refine Wi.region ?_ | refine Wi.block ?_ | refine Wi.skip ?_ | refine Wi.exit ?_))
    refine Wi.loopS [0, 1, 2, 9] (fun s : EachS => [(0, .pointer (some ⟨b, 0, none⟩)), (1, .int .i64 frm), (2, .func (.yield l) #[] #[]), (9, .int .i64 s.i)])
      (fun s w' => posF y.keys frm ≤ s.i ∧ s.i ≤ y.keys.length + 1 ∧ s.q ++ leftS (h + 1) s.i y frm = fromS frm (ents (h + 1) y) ∧ J (pre ++ s.q) w' ∧ Below w0.heap.size w0 w') (fun s => y.keys.length + 1 - s.i) ⟨posF y.keys frm, []⟩ rfl ⟨Nat.le_refl _, by simp only; omega, hleft, by simpa using hJ1, hbel1⟩ ?_
    rintro ⟨i, q⟩ w2 ⟨hi1, hi2, hq, hJ2, hbel2⟩
    simp only at hi1 hi2 hq hJ2
    have H1 := St.start [blk b 88 [.slice ka y.keys.length kc, .slice ta y.texts.length tc, .slice ca y.kids.length cc]] (w := w2) (by simpa using hblk.below hbel2)
    (repeat (first | refine WOi.run tabOk rfl rfl ?_ | refine WOi.nil ?_ | refine WOi.skip rfl rfl rfl ?_ | refine WOi.pu tabOk rfl rfl rfl rfl ?_ | refine Wi.seq ?_ | refine Wi.region ?_ | refine Wi.block ?_ | refine Wi.skip ?_ | refine Wi.exit ?_ | refine WOi.one rfl rfl rfl (OpW.load1 tabOk rfl rfl rfl rfl H1 (by (first | exact .head _ | exact .tail _ (.head _) | exact .tail _ (.tail _ (.head _)) | exact .tail _ (.tail _ (.tail _ (.head _))))) rfl ?_)))
    refine Wi.cond rfl (fun hin => ?_) (fun hout => ?_)
    rotate_left
    · have hi : i = y.keys.length + 1 := by simp at hout; omega
      rw [hi, leftS_past hb.sh, List.append_nil] at hq
      (repeat (first | refine WOi.run tabOk rfl rfl ?_ | refine WOi.nil ?_ | refine WOi.skip rfl rfl rfl ?_ | refine WOi.pu tabOk rfl rfl rfl rfl ?_ | refine Wi.seq ?_ | refine Wi.region ?_ | refine Wi.block ?_ | refine Wi.skip ?_ | refine Wi.exit ?_))
      refine Wi.ret (ret1 Try.results39 rfl ⟨_, rfl, .inl ⟨rfl, ?_, hbel2⟩⟩)
      rw [← hq]
      exact hJ2
    have hil : i ≤ y.keys.length := by simp at hin; omega
    have hrest := leftS_rest hb.sh hil (fun hlt => from_le hsk hi1 hlt)
    rw [hrest] at hq

    have hkn := hb.sh.kn
    obtain ⟨z, hz, hbz⟩ := kid_at hb hil
    obtain ⟨g, o, rfl⟩ := hC.addr (by omega)
    obtain ⟨bk, hcell, hNz⟩ := kid_read (h := h) hC hz
    have hkS : kidS (h + 1) i y frm = fromS frm (ents h z) := by show (match y.kids[i]? with | some z => fromS frm (ents h z) | none => []) = _; rw [hz]
    rw [hkS] at hq
    (repeat (first | refine WOi.run tabOk rfl rfl ?_ | refine WOi.nil ?_ | refine WOi.skip rfl rfl rfl ?_ | refine WOi.pu tabOk rfl rfl rfl rfl ?_ | refine Wi.seq ?_ | refine Wi.region ?_ | refine Wi.block ?_ | refine Wi.skip ?_ | refine Wi.exit ?_ | refine WOi.one rfl rfl rfl (OpW.load1 tabOk rfl rfl rfl rfl H1 (by (first | exact .head _ | exact .tail _ (.head _) | exact .tail _ (.tail _ (.head _)) | exact .tail _ (.tail _ (.tail _ (.head _))))) rfl ?_)))
    refine WOi.tell (d := 32) (u := .bool true) rfl (congrArg Value.bool (decide_eq_true (by omega))) ?_
    (repeat (first | refine WOi.run tabOk rfl rfl ?_ | refine WOi.nil ?_ | refine WOi.skip rfl rfl rfl ?_ | refine WOi.pu tabOk rfl rfl rfl rfl ?_ | refine Wi.seq ?_ | refine Wi.region ?_ | refine Wi.block ?_ | refine Wi.skip ?_ | refine Wi.exit ?_ | refine WOi.one rfl rfl rfl (OpW.load1 tabOk rfl rfl rfl rfl H1 (by (first | exact .head _ | exact .tail _ (.head _) | exact .tail _ (.tail _ (.head _)) | exact .tail _ (.tail _ (.tail _ (.head _))))) rfl ?_)))
    refine WOi.pv rfl rfl rfl (PureV.idxN (i := i) tabOk rfl rfl rfl rfl rfl rfl (by omega)) ?_
    refine WOi.one rfl rfl rfl (OpW.loadc tabOk rfl rfl rfl rfl (cell_below hcell hbel2) ?_)
    (repeat (first | refine WOi.run tabOk rfl rfl ?_ | refine WOi.nil ?_ | refine WOi.skip rfl rfl rfl ?_ | refine WOi.pu tabOk rfl rfl rfl rfl ?_ | refine Wi.seq ?_ | refine Wi.region ?_ | refine Wi.block ?_ | refine Wi.skip ?_ | refine Wi.exit ?_))
    have hNz2 : (pre ++ q).length + (fromS frm (ents h z)).length ≤ N := by
      have := congrArg List.length hq
      simp only [List.length_append] at this ⊢
      omega
    refine WOi.one rfl rfl rfl (OpW.call rfl Try.call39 rfl (Calls.ret (ih bk 2 4 z w2 (pre ++ q) hNz hbz (by omega) (hso.eq_of (ents_at hb.sh hil hz)) hbel2 hJ2 hNz2) ?_))
    rintro v w3 (⟨rfl, hJ3, hbel3⟩ | ⟨rfl, q', ⟨q'', hq'⟩, hJx⟩)
    · (repeat (first | refine WOi.run tabOk rfl rfl ?_ | refine WOi.nil ?_ | refine WOi.skip rfl rfl rfl ?_ | refine WOi.pu tabOk rfl rfl rfl rfl ?_ | refine Wi.seq ?_ | refine Wi.region ?_ | refine Wi.block ?_ | refine Wi.skip ?_ | refine Wi.exit ?_))
      refine Wi.cond_f rfl ?_
      (repeat (first | refine WOi.run tabOk rfl rfl ?_ | refine WOi.nil ?_ | refine WOi.skip rfl rfl rfl ?_ | refine WOi.pu tabOk rfl rfl rfl rfl ?_ | refine Wi.seq ?_ | refine Wi.region ?_ | refine Wi.block ?_ | refine Wi.skip ?_ | refine Wi.exit ?_))
      rw [List.append_assoc] at hJ3
      rw [← List.append_assoc] at hq
      generalize q ++ fromS frm (ents h z) = q3 at hJ3 hq
      have hJ3 := hJ3
      have hbel3 := hbel3
      have hq3 := hq
      by_cases hlt : i < y.keys.length
      · have hlt2 : i < y.texts.length := by omega
        rw [restS, if_pos hlt] at hq3
        have hN3 : (pre ++ q3).length < N := by
          have := congrArg List.length hq3
          simp only [List.length_append, List.length_cons] at this hlenN ⊢
          omega
        obtain ⟨kb, ko, rfl⟩ := hK.addr (by omega)
        obtain ⟨tb, to, rfl⟩ := hT.addr (by omega)
        have hck := (cellA_of (int_cell hK (kAt_get hlt))).below hbel3
        have hct := (cellA_of (str_cell hT (tAt_get hlt2))).below hbel3
        refine Wi.regionD rfl [4, 12, 15, 19, 22] (HA [blk b 88 [.slice (some ⟨kb, ko, none⟩) y.keys.length kc, .slice (some ⟨tb, to, none⟩) y.texts.length tc, .slice (some ⟨g, o, none⟩) y.kids.length cc], cellA ⟨kb, ko + i * 1, none⟩ (.int .i64 (kAt y.keys i)), cellA ⟨tb, to + i * 1, none⟩ (.string (tAt y.texts i))]) [0, 1, 2, 3, 4, 5, 6, 7, 8, 9, 10, 11, 12, 13, 14, 15, 16, 17, 18, 19, 20, 21, 22, 23, 24, 25] rfl (by kernel_rfl) (fun _ _ _ h => h) ?_
        have hA : HA [blk b 88 [.slice (some ⟨kb, ko, none⟩) y.keys.length kc, .slice (some ⟨tb, to, none⟩) y.texts.length tc, .slice (some ⟨g, o, none⟩) y.kids.length cc], cellA ⟨kb, ko + i * 1, none⟩ (.int .i64 (kAt y.keys i)), cellA ⟨tb, to + i * 1, none⟩ (.string (tAt y.texts i))] w3.drew :=
          HA.cons ((hblk.below hbel3).pure (Pure.drew w3)) (HA.cons (hck.pure (Pure.drew w3)) (HA.cons (hct.pure (Pure.drew w3)) (HA.nil _)))
        have hJ3 := hY.keep _ _ _ hJ3 (Pure.drew w3)
        have hbel3 : Below w0.heap.size w0 w3.drew := hbel3.trans ((Pure.drew w3).below hbel3.size)
        (repeat (first | refine WDi.run tabOk rfl rfl ?_ | refine WDi.hv rfl rfl rfl rfl rfl hA (HeldV.load1 tabOk rfl rfl rfl rfl (by (first | exact .head _ | exact .tail _ (.head _) | exact .tail _ (.tail _ (.head _)) | exact .tail _ (.tail _ (.tail _ (.head _))))) rfl) ?_ | refine WDi.hv rfl rfl rfl rfl rfl hA (HeldV.loadA tabOk rfl rfl rfl rfl (by (first | exact .head _ | exact .tail _ (.head _) | exact .tail _ (.tail _ (.head _)) | exact .tail _ (.tail _ (.tail _ (.head _))))) rfl rfl) ?_ | refine WDi.pu tabOk rfl rfl rfl rfl rfl rfl ?_))
        refine WDi.tell (d := 52) (u := .bool true) rfl (congrArg Value.bool (decide_eq_true (by show (i : Int) < (y.keys.length : Int); omega))) ?_
        (repeat (first | refine WDi.run tabOk rfl rfl ?_ | refine WDi.hv rfl rfl rfl rfl rfl hA (HeldV.load1 tabOk rfl rfl rfl rfl (by (first | exact .head _ | exact .tail _ (.head _) | exact .tail _ (.tail _ (.head _)) | exact .tail _ (.tail _ (.tail _ (.head _))))) rfl) ?_ | refine WDi.hv rfl rfl rfl rfl rfl hA (HeldV.loadA tabOk rfl rfl rfl rfl (by (first | exact .head _ | exact .tail _ (.head _) | exact .tail _ (.tail _ (.head _)) | exact .tail _ (.tail _ (.tail _ (.head _))))) rfl rfl) ?_ | refine WDi.pu tabOk rfl rfl rfl rfl rfl rfl ?_))
        refine WDi.pv rfl rfl rfl rfl rfl (PureV.idxN (i := i) tabOk rfl rfl rfl rfl rfl rfl (by omega)) ?_
        (repeat (first | refine WDi.run tabOk rfl rfl ?_ | refine WDi.hv rfl rfl rfl rfl rfl hA (HeldV.load1 tabOk rfl rfl rfl rfl (by (first | exact .head _ | exact .tail _ (.head _) | exact .tail _ (.tail _ (.head _)) | exact .tail _ (.tail _ (.tail _ (.head _))))) rfl) ?_ | refine WDi.hv rfl rfl rfl rfl rfl hA (HeldV.loadA tabOk rfl rfl rfl rfl (by (first | exact .head _ | exact .tail _ (.head _) | exact .tail _ (.tail _ (.head _)) | exact .tail _ (.tail _ (.tail _ (.head _))))) rfl rfl) ?_ | refine WDi.pu tabOk rfl rfl rfl rfl rfl rfl ?_))
        refine WDi.hv rfl rfl rfl rfl rfl hA (HeldV.cell tabOk rfl rfl rfl rfl (by (first | exact .head _ | exact .tail _ (.head _) | exact .tail _ (.tail _ (.head _)) | exact .tail _ (.tail _ (.tail _ (.head _)))))) ?_
        (repeat (first | refine WDi.run tabOk rfl rfl ?_ | refine WDi.hv rfl rfl rfl rfl rfl hA (HeldV.load1 tabOk rfl rfl rfl rfl (by (first | exact .head _ | exact .tail _ (.head _) | exact .tail _ (.tail _ (.head _)) | exact .tail _ (.tail _ (.tail _ (.head _))))) rfl) ?_ | refine WDi.hv rfl rfl rfl rfl rfl hA (HeldV.loadA tabOk rfl rfl rfl rfl (by (first | exact .head _ | exact .tail _ (.head _) | exact .tail _ (.tail _ (.head _)) | exact .tail _ (.tail _ (.tail _ (.head _))))) rfl rfl) ?_ | refine WDi.pu tabOk rfl rfl rfl rfl rfl rfl ?_))
        refine WDi.pv rfl rfl rfl rfl rfl (PureV.idxN (i := i) tabOk rfl rfl rfl rfl rfl rfl (by omega)) ?_
        (repeat (first | refine WDi.run tabOk rfl rfl ?_ | refine WDi.hv rfl rfl rfl rfl rfl hA (HeldV.load1 tabOk rfl rfl rfl rfl (by (first | exact .head _ | exact .tail _ (.head _) | exact .tail _ (.tail _ (.head _)) | exact .tail _ (.tail _ (.tail _ (.head _))))) rfl) ?_ | refine WDi.hv rfl rfl rfl rfl rfl hA (HeldV.loadA tabOk rfl rfl rfl rfl (by (first | exact .head _ | exact .tail _ (.head _) | exact .tail _ (.tail _ (.head _)) | exact .tail _ (.tail _ (.tail _ (.head _))))) rfl rfl) ?_ | refine WDi.pu tabOk rfl rfl rfl rfl rfl rfl ?_))
        refine WDi.hv rfl rfl rfl rfl rfl hA (HeldV.cell tabOk rfl rfl rfl rfl (by (first | exact .head _ | exact .tail _ (.head _) | exact .tail _ (.tail _ (.head _)) | exact .tail _ (.tail _ (.tail _ (.head _)))))) ?_
        (repeat (first | refine WDi.run tabOk rfl rfl ?_ | refine WDi.hv rfl rfl rfl rfl rfl hA (HeldV.load1 tabOk rfl rfl rfl rfl (by (first | exact .head _ | exact .tail _ (.head _) | exact .tail _ (.tail _ (.head _)) | exact .tail _ (.tail _ (.tail _ (.head _))))) rfl) ?_ | refine WDi.hv rfl rfl rfl rfl rfl hA (HeldV.loadA tabOk rfl rfl rfl rfl (by (first | exact .head _ | exact .tail _ (.head _) | exact .tail _ (.tail _ (.head _)) | exact .tail _ (.tail _ (.tail _ (.head _))))) rfl rfl) ?_ | refine WDi.pu tabOk rfl rfl rfl rfl rfl rfl ?_))
        refine WDi.oneI rfl rfl rfl rfl rfl (by kernel_rfl) (OpI.yield rfl rfl rfl rfl (hY.round (pre ++ q3) (kAt y.keys i, tAt y.texts i) w3.drew hJ3 hN3) ?_)
        clear hA
        rintro e w4 (⟨rfl, hJ4, hb4⟩ | ⟨rfl, hJx⟩)
        · refine ⟨_, rfl, ?_⟩
          (repeat (first | refine WDi.run tabOk rfl rfl ?_ | refine WDi.hv rfl rfl rfl rfl rfl HA.nil _ (HeldV.load1 tabOk rfl rfl rfl rfl (by (first | exact .head _ | exact .tail _ (.head _) | exact .tail _ (.tail _ (.head _)) | exact .tail _ (.tail _ (.tail _ (.head _))))) rfl) ?_ | refine WDi.hv rfl rfl rfl rfl rfl HA.nil _ (HeldV.loadA tabOk rfl rfl rfl rfl (by (first | exact .head _ | exact .tail _ (.head _) | exact .tail _ (.tail _ (.head _)) | exact .tail _ (.tail _ (.tail _ (.head _))))) rfl rfl) ?_ | refine WDi.pu tabOk rfl rfl rfl rfl rfl rfl ?_))
          (repeat (first | refine WDi.run tabOk rfl rfl ?_ | refine WDi.nil ?_))
          (repeat (first | refine WOi.run tabOk rfl rfl ?_ | refine WOi.nil ?_ | refine WOi.skip rfl rfl rfl ?_ | refine WOi.pu tabOk rfl rfl rfl rfl ?_ | refine Wi.seq ?_ | refine Wi.region ?_ | refine Wi.block ?_ | refine Wi.skip ?_ | refine Wi.exit ?_))
          refine Wi.cond_f rfl ?_
          (repeat (first | refine WOi.run tabOk rfl rfl ?_ | refine WOi.nil ?_ | refine WOi.skip rfl rfl rfl ?_ | refine WOi.pu tabOk rfl rfl rfl rfl ?_ | refine Wi.seq ?_ | refine Wi.region ?_ | refine Wi.block ?_ | refine Wi.skip ?_ | refine Wi.exit ?_))
          refine WOi.pv rfl rfl rfl (PureV.addN (n := i) rfl rfl rfl (by omega)) ?_
          (repeat (first | refine WOi.run tabOk rfl rfl ?_ | refine WOi.nil ?_ | refine WOi.skip rfl rfl rfl ?_ | refine WOi.pu tabOk rfl rfl rfl rfl ?_ | refine Wi.seq ?_ | refine Wi.region ?_ | refine Wi.block ?_ | refine Wi.skip ?_ | refine Wi.exit ?_))
          refine ⟨⟨i + 1, q3 ++ [(kAt y.keys i, tAt y.texts i)]⟩, rfl, ⟨by simp only; omega, by simp only; omega, by simp only [List.append_assoc, List.cons_append, List.nil_append]; exact hq3, by simp only; rw [← List.append_assoc]; exact hJ4, hbel3.trans hb4⟩, by simp only; omega⟩
        · refine ⟨_, rfl, ?_⟩
          (repeat (first | refine WDi.run tabOk rfl rfl ?_ | refine WDi.hv rfl rfl rfl rfl rfl HA.nil _ (HeldV.load1 tabOk rfl rfl rfl rfl (by (first | exact .head _ | exact .tail _ (.head _) | exact .tail _ (.tail _ (.head _)) | exact .tail _ (.tail _ (.tail _ (.head _))))) rfl) ?_ | refine WDi.hv rfl rfl rfl rfl rfl HA.nil _ (HeldV.loadA tabOk rfl rfl rfl rfl (by (first | exact .head _ | exact .tail _ (.head _) | exact .tail _ (.tail _ (.head _)) | exact .tail _ (.tail _ (.tail _ (.head _))))) rfl rfl) ?_ | refine WDi.pu tabOk rfl rfl rfl rfl rfl rfl ?_))
          (repeat (first | refine WDi.run tabOk rfl rfl ?_ | refine WDi.nil ?_))
          (repeat (first | refine WOi.run tabOk rfl rfl ?_ | refine WOi.nil ?_ | refine WOi.skip rfl rfl rfl ?_ | refine WOi.pu tabOk rfl rfl rfl rfl ?_ | refine Wi.seq ?_ | refine Wi.region ?_ | refine Wi.block ?_ | refine Wi.skip ?_ | refine Wi.exit ?_))
          refine Wi.cond_t rfl ?_
          (repeat (first | refine WOi.run tabOk rfl rfl ?_ | refine WOi.nil ?_ | refine WOi.skip rfl rfl rfl ?_ | refine WOi.pu tabOk rfl rfl rfl rfl ?_ | refine Wi.seq ?_ | refine Wi.region ?_ | refine Wi.block ?_ | refine Wi.skip ?_ | refine Wi.exit ?_))
          refine Wi.ret (ret1 Try.results39 rfl ⟨_, rfl, .inr ⟨rfl, q3 ++ [(kAt y.keys i, tAt y.texts i)], ?_, by rw [← List.append_assoc]; exact hJx⟩⟩)
          rw [← hq3]
          exact ⟨leftS (h + 1) (i + 1) y frm, by simp⟩
      · rw [restS, if_neg hlt, List.append_nil] at hq3
        refine Wi.regionD rfl [4, 12, 15, 19, 22] (HA [blk b 88 [.slice ka y.keys.length kc, .slice ta y.texts.length tc, .slice (some ⟨g, o, none⟩) y.kids.length cc]]) [0, 1, 2, 3, 4, 5, 6, 7, 8, 9, 10, 11, 12, 13, 14, 15, 16, 17, 18, 19, 20, 21, 22, 23, 24, 25] rfl (by kernel_rfl) (fun _ _ _ h => h) ?_
        have hA : HA [blk b 88 [.slice ka y.keys.length kc, .slice ta y.texts.length tc, .slice (some ⟨g, o, none⟩) y.kids.length cc]] w3.drew := HA.cons ((hblk.below hbel3).pure (Pure.drew w3)) (HA.nil _)
        have hJ3 := hY.keep _ _ _ hJ3 (Pure.drew w3)
        have hbel3 : Below w0.heap.size w0 w3.drew := hbel3.trans ((Pure.drew w3).below hbel3.size)
        (repeat (first | refine WDi.run tabOk rfl rfl ?_ | refine WDi.hv rfl rfl rfl rfl rfl hA (HeldV.load1 tabOk rfl rfl rfl rfl (by (first | exact .head _ | exact .tail _ (.head _) | exact .tail _ (.tail _ (.head _)) | exact .tail _ (.tail _ (.tail _ (.head _))))) rfl) ?_ | refine WDi.hv rfl rfl rfl rfl rfl hA (HeldV.loadA tabOk rfl rfl rfl rfl (by (first | exact .head _ | exact .tail _ (.head _) | exact .tail _ (.tail _ (.head _)) | exact .tail _ (.tail _ (.tail _ (.head _))))) rfl rfl) ?_ | refine WDi.pu tabOk rfl rfl rfl rfl rfl rfl ?_))
        refine WDi.tell (d := 52) (u := .bool false) rfl (congrArg Value.bool (decide_eq_false (by show ¬ (i : Int) < (y.keys.length : Int); omega))) ?_
        (repeat (first | refine WDi.run tabOk rfl rfl ?_ | refine WDi.skip rfl rfl rfl rfl rfl ?_ | refine WDi.skipS rfl rfl rfl rfl hA ?_ | refine WDi.pu tabOk rfl rfl rfl rfl rfl rfl ?_))
        (repeat (first | refine WDi.run tabOk rfl rfl ?_ | refine WDi.nil ?_))
        (repeat (first | refine WOi.run tabOk rfl rfl ?_ | refine WOi.nil ?_ | refine WOi.skip rfl rfl rfl ?_ | refine WOi.pu tabOk rfl rfl rfl rfl ?_ | refine Wi.seq ?_ | refine Wi.region ?_ | refine Wi.block ?_ | refine Wi.skip ?_ | refine Wi.exit ?_))
        refine Wi.cond_f rfl ?_
        (repeat (first | refine WOi.run tabOk rfl rfl ?_ | refine WOi.nil ?_ | refine WOi.skip rfl rfl rfl ?_ | refine WOi.pu tabOk rfl rfl rfl rfl ?_ | refine Wi.seq ?_ | refine Wi.region ?_ | refine Wi.block ?_ | refine Wi.skip ?_ | refine Wi.exit ?_))
        refine WOi.pv rfl rfl rfl (PureV.addN (n := i) rfl rfl rfl (by omega)) ?_
        (repeat (first | refine WOi.run tabOk rfl rfl ?_ | refine WOi.nil ?_ | refine WOi.skip rfl rfl rfl ?_ | refine WOi.pu tabOk rfl rfl rfl rfl ?_ | refine Wi.seq ?_ | refine Wi.region ?_ | refine Wi.block ?_ | refine Wi.skip ?_ | refine Wi.exit ?_))
        have hp : leftS (h + 1) (i + 1) y frm = [] := by rw [show i = y.keys.length from by omega]; exact leftS_past hb.sh
        refine ⟨⟨i + 1, q3⟩, rfl, ⟨by simp only; omega, by simp only; omega, by simp only; rw [hp, List.append_nil]; exact hq3, hJ3, hbel3⟩, by simp only; omega⟩

    · (repeat (first | refine WOi.run tabOk rfl rfl ?_ | refine WOi.nil ?_ | refine WOi.skip rfl rfl rfl ?_ | refine WOi.pu tabOk rfl rfl rfl rfl ?_ | refine Wi.seq ?_ | refine Wi.region ?_ | refine Wi.block ?_ | refine Wi.skip ?_ | refine Wi.exit ?_))
      refine Wi.cond_t rfl ?_
      (repeat (first | refine WOi.run tabOk rfl rfl ?_ | refine WOi.nil ?_ | refine WOi.skip rfl rfl rfl ?_ | refine WOi.pu tabOk rfl rfl rfl rfl ?_ | refine Wi.seq ?_ | refine Wi.region ?_ | refine Wi.block ?_ | refine Wi.skip ?_ | refine Wi.exit ?_))
      refine Wi.ret (ret1 Try.results39 rfl ⟨_, rfl, .inr ⟨rfl, q ++ q', ?_, by rw [← List.append_assoc]; exact hJx⟩⟩)
      rw [← hq, ← hq']
      exact ⟨q'' ++ restS (h + 1) i y frm, by simp⟩
end Go.Proofs.Ytnghaidnbicjjaa
