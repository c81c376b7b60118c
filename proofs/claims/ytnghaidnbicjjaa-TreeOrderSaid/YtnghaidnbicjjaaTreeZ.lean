/- tree: TreeOrder. -/
import Derived.Test.YtnghaidnbicjjaaTreeY
set_option linter.unusedVariables false
set_option linter.unusedSimpArgs false
set_option maxRecDepth 20000
namespace Go.Proofs.Ytnghaidnbicjjaa
open Go Gw
open Go.RowKit (Below)
attribute [local irreducible] W WO WD WF Wi WOi WDi Wj Gw.Wk


abbrev exD : List Deed := [(1, 5, ⟨#[97]⟩), (1, 3, ⟨#[98]⟩)]
theorem exD_eq : treedS exD = [(3, ⟨#[98]⟩), (5, ⟨#[97]⟩)] := by rfl

theorem stOwn {V : World} {b e : Nat} {l : List Value} (h : Holds V (blk b e l)) : St ⟨V, fun k => k = b⟩ V [blk b e l] [] := by
  obtain ⟨S, hS⟩ := h
  exact ⟨Like.refl _, fun _ _ _ => rfl, S, ⟨S, fun _ => False, hS, fun _ h => h, fun b => by simp, fun _ _ h => h⟩, fun k hk => .inr ((hS.1 k).1 hk), nofun⟩
theorem stKeeps {V V' : World} {b B : Nat} {Own : List Asn} (H : St ⟨V, fun k => k = b⟩ V' Own []) (hb : b < B) : KeepsFrom B V V' :=
  ⟨H.like.size, fun k o hk ho _ => (H.frame k (Array.getElem?_eq_some_iff.1 ho).1 (by show ¬ k = b; omega)).trans ho⟩
theorem stBelow {V V' : World} {b n : Nat} {Own : List Asn} (H : St ⟨V, fun k => k = b⟩ V' Own []) (hb : n ≤ b) (hn : n ≤ V.heap.size) : Below n V V' :=
  ⟨H.like.os, H.like.tape, H.like.output, H.like.size, fun k hk => H.frame k (by show k < V.heap.size; omega) (by show ¬ k = b; omega)⟩
theorem blk_lt {V : World} {b e : Nat} {l : List Value} (h : Holds V (blk b e l)) : b < V.heap.size := by
  obtain ⟨S, hS⟩ := h
  exact (Array.getElem?_eq_some_iff.1 hS.2).1
theorem own_blk {β : Type} {B b e : Nat} (hb : b < B) (f : β → List Value) : OwnFrom B (fun s V => Holds V (blk b e (f s))) := by
  intro s V V' row ⟨S, hS⟩ hg hr
  refine ⟨S, hS.1, ?_⟩
  have hlt := (Array.getElem?_eq_some_iff.1 hS.2).1
  rw [hg.block b hlt (fun e => by have := (hr b e.symm).1; omega)]
  exact hS.2
theorem St.belowAll {c : Ctx} {V V' : World} {Own : List Asn} (H : St c V Own []) (hb : Below V.heap.size V V') : St c V' Own [] :=
  H.ext ⟨hb.os, hb.tape, hb.output, hb.size⟩ hb.block
theorem own_ge {V V' : World} {Own Ro : List Asn} {b e : Nat} {l : List Value} (H : St (at0 V) V' Own Ro) (hm : blk b e l ∈ Own) : V.heap.size ≤ b := by
  obtain ⟨O, h1, h2, _⟩ := H.sep
  obtain ⟨S, hS, hs⟩ := Sep.mem h1 hm
  rcases h2 b (hs b ((hS.1 b).2 rfl)) with h | h
  · exact h
  · exact h.elim

theorem sub_keep {r r' : Env} (l : List Nat) (h : Env.keep r l = r') : Env.sub r' r := by subst h; exact fun t v => Env.get_keep r l t v

/-- A loop's block for deferred calls, empty. -/
def defA (D : Nat) : Asn where
  p w S := (∀ k, S k ↔ k = D) ∧ w.heap[D]? = some (.deferred (some []))
  loc := fun w w' S ⟨h1, h2⟩ hw => ⟨h1, (hw D ((h1 D).2 rfl)).trans h2⟩
  dom := fun w S ⟨h1, h2⟩ k hk => by have := (h1 k).1 hk; subst this; exact (Array.getElem?_eq_some_iff.1 h2).1
theorem St.addDef {c : Ctx} {V V' : World} {Own : List Asn} {D : Nat} (H : St c V Own []) (hb : Below V.heap.size V V') (hD : V.heap.size ≤ D) (hd : V'.heap[D]? = some (.deferred (some []))) : St c V' (defA D :: Own) [] :=
  H.add ⟨hb.os, hb.tape, hb.output, hb.size⟩ hb.block ⟨fun k => k = D, ⟨fun _ => Iff.rfl, hd⟩, fun b hb => by have hb : b = D := hb; omega⟩

def lastK (frm : Int) (pre : List En) : Int := match pre.getLast? with | some e => e.1 | none => frm
theorem lastK_snoc (frm : Int) (pre : List En) (e : En) : lastK frm (pre ++ [e]) = e.1 := by simp [lastK]
theorem blk_kept {V V' : World} {b k e : Nat} {l : List Value} {Own : List Asn} (H : St ⟨V, fun j => j = b⟩ V' Own []) (h : Holds V (blk k e l)) (hne : b ≠ k) : Holds V' (blk k e l) := by
  have hlt := blk_lt h
  obtain ⟨S, hS⟩ := h
  exact ⟨S, hS.1, (H.frame k hlt (by show ¬ k = b; omega)).trans hS.2⟩
theorem pre_facts {frm : Int} {l pre : List En} {e : En} (hs : So l) (hp : (pre ++ [e]) <+: fromS frm l) : getS l e.1 = some e.2 ∧ lastK frm pre ≤ e.1 ∧ (pre ≠ [] → lastK frm pre < e.1) := by
  obtain ⟨t, ht⟩ := hp
  have hso : So (fromS frm l) := List.Pairwise.filter _ hs
  have hm : e ∈ fromS frm l := by rw [← ht]; simp
  obtain ⟨hm1, hm2⟩ := List.mem_filter.1 hm
  have hm2 : frm ≤ e.1 := by simpa using hm2
  have hlt : pre ≠ [] → lastK frm pre < e.1 := by
    intro hne
    rw [← ht] at hso
    have h1 := hso.parts.1.parts.2.2 (pre.getLast hne) (List.getLast_mem hne) e (by simp)
    simpa [lastK, List.getLast?_eq_some_getLast hne] using h1
  refine ⟨mem_getS hs hm1, ?_, hlt⟩
  by_cases hne : pre = []
  · subst hne; exact hm2
  · have := hlt hne; omega

theorem order_end {w w' : World} {b6 D D2 : Nat} {x : Cx} {a : Act} (h2 : Holds w' (defA D2)) (h1 : Holds w' (defA D)) (h6 : Holds w' (blk b6 4 [.bool true])) (hp : Pure w w') (g2 : w.heap.size ≤ D2) (g1 : w.heap.size ≤ D) (hDD : D ≠ D2)
    (ha : AgI { x with ds := [markD D2, markD D] } 82 a [(6, .pointer (some ⟨b6, 0, none⟩))]) :
    bodyPostM Fence.wide 0 Try.prog Try.f4 (Ret fun v w' => Pure w w' ∧ v = .bool true) .ret a w' := by
  obtain ⟨S2, k2⟩ := h2
  obtain ⟨S1, k1⟩ := h1
  obtain ⟨S6, k6⟩ := h6
  show LeavesInM Fence.wide 0 Try.prog Try.f4 a.tmps _ a.defers .returning w'
  rw [show a.defers = [markD D2, markD D] from ha.defers]
  have hne : ∀ {E : Nat}, w'.heap[E]? = some (.deferred (some [])) → b6 ≠ E := fun h e => by subst e; rw [k6.2] at h; cases h
  have put : ∀ {u : World} {E : Nat}, Pure w u → w.heap.size ≤ E → Pure w (u.putObj E (.deferred none)) := fun {u E} hu hE =>
    ⟨⟨hu.like.os, hu.like.tape, hu.like.output, by simpa using hu.like.size⟩, fun b hb => (World.putObj_heap_other (by omega)).trans (hu.same b hb)⟩
  refine ⟨by simp, .inl ⟨D2, _, rfl, run_takeDeferred k2.2, ?_⟩⟩
  have k1' : (w'.putObj D2 (.deferred none)).heap[D]? = some (.deferred (some [])) := (World.putObj_heap_other hDD).trans k1.2
  refine ⟨by simp, .inl ⟨D, _, rfl, run_takeDeferred k1', ?_⟩⟩
  have hc : ((w'.putObj D2 (.deferred none)).putObj D (.deferred none)).heap[b6]? = some (.cells [Value.bool true].toArray 4 (0, 0)) :=
    (World.putObj_heap_other (hne k1.2)).trans ((World.putObj_heap_other (hne k2.2)).trans k6.2)
  have hcell : ((w'.putObj D2 (.deferred none)).putObj D (.deferred none)).cell? ⟨b6, 0, none⟩ = some (.bool true) := by rw [cell_list hc]; rfl
  have hv : a.tmps.getD 6 undef = .pointer (some ⟨b6, 0, none⟩) := ha.get 6 _ rfl
  have hv' : a.tmps[6]?.getD undef = .pointer (some ⟨b6, 0, none⟩) := by simpa using hv
  have hrun := run_load_cell (P := Try.prog) tabOk (t := 4) rfl rfl hcell
  refine ⟨.bool true, ?_, _, rfl, put (put hp g2) g1, rfl⟩
  simp [results, Try.results4, hv', asAddr, hrun]


theorem treeOrder_ok (w : World) (a : Option Addr) (c : Nat) (l : List Deed) (frm most : Int) (hH : Holds w (rd deedR a c l)) :
    Calls Try.prog 4 #[.slice a l.length c, .int .i64 frm, .int .i64 most] w (Ret fun v w' => Pure w w' ∧ v = .bool true) := by
  refine calls_marks (args := [_, _, _]) Try.func4 rfl Try.ntmps4 rfl ?_
  have H := St.start [] (w := w) (by simp)
  refine Wj.seq ?_
  (repeat (first | refine WOi.run tabOk rfl rfl ?_ | refine WOi.nil ?_ | refine WOi.skip rfl rfl rfl ?_ | refine WOi.pu tabOk rfl rfl rfl rfl ?_ | refine Wi.seq ?_ | refine Wi.region ?_ | refine Wi.block ?_ | refine Wi.skip ?_ | refine Wi.exit ?_))
  refine WOi.one rfl rfl rfl (OpW.box rfl rfl rfl H ?_); intro b5 w1 H
  refine WOi.one rfl rfl rfl (OpW.alloc rfl zero4 rfl H ?_); intro b6 w2 H
  (repeat (first | refine WOi.run tabOk rfl rfl ?_ | refine WOi.nil ?_ | refine WOi.skip rfl rfl rfl ?_ | refine WOi.pu tabOk rfl rfl rfl rfl ?_ | refine Wi.seq ?_ | refine Wi.region ?_ | refine Wi.block ?_ | refine Wi.skip ?_ | refine Wi.exit ?_))
  refine Wj.seq ?_
  (repeat (first | refine WOi.run tabOk rfl rfl ?_ | refine WOi.nil ?_ | refine WOi.skip rfl rfl rfl ?_ | refine WOi.pu tabOk rfl rfl rfl rfl ?_ | refine Wi.seq ?_ | refine Wi.region ?_ | refine Wi.block ?_ | refine Wi.skip ?_ | refine Wi.exit ?_))
  refine WOi.pv rfl rfl rfl (PureV.build tabOk rfl rfl rfl zero26 (l := [.int .i64 1, .int .i64 5, .string ⟨#[97]⟩]) rfl) ?_
  refine WOi.pv rfl rfl rfl (PureV.build tabOk rfl rfl rfl zero26 (l := [.int .i64 1, .int .i64 3, .string ⟨#[98]⟩]) rfl) ?_
  refine WOi.one rfl rfl rfl (OpW.buildSlice tabOk rfl rfl rfl rfl zero26 rfl rfl (l := [.int .i64 1, .int .i64 5, .string ⟨#[97]⟩, .int .i64 1, .int .i64 3, .string ⟨#[98]⟩]) rfl H ?_)
  clear H
  intro b9 w3 H
  refine WOi.one rfl rfl rfl (OpW.call rfl Try.call10 rfl (Calls.ret (treed_ok w3 _ _ exD (deeds_blk (b := b9) (l := exD) H (by simp))) ?_))
  rintro _ w4 ⟨bt, rfl, br, h, x, HT, T, he⟩
  have H := H.take HT
  rw [← he] at H
  (repeat (first | refine WOi.run tabOk rfl rfl ?_ | refine WOi.nil ?_ | refine WOi.skip rfl rfl rfl ?_ | refine WOi.pu tabOk rfl rfl rfl rfl ?_ | refine Wi.seq ?_ | refine Wi.region ?_ | refine Wi.block ?_ | refine Wi.skip ?_ | refine Wi.exit ?_))
  refine WOi.one rfl rfl rfl (OpW.alloc rfl zero23 rfl H ?_); intro b7 w5 H
  refine WOi.act rfl rfl (OpW.store1 (i := 0) tabOk rfl rfl rfl rfl rfl H rfl rfl rfl ?_); intro w6 H
  (repeat (first | refine WOi.run tabOk rfl rfl ?_ | refine WOi.nil ?_ | refine WOi.skip rfl rfl rfl ?_ | refine WOi.pu tabOk rfl rfl rfl rfl ?_ | refine Wi.seq ?_ | refine Wi.region ?_ | refine Wi.block ?_ | refine Wi.skip ?_ | refine Wi.exit ?_))
  refine Wj.seq ?_
  clear HT
  (repeat (first | refine WOi.run tabOk rfl rfl ?_ | refine WOi.nil ?_ | refine WOi.skip rfl rfl rfl ?_ | refine WOi.pu tabOk rfl rfl rfl rfl ?_ | refine Wi.seq ?_ | refine Wi.region ?_ | refine Wi.block ?_ | refine Wi.skip ?_ | refine Wi.exit ?_ | refine WOi.one rfl rfl rfl (OpW.load1 tabOk rfl rfl rfl rfl H (by (first | exact .head _ | exact .tail _ (.head _) | exact .tail _ (.tail _ (.head _)) | exact .tail _ (.tail _ (.tail _ (.head _))) | exact .tail _ (.tail _ (.tail _ (.tail _ (.head _)))) | exact .tail _ (.tail _ (.tail _ (.tail _ (.tail _ (.head _))))) | exact .tail _ (.tail _ (.tail _ (.tail _ (.tail _ (.tail _ (.head _)))))) | exact .tail _ (.tail _ (.tail _ (.tail _ (.tail _ (.tail _ (.tail _ (.head _))))))) | exact .tail _ (.tail _ (.tail _ (.tail _ (.tail _ (.tail _ (.tail _ (.tail _ (.head _)))))))) | exact .tail _ (.tail _ (.tail _ (.tail _ (.tail _ (.tail _ (.tail _ (.tail _ (.tail _ (.head _))))))))) | exact .tail _ (.tail _ (.tail _ (.tail _ (.tail _ (.tail _ (.tail _ (.tail _ (.tail _ (.tail _ (.head _)))))))))) | exact .tail _ (.tail _ (.tail _ (.tail _ (.tail _ (.tail _ (.tail _ (.tail _ (.tail _ (.tail _ (.tail _ (.head _))))))))))) | exact .tail _ (.tail _ (.tail _ (.tail _ (.tail _ (.tail _ (.tail _ (.tail _ (.tail _ (.tail _ (.tail _ (.tail _ (.head _)))))))))))) | exact .tail _ (.tail _ (.tail _ (.tail _ (.tail _ (.tail _ (.tail _ (.tail _ (.tail _ (.tail _ (.tail _ (.tail _ (.tail _ (.head _))))))))))))) | exact .tail _ (.tail _ (.tail _ (.tail _ (.tail _ (.tail _ (.tail _ (.tail _ (.tail _ (.tail _ (.tail _ (.tail _ (.tail _ (.tail _ (.head _)))))))))))))) | exact .tail _ (.tail _ (.tail _ (.tail _ (.tail _ (.tail _ (.tail _ (.tail _ (.tail _ (.tail _ (.tail _ (.tail _ (.tail _ (.tail _ (.tail _ (.head _))))))))))))))))) rfl ?_)))
  refine Wi.cond_f rfl ?_
  (repeat (first | refine WOi.run tabOk rfl rfl ?_ | refine WOi.nil ?_ | refine WOi.skip rfl rfl rfl ?_ | refine WOi.pu tabOk rfl rfl rfl rfl ?_ | refine Wi.seq ?_ | refine Wi.region ?_ | refine Wi.block ?_ | refine Wi.skip ?_ | refine Wi.exit ?_))
  refine Wj.seq ?_
  obtain ⟨VP, hVP⟩ : ∃ V, V = w6 := ⟨_, rfl⟩
  have HP := H
  rw [← hVP] at HP
  have hpw : Pure w VP := HP.pure
  rw [← hVP]
  clear H hVP
  have H := St.start [blk b7 23 [.pointer (some ⟨bt, 0, none⟩)], blk bt 84 [.pointer (some ⟨br, 0, none⟩), .int .i64 ((ents h x).length : Int)], nodeA h br x] (w := VP) (by
    intro A hA
    simp only [List.mem_cons, List.not_mem_nil, or_false] at hA
    rcases hA with rfl | rfl | rfl <;> exact HP.holds (by simp))
  (repeat (first | refine WOi.run tabOk rfl rfl ?_ | refine WOi.nil ?_ | refine WOi.skip rfl rfl rfl ?_ | refine WOi.pu tabOk rfl rfl rfl rfl ?_ | refine Wi.seq ?_ | refine Wi.region ?_ | refine Wi.block ?_ | refine Wi.skip ?_ | refine Wi.exit ?_))
  refine WOi.one rfl rfl rfl (OpW.alloc rfl zero3 rfl H ?_); intro b8 w7 H
  refine WOi.act rfl rfl (OpW.store1 (i := 0) tabOk rfl rfl rfl rfl rfl H rfl rfl rfl ?_); intro w8 H
  (repeat (first | refine WOi.run tabOk rfl rfl ?_ | refine WOi.nil ?_ | refine WOi.skip rfl rfl rfl ?_ | refine WOi.pu tabOk rfl rfl rfl rfl ?_ | refine Wi.seq ?_ | refine Wi.region ?_ | refine Wi.block ?_ | refine Wi.skip ?_ | refine Wi.exit ?_))
  refine Wj.seq2 ?_
  (repeat (first | refine WOi.run tabOk rfl rfl ?_ | refine WOi.nil ?_ | refine WOi.skip rfl rfl rfl ?_ | refine WOi.pu tabOk rfl rfl rfl rfl ?_ | refine Wi.seq ?_ | refine Wi.region ?_ | refine Wi.block ?_ | refine Wi.skip ?_ | refine Wi.exit ?_ | refine WOi.one rfl rfl rfl (OpW.load1 tabOk rfl rfl rfl rfl H (by (first | exact .head _ | exact .tail _ (.head _) | exact .tail _ (.tail _ (.head _)) | exact .tail _ (.tail _ (.tail _ (.head _))) | exact .tail _ (.tail _ (.tail _ (.tail _ (.head _)))) | exact .tail _ (.tail _ (.tail _ (.tail _ (.tail _ (.head _))))) | exact .tail _ (.tail _ (.tail _ (.tail _ (.tail _ (.tail _ (.head _)))))) | exact .tail _ (.tail _ (.tail _ (.tail _ (.tail _ (.tail _ (.tail _ (.head _))))))) | exact .tail _ (.tail _ (.tail _ (.tail _ (.tail _ (.tail _ (.tail _ (.tail _ (.head _)))))))) | exact .tail _ (.tail _ (.tail _ (.tail _ (.tail _ (.tail _ (.tail _ (.tail _ (.tail _ (.head _))))))))) | exact .tail _ (.tail _ (.tail _ (.tail _ (.tail _ (.tail _ (.tail _ (.tail _ (.tail _ (.tail _ (.head _)))))))))) | exact .tail _ (.tail _ (.tail _ (.tail _ (.tail _ (.tail _ (.tail _ (.tail _ (.tail _ (.tail _ (.tail _ (.head _))))))))))) | exact .tail _ (.tail _ (.tail _ (.tail _ (.tail _ (.tail _ (.tail _ (.tail _ (.tail _ (.tail _ (.tail _ (.tail _ (.head _)))))))))))) | exact .tail _ (.tail _ (.tail _ (.tail _ (.tail _ (.tail _ (.tail _ (.tail _ (.tail _ (.tail _ (.tail _ (.tail _ (.tail _ (.head _))))))))))))) | exact .tail _ (.tail _ (.tail _ (.tail _ (.tail _ (.tail _ (.tail _ (.tail _ (.tail _ (.tail _ (.tail _ (.tail _ (.tail _ (.tail _ (.head _)))))))))))))) | exact .tail _ (.tail _ (.tail _ (.tail _ (.tail _ (.tail _ (.tail _ (.tail _ (.tail _ (.tail _ (.tail _ (.tail _ (.tail _ (.tail _ (.tail _ (.head _))))))))))))))))) rfl ?_)))
  refine WOi.one rfl rfl rfl (OpW.call rfl Try.call13 rfl (Calls.ret (from_ok (at0 VP) w8 _ _ bt 4 H) ?_))
  clear H
  rintro _ w9 ⟨b1, b2, rfl, H⟩
  (repeat (first | refine WOi.run tabOk rfl rfl ?_ | refine WOi.nil ?_ | refine WOi.skip rfl rfl rfl ?_ | refine WOi.pu tabOk rfl rfl rfl rfl ?_ | refine Wi.seq ?_ | refine Wi.region ?_ | refine Wi.block ?_ | refine Wi.skip ?_ | refine Wi.exit ?_))
  have hout : fromS 4 (ents h x) = [(5, ⟨#[97]⟩)] := by rw [he, exD_eq]; rfl
  have hblk8 : Holds w9 (blk b8 3 [.int .i64 0]) := H.holds (by simp)
  have h8 : VP.heap.size ≤ b8 := own_ge (e := 3) (l := [.int .i64 0]) H (by simp)
  have h8' : b8 < w9.heap.size := blk_lt hblk8
  have hVP9 : Below VP.heap.size VP w9 := H.pure.below (Nat.le_refl _)
  have hsq := seq_ok VP w9 hVP9 b1 b2 bt br h _ 4 x ((ents h x).length : Int) 4 (H.holds (by simp)) (H.holds (by simp)) (HP.holds (by simp)) (HP.holds (A := nodeA h br x) (by simp)) T.bt (by omega) T.so
  rw [hout] at hsq
  show Gw.Wk _ _ _ _ _ _ _ _
  refine Gw.Wk.range rfl rfl Try.call38 hsq belowK_t (belowK_b hVP9.size) (fun V => Below.refl _ V) (Below.refl _ _) (fun _ => rfl) (by decide)
    (fun pre V => Below VP.heap.size VP V ∧ Holds V (blk b8 3 [.int .i64 (pre.length : Int)])) (fun c pre V => c = .ret ∧ ¬ pre <+: [((5 : Int), (⟨#[97]⟩ : ByteArray))])
    (OwnFrom.and (ownFrom_below (Nat.le_refl _) hVP9.size) (own_blk h8' _)) (fun c => fun s V V' row h _ _ => h) ⟨hVP9, hblk8⟩
    (fun e => [(6, .pointer (some ⟨b6, 0, none⟩)), (8, .pointer (some ⟨b8, 0, none⟩)), (9, .int .i64 e.1), (10, .string e.2)]) ?_ ?_ ?_ ?_ ?_ ?_
  · intro l' e V
    (repeat (first | refine WOi.run tabOk rfl rfl ?_ | refine WOi.nil ?_ | refine WOi.skip rfl rfl rfl ?_ | refine WOi.pu tabOk rfl rfl rfl rfl ?_ | refine Wi.seq ?_ | refine Wi.region ?_ | refine Wi.block ?_ | refine Wi.skip ?_ | refine Wi.exit ?_))
    exact ⟨rfl, sub_keep [6, 8, 9, 10] rfl⟩
  · rintro l' pre e V hl ⟨hB, hS⟩ hlen
    have hpre : pre = [] := by simpa using hlen
    subst hpre
    have h6lt : b6 < w9.heap.size := Nat.lt_of_lt_of_le (blk_lt (HP.holds (A := blk b6 4 [.bool false]) (by simp))) hVP9.size
    have H8 := stOwn hS
    (repeat (first | refine WOi.run tabOk rfl rfl ?_ | refine WOi.nil ?_ | refine WOi.skip rfl rfl rfl ?_ | refine WOi.pu tabOk rfl rfl rfl rfl ?_ | refine Wi.seq ?_ | refine Wi.region ?_ | refine Wi.block ?_ | refine Wi.skip ?_ | refine Wi.exit ?_))
    by_cases h5 : e.1 = 5
    · refine WOi.tell (d := 29) (u := .bool false) rfl (by rw [h5]; rfl) ?_
      (repeat (first | refine WOi.run tabOk rfl rfl ?_ | refine WOi.nil ?_ | refine WOi.skip rfl rfl rfl ?_ | refine WOi.pu tabOk rfl rfl rfl rfl ?_ | refine Wi.seq ?_ | refine Wi.region ?_ | refine Wi.block ?_ | refine Wi.skip ?_ | refine Wi.exit ?_))
      refine Wi.cond rfl (fun hs => ?_) (fun hs => ?_)
      · (repeat (first | refine WOi.run tabOk rfl rfl ?_ | refine WOi.nil ?_ | refine WOi.skip rfl rfl rfl ?_ | refine WOi.pu tabOk rfl rfl rfl rfl ?_ | refine Wi.seq ?_ | refine Wi.region ?_ | refine Wi.block ?_ | refine Wi.skip ?_ | refine Wi.exit ?_))
        have h6 := stOwn ((HP.holds (A := blk b6 4 [.bool false]) (by simp)).below hB)
        refine WOi.act rfl rfl (OpW.store1 (i := 0) tabOk rfl rfl rfl rfl rfl h6 rfl rfl rfl ?_); intro V2 h6'
        (repeat (first | refine WOi.run tabOk rfl rfl ?_ | refine WOi.nil ?_ | refine WOi.skip rfl rfl rfl ?_ | refine WOi.pu tabOk rfl rfl rfl rfl ?_ | refine Wi.seq ?_ | refine Wi.region ?_ | refine Wi.block ?_ | refine Wi.skip ?_ | refine Wi.exit ?_))
        refine Wi.ret ?_
        exact ⟨stKeeps h6' h6lt, rfl, fun hp => by simp [pickV] at hs; have := List.cons_prefix_cons.1 (show e :: [] <+: (5, ⟨#[97]⟩) :: [] from hp); exact hs (by rw [this.1])⟩

      · (repeat (first | refine WOi.run tabOk rfl rfl ?_ | refine WOi.nil ?_ | refine WOi.skip rfl rfl rfl ?_ | refine WOi.pu tabOk rfl rfl rfl rfl ?_ | refine Wi.seq ?_ | refine Wi.region ?_ | refine Wi.block ?_ | refine Wi.skip ?_ | refine Wi.exit ?_ | refine WOi.one rfl rfl rfl (OpW.load1 tabOk rfl rfl rfl rfl H8 (by (first | exact .head _ | exact .tail _ (.head _) | exact .tail _ (.tail _ (.head _)) | exact .tail _ (.tail _ (.tail _ (.head _))) | exact .tail _ (.tail _ (.tail _ (.tail _ (.head _)))) | exact .tail _ (.tail _ (.tail _ (.tail _ (.tail _ (.head _))))) | exact .tail _ (.tail _ (.tail _ (.tail _ (.tail _ (.tail _ (.head _)))))) | exact .tail _ (.tail _ (.tail _ (.tail _ (.tail _ (.tail _ (.tail _ (.head _))))))) | exact .tail _ (.tail _ (.tail _ (.tail _ (.tail _ (.tail _ (.tail _ (.tail _ (.head _)))))))) | exact .tail _ (.tail _ (.tail _ (.tail _ (.tail _ (.tail _ (.tail _ (.tail _ (.tail _ (.head _))))))))) | exact .tail _ (.tail _ (.tail _ (.tail _ (.tail _ (.tail _ (.tail _ (.tail _ (.tail _ (.tail _ (.head _)))))))))) | exact .tail _ (.tail _ (.tail _ (.tail _ (.tail _ (.tail _ (.tail _ (.tail _ (.tail _ (.tail _ (.tail _ (.head _))))))))))) | exact .tail _ (.tail _ (.tail _ (.tail _ (.tail _ (.tail _ (.tail _ (.tail _ (.tail _ (.tail _ (.tail _ (.tail _ (.head _)))))))))))) | exact .tail _ (.tail _ (.tail _ (.tail _ (.tail _ (.tail _ (.tail _ (.tail _ (.tail _ (.tail _ (.tail _ (.tail _ (.tail _ (.head _))))))))))))) | exact .tail _ (.tail _ (.tail _ (.tail _ (.tail _ (.tail _ (.tail _ (.tail _ (.tail _ (.tail _ (.tail _ (.tail _ (.tail _ (.tail _ (.head _)))))))))))))) | exact .tail _ (.tail _ (.tail _ (.tail _ (.tail _ (.tail _ (.tail _ (.tail _ (.tail _ (.tail _ (.tail _ (.tail _ (.tail _ (.tail _ (.tail _ (.head _))))))))))))))))) rfl ?_)))
        refine WOi.pv rfl rfl rfl (PureV.addN (n := 0) rfl rfl rfl (by omega)) ?_
        (repeat (first | refine WOi.run tabOk rfl rfl ?_ | refine WOi.nil ?_ | refine WOi.skip rfl rfl rfl ?_ | refine WOi.pu tabOk rfl rfl rfl rfl ?_ | refine Wi.seq ?_ | refine Wi.region ?_ | refine Wi.block ?_ | refine Wi.skip ?_ | refine Wi.exit ?_))
        refine WOi.act rfl rfl (OpW.store1 (i := 0) tabOk rfl rfl rfl rfl rfl H8 rfl rfl rfl ?_); intro V2 H8'
        (repeat (first | refine WOi.run tabOk rfl rfl ?_ | refine WOi.nil ?_ | refine WOi.skip rfl rfl rfl ?_ | refine WOi.pu tabOk rfl rfl rfl rfl ?_ | refine Wi.seq ?_ | refine Wi.region ?_ | refine Wi.block ?_ | refine Wi.skip ?_ | refine Wi.exit ?_))
        exact ⟨stKeeps H8' h8', stBelow H8' h8 hB.size, hB.trans (stBelow H8' h8 hB.size), H8'.holds (by simp)⟩
    · refine WOi.tell (d := 29) (u := .bool true) rfl (by simp [h5]) ?_
      (repeat (first | refine WOi.run tabOk rfl rfl ?_ | refine WOi.nil ?_ | refine WOi.skip rfl rfl rfl ?_ | refine WOi.pu tabOk rfl rfl rfl rfl ?_ | refine Wi.seq ?_ | refine Wi.region ?_ | refine Wi.block ?_ | refine Wi.skip ?_ | refine Wi.exit ?_))
      refine Wi.cond_t rfl ?_
      (repeat (first | refine WOi.run tabOk rfl rfl ?_ | refine WOi.nil ?_ | refine WOi.skip rfl rfl rfl ?_ | refine WOi.pu tabOk rfl rfl rfl rfl ?_ | refine Wi.seq ?_ | refine Wi.region ?_ | refine Wi.block ?_ | refine Wi.skip ?_ | refine Wi.exit ?_))
      have h6 := stOwn ((HP.holds (A := blk b6 4 [.bool false]) (by simp)).below hB)
      refine WOi.act rfl rfl (OpW.store1 (i := 0) tabOk rfl rfl rfl rfl rfl h6 rfl rfl rfl ?_); intro V2 h6'
      (repeat (first | refine WOi.run tabOk rfl rfl ?_ | refine WOi.nil ?_ | refine WOi.skip rfl rfl rfl ?_ | refine WOi.pu tabOk rfl rfl rfl rfl ?_ | refine Wi.seq ?_ | refine Wi.region ?_ | refine Wi.block ?_ | refine Wi.skip ?_ | refine Wi.exit ?_))
      refine Wi.ret ?_
      exact ⟨stKeeps h6' h6lt, rfl, fun hp => by have := List.cons_prefix_cons.1 (show e :: [] <+: (5, ⟨#[97]⟩) :: [] from hp); exact h5 (by rw [this.1])⟩

  rotate_left
  · rintro cc pre V ⟨rfl, _⟩; exact .inl rfl
  · rintro D pre V _ hSp ⟨_, hn⟩ _; exact absurd hSp hn
  · rintro D pre V _ _ ⟨hx, _⟩ _; exact nomatch hx
  rintro D xs V hD rfl ⟨hB, hS8⟩ hdef
  have HV := St.addDef HP hB (Nat.le_trans hVP9.size hD) hdef
  have hHV := ((hH.pure hpw).below hB)
  have hwD : w.heap.size ≤ D := Nat.le_trans hpw.like.size (Nat.le_trans hVP9.size hD)
  have H1 := St.start [blk b8 3 [.int .i64 ((1 : Nat) : Int)]] (w := V) (by simpa using hS8)
  clear H hblk8 hsq hVP9
  refine Wj.seq ?_
  (repeat (first | refine WOi.run tabOk rfl rfl ?_ | refine WOi.nil ?_ | refine WOi.skip rfl rfl rfl ?_ | refine WOi.pu tabOk rfl rfl rfl rfl ?_ | refine Wi.seq ?_ | refine Wi.region ?_ | refine Wi.block ?_ | refine Wi.skip ?_ | refine Wi.exit ?_ | refine WOi.one rfl rfl rfl (OpW.load1 tabOk rfl rfl rfl rfl H1 (by (first | exact .head _ | exact .tail _ (.head _) | exact .tail _ (.tail _ (.head _)) | exact .tail _ (.tail _ (.tail _ (.head _))) | exact .tail _ (.tail _ (.tail _ (.tail _ (.head _)))) | exact .tail _ (.tail _ (.tail _ (.tail _ (.tail _ (.head _))))) | exact .tail _ (.tail _ (.tail _ (.tail _ (.tail _ (.tail _ (.head _)))))) | exact .tail _ (.tail _ (.tail _ (.tail _ (.tail _ (.tail _ (.tail _ (.head _))))))) | exact .tail _ (.tail _ (.tail _ (.tail _ (.tail _ (.tail _ (.tail _ (.tail _ (.head _)))))))) | exact .tail _ (.tail _ (.tail _ (.tail _ (.tail _ (.tail _ (.tail _ (.tail _ (.tail _ (.head _))))))))) | exact .tail _ (.tail _ (.tail _ (.tail _ (.tail _ (.tail _ (.tail _ (.tail _ (.tail _ (.tail _ (.head _)))))))))) | exact .tail _ (.tail _ (.tail _ (.tail _ (.tail _ (.tail _ (.tail _ (.tail _ (.tail _ (.tail _ (.tail _ (.head _))))))))))) | exact .tail _ (.tail _ (.tail _ (.tail _ (.tail _ (.tail _ (.tail _ (.tail _ (.tail _ (.tail _ (.tail _ (.tail _ (.head _)))))))))))) | exact .tail _ (.tail _ (.tail _ (.tail _ (.tail _ (.tail _ (.tail _ (.tail _ (.tail _ (.tail _ (.tail _ (.tail _ (.tail _ (.head _))))))))))))) | exact .tail _ (.tail _ (.tail _ (.tail _ (.tail _ (.tail _ (.tail _ (.tail _ (.tail _ (.tail _ (.tail _ (.tail _ (.tail _ (.tail _ (.head _)))))))))))))) | exact .tail _ (.tail _ (.tail _ (.tail _ (.tail _ (.tail _ (.tail _ (.tail _ (.tail _ (.tail _ (.tail _ (.tail _ (.tail _ (.tail _ (.tail _ (.head _))))))))))))))))) rfl ?_)))
  refine Wi.cond_f rfl ?_
  (repeat (first | refine WOi.run tabOk rfl rfl ?_ | refine WOi.nil ?_ | refine WOi.skip rfl rfl rfl ?_ | refine WOi.pu tabOk rfl rfl rfl rfl ?_ | refine Wi.seq ?_ | refine Wi.region ?_ | refine Wi.block ?_ | refine Wi.skip ?_ | refine Wi.exit ?_))
  refine Wj.seq ?_
  clear H1 hS8
  (repeat (first | refine WOi.run tabOk rfl rfl ?_ | refine WOi.nil ?_ | refine WOi.skip rfl rfl rfl ?_ | refine WOi.pu tabOk rfl rfl rfl rfl ?_ | refine Wi.seq ?_ | refine Wi.region ?_ | refine Wi.block ?_ | refine Wi.skip ?_ | refine Wi.exit ?_))
  refine WOi.one rfl rfl rfl (OpW.call rfl Try.call10 rfl (Calls.ret (treed_ok V a c l hHV) ?_))
  rintro _ V2 ⟨bt2, rfl, br2, h2, x2, HT2, T2, he2⟩
  have H := HV.take HT2
  rw [← he2] at H
  (repeat (first | refine WOi.run tabOk rfl rfl ?_ | refine WOi.nil ?_ | refine WOi.skip rfl rfl rfl ?_ | refine WOi.pu tabOk rfl rfl rfl rfl ?_ | refine Wi.seq ?_ | refine Wi.region ?_ | refine Wi.block ?_ | refine Wi.skip ?_ | refine Wi.exit ?_))
  refine WOi.act rfl rfl (OpW.store1 (i := 3) tabOk rfl rfl rfl rfl rfl H rfl rfl rfl ?_); intro V3 H
  (repeat (first | refine WOi.run tabOk rfl rfl ?_ | refine WOi.nil ?_ | refine WOi.skip rfl rfl rfl ?_ | refine WOi.pu tabOk rfl rfl rfl rfl ?_ | refine Wi.seq ?_ | refine Wi.region ?_ | refine Wi.block ?_ | refine Wi.skip ?_ | refine Wi.exit ?_))
  clear HV HT2 HP hHV hB hdef hout h8 h8'
  refine Wj.seq ?_
  obtain ⟨VQ, hVQ⟩ : ∃ Z, Z = V3 := ⟨_, rfl⟩
  have HQ := H
  rw [← hVQ] at HQ
  rw [← hVQ]
  clear H hVQ
  have H := St.start [blk b7 23 [.pointer (some ⟨bt2, 0, none⟩)], blk bt2 84 [.pointer (some ⟨br2, 0, none⟩), .int .i64 ((ents h2 x2).length : Int)], nodeA h2 br2 x2, blk b5 3 [.int .i64 most]] (w := VQ) (by
    intro A hA
    simp only [List.mem_cons, List.not_mem_nil, or_false] at hA
    rcases hA with rfl | rfl | rfl | rfl <;> exact HQ.holds (by simp))
  (repeat (first | refine WOi.run tabOk rfl rfl ?_ | refine WOi.nil ?_ | refine WOi.skip rfl rfl rfl ?_ | refine WOi.pu tabOk rfl rfl rfl rfl ?_ | refine Wi.seq ?_ | refine Wi.region ?_ | refine Wi.block ?_ | refine Wi.skip ?_ | refine Wi.exit ?_))
  refine WOi.one rfl rfl rfl (OpW.alloc rfl zero3 rfl H ?_); intro b11 w7 H
  refine WOi.one rfl rfl rfl (OpW.alloc rfl zero3 rfl H ?_); intro b12 w8 H
  refine WOi.act rfl rfl (OpW.store1 (i := 1) tabOk rfl rfl rfl rfl rfl H rfl rfl rfl ?_); intro w8 H
  refine WOi.act rfl rfl (OpW.store1 (i := 1) tabOk rfl rfl rfl rfl rfl H rfl rfl rfl ?_); intro w8 H
  (repeat (first | refine WOi.run tabOk rfl rfl ?_ | refine WOi.nil ?_ | refine WOi.skip rfl rfl rfl ?_ | refine WOi.pu tabOk rfl rfl rfl rfl ?_ | refine Wi.seq ?_ | refine Wi.region ?_ | refine Wi.block ?_ | refine Wi.skip ?_ | refine Wi.exit ?_))
  refine Wj.seq2 ?_
  (repeat (first | refine WOi.run tabOk rfl rfl ?_ | refine WOi.nil ?_ | refine WOi.skip rfl rfl rfl ?_ | refine WOi.pu tabOk rfl rfl rfl rfl ?_ | refine Wi.seq ?_ | refine Wi.region ?_ | refine Wi.block ?_ | refine Wi.skip ?_ | refine Wi.exit ?_ | refine WOi.one rfl rfl rfl (OpW.load1 tabOk rfl rfl rfl rfl H (by (first | exact .head _ | exact .tail _ (.head _) | exact .tail _ (.tail _ (.head _)) | exact .tail _ (.tail _ (.tail _ (.head _))) | exact .tail _ (.tail _ (.tail _ (.tail _ (.head _)))) | exact .tail _ (.tail _ (.tail _ (.tail _ (.tail _ (.head _))))) | exact .tail _ (.tail _ (.tail _ (.tail _ (.tail _ (.tail _ (.head _)))))) | exact .tail _ (.tail _ (.tail _ (.tail _ (.tail _ (.tail _ (.tail _ (.head _))))))) | exact .tail _ (.tail _ (.tail _ (.tail _ (.tail _ (.tail _ (.tail _ (.tail _ (.head _)))))))) | exact .tail _ (.tail _ (.tail _ (.tail _ (.tail _ (.tail _ (.tail _ (.tail _ (.tail _ (.head _))))))))) | exact .tail _ (.tail _ (.tail _ (.tail _ (.tail _ (.tail _ (.tail _ (.tail _ (.tail _ (.tail _ (.head _)))))))))) | exact .tail _ (.tail _ (.tail _ (.tail _ (.tail _ (.tail _ (.tail _ (.tail _ (.tail _ (.tail _ (.tail _ (.head _))))))))))) | exact .tail _ (.tail _ (.tail _ (.tail _ (.tail _ (.tail _ (.tail _ (.tail _ (.tail _ (.tail _ (.tail _ (.tail _ (.head _)))))))))))) | exact .tail _ (.tail _ (.tail _ (.tail _ (.tail _ (.tail _ (.tail _ (.tail _ (.tail _ (.tail _ (.tail _ (.tail _ (.tail _ (.head _))))))))))))) | exact .tail _ (.tail _ (.tail _ (.tail _ (.tail _ (.tail _ (.tail _ (.tail _ (.tail _ (.tail _ (.tail _ (.tail _ (.tail _ (.tail _ (.head _)))))))))))))) | exact .tail _ (.tail _ (.tail _ (.tail _ (.tail _ (.tail _ (.tail _ (.tail _ (.tail _ (.tail _ (.tail _ (.tail _ (.tail _ (.tail _ (.tail _ (.head _))))))))))))))))) rfl ?_)))
  refine WOi.one rfl rfl rfl (OpW.call rfl Try.call13 rfl (Calls.ret (from_ok (at0 VQ) _ _ _ bt2 frm H) ?_))
  clear H
  rintro _ w9 ⟨b1, b2, rfl, H⟩
  (repeat (first | refine WOi.run tabOk rfl rfl ?_ | refine WOi.nil ?_ | refine WOi.skip rfl rfl rfl ?_ | refine WOi.pu tabOk rfl rfl rfl rfl ?_ | refine Wi.seq ?_ | refine Wi.region ?_ | refine Wi.block ?_ | refine Wi.skip ?_ | refine Wi.exit ?_))
  have hn := T2.len
  have hwk := T2.bt.wk (by omega) T2.so
  have hblk11 : Holds w9 (blk b11 3 [.int .i64 frm]) := H.holds (by simp)
  have hblk12 : Holds w9 (blk b12 3 [.int .i64 0]) := H.holds (by simp)
  have h11ge : VQ.heap.size ≤ b11 := own_ge (e := 3) (l := [.int .i64 frm]) H (by simp)
  have h12ge : VQ.heap.size ≤ b12 := own_ge (e := 3) (l := [.int .i64 0]) H (by simp)
  have h11lt : b11 < w9.heap.size := blk_lt hblk11
  have h12lt : b12 < w9.heap.size := blk_lt hblk12
  have hne : b11 ≠ b12 := by
    obtain ⟨O, hS, _⟩ := H.sep
    obtain ⟨_, O1, _, ⟨_, O2, _, ⟨S3, O3, e3, ⟨S4, O4, e4, _, g4, _⟩, _, f3⟩, _, _⟩, _, _⟩ := hS
    intro e
    exact f3 b12 ((e3.1 b12).2 rfl) ((g4 b12).2 (.inl ((e4.1 b12).2 e.symm)))
  have hVQ9 : Below VQ.heap.size VQ w9 := H.pure.below (Nat.le_refl _)
  have hsq := seq_ok VQ w9 hVQ9 b1 b2 bt2 br2 h2 _ 4 x2 ((ents h2 x2).length : Int) frm (H.holds (by simp)) (H.holds (by simp)) (HQ.holds (by simp)) (HQ.holds (A := nodeA h2 br2 x2) (by simp)) T2.bt (by omega) T2.so
  have hol : (fromS frm (ents h2 x2)).length ≤ (ents h2 x2).length := List.length_filter_le _ _
  show Gw.Wk _ _ _ _ _ _ _ _
  refine Gw.Wk.range rfl rfl Try.call38 hsq belowK_t (belowK_b hVQ9.size) (fun V => Below.refl _ V) (Below.refl _ _) (fun _ => rfl) (by decide)
    (fun pre V => Below VQ.heap.size VQ V ∧ Holds V (blk b11 3 [.int .i64 (lastK frm pre)]) ∧ Holds V (blk b12 3 [.int .i64 (pre.length : Int)])) (fun cc s V => (cc = .ret ∧ ¬ s <+: fromS frm (ents h2 x2)) ∨ (cc = .exit 2 ∧ Below VQ.heap.size VQ V ∧ Holds V (blk b12 3 [.int .i64 ((s.length - 1 : Nat) : Int)])))
    (OwnFrom.and (ownFrom_below (Nat.le_refl _) hVQ9.size) (OwnFrom.and (own_blk h11lt _) (own_blk h12lt _))) (fun cc s V V' row h hg hr => h.imp id fun h => ⟨h.1, (OwnFrom.and (ownFrom_below (Nat.le_refl _) hVQ9.size) (own_blk h12lt (fun s : List En => [.int .i64 ((s.length - 1 : Nat) : Int)]))) s V V' row h.2 hg hr⟩) ⟨hVQ9, hblk11, hblk12⟩
    (fun e => [(5, .pointer (some ⟨b5, 0, none⟩)), (6, .pointer (some ⟨b6, 0, none⟩)), (7, .pointer (some ⟨b7, 0, none⟩)), (11, .pointer (some ⟨b11, 0, none⟩)), (12, .pointer (some ⟨b12, 0, none⟩)), (13, .int .i64 e.1), (14, .string e.2)]) ?_ ?_ ?_ ?_ ?_ ?_
  · intro l' e V
    (repeat (first | refine WOi.run tabOk rfl rfl ?_ | refine WOi.nil ?_ | refine WOi.skip rfl rfl rfl ?_ | refine WOi.pu tabOk rfl rfl rfl rfl ?_ | refine Wi.seq ?_ | refine Wi.region ?_ | refine Wi.block ?_ | refine Wi.skip ?_ | refine Wi.exit ?_))
    exact ⟨rfl, sub_keep [5, 6, 7, 11, 12, 13, 14] rfl⟩
  · rintro l' pre e V hl ⟨hB, h11, h12⟩ hlen
    have h6lt : b6 < w9.heap.size := Nat.lt_of_lt_of_le (blk_lt (HQ.holds (A := blk b6 4 [.bool false]) (by simp))) hVQ9.size
    have H1 := St.start [blk b12 3 [.int .i64 (pre.length : Int)], blk b5 3 [.int .i64 most], blk b7 23 [.pointer (some ⟨bt2, 0, none⟩)]] (w := V) (by
      intro A hA
      simp only [List.mem_cons, List.not_mem_nil, or_false] at hA
      rcases hA with rfl | rfl | rfl
      · exact h12
      · exact (HQ.holds (by simp)).below hB
      · exact (HQ.holds (by simp)).below hB)
    (repeat (first | refine WOi.run tabOk rfl rfl ?_ | refine WOi.nil ?_ | refine WOi.skip rfl rfl rfl ?_ | refine WOi.pu tabOk rfl rfl rfl rfl ?_ | refine Wi.seq ?_ | refine Wi.region ?_ | refine Wi.block ?_ | refine Wi.skip ?_ | refine Wi.exit ?_ | refine WOi.one rfl rfl rfl (OpW.load1 tabOk rfl rfl rfl rfl H1 (by (first | exact .head _ | exact .tail _ (.head _) | exact .tail _ (.tail _ (.head _)) | exact .tail _ (.tail _ (.tail _ (.head _))) | exact .tail _ (.tail _ (.tail _ (.tail _ (.head _)))) | exact .tail _ (.tail _ (.tail _ (.tail _ (.tail _ (.head _))))) | exact .tail _ (.tail _ (.tail _ (.tail _ (.tail _ (.tail _ (.head _)))))) | exact .tail _ (.tail _ (.tail _ (.tail _ (.tail _ (.tail _ (.tail _ (.head _))))))) | exact .tail _ (.tail _ (.tail _ (.tail _ (.tail _ (.tail _ (.tail _ (.tail _ (.head _)))))))) | exact .tail _ (.tail _ (.tail _ (.tail _ (.tail _ (.tail _ (.tail _ (.tail _ (.tail _ (.head _))))))))) | exact .tail _ (.tail _ (.tail _ (.tail _ (.tail _ (.tail _ (.tail _ (.tail _ (.tail _ (.tail _ (.head _)))))))))) | exact .tail _ (.tail _ (.tail _ (.tail _ (.tail _ (.tail _ (.tail _ (.tail _ (.tail _ (.tail _ (.tail _ (.head _))))))))))) | exact .tail _ (.tail _ (.tail _ (.tail _ (.tail _ (.tail _ (.tail _ (.tail _ (.tail _ (.tail _ (.tail _ (.tail _ (.head _)))))))))))) | exact .tail _ (.tail _ (.tail _ (.tail _ (.tail _ (.tail _ (.tail _ (.tail _ (.tail _ (.tail _ (.tail _ (.tail _ (.tail _ (.head _))))))))))))) | exact .tail _ (.tail _ (.tail _ (.tail _ (.tail _ (.tail _ (.tail _ (.tail _ (.tail _ (.tail _ (.tail _ (.tail _ (.tail _ (.tail _ (.head _)))))))))))))) | exact .tail _ (.tail _ (.tail _ (.tail _ (.tail _ (.tail _ (.tail _ (.tail _ (.tail _ (.tail _ (.tail _ (.tail _ (.tail _ (.tail _ (.tail _ (.head _))))))))))))))))) rfl ?_)))
    refine Wi.cond rfl (fun hmost => ?_) (fun hmost => ?_)
    · (repeat (first | refine WOi.run tabOk rfl rfl ?_ | refine WOi.nil ?_ | refine WOi.skip rfl rfl rfl ?_ | refine WOi.pu tabOk rfl rfl rfl rfl ?_ | refine Wi.seq ?_ | refine Wi.region ?_ | refine Wi.block ?_ | refine Wi.skip ?_ | refine Wi.exit ?_))
      exact ⟨KeepsFrom.refl _ _, .inr ⟨rfl, hB, by simpa using h12⟩⟩
    (repeat (first | refine WOi.run tabOk rfl rfl ?_ | refine WOi.nil ?_ | refine WOi.skip rfl rfl rfl ?_ | refine WOi.pu tabOk rfl rfl rfl rfl ?_ | refine Wi.seq ?_ | refine Wi.region ?_ | refine Wi.block ?_ | refine Wi.skip ?_ | refine Wi.exit ?_ | refine WOi.one rfl rfl rfl (OpW.load1 tabOk rfl rfl rfl rfl H1 (by (first | exact .head _ | exact .tail _ (.head _) | exact .tail _ (.tail _ (.head _)) | exact .tail _ (.tail _ (.tail _ (.head _))) | exact .tail _ (.tail _ (.tail _ (.tail _ (.head _)))) | exact .tail _ (.tail _ (.tail _ (.tail _ (.tail _ (.head _))))) | exact .tail _ (.tail _ (.tail _ (.tail _ (.tail _ (.tail _ (.head _)))))) | exact .tail _ (.tail _ (.tail _ (.tail _ (.tail _ (.tail _ (.tail _ (.head _))))))) | exact .tail _ (.tail _ (.tail _ (.tail _ (.tail _ (.tail _ (.tail _ (.tail _ (.head _)))))))) | exact .tail _ (.tail _ (.tail _ (.tail _ (.tail _ (.tail _ (.tail _ (.tail _ (.tail _ (.head _))))))))) | exact .tail _ (.tail _ (.tail _ (.tail _ (.tail _ (.tail _ (.tail _ (.tail _ (.tail _ (.tail _ (.head _)))))))))) | exact .tail _ (.tail _ (.tail _ (.tail _ (.tail _ (.tail _ (.tail _ (.tail _ (.tail _ (.tail _ (.tail _ (.head _))))))))))) | exact .tail _ (.tail _ (.tail _ (.tail _ (.tail _ (.tail _ (.tail _ (.tail _ (.tail _ (.tail _ (.tail _ (.tail _ (.head _)))))))))))) | exact .tail _ (.tail _ (.tail _ (.tail _ (.tail _ (.tail _ (.tail _ (.tail _ (.tail _ (.tail _ (.tail _ (.tail _ (.tail _ (.head _))))))))))))) | exact .tail _ (.tail _ (.tail _ (.tail _ (.tail _ (.tail _ (.tail _ (.tail _ (.tail _ (.tail _ (.tail _ (.tail _ (.tail _ (.tail _ (.head _)))))))))))))) | exact .tail _ (.tail _ (.tail _ (.tail _ (.tail _ (.tail _ (.tail _ (.tail _ (.tail _ (.tail _ (.tail _ (.tail _ (.tail _ (.tail _ (.tail _ (.head _))))))))))))))))) rfl ?_)))
    refine WOi.one rfl rfl rfl (OpW.call rfl Try.call14 rfl (Calls.ret (get_ok V bt2 br2 h2 x2 ((ents h2 x2).length : Int) e.1 ((HQ.holds (by simp)).below hB) ((HQ.holds (A := nodeA h2 br2 x2) (by simp)).below hB) hwk) ?_))
    rintro _ V4 ⟨hp4, rfl⟩
    rw [get_law T2.bt T2.so, putF_err]
    clear H1
    have H1 := St.start [blk b12 3 [.int .i64 (pre.length : Int)], blk b11 3 [.int .i64 (lastK frm pre)]] (w := V4) (by
      intro A hA
      simp only [List.mem_cons, List.not_mem_nil, or_false] at hA
      rcases hA with rfl | rfl
      · exact h12.pure hp4
      · exact h11.pure hp4)
    (repeat (first | refine WOi.run tabOk rfl rfl ?_ | refine WOi.nil ?_ | refine WOi.skip rfl rfl rfl ?_ | refine WOi.pu tabOk rfl rfl rfl rfl ?_ | refine Wi.seq ?_ | refine Wi.region ?_ | refine Wi.block ?_ | refine Wi.skip ?_ | refine Wi.exit ?_ | refine WOi.one rfl rfl rfl (OpW.load1 tabOk rfl rfl rfl rfl H1 (by (first | exact .head _ | exact .tail _ (.head _) | exact .tail _ (.tail _ (.head _)) | exact .tail _ (.tail _ (.tail _ (.head _))) | exact .tail _ (.tail _ (.tail _ (.tail _ (.head _)))) | exact .tail _ (.tail _ (.tail _ (.tail _ (.tail _ (.head _))))) | exact .tail _ (.tail _ (.tail _ (.tail _ (.tail _ (.tail _ (.head _)))))) | exact .tail _ (.tail _ (.tail _ (.tail _ (.tail _ (.tail _ (.tail _ (.head _))))))) | exact .tail _ (.tail _ (.tail _ (.tail _ (.tail _ (.tail _ (.tail _ (.tail _ (.head _)))))))) | exact .tail _ (.tail _ (.tail _ (.tail _ (.tail _ (.tail _ (.tail _ (.tail _ (.tail _ (.head _))))))))) | exact .tail _ (.tail _ (.tail _ (.tail _ (.tail _ (.tail _ (.tail _ (.tail _ (.tail _ (.tail _ (.head _)))))))))) | exact .tail _ (.tail _ (.tail _ (.tail _ (.tail _ (.tail _ (.tail _ (.tail _ (.tail _ (.tail _ (.tail _ (.head _))))))))))) | exact .tail _ (.tail _ (.tail _ (.tail _ (.tail _ (.tail _ (.tail _ (.tail _ (.tail _ (.tail _ (.tail _ (.tail _ (.head _)))))))))))) | exact .tail _ (.tail _ (.tail _ (.tail _ (.tail _ (.tail _ (.tail _ (.tail _ (.tail _ (.tail _ (.tail _ (.tail _ (.tail _ (.head _))))))))))))) | exact .tail _ (.tail _ (.tail _ (.tail _ (.tail _ (.tail _ (.tail _ (.tail _ (.tail _ (.tail _ (.tail _ (.tail _ (.tail _ (.tail _ (.head _)))))))))))))) | exact .tail _ (.tail _ (.tail _ (.tail _ (.tail _ (.tail _ (.tail _ (.tail _ (.tail _ (.tail _ (.tail _ (.tail _ (.tail _ (.tail _ (.tail _ (.head _))))))))))))))))) rfl ?_)))
    by_cases hp : (pre ++ [e]) <+: fromS frm (ents h2 x2)
    · obtain ⟨f1, f2, f3⟩ := pre_facts T2.so hp
      refine WOi.tell (d := 56) (u := .bool false) rfl (by rw [f1]; rfl) ?_
      (repeat (first | refine WOi.run tabOk rfl rfl ?_ | refine WOi.nil ?_ | refine WOi.skip rfl rfl rfl ?_ | refine WOi.pu tabOk rfl rfl rfl rfl ?_ | refine Wi.seq ?_ | refine Wi.region ?_ | refine Wi.block ?_ | refine Wi.skip ?_ | refine Wi.exit ?_ | refine WOi.one rfl rfl rfl (OpW.load1 tabOk rfl rfl rfl rfl H1 (by (first | exact .head _ | exact .tail _ (.head _) | exact .tail _ (.tail _ (.head _)) | exact .tail _ (.tail _ (.tail _ (.head _))) | exact .tail _ (.tail _ (.tail _ (.tail _ (.head _)))) | exact .tail _ (.tail _ (.tail _ (.tail _ (.tail _ (.head _))))) | exact .tail _ (.tail _ (.tail _ (.tail _ (.tail _ (.tail _ (.head _)))))) | exact .tail _ (.tail _ (.tail _ (.tail _ (.tail _ (.tail _ (.tail _ (.head _))))))) | exact .tail _ (.tail _ (.tail _ (.tail _ (.tail _ (.tail _ (.tail _ (.tail _ (.head _)))))))) | exact .tail _ (.tail _ (.tail _ (.tail _ (.tail _ (.tail _ (.tail _ (.tail _ (.tail _ (.head _))))))))) | exact .tail _ (.tail _ (.tail _ (.tail _ (.tail _ (.tail _ (.tail _ (.tail _ (.tail _ (.tail _ (.head _)))))))))) | exact .tail _ (.tail _ (.tail _ (.tail _ (.tail _ (.tail _ (.tail _ (.tail _ (.tail _ (.tail _ (.tail _ (.head _))))))))))) | exact .tail _ (.tail _ (.tail _ (.tail _ (.tail _ (.tail _ (.tail _ (.tail _ (.tail _ (.tail _ (.tail _ (.tail _ (.head _)))))))))))) | exact .tail _ (.tail _ (.tail _ (.tail _ (.tail _ (.tail _ (.tail _ (.tail _ (.tail _ (.tail _ (.tail _ (.tail _ (.tail _ (.head _))))))))))))) | exact .tail _ (.tail _ (.tail _ (.tail _ (.tail _ (.tail _ (.tail _ (.tail _ (.tail _ (.tail _ (.tail _ (.tail _ (.tail _ (.tail _ (.head _)))))))))))))) | exact .tail _ (.tail _ (.tail _ (.tail _ (.tail _ (.tail _ (.tail _ (.tail _ (.tail _ (.tail _ (.tail _ (.tail _ (.tail _ (.tail _ (.tail _ (.head _))))))))))))))))) rfl ?_)))
      refine WOi.tell (d := 61) (u := .bool false) rfl (by rw [f1]; simp [pickV]) ?_
      (repeat (first | refine WOi.run tabOk rfl rfl ?_ | refine WOi.nil ?_ | refine WOi.skip rfl rfl rfl ?_ | refine WOi.pu tabOk rfl rfl rfl rfl ?_ | refine Wi.seq ?_ | refine Wi.region ?_ | refine Wi.block ?_ | refine Wi.skip ?_ | refine Wi.exit ?_ | refine WOi.one rfl rfl rfl (OpW.load1 tabOk rfl rfl rfl rfl H1 (by (first | exact .head _ | exact .tail _ (.head _) | exact .tail _ (.tail _ (.head _)) | exact .tail _ (.tail _ (.tail _ (.head _))) | exact .tail _ (.tail _ (.tail _ (.tail _ (.head _)))) | exact .tail _ (.tail _ (.tail _ (.tail _ (.tail _ (.head _))))) | exact .tail _ (.tail _ (.tail _ (.tail _ (.tail _ (.tail _ (.head _)))))) | exact .tail _ (.tail _ (.tail _ (.tail _ (.tail _ (.tail _ (.tail _ (.head _))))))) | exact .tail _ (.tail _ (.tail _ (.tail _ (.tail _ (.tail _ (.tail _ (.tail _ (.head _)))))))) | exact .tail _ (.tail _ (.tail _ (.tail _ (.tail _ (.tail _ (.tail _ (.tail _ (.tail _ (.head _))))))))) | exact .tail _ (.tail _ (.tail _ (.tail _ (.tail _ (.tail _ (.tail _ (.tail _ (.tail _ (.tail _ (.head _)))))))))) | exact .tail _ (.tail _ (.tail _ (.tail _ (.tail _ (.tail _ (.tail _ (.tail _ (.tail _ (.tail _ (.tail _ (.head _))))))))))) | exact .tail _ (.tail _ (.tail _ (.tail _ (.tail _ (.tail _ (.tail _ (.tail _ (.tail _ (.tail _ (.tail _ (.tail _ (.head _)))))))))))) | exact .tail _ (.tail _ (.tail _ (.tail _ (.tail _ (.tail _ (.tail _ (.tail _ (.tail _ (.tail _ (.tail _ (.tail _ (.tail _ (.head _))))))))))))) | exact .tail _ (.tail _ (.tail _ (.tail _ (.tail _ (.tail _ (.tail _ (.tail _ (.tail _ (.tail _ (.tail _ (.tail _ (.tail _ (.tail _ (.head _)))))))))))))) | exact .tail _ (.tail _ (.tail _ (.tail _ (.tail _ (.tail _ (.tail _ (.tail _ (.tail _ (.tail _ (.tail _ (.tail _ (.tail _ (.tail _ (.tail _ (.head _))))))))))))))))) rfl ?_)))
      refine WOi.tell (d := 66) (u := .bool false) rfl (by simp [pickV]; omega) ?_
      (repeat (first | refine WOi.run tabOk rfl rfl ?_ | refine WOi.nil ?_ | refine WOi.skip rfl rfl rfl ?_ | refine WOi.pu tabOk rfl rfl rfl rfl ?_ | refine Wi.seq ?_ | refine Wi.region ?_ | refine Wi.block ?_ | refine Wi.skip ?_ | refine Wi.exit ?_ | refine WOi.one rfl rfl rfl (OpW.load1 tabOk rfl rfl rfl rfl H1 (by (first | exact .head _ | exact .tail _ (.head _) | exact .tail _ (.tail _ (.head _)) | exact .tail _ (.tail _ (.tail _ (.head _))) | exact .tail _ (.tail _ (.tail _ (.tail _ (.head _)))) | exact .tail _ (.tail _ (.tail _ (.tail _ (.tail _ (.head _))))) | exact .tail _ (.tail _ (.tail _ (.tail _ (.tail _ (.tail _ (.head _)))))) | exact .tail _ (.tail _ (.tail _ (.tail _ (.tail _ (.tail _ (.tail _ (.head _))))))) | exact .tail _ (.tail _ (.tail _ (.tail _ (.tail _ (.tail _ (.tail _ (.tail _ (.head _)))))))) | exact .tail _ (.tail _ (.tail _ (.tail _ (.tail _ (.tail _ (.tail _ (.tail _ (.tail _ (.head _))))))))) | exact .tail _ (.tail _ (.tail _ (.tail _ (.tail _ (.tail _ (.tail _ (.tail _ (.tail _ (.tail _ (.head _)))))))))) | exact .tail _ (.tail _ (.tail _ (.tail _ (.tail _ (.tail _ (.tail _ (.tail _ (.tail _ (.tail _ (.tail _ (.head _))))))))))) | exact .tail _ (.tail _ (.tail _ (.tail _ (.tail _ (.tail _ (.tail _ (.tail _ (.tail _ (.tail _ (.tail _ (.tail _ (.head _)))))))))))) | exact .tail _ (.tail _ (.tail _ (.tail _ (.tail _ (.tail _ (.tail _ (.tail _ (.tail _ (.tail _ (.tail _ (.tail _ (.tail _ (.head _))))))))))))) | exact .tail _ (.tail _ (.tail _ (.tail _ (.tail _ (.tail _ (.tail _ (.tail _ (.tail _ (.tail _ (.tail _ (.tail _ (.tail _ (.tail _ (.head _)))))))))))))) | exact .tail _ (.tail _ (.tail _ (.tail _ (.tail _ (.tail _ (.tail _ (.tail _ (.tail _ (.tail _ (.tail _ (.tail _ (.tail _ (.tail _ (.tail _ (.head _))))))))))))))))) rfl ?_)))
      by_cases hnil : pre = []
      · refine WOi.tell (d := 69) (u := .bool false) rfl (by rw [hnil]; rfl) ?_
        (repeat (first | refine WOi.run tabOk rfl rfl ?_ | refine WOi.nil ?_ | refine WOi.skip rfl rfl rfl ?_ | refine WOi.pu tabOk rfl rfl rfl rfl ?_ | refine Wi.seq ?_ | refine Wi.region ?_ | refine Wi.block ?_ | refine Wi.skip ?_ | refine Wi.exit ?_ | refine WOi.one rfl rfl rfl (OpW.load1 tabOk rfl rfl rfl rfl H1 (by (first | exact .head _ | exact .tail _ (.head _) | exact .tail _ (.tail _ (.head _)) | exact .tail _ (.tail _ (.tail _ (.head _))) | exact .tail _ (.tail _ (.tail _ (.tail _ (.head _)))) | exact .tail _ (.tail _ (.tail _ (.tail _ (.tail _ (.head _))))) | exact .tail _ (.tail _ (.tail _ (.tail _ (.tail _ (.tail _ (.head _)))))) | exact .tail _ (.tail _ (.tail _ (.tail _ (.tail _ (.tail _ (.tail _ (.head _))))))) | exact .tail _ (.tail _ (.tail _ (.tail _ (.tail _ (.tail _ (.tail _ (.tail _ (.head _)))))))) | exact .tail _ (.tail _ (.tail _ (.tail _ (.tail _ (.tail _ (.tail _ (.tail _ (.tail _ (.head _))))))))) | exact .tail _ (.tail _ (.tail _ (.tail _ (.tail _ (.tail _ (.tail _ (.tail _ (.tail _ (.tail _ (.head _)))))))))) | exact .tail _ (.tail _ (.tail _ (.tail _ (.tail _ (.tail _ (.tail _ (.tail _ (.tail _ (.tail _ (.tail _ (.head _))))))))))) | exact .tail _ (.tail _ (.tail _ (.tail _ (.tail _ (.tail _ (.tail _ (.tail _ (.tail _ (.tail _ (.tail _ (.tail _ (.head _)))))))))))) | exact .tail _ (.tail _ (.tail _ (.tail _ (.tail _ (.tail _ (.tail _ (.tail _ (.tail _ (.tail _ (.tail _ (.tail _ (.tail _ (.head _))))))))))))) | exact .tail _ (.tail _ (.tail _ (.tail _ (.tail _ (.tail _ (.tail _ (.tail _ (.tail _ (.tail _ (.tail _ (.tail _ (.tail _ (.tail _ (.head _)))))))))))))) | exact .tail _ (.tail _ (.tail _ (.tail _ (.tail _ (.tail _ (.tail _ (.tail _ (.tail _ (.tail _ (.tail _ (.tail _ (.tail _ (.tail _ (.tail _ (.head _))))))))))))))))) rfl ?_)))
        refine Wi.cond_f rfl ?_
        (repeat (first | refine WOi.run tabOk rfl rfl ?_ | refine WOi.nil ?_ | refine WOi.skip rfl rfl rfl ?_ | refine WOi.pu tabOk rfl rfl rfl rfl ?_ | refine Wi.seq ?_ | refine Wi.region ?_ | refine Wi.block ?_ | refine Wi.skip ?_ | refine Wi.exit ?_))
        have H11 := stOwn (h11.pure hp4)
        refine WOi.act rfl rfl (OpW.store1 (i := 0) tabOk rfl rfl rfl rfl rfl H11 rfl rfl rfl ?_); intro V5 H11'
        (repeat (first | refine WOi.run tabOk rfl rfl ?_ | refine WOi.nil ?_ | refine WOi.skip rfl rfl rfl ?_ | refine WOi.pu tabOk rfl rfl rfl rfl ?_ | refine Wi.seq ?_ | refine Wi.region ?_ | refine Wi.block ?_ | refine Wi.skip ?_ | refine Wi.exit ?_))
        have hK1 := stKeeps H11' h11lt
        have hB1 := stBelow H11' h11ge (Nat.le_trans hB.size hp4.like.size)
        have H12 := stOwn (blk_kept H11' (h12.pure hp4) hne)
        (repeat (first | refine WOi.run tabOk rfl rfl ?_ | refine WOi.nil ?_ | refine WOi.skip rfl rfl rfl ?_ | refine WOi.pu tabOk rfl rfl rfl rfl ?_ | refine Wi.seq ?_ | refine Wi.region ?_ | refine Wi.block ?_ | refine Wi.skip ?_ | refine Wi.exit ?_ | refine WOi.one rfl rfl rfl (OpW.load1 tabOk rfl rfl rfl rfl H12 (by (first | exact .head _ | exact .tail _ (.head _) | exact .tail _ (.tail _ (.head _)) | exact .tail _ (.tail _ (.tail _ (.head _))) | exact .tail _ (.tail _ (.tail _ (.tail _ (.head _)))) | exact .tail _ (.tail _ (.tail _ (.tail _ (.tail _ (.head _))))) | exact .tail _ (.tail _ (.tail _ (.tail _ (.tail _ (.tail _ (.head _)))))) | exact .tail _ (.tail _ (.tail _ (.tail _ (.tail _ (.tail _ (.tail _ (.head _))))))) | exact .tail _ (.tail _ (.tail _ (.tail _ (.tail _ (.tail _ (.tail _ (.tail _ (.head _)))))))) | exact .tail _ (.tail _ (.tail _ (.tail _ (.tail _ (.tail _ (.tail _ (.tail _ (.tail _ (.head _))))))))) | exact .tail _ (.tail _ (.tail _ (.tail _ (.tail _ (.tail _ (.tail _ (.tail _ (.tail _ (.tail _ (.head _)))))))))) | exact .tail _ (.tail _ (.tail _ (.tail _ (.tail _ (.tail _ (.tail _ (.tail _ (.tail _ (.tail _ (.tail _ (.head _))))))))))) | exact .tail _ (.tail _ (.tail _ (.tail _ (.tail _ (.tail _ (.tail _ (.tail _ (.tail _ (.tail _ (.tail _ (.tail _ (.head _)))))))))))) | exact .tail _ (.tail _ (.tail _ (.tail _ (.tail _ (.tail _ (.tail _ (.tail _ (.tail _ (.tail _ (.tail _ (.tail _ (.tail _ (.head _))))))))))))) | exact .tail _ (.tail _ (.tail _ (.tail _ (.tail _ (.tail _ (.tail _ (.tail _ (.tail _ (.tail _ (.tail _ (.tail _ (.tail _ (.tail _ (.head _)))))))))))))) | exact .tail _ (.tail _ (.tail _ (.tail _ (.tail _ (.tail _ (.tail _ (.tail _ (.tail _ (.tail _ (.tail _ (.tail _ (.tail _ (.tail _ (.tail _ (.head _))))))))))))))))) rfl ?_)))
        refine WOi.pv rfl rfl rfl (PureV.addN (n := pre.length) rfl rfl rfl (by omega)) ?_
        (repeat (first | refine WOi.run tabOk rfl rfl ?_ | refine WOi.nil ?_ | refine WOi.skip rfl rfl rfl ?_ | refine WOi.pu tabOk rfl rfl rfl rfl ?_ | refine Wi.seq ?_ | refine Wi.region ?_ | refine Wi.block ?_ | refine Wi.skip ?_ | refine Wi.exit ?_))
        refine WOi.act rfl rfl (OpW.store1 (i := 0) tabOk rfl rfl rfl rfl rfl H12 rfl rfl rfl ?_); intro V6 H12'
        (repeat (first | refine WOi.run tabOk rfl rfl ?_ | refine WOi.nil ?_ | refine WOi.skip rfl rfl rfl ?_ | refine WOi.pu tabOk rfl rfl rfl rfl ?_ | refine Wi.seq ?_ | refine Wi.region ?_ | refine Wi.block ?_ | refine Wi.skip ?_ | refine Wi.exit ?_))
        have hK0 : KeepsFrom w9.heap.size V V4 := ⟨hp4.like.size, fun k o _ hk _ => (hp4.same k (Array.getElem?_eq_some_iff.1 hk).1).trans hk⟩
        have hB0 : Below VQ.heap.size V V4 := hp4.below hB.size
        have hB2 := stBelow H12' h12ge (Nat.le_trans hB.size (Nat.le_trans hp4.like.size H11'.like.size))
        refine ⟨hK0.trans (hK1.trans (stKeeps H12' h12lt)), hB0.trans (hB1.trans hB2), hB.trans (hB0.trans (hB1.trans hB2)), ?_, ?_⟩
        · rw [lastK_snoc]; exact blk_kept H12' (H11'.holds (by simp)) (Ne.symm hne)
        · rw [List.length_append]; exact H12'.holds (by simp)

      · have hpos : 0 < pre.length := List.length_pos_iff.2 hnil
        have f3 := f3 hnil
        refine WOi.tell (d := 69) (u := .bool true) rfl (congrArg Value.bool (decide_eq_true (by omega))) ?_
        (repeat (first | refine WOi.run tabOk rfl rfl ?_ | refine WOi.nil ?_ | refine WOi.skip rfl rfl rfl ?_ | refine WOi.pu tabOk rfl rfl rfl rfl ?_ | refine Wi.seq ?_ | refine Wi.region ?_ | refine Wi.block ?_ | refine Wi.skip ?_ | refine Wi.exit ?_ | refine WOi.one rfl rfl rfl (OpW.load1 tabOk rfl rfl rfl rfl H1 (by (first | exact .head _ | exact .tail _ (.head _) | exact .tail _ (.tail _ (.head _)) | exact .tail _ (.tail _ (.tail _ (.head _))) | exact .tail _ (.tail _ (.tail _ (.tail _ (.head _)))) | exact .tail _ (.tail _ (.tail _ (.tail _ (.tail _ (.head _))))) | exact .tail _ (.tail _ (.tail _ (.tail _ (.tail _ (.tail _ (.head _)))))) | exact .tail _ (.tail _ (.tail _ (.tail _ (.tail _ (.tail _ (.tail _ (.head _))))))) | exact .tail _ (.tail _ (.tail _ (.tail _ (.tail _ (.tail _ (.tail _ (.tail _ (.head _)))))))) | exact .tail _ (.tail _ (.tail _ (.tail _ (.tail _ (.tail _ (.tail _ (.tail _ (.tail _ (.head _))))))))) | exact .tail _ (.tail _ (.tail _ (.tail _ (.tail _ (.tail _ (.tail _ (.tail _ (.tail _ (.tail _ (.head _)))))))))) | exact .tail _ (.tail _ (.tail _ (.tail _ (.tail _ (.tail _ (.tail _ (.tail _ (.tail _ (.tail _ (.tail _ (.head _))))))))))) | exact .tail _ (.tail _ (.tail _ (.tail _ (.tail _ (.tail _ (.tail _ (.tail _ (.tail _ (.tail _ (.tail _ (.tail _ (.head _)))))))))))) | exact .tail _ (.tail _ (.tail _ (.tail _ (.tail _ (.tail _ (.tail _ (.tail _ (.tail _ (.tail _ (.tail _ (.tail _ (.tail _ (.head _))))))))))))) | exact .tail _ (.tail _ (.tail _ (.tail _ (.tail _ (.tail _ (.tail _ (.tail _ (.tail _ (.tail _ (.tail _ (.tail _ (.tail _ (.tail _ (.head _)))))))))))))) | exact .tail _ (.tail _ (.tail _ (.tail _ (.tail _ (.tail _ (.tail _ (.tail _ (.tail _ (.tail _ (.tail _ (.tail _ (.tail _ (.tail _ (.tail _ (.head _))))))))))))))))) rfl ?_)))
        refine Wi.cond rfl (fun hbad => absurd hbad (by simp [pickV]; omega)) (fun _ => ?_)
        (repeat (first | refine WOi.run tabOk rfl rfl ?_ | refine WOi.nil ?_ | refine WOi.skip rfl rfl rfl ?_ | refine WOi.pu tabOk rfl rfl rfl rfl ?_ | refine Wi.seq ?_ | refine Wi.region ?_ | refine Wi.block ?_ | refine Wi.skip ?_ | refine Wi.exit ?_))
        have H11 := stOwn (h11.pure hp4)
        refine WOi.act rfl rfl (OpW.store1 (i := 0) tabOk rfl rfl rfl rfl rfl H11 rfl rfl rfl ?_); intro V5 H11'
        (repeat (first | refine WOi.run tabOk rfl rfl ?_ | refine WOi.nil ?_ | refine WOi.skip rfl rfl rfl ?_ | refine WOi.pu tabOk rfl rfl rfl rfl ?_ | refine Wi.seq ?_ | refine Wi.region ?_ | refine Wi.block ?_ | refine Wi.skip ?_ | refine Wi.exit ?_))
        have hK1 := stKeeps H11' h11lt
        have hB1 := stBelow H11' h11ge (Nat.le_trans hB.size hp4.like.size)
        have H12 := stOwn (blk_kept H11' (h12.pure hp4) hne)
        (repeat (first | refine WOi.run tabOk rfl rfl ?_ | refine WOi.nil ?_ | refine WOi.skip rfl rfl rfl ?_ | refine WOi.pu tabOk rfl rfl rfl rfl ?_ | refine Wi.seq ?_ | refine Wi.region ?_ | refine Wi.block ?_ | refine Wi.skip ?_ | refine Wi.exit ?_ | refine WOi.one rfl rfl rfl (OpW.load1 tabOk rfl rfl rfl rfl H12 (by (first | exact .head _ | exact .tail _ (.head _) | exact .tail _ (.tail _ (.head _)) | exact .tail _ (.tail _ (.tail _ (.head _))) | exact .tail _ (.tail _ (.tail _ (.tail _ (.head _)))) | exact .tail _ (.tail _ (.tail _ (.tail _ (.tail _ (.head _))))) | exact .tail _ (.tail _ (.tail _ (.tail _ (.tail _ (.tail _ (.head _)))))) | exact .tail _ (.tail _ (.tail _ (.tail _ (.tail _ (.tail _ (.tail _ (.head _))))))) | exact .tail _ (.tail _ (.tail _ (.tail _ (.tail _ (.tail _ (.tail _ (.tail _ (.head _)))))))) | exact .tail _ (.tail _ (.tail _ (.tail _ (.tail _ (.tail _ (.tail _ (.tail _ (.tail _ (.head _))))))))) | exact .tail _ (.tail _ (.tail _ (.tail _ (.tail _ (.tail _ (.tail _ (.tail _ (.tail _ (.tail _ (.head _)))))))))) | exact .tail _ (.tail _ (.tail _ (.tail _ (.tail _ (.tail _ (.tail _ (.tail _ (.tail _ (.tail _ (.tail _ (.head _))))))))))) | exact .tail _ (.tail _ (.tail _ (.tail _ (.tail _ (.tail _ (.tail _ (.tail _ (.tail _ (.tail _ (.tail _ (.tail _ (.head _)))))))))))) | exact .tail _ (.tail _ (.tail _ (.tail _ (.tail _ (.tail _ (.tail _ (.tail _ (.tail _ (.tail _ (.tail _ (.tail _ (.tail _ (.head _))))))))))))) | exact .tail _ (.tail _ (.tail _ (.tail _ (.tail _ (.tail _ (.tail _ (.tail _ (.tail _ (.tail _ (.tail _ (.tail _ (.tail _ (.tail _ (.head _)))))))))))))) | exact .tail _ (.tail _ (.tail _ (.tail _ (.tail _ (.tail _ (.tail _ (.tail _ (.tail _ (.tail _ (.tail _ (.tail _ (.tail _ (.tail _ (.tail _ (.head _))))))))))))))))) rfl ?_)))
        refine WOi.pv rfl rfl rfl (PureV.addN (n := pre.length) rfl rfl rfl (by omega)) ?_
        (repeat (first | refine WOi.run tabOk rfl rfl ?_ | refine WOi.nil ?_ | refine WOi.skip rfl rfl rfl ?_ | refine WOi.pu tabOk rfl rfl rfl rfl ?_ | refine Wi.seq ?_ | refine Wi.region ?_ | refine Wi.block ?_ | refine Wi.skip ?_ | refine Wi.exit ?_))
        refine WOi.act rfl rfl (OpW.store1 (i := 0) tabOk rfl rfl rfl rfl rfl H12 rfl rfl rfl ?_); intro V6 H12'
        (repeat (first | refine WOi.run tabOk rfl rfl ?_ | refine WOi.nil ?_ | refine WOi.skip rfl rfl rfl ?_ | refine WOi.pu tabOk rfl rfl rfl rfl ?_ | refine Wi.seq ?_ | refine Wi.region ?_ | refine Wi.block ?_ | refine Wi.skip ?_ | refine Wi.exit ?_))
        have hK0 : KeepsFrom w9.heap.size V V4 := ⟨hp4.like.size, fun k o _ hk _ => (hp4.same k (Array.getElem?_eq_some_iff.1 hk).1).trans hk⟩
        have hB0 : Below VQ.heap.size V V4 := hp4.below hB.size
        have hB2 := stBelow H12' h12ge (Nat.le_trans hB.size (Nat.le_trans hp4.like.size H11'.like.size))
        refine ⟨hK0.trans (hK1.trans (stKeeps H12' h12lt)), hB0.trans (hB1.trans hB2), hB.trans (hB0.trans (hB1.trans hB2)), ?_, ?_⟩
        · rw [lastK_snoc]; exact blk_kept H12' (H11'.holds (by simp)) (Ne.symm hne)
        · rw [List.length_append]; exact H12'.holds (by simp)

    · cases g1 : getS (ents h2 x2) e.1 with
      | none =>
        refine WOi.tell (d := 56) (u := .bool true) rfl (by simp) ?_
        (repeat (first | refine WOi.run tabOk rfl rfl ?_ | refine WOi.nil ?_ | refine WOi.skip rfl rfl rfl ?_ | refine WOi.pu tabOk rfl rfl rfl rfl ?_ | refine Wi.seq ?_ | refine Wi.region ?_ | refine Wi.block ?_ | refine Wi.skip ?_ | refine Wi.exit ?_ | refine WOi.one rfl rfl rfl (OpW.load1 tabOk rfl rfl rfl rfl H1 (by (first | exact .head _ | exact .tail _ (.head _) | exact .tail _ (.tail _ (.head _)) | exact .tail _ (.tail _ (.tail _ (.head _))) | exact .tail _ (.tail _ (.tail _ (.tail _ (.head _)))) | exact .tail _ (.tail _ (.tail _ (.tail _ (.tail _ (.head _))))) | exact .tail _ (.tail _ (.tail _ (.tail _ (.tail _ (.tail _ (.head _)))))) | exact .tail _ (.tail _ (.tail _ (.tail _ (.tail _ (.tail _ (.tail _ (.head _))))))) | exact .tail _ (.tail _ (.tail _ (.tail _ (.tail _ (.tail _ (.tail _ (.tail _ (.head _)))))))) | exact .tail _ (.tail _ (.tail _ (.tail _ (.tail _ (.tail _ (.tail _ (.tail _ (.tail _ (.head _))))))))) | exact .tail _ (.tail _ (.tail _ (.tail _ (.tail _ (.tail _ (.tail _ (.tail _ (.tail _ (.tail _ (.head _)))))))))) | exact .tail _ (.tail _ (.tail _ (.tail _ (.tail _ (.tail _ (.tail _ (.tail _ (.tail _ (.tail _ (.tail _ (.head _))))))))))) | exact .tail _ (.tail _ (.tail _ (.tail _ (.tail _ (.tail _ (.tail _ (.tail _ (.tail _ (.tail _ (.tail _ (.tail _ (.head _)))))))))))) | exact .tail _ (.tail _ (.tail _ (.tail _ (.tail _ (.tail _ (.tail _ (.tail _ (.tail _ (.tail _ (.tail _ (.tail _ (.tail _ (.head _))))))))))))) | exact .tail _ (.tail _ (.tail _ (.tail _ (.tail _ (.tail _ (.tail _ (.tail _ (.tail _ (.tail _ (.tail _ (.tail _ (.tail _ (.tail _ (.head _)))))))))))))) | exact .tail _ (.tail _ (.tail _ (.tail _ (.tail _ (.tail _ (.tail _ (.tail _ (.tail _ (.tail _ (.tail _ (.tail _ (.tail _ (.tail _ (.tail _ (.head _))))))))))))))))) rfl ?_)))
        refine Wi.cond_t rfl ?_
        (repeat (first | refine WOi.run tabOk rfl rfl ?_ | refine WOi.nil ?_ | refine WOi.skip rfl rfl rfl ?_ | refine WOi.pu tabOk rfl rfl rfl rfl ?_ | refine Wi.seq ?_ | refine Wi.region ?_ | refine Wi.block ?_ | refine Wi.skip ?_ | refine Wi.exit ?_))
        have h6 := stOwn (((HQ.holds (A := blk b6 4 [.bool false]) (by simp)).below hB).pure hp4)
        refine WOi.act rfl rfl (OpW.store1 (i := 0) tabOk rfl rfl rfl rfl rfl h6 rfl rfl rfl ?_); intro V5 h6'
        (repeat (first | refine WOi.run tabOk rfl rfl ?_ | refine WOi.nil ?_ | refine WOi.skip rfl rfl rfl ?_ | refine WOi.pu tabOk rfl rfl rfl rfl ?_ | refine Wi.seq ?_ | refine Wi.region ?_ | refine Wi.block ?_ | refine Wi.skip ?_ | refine Wi.exit ?_))
        refine Wi.ret ?_
        exact ⟨(KeepsFrom.trans ⟨hp4.like.size, fun k o _ hk _ => (hp4.same k (Array.getElem?_eq_some_iff.1 hk).1).trans hk⟩ (stKeeps h6' h6lt)), .inl ⟨rfl, hp⟩⟩

      | some u =>
        refine WOi.tell (d := 56) (u := .bool false) rfl (by simp) ?_
        (repeat (first | refine WOi.run tabOk rfl rfl ?_ | refine WOi.nil ?_ | refine WOi.skip rfl rfl rfl ?_ | refine WOi.pu tabOk rfl rfl rfl rfl ?_ | refine Wi.seq ?_ | refine Wi.region ?_ | refine Wi.block ?_ | refine Wi.skip ?_ | refine Wi.exit ?_ | refine WOi.one rfl rfl rfl (OpW.load1 tabOk rfl rfl rfl rfl H1 (by (first | exact .head _ | exact .tail _ (.head _) | exact .tail _ (.tail _ (.head _)) | exact .tail _ (.tail _ (.tail _ (.head _))) | exact .tail _ (.tail _ (.tail _ (.tail _ (.head _)))) | exact .tail _ (.tail _ (.tail _ (.tail _ (.tail _ (.head _))))) | exact .tail _ (.tail _ (.tail _ (.tail _ (.tail _ (.tail _ (.head _)))))) | exact .tail _ (.tail _ (.tail _ (.tail _ (.tail _ (.tail _ (.tail _ (.head _))))))) | exact .tail _ (.tail _ (.tail _ (.tail _ (.tail _ (.tail _ (.tail _ (.tail _ (.head _)))))))) | exact .tail _ (.tail _ (.tail _ (.tail _ (.tail _ (.tail _ (.tail _ (.tail _ (.tail _ (.head _))))))))) | exact .tail _ (.tail _ (.tail _ (.tail _ (.tail _ (.tail _ (.tail _ (.tail _ (.tail _ (.tail _ (.head _)))))))))) | exact .tail _ (.tail _ (.tail _ (.tail _ (.tail _ (.tail _ (.tail _ (.tail _ (.tail _ (.tail _ (.tail _ (.head _))))))))))) | exact .tail _ (.tail _ (.tail _ (.tail _ (.tail _ (.tail _ (.tail _ (.tail _ (.tail _ (.tail _ (.tail _ (.tail _ (.head _)))))))))))) | exact .tail _ (.tail _ (.tail _ (.tail _ (.tail _ (.tail _ (.tail _ (.tail _ (.tail _ (.tail _ (.tail _ (.tail _ (.tail _ (.head _))))))))))))) | exact .tail _ (.tail _ (.tail _ (.tail _ (.tail _ (.tail _ (.tail _ (.tail _ (.tail _ (.tail _ (.tail _ (.tail _ (.tail _ (.tail _ (.head _)))))))))))))) | exact .tail _ (.tail _ (.tail _ (.tail _ (.tail _ (.tail _ (.tail _ (.tail _ (.tail _ (.tail _ (.tail _ (.tail _ (.tail _ (.tail _ (.tail _ (.head _))))))))))))))))) rfl ?_)))
        by_cases g2 : u = e.2
        rotate_left
        · refine WOi.tell (d := 61) (u := .bool true) rfl (by simp [pickV, g2]) ?_
          (repeat (first | refine WOi.run tabOk rfl rfl ?_ | refine WOi.nil ?_ | refine WOi.skip rfl rfl rfl ?_ | refine WOi.pu tabOk rfl rfl rfl rfl ?_ | refine Wi.seq ?_ | refine Wi.region ?_ | refine Wi.block ?_ | refine Wi.skip ?_ | refine Wi.exit ?_ | refine WOi.one rfl rfl rfl (OpW.load1 tabOk rfl rfl rfl rfl H1 (by (first | exact .head _ | exact .tail _ (.head _) | exact .tail _ (.tail _ (.head _)) | exact .tail _ (.tail _ (.tail _ (.head _))) | exact .tail _ (.tail _ (.tail _ (.tail _ (.head _)))) | exact .tail _ (.tail _ (.tail _ (.tail _ (.tail _ (.head _))))) | exact .tail _ (.tail _ (.tail _ (.tail _ (.tail _ (.tail _ (.head _)))))) | exact .tail _ (.tail _ (.tail _ (.tail _ (.tail _ (.tail _ (.tail _ (.head _))))))) | exact .tail _ (.tail _ (.tail _ (.tail _ (.tail _ (.tail _ (.tail _ (.tail _ (.head _)))))))) | exact .tail _ (.tail _ (.tail _ (.tail _ (.tail _ (.tail _ (.tail _ (.tail _ (.tail _ (.head _))))))))) | exact .tail _ (.tail _ (.tail _ (.tail _ (.tail _ (.tail _ (.tail _ (.tail _ (.tail _ (.tail _ (.head _)))))))))) | exact .tail _ (.tail _ (.tail _ (.tail _ (.tail _ (.tail _ (.tail _ (.tail _ (.tail _ (.tail _ (.tail _ (.head _))))))))))) | exact .tail _ (.tail _ (.tail _ (.tail _ (.tail _ (.tail _ (.tail _ (.tail _ (.tail _ (.tail _ (.tail _ (.tail _ (.head _)))))))))))) | exact .tail _ (.tail _ (.tail _ (.tail _ (.tail _ (.tail _ (.tail _ (.tail _ (.tail _ (.tail _ (.tail _ (.tail _ (.tail _ (.head _))))))))))))) | exact .tail _ (.tail _ (.tail _ (.tail _ (.tail _ (.tail _ (.tail _ (.tail _ (.tail _ (.tail _ (.tail _ (.tail _ (.tail _ (.tail _ (.head _)))))))))))))) | exact .tail _ (.tail _ (.tail _ (.tail _ (.tail _ (.tail _ (.tail _ (.tail _ (.tail _ (.tail _ (.tail _ (.tail _ (.tail _ (.tail _ (.tail _ (.head _))))))))))))))))) rfl ?_)))
          refine Wi.cond_t rfl ?_
          (repeat (first | refine WOi.run tabOk rfl rfl ?_ | refine WOi.nil ?_ | refine WOi.skip rfl rfl rfl ?_ | refine WOi.pu tabOk rfl rfl rfl rfl ?_ | refine Wi.seq ?_ | refine Wi.region ?_ | refine Wi.block ?_ | refine Wi.skip ?_ | refine Wi.exit ?_))
          have h6 := stOwn (((HQ.holds (A := blk b6 4 [.bool false]) (by simp)).below hB).pure hp4)
          refine WOi.act rfl rfl (OpW.store1 (i := 0) tabOk rfl rfl rfl rfl rfl h6 rfl rfl rfl ?_); intro V5 h6'
          (repeat (first | refine WOi.run tabOk rfl rfl ?_ | refine WOi.nil ?_ | refine WOi.skip rfl rfl rfl ?_ | refine WOi.pu tabOk rfl rfl rfl rfl ?_ | refine Wi.seq ?_ | refine Wi.region ?_ | refine Wi.block ?_ | refine Wi.skip ?_ | refine Wi.exit ?_))
          refine Wi.ret ?_
          exact ⟨(KeepsFrom.trans ⟨hp4.like.size, fun k o _ hk _ => (hp4.same k (Array.getElem?_eq_some_iff.1 hk).1).trans hk⟩ (stKeeps h6' h6lt)), .inl ⟨rfl, hp⟩⟩

        refine WOi.tell (d := 61) (u := .bool false) rfl (by simp [pickV, g2]) ?_
        (repeat (first | refine WOi.run tabOk rfl rfl ?_ | refine WOi.nil ?_ | refine WOi.skip rfl rfl rfl ?_ | refine WOi.pu tabOk rfl rfl rfl rfl ?_ | refine Wi.seq ?_ | refine Wi.region ?_ | refine Wi.block ?_ | refine Wi.skip ?_ | refine Wi.exit ?_ | refine WOi.one rfl rfl rfl (OpW.load1 tabOk rfl rfl rfl rfl H1 (by (first | exact .head _ | exact .tail _ (.head _) | exact .tail _ (.tail _ (.head _)) | exact .tail _ (.tail _ (.tail _ (.head _))) | exact .tail _ (.tail _ (.tail _ (.tail _ (.head _)))) | exact .tail _ (.tail _ (.tail _ (.tail _ (.tail _ (.head _))))) | exact .tail _ (.tail _ (.tail _ (.tail _ (.tail _ (.tail _ (.head _)))))) | exact .tail _ (.tail _ (.tail _ (.tail _ (.tail _ (.tail _ (.tail _ (.head _))))))) | exact .tail _ (.tail _ (.tail _ (.tail _ (.tail _ (.tail _ (.tail _ (.tail _ (.head _)))))))) | exact .tail _ (.tail _ (.tail _ (.tail _ (.tail _ (.tail _ (.tail _ (.tail _ (.tail _ (.head _))))))))) | exact .tail _ (.tail _ (.tail _ (.tail _ (.tail _ (.tail _ (.tail _ (.tail _ (.tail _ (.tail _ (.head _)))))))))) | exact .tail _ (.tail _ (.tail _ (.tail _ (.tail _ (.tail _ (.tail _ (.tail _ (.tail _ (.tail _ (.tail _ (.head _))))))))))) | exact .tail _ (.tail _ (.tail _ (.tail _ (.tail _ (.tail _ (.tail _ (.tail _ (.tail _ (.tail _ (.tail _ (.tail _ (.head _)))))))))))) | exact .tail _ (.tail _ (.tail _ (.tail _ (.tail _ (.tail _ (.tail _ (.tail _ (.tail _ (.tail _ (.tail _ (.tail _ (.tail _ (.head _))))))))))))) | exact .tail _ (.tail _ (.tail _ (.tail _ (.tail _ (.tail _ (.tail _ (.tail _ (.tail _ (.tail _ (.tail _ (.tail _ (.tail _ (.tail _ (.head _)))))))))))))) | exact .tail _ (.tail _ (.tail _ (.tail _ (.tail _ (.tail _ (.tail _ (.tail _ (.tail _ (.tail _ (.tail _ (.tail _ (.tail _ (.tail _ (.tail _ (.head _))))))))))))))))) rfl ?_)))
        by_cases g3 : e.1 < lastK frm pre
        · refine WOi.tell (d := 66) (u := .bool true) rfl (by simp [pickV, g3]) ?_
          (repeat (first | refine WOi.run tabOk rfl rfl ?_ | refine WOi.nil ?_ | refine WOi.skip rfl rfl rfl ?_ | refine WOi.pu tabOk rfl rfl rfl rfl ?_ | refine Wi.seq ?_ | refine Wi.region ?_ | refine Wi.block ?_ | refine Wi.skip ?_ | refine Wi.exit ?_ | refine WOi.one rfl rfl rfl (OpW.load1 tabOk rfl rfl rfl rfl H1 (by (first | exact .head _ | exact .tail _ (.head _) | exact .tail _ (.tail _ (.head _)) | exact .tail _ (.tail _ (.tail _ (.head _))) | exact .tail _ (.tail _ (.tail _ (.tail _ (.head _)))) | exact .tail _ (.tail _ (.tail _ (.tail _ (.tail _ (.head _))))) | exact .tail _ (.tail _ (.tail _ (.tail _ (.tail _ (.tail _ (.head _)))))) | exact .tail _ (.tail _ (.tail _ (.tail _ (.tail _ (.tail _ (.tail _ (.head _))))))) | exact .tail _ (.tail _ (.tail _ (.tail _ (.tail _ (.tail _ (.tail _ (.tail _ (.head _)))))))) | exact .tail _ (.tail _ (.tail _ (.tail _ (.tail _ (.tail _ (.tail _ (.tail _ (.tail _ (.head _))))))))) | exact .tail _ (.tail _ (.tail _ (.tail _ (.tail _ (.tail _ (.tail _ (.tail _ (.tail _ (.tail _ (.head _)))))))))) | exact .tail _ (.tail _ (.tail _ (.tail _ (.tail _ (.tail _ (.tail _ (.tail _ (.tail _ (.tail _ (.tail _ (.head _))))))))))) | exact .tail _ (.tail _ (.tail _ (.tail _ (.tail _ (.tail _ (.tail _ (.tail _ (.tail _ (.tail _ (.tail _ (.tail _ (.head _)))))))))))) | exact .tail _ (.tail _ (.tail _ (.tail _ (.tail _ (.tail _ (.tail _ (.tail _ (.tail _ (.tail _ (.tail _ (.tail _ (.tail _ (.head _))))))))))))) | exact .tail _ (.tail _ (.tail _ (.tail _ (.tail _ (.tail _ (.tail _ (.tail _ (.tail _ (.tail _ (.tail _ (.tail _ (.tail _ (.tail _ (.head _)))))))))))))) | exact .tail _ (.tail _ (.tail _ (.tail _ (.tail _ (.tail _ (.tail _ (.tail _ (.tail _ (.tail _ (.tail _ (.tail _ (.tail _ (.tail _ (.tail _ (.head _))))))))))))))))) rfl ?_)))
          refine Wi.cond_t rfl ?_
          (repeat (first | refine WOi.run tabOk rfl rfl ?_ | refine WOi.nil ?_ | refine WOi.skip rfl rfl rfl ?_ | refine WOi.pu tabOk rfl rfl rfl rfl ?_ | refine Wi.seq ?_ | refine Wi.region ?_ | refine Wi.block ?_ | refine Wi.skip ?_ | refine Wi.exit ?_))
          have h6 := stOwn (((HQ.holds (A := blk b6 4 [.bool false]) (by simp)).below hB).pure hp4)
          refine WOi.act rfl rfl (OpW.store1 (i := 0) tabOk rfl rfl rfl rfl rfl h6 rfl rfl rfl ?_); intro V5 h6'
          (repeat (first | refine WOi.run tabOk rfl rfl ?_ | refine WOi.nil ?_ | refine WOi.skip rfl rfl rfl ?_ | refine WOi.pu tabOk rfl rfl rfl rfl ?_ | refine Wi.seq ?_ | refine Wi.region ?_ | refine Wi.block ?_ | refine Wi.skip ?_ | refine Wi.exit ?_))
          refine Wi.ret ?_
          exact ⟨(KeepsFrom.trans ⟨hp4.like.size, fun k o _ hk _ => (hp4.same k (Array.getElem?_eq_some_iff.1 hk).1).trans hk⟩ (stKeeps h6' h6lt)), .inl ⟨rfl, hp⟩⟩

        refine WOi.tell (d := 66) (u := .bool false) rfl (by simp [pickV]; omega) ?_
        (repeat (first | refine WOi.run tabOk rfl rfl ?_ | refine WOi.nil ?_ | refine WOi.skip rfl rfl rfl ?_ | refine WOi.pu tabOk rfl rfl rfl rfl ?_ | refine Wi.seq ?_ | refine Wi.region ?_ | refine Wi.block ?_ | refine Wi.skip ?_ | refine Wi.exit ?_ | refine WOi.one rfl rfl rfl (OpW.load1 tabOk rfl rfl rfl rfl H1 (by (first | exact .head _ | exact .tail _ (.head _) | exact .tail _ (.tail _ (.head _)) | exact .tail _ (.tail _ (.tail _ (.head _))) | exact .tail _ (.tail _ (.tail _ (.tail _ (.head _)))) | exact .tail _ (.tail _ (.tail _ (.tail _ (.tail _ (.head _))))) | exact .tail _ (.tail _ (.tail _ (.tail _ (.tail _ (.tail _ (.head _)))))) | exact .tail _ (.tail _ (.tail _ (.tail _ (.tail _ (.tail _ (.tail _ (.head _))))))) | exact .tail _ (.tail _ (.tail _ (.tail _ (.tail _ (.tail _ (.tail _ (.tail _ (.head _)))))))) | exact .tail _ (.tail _ (.tail _ (.tail _ (.tail _ (.tail _ (.tail _ (.tail _ (.tail _ (.head _))))))))) | exact .tail _ (.tail _ (.tail _ (.tail _ (.tail _ (.tail _ (.tail _ (.tail _ (.tail _ (.tail _ (.head _)))))))))) | exact .tail _ (.tail _ (.tail _ (.tail _ (.tail _ (.tail _ (.tail _ (.tail _ (.tail _ (.tail _ (.tail _ (.head _))))))))))) | exact .tail _ (.tail _ (.tail _ (.tail _ (.tail _ (.tail _ (.tail _ (.tail _ (.tail _ (.tail _ (.tail _ (.tail _ (.head _)))))))))))) | exact .tail _ (.tail _ (.tail _ (.tail _ (.tail _ (.tail _ (.tail _ (.tail _ (.tail _ (.tail _ (.tail _ (.tail _ (.tail _ (.head _))))))))))))) | exact .tail _ (.tail _ (.tail _ (.tail _ (.tail _ (.tail _ (.tail _ (.tail _ (.tail _ (.tail _ (.tail _ (.tail _ (.tail _ (.tail _ (.head _)))))))))))))) | exact .tail _ (.tail _ (.tail _ (.tail _ (.tail _ (.tail _ (.tail _ (.tail _ (.tail _ (.tail _ (.tail _ (.tail _ (.tail _ (.tail _ (.tail _ (.head _))))))))))))))))) rfl ?_)))
        by_cases hnil : pre = []
        · refine WOi.tell (d := 69) (u := .bool false) rfl (by rw [hnil]; rfl) ?_
          (repeat (first | refine WOi.run tabOk rfl rfl ?_ | refine WOi.nil ?_ | refine WOi.skip rfl rfl rfl ?_ | refine WOi.pu tabOk rfl rfl rfl rfl ?_ | refine Wi.seq ?_ | refine Wi.region ?_ | refine Wi.block ?_ | refine Wi.skip ?_ | refine Wi.exit ?_ | refine WOi.one rfl rfl rfl (OpW.load1 tabOk rfl rfl rfl rfl H1 (by (first | exact .head _ | exact .tail _ (.head _) | exact .tail _ (.tail _ (.head _)) | exact .tail _ (.tail _ (.tail _ (.head _))) | exact .tail _ (.tail _ (.tail _ (.tail _ (.head _)))) | exact .tail _ (.tail _ (.tail _ (.tail _ (.tail _ (.head _))))) | exact .tail _ (.tail _ (.tail _ (.tail _ (.tail _ (.tail _ (.head _)))))) | exact .tail _ (.tail _ (.tail _ (.tail _ (.tail _ (.tail _ (.tail _ (.head _))))))) | exact .tail _ (.tail _ (.tail _ (.tail _ (.tail _ (.tail _ (.tail _ (.tail _ (.head _)))))))) | exact .tail _ (.tail _ (.tail _ (.tail _ (.tail _ (.tail _ (.tail _ (.tail _ (.tail _ (.head _))))))))) | exact .tail _ (.tail _ (.tail _ (.tail _ (.tail _ (.tail _ (.tail _ (.tail _ (.tail _ (.tail _ (.head _)))))))))) | exact .tail _ (.tail _ (.tail _ (.tail _ (.tail _ (.tail _ (.tail _ (.tail _ (.tail _ (.tail _ (.tail _ (.head _))))))))))) | exact .tail _ (.tail _ (.tail _ (.tail _ (.tail _ (.tail _ (.tail _ (.tail _ (.tail _ (.tail _ (.tail _ (.tail _ (.head _)))))))))))) | exact .tail _ (.tail _ (.tail _ (.tail _ (.tail _ (.tail _ (.tail _ (.tail _ (.tail _ (.tail _ (.tail _ (.tail _ (.tail _ (.head _))))))))))))) | exact .tail _ (.tail _ (.tail _ (.tail _ (.tail _ (.tail _ (.tail _ (.tail _ (.tail _ (.tail _ (.tail _ (.tail _ (.tail _ (.tail _ (.head _)))))))))))))) | exact .tail _ (.tail _ (.tail _ (.tail _ (.tail _ (.tail _ (.tail _ (.tail _ (.tail _ (.tail _ (.tail _ (.tail _ (.tail _ (.tail _ (.tail _ (.head _))))))))))))))))) rfl ?_)))
          refine Wi.cond_f rfl ?_
          (repeat (first | refine WOi.run tabOk rfl rfl ?_ | refine WOi.nil ?_ | refine WOi.skip rfl rfl rfl ?_ | refine WOi.pu tabOk rfl rfl rfl rfl ?_ | refine Wi.seq ?_ | refine Wi.region ?_ | refine Wi.block ?_ | refine Wi.skip ?_ | refine Wi.exit ?_))
          have H11 := stOwn (h11.pure hp4)
          refine WOi.act rfl rfl (OpW.store1 (i := 0) tabOk rfl rfl rfl rfl rfl H11 rfl rfl rfl ?_); intro V5 H11'
          (repeat (first | refine WOi.run tabOk rfl rfl ?_ | refine WOi.nil ?_ | refine WOi.skip rfl rfl rfl ?_ | refine WOi.pu tabOk rfl rfl rfl rfl ?_ | refine Wi.seq ?_ | refine Wi.region ?_ | refine Wi.block ?_ | refine Wi.skip ?_ | refine Wi.exit ?_))
          have hK1 := stKeeps H11' h11lt
          have hB1 := stBelow H11' h11ge (Nat.le_trans hB.size hp4.like.size)
          have H12 := stOwn (blk_kept H11' (h12.pure hp4) hne)
          (repeat (first | refine WOi.run tabOk rfl rfl ?_ | refine WOi.nil ?_ | refine WOi.skip rfl rfl rfl ?_ | refine WOi.pu tabOk rfl rfl rfl rfl ?_ | refine Wi.seq ?_ | refine Wi.region ?_ | refine Wi.block ?_ | refine Wi.skip ?_ | refine Wi.exit ?_ | refine WOi.one rfl rfl rfl (OpW.load1 tabOk rfl rfl rfl rfl H12 (by (first | exact .head _ | exact .tail _ (.head _) | exact .tail _ (.tail _ (.head _)) | exact .tail _ (.tail _ (.tail _ (.head _))) | exact .tail _ (.tail _ (.tail _ (.tail _ (.head _)))) | exact .tail _ (.tail _ (.tail _ (.tail _ (.tail _ (.head _))))) | exact .tail _ (.tail _ (.tail _ (.tail _ (.tail _ (.tail _ (.head _)))))) | exact .tail _ (.tail _ (.tail _ (.tail _ (.tail _ (.tail _ (.tail _ (.head _))))))) | exact .tail _ (.tail _ (.tail _ (.tail _ (.tail _ (.tail _ (.tail _ (.tail _ (.head _)))))))) | exact .tail _ (.tail _ (.tail _ (.tail _ (.tail _ (.tail _ (.tail _ (.tail _ (.tail _ (.head _))))))))) | exact .tail _ (.tail _ (.tail _ (.tail _ (.tail _ (.tail _ (.tail _ (.tail _ (.tail _ (.tail _ (.head _)))))))))) | exact .tail _ (.tail _ (.tail _ (.tail _ (.tail _ (.tail _ (.tail _ (.tail _ (.tail _ (.tail _ (.tail _ (.head _))))))))))) | exact .tail _ (.tail _ (.tail _ (.tail _ (.tail _ (.tail _ (.tail _ (.tail _ (.tail _ (.tail _ (.tail _ (.tail _ (.head _)))))))))))) | exact .tail _ (.tail _ (.tail _ (.tail _ (.tail _ (.tail _ (.tail _ (.tail _ (.tail _ (.tail _ (.tail _ (.tail _ (.tail _ (.head _))))))))))))) | exact .tail _ (.tail _ (.tail _ (.tail _ (.tail _ (.tail _ (.tail _ (.tail _ (.tail _ (.tail _ (.tail _ (.tail _ (.tail _ (.tail _ (.head _)))))))))))))) | exact .tail _ (.tail _ (.tail _ (.tail _ (.tail _ (.tail _ (.tail _ (.tail _ (.tail _ (.tail _ (.tail _ (.tail _ (.tail _ (.tail _ (.tail _ (.head _))))))))))))))))) rfl ?_)))
          refine WOi.pv rfl rfl rfl (PureV.addN (n := pre.length) rfl rfl rfl (by omega)) ?_
          (repeat (first | refine WOi.run tabOk rfl rfl ?_ | refine WOi.nil ?_ | refine WOi.skip rfl rfl rfl ?_ | refine WOi.pu tabOk rfl rfl rfl rfl ?_ | refine Wi.seq ?_ | refine Wi.region ?_ | refine Wi.block ?_ | refine Wi.skip ?_ | refine Wi.exit ?_))
          refine WOi.act rfl rfl (OpW.store1 (i := 0) tabOk rfl rfl rfl rfl rfl H12 rfl rfl rfl ?_); intro V6 H12'
          (repeat (first | refine WOi.run tabOk rfl rfl ?_ | refine WOi.nil ?_ | refine WOi.skip rfl rfl rfl ?_ | refine WOi.pu tabOk rfl rfl rfl rfl ?_ | refine Wi.seq ?_ | refine Wi.region ?_ | refine Wi.block ?_ | refine Wi.skip ?_ | refine Wi.exit ?_))
          have hK0 : KeepsFrom w9.heap.size V V4 := ⟨hp4.like.size, fun k o _ hk _ => (hp4.same k (Array.getElem?_eq_some_iff.1 hk).1).trans hk⟩
          have hB0 : Below VQ.heap.size V V4 := hp4.below hB.size
          have hB2 := stBelow H12' h12ge (Nat.le_trans hB.size (Nat.le_trans hp4.like.size H11'.like.size))
          refine ⟨hK0.trans (hK1.trans (stKeeps H12' h12lt)), hB0.trans (hB1.trans hB2), hB.trans (hB0.trans (hB1.trans hB2)), ?_, ?_⟩
          · rw [lastK_snoc]; exact blk_kept H12' (H11'.holds (by simp)) (Ne.symm hne)
          · rw [List.length_append]; exact H12'.holds (by simp)

        · have hpos : 0 < pre.length := List.length_pos_iff.2 hnil
          refine WOi.tell (d := 69) (u := .bool true) rfl (congrArg Value.bool (decide_eq_true (by omega))) ?_
          (repeat (first | refine WOi.run tabOk rfl rfl ?_ | refine WOi.nil ?_ | refine WOi.skip rfl rfl rfl ?_ | refine WOi.pu tabOk rfl rfl rfl rfl ?_ | refine Wi.seq ?_ | refine Wi.region ?_ | refine Wi.block ?_ | refine Wi.skip ?_ | refine Wi.exit ?_ | refine WOi.one rfl rfl rfl (OpW.load1 tabOk rfl rfl rfl rfl H1 (by (first | exact .head _ | exact .tail _ (.head _) | exact .tail _ (.tail _ (.head _)) | exact .tail _ (.tail _ (.tail _ (.head _))) | exact .tail _ (.tail _ (.tail _ (.tail _ (.head _)))) | exact .tail _ (.tail _ (.tail _ (.tail _ (.tail _ (.head _))))) | exact .tail _ (.tail _ (.tail _ (.tail _ (.tail _ (.tail _ (.head _)))))) | exact .tail _ (.tail _ (.tail _ (.tail _ (.tail _ (.tail _ (.tail _ (.head _))))))) | exact .tail _ (.tail _ (.tail _ (.tail _ (.tail _ (.tail _ (.tail _ (.tail _ (.head _)))))))) | exact .tail _ (.tail _ (.tail _ (.tail _ (.tail _ (.tail _ (.tail _ (.tail _ (.tail _ (.head _))))))))) | exact .tail _ (.tail _ (.tail _ (.tail _ (.tail _ (.tail _ (.tail _ (.tail _ (.tail _ (.tail _ (.head _)))))))))) | exact .tail _ (.tail _ (.tail _ (.tail _ (.tail _ (.tail _ (.tail _ (.tail _ (.tail _ (.tail _ (.tail _ (.head _))))))))))) | exact .tail _ (.tail _ (.tail _ (.tail _ (.tail _ (.tail _ (.tail _ (.tail _ (.tail _ (.tail _ (.tail _ (.tail _ (.head _)))))))))))) | exact .tail _ (.tail _ (.tail _ (.tail _ (.tail _ (.tail _ (.tail _ (.tail _ (.tail _ (.tail _ (.tail _ (.tail _ (.tail _ (.head _))))))))))))) | exact .tail _ (.tail _ (.tail _ (.tail _ (.tail _ (.tail _ (.tail _ (.tail _ (.tail _ (.tail _ (.tail _ (.tail _ (.tail _ (.tail _ (.head _)))))))))))))) | exact .tail _ (.tail _ (.tail _ (.tail _ (.tail _ (.tail _ (.tail _ (.tail _ (.tail _ (.tail _ (.tail _ (.tail _ (.tail _ (.tail _ (.tail _ (.head _))))))))))))))))) rfl ?_)))
          refine Wi.cond rfl (fun _ => ?_) (fun _ => ?_)
          · (repeat (first | refine WOi.run tabOk rfl rfl ?_ | refine WOi.nil ?_ | refine WOi.skip rfl rfl rfl ?_ | refine WOi.pu tabOk rfl rfl rfl rfl ?_ | refine Wi.seq ?_ | refine Wi.region ?_ | refine Wi.block ?_ | refine Wi.skip ?_ | refine Wi.exit ?_))
            have h6 := stOwn (((HQ.holds (A := blk b6 4 [.bool false]) (by simp)).below hB).pure hp4)
            refine WOi.act rfl rfl (OpW.store1 (i := 0) tabOk rfl rfl rfl rfl rfl h6 rfl rfl rfl ?_); intro V5 h6'
            (repeat (first | refine WOi.run tabOk rfl rfl ?_ | refine WOi.nil ?_ | refine WOi.skip rfl rfl rfl ?_ | refine WOi.pu tabOk rfl rfl rfl rfl ?_ | refine Wi.seq ?_ | refine Wi.region ?_ | refine Wi.block ?_ | refine Wi.skip ?_ | refine Wi.exit ?_))
            refine Wi.ret ?_
            exact ⟨(KeepsFrom.trans ⟨hp4.like.size, fun k o _ hk _ => (hp4.same k (Array.getElem?_eq_some_iff.1 hk).1).trans hk⟩ (stKeeps h6' h6lt)), .inl ⟨rfl, hp⟩⟩

          · (repeat (first | refine WOi.run tabOk rfl rfl ?_ | refine WOi.nil ?_ | refine WOi.skip rfl rfl rfl ?_ | refine WOi.pu tabOk rfl rfl rfl rfl ?_ | refine Wi.seq ?_ | refine Wi.region ?_ | refine Wi.block ?_ | refine Wi.skip ?_ | refine Wi.exit ?_))
            have H11 := stOwn (h11.pure hp4)
            refine WOi.act rfl rfl (OpW.store1 (i := 0) tabOk rfl rfl rfl rfl rfl H11 rfl rfl rfl ?_); intro V5 H11'
            (repeat (first | refine WOi.run tabOk rfl rfl ?_ | refine WOi.nil ?_ | refine WOi.skip rfl rfl rfl ?_ | refine WOi.pu tabOk rfl rfl rfl rfl ?_ | refine Wi.seq ?_ | refine Wi.region ?_ | refine Wi.block ?_ | refine Wi.skip ?_ | refine Wi.exit ?_))
            have hK1 := stKeeps H11' h11lt
            have hB1 := stBelow H11' h11ge (Nat.le_trans hB.size hp4.like.size)
            have H12 := stOwn (blk_kept H11' (h12.pure hp4) hne)
            (repeat (first | refine WOi.run tabOk rfl rfl ?_ | refine WOi.nil ?_ | refine WOi.skip rfl rfl rfl ?_ | refine WOi.pu tabOk rfl rfl rfl rfl ?_ | refine Wi.seq ?_ | refine Wi.region ?_ | refine Wi.block ?_ | refine Wi.skip ?_ | refine Wi.exit ?_ | refine WOi.one rfl rfl rfl (OpW.load1 tabOk rfl rfl rfl rfl H12 (by (first | exact .head _ | exact .tail _ (.head _) | exact .tail _ (.tail _ (.head _)) | exact .tail _ (.tail _ (.tail _ (.head _))) | exact .tail _ (.tail _ (.tail _ (.tail _ (.head _)))) | exact .tail _ (.tail _ (.tail _ (.tail _ (.tail _ (.head _))))) | exact .tail _ (.tail _ (.tail _ (.tail _ (.tail _ (.tail _ (.head _)))))) | exact .tail _ (.tail _ (.tail _ (.tail _ (.tail _ (.tail _ (.tail _ (.head _))))))) | exact .tail _ (.tail _ (.tail _ (.tail _ (.tail _ (.tail _ (.tail _ (.tail _ (.head _)))))))) | exact .tail _ (.tail _ (.tail _ (.tail _ (.tail _ (.tail _ (.tail _ (.tail _ (.tail _ (.head _))))))))) | exact .tail _ (.tail _ (.tail _ (.tail _ (.tail _ (.tail _ (.tail _ (.tail _ (.tail _ (.tail _ (.head _)))))))))) | exact .tail _ (.tail _ (.tail _ (.tail _ (.tail _ (.tail _ (.tail _ (.tail _ (.tail _ (.tail _ (.tail _ (.head _))))))))))) | exact .tail _ (.tail _ (.tail _ (.tail _ (.tail _ (.tail _ (.tail _ (.tail _ (.tail _ (.tail _ (.tail _ (.tail _ (.head _)))))))))))) | exact .tail _ (.tail _ (.tail _ (.tail _ (.tail _ (.tail _ (.tail _ (.tail _ (.tail _ (.tail _ (.tail _ (.tail _ (.tail _ (.head _))))))))))))) | exact .tail _ (.tail _ (.tail _ (.tail _ (.tail _ (.tail _ (.tail _ (.tail _ (.tail _ (.tail _ (.tail _ (.tail _ (.tail _ (.tail _ (.head _)))))))))))))) | exact .tail _ (.tail _ (.tail _ (.tail _ (.tail _ (.tail _ (.tail _ (.tail _ (.tail _ (.tail _ (.tail _ (.tail _ (.tail _ (.tail _ (.tail _ (.head _))))))))))))))))) rfl ?_)))
            refine WOi.pv rfl rfl rfl (PureV.addN (n := pre.length) rfl rfl rfl (by omega)) ?_
            (repeat (first | refine WOi.run tabOk rfl rfl ?_ | refine WOi.nil ?_ | refine WOi.skip rfl rfl rfl ?_ | refine WOi.pu tabOk rfl rfl rfl rfl ?_ | refine Wi.seq ?_ | refine Wi.region ?_ | refine Wi.block ?_ | refine Wi.skip ?_ | refine Wi.exit ?_))
            refine WOi.act rfl rfl (OpW.store1 (i := 0) tabOk rfl rfl rfl rfl rfl H12 rfl rfl rfl ?_); intro V6 H12'
            (repeat (first | refine WOi.run tabOk rfl rfl ?_ | refine WOi.nil ?_ | refine WOi.skip rfl rfl rfl ?_ | refine WOi.pu tabOk rfl rfl rfl rfl ?_ | refine Wi.seq ?_ | refine Wi.region ?_ | refine Wi.block ?_ | refine Wi.skip ?_ | refine Wi.exit ?_))
            have hK0 : KeepsFrom w9.heap.size V V4 := ⟨hp4.like.size, fun k o _ hk _ => (hp4.same k (Array.getElem?_eq_some_iff.1 hk).1).trans hk⟩
            have hB0 : Below VQ.heap.size V V4 := hp4.below hB.size
            have hB2 := stBelow H12' h12ge (Nat.le_trans hB.size (Nat.le_trans hp4.like.size H11'.like.size))
            refine ⟨hK0.trans (hK1.trans (stKeeps H12' h12lt)), hB0.trans (hB1.trans hB2), hB.trans (hB0.trans (hB1.trans hB2)), ?_, ?_⟩
            · rw [lastK_snoc]; exact blk_kept H12' (H11'.holds (by simp)) (Ne.symm hne)
            · rw [List.length_append]; exact H12'.holds (by simp)

  rotate_left
  · rintro cc pre V (⟨rfl, _⟩ | ⟨rfl, _⟩)
    · exact .inl rfl
    · exact .inr rfl
  · rintro D2 pre V _ hSp (⟨_, hn⟩ | ⟨hx, _⟩) _
    · exact absurd hSp hn
    · exact nomatch hx
  rotate_left
  · rintro D2 xs V hD2 rfl ⟨hB, h11, h12⟩ hd2
    have hm := hol
    generalize (fromS frm (ents h2 x2)).length = m at h12 hm
    have HV := St.addDef HQ hB (Nat.le_trans hVQ9.size hD2) hd2
    have hwD2 : w.heap.size ≤ D2 := Nat.le_trans HQ.like.size (Nat.le_trans hVQ9.size hD2)
    have hDD : D ≠ D2 := by
      obtain ⟨S, hS⟩ := HQ.holds (A := defA D) (by simp)
      have := (Array.getElem?_eq_some_iff.1 hS.2).1
      have := hVQ9.size
      omega
    refine Wj.seq (Wi.mono (Q := fun ex r' w' => ex = .normal ∧ (Env.sub [(6, .pointer (some ⟨b6, 0, none⟩))] r' ∧ Pure w w' ∧ Holds w' (blk b6 4 [.bool true]) ∧ Holds w' (defA D2) ∧ Holds w' (defA D))) ?_ ?_)
    rotate_left
    · rintro ex r' w' ⟨rfl, hsub, hpw', k6, kD2, kD⟩
      exact Wj.of (Wi.ret fun a' ha' => order_end kD2 kD k6 hpw' hwD2 hwD hDD (ha'.less hsub))
    refine Wi.regionD rfl [0, 1] (HA [blk b12 3 [.int .i64 ((m : Nat) : Int)], blk b7 23 [.pointer (some ⟨bt2, 0, none⟩)]]) [0, 1, 2, 3, 4] rfl (by kernel_rfl) (fun _ _ _ h => nomatch h.1) ?_
    have H := HV.drew
    have hA : HA [blk b12 3 [.int .i64 ((m : Nat) : Int)], blk b7 23 [.pointer (some ⟨bt2, 0, none⟩)]] V.drew := HA.cons (h12.pure (Pure.drew V)) (HA.cons (H.holds (by simp)) (HA.nil _))
    (repeat (first | refine WDi.run tabOk rfl rfl ?_ | refine WDi.hv rfl rfl rfl rfl rfl hA (HeldV.load1 tabOk rfl rfl rfl rfl (by (first | exact .head _ | exact .tail _ (.head _) | exact .tail _ (.tail _ (.head _)) | exact .tail _ (.tail _ (.tail _ (.head _))) | exact .tail _ (.tail _ (.tail _ (.tail _ (.head _)))) | exact .tail _ (.tail _ (.tail _ (.tail _ (.tail _ (.head _))))) | exact .tail _ (.tail _ (.tail _ (.tail _ (.tail _ (.tail _ (.head _)))))) | exact .tail _ (.tail _ (.tail _ (.tail _ (.tail _ (.tail _ (.tail _ (.head _))))))) | exact .tail _ (.tail _ (.tail _ (.tail _ (.tail _ (.tail _ (.tail _ (.tail _ (.head _)))))))) | exact .tail _ (.tail _ (.tail _ (.tail _ (.tail _ (.tail _ (.tail _ (.tail _ (.tail _ (.head _))))))))) | exact .tail _ (.tail _ (.tail _ (.tail _ (.tail _ (.tail _ (.tail _ (.tail _ (.tail _ (.tail _ (.head _)))))))))) | exact .tail _ (.tail _ (.tail _ (.tail _ (.tail _ (.tail _ (.tail _ (.tail _ (.tail _ (.tail _ (.tail _ (.head _))))))))))) | exact .tail _ (.tail _ (.tail _ (.tail _ (.tail _ (.tail _ (.tail _ (.tail _ (.tail _ (.tail _ (.tail _ (.tail _ (.head _)))))))))))) | exact .tail _ (.tail _ (.tail _ (.tail _ (.tail _ (.tail _ (.tail _ (.tail _ (.tail _ (.tail _ (.tail _ (.tail _ (.tail _ (.head _))))))))))))) | exact .tail _ (.tail _ (.tail _ (.tail _ (.tail _ (.tail _ (.tail _ (.tail _ (.tail _ (.tail _ (.tail _ (.tail _ (.tail _ (.tail _ (.head _)))))))))))))) | exact .tail _ (.tail _ (.tail _ (.tail _ (.tail _ (.tail _ (.tail _ (.tail _ (.tail _ (.tail _ (.tail _ (.tail _ (.tail _ (.tail _ (.tail _ (.head _))))))))))))))))) rfl) ?_ | refine WDi.hv rfl rfl rfl rfl rfl hA (HeldV.loadA tabOk rfl rfl rfl rfl (by (first | exact .head _ | exact .tail _ (.head _) | exact .tail _ (.tail _ (.head _)) | exact .tail _ (.tail _ (.tail _ (.head _))) | exact .tail _ (.tail _ (.tail _ (.tail _ (.head _)))) | exact .tail _ (.tail _ (.tail _ (.tail _ (.tail _ (.head _))))) | exact .tail _ (.tail _ (.tail _ (.tail _ (.tail _ (.tail _ (.head _)))))) | exact .tail _ (.tail _ (.tail _ (.tail _ (.tail _ (.tail _ (.tail _ (.head _))))))) | exact .tail _ (.tail _ (.tail _ (.tail _ (.tail _ (.tail _ (.tail _ (.tail _ (.head _)))))))) | exact .tail _ (.tail _ (.tail _ (.tail _ (.tail _ (.tail _ (.tail _ (.tail _ (.tail _ (.head _))))))))) | exact .tail _ (.tail _ (.tail _ (.tail _ (.tail _ (.tail _ (.tail _ (.tail _ (.tail _ (.tail _ (.head _)))))))))) | exact .tail _ (.tail _ (.tail _ (.tail _ (.tail _ (.tail _ (.tail _ (.tail _ (.tail _ (.tail _ (.tail _ (.head _))))))))))) | exact .tail _ (.tail _ (.tail _ (.tail _ (.tail _ (.tail _ (.tail _ (.tail _ (.tail _ (.tail _ (.tail _ (.tail _ (.head _)))))))))))) | exact .tail _ (.tail _ (.tail _ (.tail _ (.tail _ (.tail _ (.tail _ (.tail _ (.tail _ (.tail _ (.tail _ (.tail _ (.tail _ (.head _))))))))))))) | exact .tail _ (.tail _ (.tail _ (.tail _ (.tail _ (.tail _ (.tail _ (.tail _ (.tail _ (.tail _ (.tail _ (.tail _ (.tail _ (.tail _ (.head _)))))))))))))) | exact .tail _ (.tail _ (.tail _ (.tail _ (.tail _ (.tail _ (.tail _ (.tail _ (.tail _ (.tail _ (.tail _ (.tail _ (.tail _ (.tail _ (.tail _ (.head _))))))))))))))))) rfl rfl) ?_ | refine WDi.pu tabOk rfl rfl rfl rfl rfl rfl ?_))
    refine WDi.oneS rfl rfl rfl rfl rfl (OpW.call rfl Try.call11 rfl (Calls.ret (len_ok V.drew bt2 (.pointer (some ⟨br2, 0, none⟩)) ((ents h2 x2).length : Int) (H.holds (by simp))) ?_))
    rintro _ V9 ⟨e9, rfl⟩
    have e9 := e9.symm
    subst e9
    refine ⟨hA, ?_⟩
    (repeat (first | refine WDi.run tabOk rfl rfl ?_ | refine WDi.hv rfl rfl rfl rfl rfl hA (HeldV.load1 tabOk rfl rfl rfl rfl (by (first | exact .head _ | exact .tail _ (.head _) | exact .tail _ (.tail _ (.head _)) | exact .tail _ (.tail _ (.tail _ (.head _))) | exact .tail _ (.tail _ (.tail _ (.tail _ (.head _)))) | exact .tail _ (.tail _ (.tail _ (.tail _ (.tail _ (.head _))))) | exact .tail _ (.tail _ (.tail _ (.tail _ (.tail _ (.tail _ (.head _)))))) | exact .tail _ (.tail _ (.tail _ (.tail _ (.tail _ (.tail _ (.tail _ (.head _))))))) | exact .tail _ (.tail _ (.tail _ (.tail _ (.tail _ (.tail _ (.tail _ (.tail _ (.head _)))))))) | exact .tail _ (.tail _ (.tail _ (.tail _ (.tail _ (.tail _ (.tail _ (.tail _ (.tail _ (.head _))))))))) | exact .tail _ (.tail _ (.tail _ (.tail _ (.tail _ (.tail _ (.tail _ (.tail _ (.tail _ (.tail _ (.head _)))))))))) | exact .tail _ (.tail _ (.tail _ (.tail _ (.tail _ (.tail _ (.tail _ (.tail _ (.tail _ (.tail _ (.tail _ (.head _))))))))))) | exact .tail _ (.tail _ (.tail _ (.tail _ (.tail _ (.tail _ (.tail _ (.tail _ (.tail _ (.tail _ (.tail _ (.tail _ (.head _)))))))))))) | exact .tail _ (.tail _ (.tail _ (.tail _ (.tail _ (.tail _ (.tail _ (.tail _ (.tail _ (.tail _ (.tail _ (.tail _ (.tail _ (.head _))))))))))))) | exact .tail _ (.tail _ (.tail _ (.tail _ (.tail _ (.tail _ (.tail _ (.tail _ (.tail _ (.tail _ (.tail _ (.tail _ (.tail _ (.tail _ (.head _)))))))))))))) | exact .tail _ (.tail _ (.tail _ (.tail _ (.tail _ (.tail _ (.tail _ (.tail _ (.tail _ (.tail _ (.tail _ (.tail _ (.tail _ (.tail _ (.tail _ (.head _))))))))))))))))) rfl) ?_ | refine WDi.hv rfl rfl rfl rfl rfl hA (HeldV.loadA tabOk rfl rfl rfl rfl (by (first | exact .head _ | exact .tail _ (.head _) | exact .tail _ (.tail _ (.head _)) | exact .tail _ (.tail _ (.tail _ (.head _))) | exact .tail _ (.tail _ (.tail _ (.tail _ (.head _)))) | exact .tail _ (.tail _ (.tail _ (.tail _ (.tail _ (.head _))))) | exact .tail _ (.tail _ (.tail _ (.tail _ (.tail _ (.tail _ (.head _)))))) | exact .tail _ (.tail _ (.tail _ (.tail _ (.tail _ (.tail _ (.tail _ (.head _))))))) | exact .tail _ (.tail _ (.tail _ (.tail _ (.tail _ (.tail _ (.tail _ (.tail _ (.head _)))))))) | exact .tail _ (.tail _ (.tail _ (.tail _ (.tail _ (.tail _ (.tail _ (.tail _ (.tail _ (.head _))))))))) | exact .tail _ (.tail _ (.tail _ (.tail _ (.tail _ (.tail _ (.tail _ (.tail _ (.tail _ (.tail _ (.head _)))))))))) | exact .tail _ (.tail _ (.tail _ (.tail _ (.tail _ (.tail _ (.tail _ (.tail _ (.tail _ (.tail _ (.tail _ (.head _))))))))))) | exact .tail _ (.tail _ (.tail _ (.tail _ (.tail _ (.tail _ (.tail _ (.tail _ (.tail _ (.tail _ (.tail _ (.tail _ (.head _)))))))))))) | exact .tail _ (.tail _ (.tail _ (.tail _ (.tail _ (.tail _ (.tail _ (.tail _ (.tail _ (.tail _ (.tail _ (.tail _ (.tail _ (.head _))))))))))))) | exact .tail _ (.tail _ (.tail _ (.tail _ (.tail _ (.tail _ (.tail _ (.tail _ (.tail _ (.tail _ (.tail _ (.tail _ (.tail _ (.tail _ (.head _)))))))))))))) | exact .tail _ (.tail _ (.tail _ (.tail _ (.tail _ (.tail _ (.tail _ (.tail _ (.tail _ (.tail _ (.tail _ (.tail _ (.tail _ (.tail _ (.tail _ (.head _))))))))))))))))) rfl rfl) ?_ | refine WDi.pu tabOk rfl rfl rfl rfl rfl rfl ?_))
    refine WDi.tell (d := 81) (u := .bool true) rfl (congrArg Value.bool (decide_eq_true (by omega))) ?_
    refine WDi.act rfl rfl rfl rfl (by kernel_rfl) (OpW.store1 (i := 8) tabOk rfl rfl rfl rfl rfl H rfl rfl rfl ?_)
    clear H hA
    intro V8 H
    refine WDi.nil ⟨rfl, sub_keep [6] rfl, H.pure, H.holds (by simp), H.holds (by simp), H.holds (by simp)⟩

  · rintro D2 pre V hD2 hSp (⟨hx, _⟩ | ⟨_, hB, h12⟩) hd2
    · exact nomatch hx
    have hm : pre.length - 1 ≤ (ents h2 x2).length := by have := hSp.length_le; omega
    generalize pre.length - 1 = m at h12 hm
    have HV := St.addDef HQ hB (Nat.le_trans hVQ9.size hD2) hd2
    have hwD2 : w.heap.size ≤ D2 := Nat.le_trans HQ.like.size (Nat.le_trans hVQ9.size hD2)
    have hDD : D ≠ D2 := by
      obtain ⟨S, hS⟩ := HQ.holds (A := defA D) (by simp)
      have := (Array.getElem?_eq_some_iff.1 hS.2).1
      have := hVQ9.size
      omega
    refine Wj.seq (Wi.mono (Q := fun ex r' w' => ex = .normal ∧ (Env.sub [(6, .pointer (some ⟨b6, 0, none⟩))] r' ∧ Pure w w' ∧ Holds w' (blk b6 4 [.bool true]) ∧ Holds w' (defA D2) ∧ Holds w' (defA D))) ?_ ?_)
    rotate_left
    · rintro ex r' w' ⟨rfl, hsub, hpw', k6, kD2, kD⟩
      exact Wj.of (Wi.ret fun a' ha' => order_end kD2 kD k6 hpw' hwD2 hwD hDD (ha'.less hsub))
    refine Wi.regionD rfl [0, 1] (HA [blk b12 3 [.int .i64 ((m : Nat) : Int)], blk b7 23 [.pointer (some ⟨bt2, 0, none⟩)]]) [0, 1, 2, 3, 4] rfl (by kernel_rfl) (fun _ _ _ h => nomatch h.1) ?_
    have H := HV.drew
    have hA : HA [blk b12 3 [.int .i64 ((m : Nat) : Int)], blk b7 23 [.pointer (some ⟨bt2, 0, none⟩)]] V.drew := HA.cons (h12.pure (Pure.drew V)) (HA.cons (H.holds (by simp)) (HA.nil _))
    (repeat (first | refine WDi.run tabOk rfl rfl ?_ | refine WDi.hv rfl rfl rfl rfl rfl hA (HeldV.load1 tabOk rfl rfl rfl rfl (by (first | exact .head _ | exact .tail _ (.head _) | exact .tail _ (.tail _ (.head _)) | exact .tail _ (.tail _ (.tail _ (.head _))) | exact .tail _ (.tail _ (.tail _ (.tail _ (.head _)))) | exact .tail _ (.tail _ (.tail _ (.tail _ (.tail _ (.head _))))) | exact .tail _ (.tail _ (.tail _ (.tail _ (.tail _ (.tail _ (.head _)))))) | exact .tail _ (.tail _ (.tail _ (.tail _ (.tail _ (.tail _ (.tail _ (.head _))))))) | exact .tail _ (.tail _ (.tail _ (.tail _ (.tail _ (.tail _ (.tail _ (.tail _ (.head _)))))))) | exact .tail _ (.tail _ (.tail _ (.tail _ (.tail _ (.tail _ (.tail _ (.tail _ (.tail _ (.head _))))))))) | exact .tail _ (.tail _ (.tail _ (.tail _ (.tail _ (.tail _ (.tail _ (.tail _ (.tail _ (.tail _ (.head _)))))))))) | exact .tail _ (.tail _ (.tail _ (.tail _ (.tail _ (.tail _ (.tail _ (.tail _ (.tail _ (.tail _ (.tail _ (.head _))))))))))) | exact .tail _ (.tail _ (.tail _ (.tail _ (.tail _ (.tail _ (.tail _ (.tail _ (.tail _ (.tail _ (.tail _ (.tail _ (.head _)))))))))))) | exact .tail _ (.tail _ (.tail _ (.tail _ (.tail _ (.tail _ (.tail _ (.tail _ (.tail _ (.tail _ (.tail _ (.tail _ (.tail _ (.head _))))))))))))) | exact .tail _ (.tail _ (.tail _ (.tail _ (.tail _ (.tail _ (.tail _ (.tail _ (.tail _ (.tail _ (.tail _ (.tail _ (.tail _ (.tail _ (.head _)))))))))))))) | exact .tail _ (.tail _ (.tail _ (.tail _ (.tail _ (.tail _ (.tail _ (.tail _ (.tail _ (.tail _ (.tail _ (.tail _ (.tail _ (.tail _ (.tail _ (.head _))))))))))))))))) rfl) ?_ | refine WDi.hv rfl rfl rfl rfl rfl hA (HeldV.loadA tabOk rfl rfl rfl rfl (by (first | exact .head _ | exact .tail _ (.head _) | exact .tail _ (.tail _ (.head _)) | exact .tail _ (.tail _ (.tail _ (.head _))) | exact .tail _ (.tail _ (.tail _ (.tail _ (.head _)))) | exact .tail _ (.tail _ (.tail _ (.tail _ (.tail _ (.head _))))) | exact .tail _ (.tail _ (.tail _ (.tail _ (.tail _ (.tail _ (.head _)))))) | exact .tail _ (.tail _ (.tail _ (.tail _ (.tail _ (.tail _ (.tail _ (.head _))))))) | exact .tail _ (.tail _ (.tail _ (.tail _ (.tail _ (.tail _ (.tail _ (.tail _ (.head _)))))))) | exact .tail _ (.tail _ (.tail _ (.tail _ (.tail _ (.tail _ (.tail _ (.tail _ (.tail _ (.head _))))))))) | exact .tail _ (.tail _ (.tail _ (.tail _ (.tail _ (.tail _ (.tail _ (.tail _ (.tail _ (.tail _ (.head _)))))))))) | exact .tail _ (.tail _ (.tail _ (.tail _ (.tail _ (.tail _ (.tail _ (.tail _ (.tail _ (.tail _ (.tail _ (.head _))))))))))) | exact .tail _ (.tail _ (.tail _ (.tail _ (.tail _ (.tail _ (.tail _ (.tail _ (.tail _ (.tail _ (.tail _ (.tail _ (.head _)))))))))))) | exact .tail _ (.tail _ (.tail _ (.tail _ (.tail _ (.tail _ (.tail _ (.tail _ (.tail _ (.tail _ (.tail _ (.tail _ (.tail _ (.head _))))))))))))) | exact .tail _ (.tail _ (.tail _ (.tail _ (.tail _ (.tail _ (.tail _ (.tail _ (.tail _ (.tail _ (.tail _ (.tail _ (.tail _ (.tail _ (.head _)))))))))))))) | exact .tail _ (.tail _ (.tail _ (.tail _ (.tail _ (.tail _ (.tail _ (.tail _ (.tail _ (.tail _ (.tail _ (.tail _ (.tail _ (.tail _ (.tail _ (.head _))))))))))))))))) rfl rfl) ?_ | refine WDi.pu tabOk rfl rfl rfl rfl rfl rfl ?_))
    refine WDi.oneS rfl rfl rfl rfl rfl (OpW.call rfl Try.call11 rfl (Calls.ret (len_ok V.drew bt2 (.pointer (some ⟨br2, 0, none⟩)) ((ents h2 x2).length : Int) (H.holds (by simp))) ?_))
    rintro _ V9 ⟨e9, rfl⟩
    have e9 := e9.symm
    subst e9
    refine ⟨hA, ?_⟩
    (repeat (first | refine WDi.run tabOk rfl rfl ?_ | refine WDi.hv rfl rfl rfl rfl rfl hA (HeldV.load1 tabOk rfl rfl rfl rfl (by (first | exact .head _ | exact .tail _ (.head _) | exact .tail _ (.tail _ (.head _)) | exact .tail _ (.tail _ (.tail _ (.head _))) | exact .tail _ (.tail _ (.tail _ (.tail _ (.head _)))) | exact .tail _ (.tail _ (.tail _ (.tail _ (.tail _ (.head _))))) | exact .tail _ (.tail _ (.tail _ (.tail _ (.tail _ (.tail _ (.head _)))))) | exact .tail _ (.tail _ (.tail _ (.tail _ (.tail _ (.tail _ (.tail _ (.head _))))))) | exact .tail _ (.tail _ (.tail _ (.tail _ (.tail _ (.tail _ (.tail _ (.tail _ (.head _)))))))) | exact .tail _ (.tail _ (.tail _ (.tail _ (.tail _ (.tail _ (.tail _ (.tail _ (.tail _ (.head _))))))))) | exact .tail _ (.tail _ (.tail _ (.tail _ (.tail _ (.tail _ (.tail _ (.tail _ (.tail _ (.tail _ (.head _)))))))))) | exact .tail _ (.tail _ (.tail _ (.tail _ (.tail _ (.tail _ (.tail _ (.tail _ (.tail _ (.tail _ (.tail _ (.head _))))))))))) | exact .tail _ (.tail _ (.tail _ (.tail _ (.tail _ (.tail _ (.tail _ (.tail _ (.tail _ (.tail _ (.tail _ (.tail _ (.head _)))))))))))) | exact .tail _ (.tail _ (.tail _ (.tail _ (.tail _ (.tail _ (.tail _ (.tail _ (.tail _ (.tail _ (.tail _ (.tail _ (.tail _ (.head _))))))))))))) | exact .tail _ (.tail _ (.tail _ (.tail _ (.tail _ (.tail _ (.tail _ (.tail _ (.tail _ (.tail _ (.tail _ (.tail _ (.tail _ (.tail _ (.head _)))))))))))))) | exact .tail _ (.tail _ (.tail _ (.tail _ (.tail _ (.tail _ (.tail _ (.tail _ (.tail _ (.tail _ (.tail _ (.tail _ (.tail _ (.tail _ (.tail _ (.head _))))))))))))))))) rfl) ?_ | refine WDi.hv rfl rfl rfl rfl rfl hA (HeldV.loadA tabOk rfl rfl rfl rfl (by (first | exact .head _ | exact .tail _ (.head _) | exact .tail _ (.tail _ (.head _)) | exact .tail _ (.tail _ (.tail _ (.head _))) | exact .tail _ (.tail _ (.tail _ (.tail _ (.head _)))) | exact .tail _ (.tail _ (.tail _ (.tail _ (.tail _ (.head _))))) | exact .tail _ (.tail _ (.tail _ (.tail _ (.tail _ (.tail _ (.head _)))))) | exact .tail _ (.tail _ (.tail _ (.tail _ (.tail _ (.tail _ (.tail _ (.head _))))))) | exact .tail _ (.tail _ (.tail _ (.tail _ (.tail _ (.tail _ (.tail _ (.tail _ (.head _)))))))) | exact .tail _ (.tail _ (.tail _ (.tail _ (.tail _ (.tail _ (.tail _ (.tail _ (.tail _ (.head _))))))))) | exact .tail _ (.tail _ (.tail _ (.tail _ (.tail _ (.tail _ (.tail _ (.tail _ (.tail _ (.tail _ (.head _)))))))))) | exact .tail _ (.tail _ (.tail _ (.tail _ (.tail _ (.tail _ (.tail _ (.tail _ (.tail _ (.tail _ (.tail _ (.head _))))))))))) | exact .tail _ (.tail _ (.tail _ (.tail _ (.tail _ (.tail _ (.tail _ (.tail _ (.tail _ (.tail _ (.tail _ (.tail _ (.head _)))))))))))) | exact .tail _ (.tail _ (.tail _ (.tail _ (.tail _ (.tail _ (.tail _ (.tail _ (.tail _ (.tail _ (.tail _ (.tail _ (.tail _ (.head _))))))))))))) | exact .tail _ (.tail _ (.tail _ (.tail _ (.tail _ (.tail _ (.tail _ (.tail _ (.tail _ (.tail _ (.tail _ (.tail _ (.tail _ (.tail _ (.head _)))))))))))))) | exact .tail _ (.tail _ (.tail _ (.tail _ (.tail _ (.tail _ (.tail _ (.tail _ (.tail _ (.tail _ (.tail _ (.tail _ (.tail _ (.tail _ (.tail _ (.head _))))))))))))))))) rfl rfl) ?_ | refine WDi.pu tabOk rfl rfl rfl rfl rfl rfl ?_))
    refine WDi.tell (d := 81) (u := .bool true) rfl (congrArg Value.bool (decide_eq_true (by omega))) ?_
    refine WDi.act rfl rfl rfl rfl (by kernel_rfl) (OpW.store1 (i := 8) tabOk rfl rfl rfl rfl rfl H rfl rfl rfl ?_)
    clear H hA
    intro V8 H
    refine WDi.nil ⟨rfl, sub_keep [6] rfl, H.pure, H.holds (by simp), H.holds (by simp), H.holds (by simp)⟩

end Go.Proofs.Ytnghaidnbicjjaa
