/- graph: Reach. Conditions: each fact's own premises. -/
import Derived.Test.YtnghaidnbicjjaaGraphB
set_option linter.unusedVariables false
set_option linter.unusedSimpArgs false
set_option maxRecDepth 20000
namespace Go.Proofs.Ytnghaidnbicjjaa
open Go Gw
attribute [local irreducible] W WO WD

/-! ### Ways by edges -/
inductive RchE (E : List (Int × Int)) : Nat → Nat → Prop where
  | refl (a : Nat) : RchE E a a
  | step {a b c : Nat} : ((a : Int), (b : Int)) ∈ E → RchE E b c → RchE E a c
theorem NextOk.rch {n : Nat} {E : List (Int × Int)} {to : List (List Nat)} (h : NextOk n E to) {a b : Nat} : Rch to a b ↔ RchE E a b := by
  constructor
  · intro k
    induction k with
    | refl a => exact .refl a
    | step e _ ih => exact .step ((h.ed _ _).1 e) ih
  · intro k
    induction k with
    | refl a => exact .refl a
    | step e _ ih => exact .step ((h.ed _ _).2 e) ih
/-- A way by one edge or more. -/
def PlusE (E : List (Int × Int)) (a b : Nat) : Prop := ∃ c : Nat, ((a : Int), (c : Int)) ∈ E ∧ RchE E c b
theorem RchE.trans {E : List (Int × Int)} {a b c : Nat} (h : RchE E a b) (k : RchE E b c) : RchE E a c := by
  induction h with
  | refl a => exact k
  | step e _ ih => exact .step e (ih k)
theorem PlusE.next {E : List (Int × Int)} {a b c : Nat} (h : PlusE E a b) (k : ((b : Int), (c : Int)) ∈ E) : PlusE E a c := by
  obtain ⟨d, h1, h2⟩ := h
  exact ⟨d, h1, h2.trans (.step k (.refl c))⟩
theorem RchE.plus {E : List (Int × Int)} {a b : Nat} (h : RchE E a b) (hne : a ≠ b) : PlusE E a b := by
  cases h with
  | refl => exact absurd rfl hne
  | step e k => exact ⟨_, e, k⟩
theorem PlusE.rch {E : List (Int × Int)} {a b : Nat} (h : PlusE E a b) : RchE E a b := by obtain ⟨c, h1, h2⟩ := h; exact .step h1 h2
theorem RchE.closed {E : List (Int × Int)} {S : Nat → Prop} (hS : ∀ a b : Nat, S a → ((a : Int), (b : Int)) ∈ E → S b) {a b : Nat} (h : RchE E a b) (ha : S a) : S b := by
  induction h with
  | refl a => exact ha
  | step e _ ih => exact ih (hS _ _ ha e)

/-- What has been come to, and what lies in the queue. -/
structure QInv (n : Nat) (E : List (Int × Int)) (fr : Nat) (inn q : List Nat) : Prop where
  len : inn.length = n
  sound : ∀ b : Nat, (inn.getD b 0 = 1 ∨ b ∈ q) → PlusE E fr b
  closed : ∀ a b : Nat, (inn.getD a 0 = 1 ∨ a = fr) → ((a : Int), (b : Int)) ∈ E → inn.getD b 0 = 1 ∨ b ∈ q
  bit : ∀ b, inn.getD b 0 = 0 ∨ inn.getD b 0 = 1
theorem QInv.end {n : Nat} {E : List (Int × Int)} {fr : Nat} {inn : List Nat} (h : QInv n E fr inn []) (b : Nat) : inn.getD b 0 = 1 ↔ PlusE E fr b := by
  refine ⟨fun hb => h.sound b (.inl hb), fun ⟨c, h1, h2⟩ => ?_⟩
  have hc := h.closed fr c (.inr rfl) h1
  have hc : inn.getD c 0 = 1 := hc.elim id fun h => nomatch h
  exact RchE.closed (S := fun a => inn.getD a 0 = 1) (fun a b ha hab => (h.closed a b (.inl ha) hab).elim id fun h => nomatch h) h2 hc
theorem QInv.old {n : Nat} {E : List (Int × Int)} {fr k : Nat} {inn q : List Nat} (h : QInv n E fr inn (k :: q)) (hk : inn.getD k 0 = 1) : QInv n E fr inn q := by
  refine ⟨h.len, fun b hb => h.sound b (hb.imp id (List.mem_cons_of_mem _)), fun a b ha hab => ?_, h.bit⟩
  rcases h.closed a b ha hab with hb | hb
  · exact .inl hb
  · rcases List.mem_cons.1 hb with rfl | hb
    · exact .inl hk
    · exact .inr hb
theorem QInv.new {n : Nat} {E : List (Int × Int)} {fr k : Nat} {inn q l : List Nat} (h : QInv n E fr inn (k :: q)) (hkn : k < n) (hl : ∀ b : Nat, b ∈ l ↔ ((k : Int), (b : Int)) ∈ E) : QInv n E fr (inn.set k 1) (q ++ l) := by
  have hs : ∀ b, (inn.set k 1).getD b 0 = if k = b then 1 else inn.getD b 0 := fun b => getD_setN _ _ _ _ (by rw [h.len]; exact hkn)
  refine ⟨by simp [h.len], fun b hb => ?_, fun a b ha hab => ?_, fun b => ?_⟩
  · rw [hs] at hb
    rcases hb with hb | hb
    · split at hb
      · rename_i e; subst e; exact h.sound k (.inr (by simp))
      · exact h.sound b (.inl hb)
    · rcases List.mem_append.1 hb with hb | hb
      · exact h.sound b (.inr (List.mem_cons_of_mem _ hb))
      · exact (h.sound k (.inr (by simp))).next ((hl b).1 hb)
  · rw [hs] at ha ⊢
    by_cases e : k = a
    · subst e
      exact .inr (List.mem_append.2 (.inr ((hl b).2 hab)))
    · rw [if_neg e] at ha
      rcases h.closed a b ha hab with hb | hb
      · left; split <;> omega
      · rcases List.mem_cons.1 hb with rfl | hb
        · left; simp
        · exact .inr (List.mem_append.2 (.inl hb))
  · rw [hs]; split
    · exact .inr rfl
    · exact h.bit b
theorem count_mark {inn : List Nat} {k : Nat} (hk : k < inn.length) (h0 : inn.getD k 0 = 0) : (inn.set k 1).count 0 + 1 = inn.count 0 := by
  have hg : inn[k] = 0 := by simpa [hk] using h0
  have hm : (0 : Nat) ∈ inn := hg ▸ List.getElem_mem hk
  have hc : 0 < inn.count 0 := List.count_pos_iff.2 hm
  have : (inn.set k 1).count 0 = inn.count 0 - 1 := by rw [List.count_set hk]; simp [hg]
  omega

def reachF (inn : List Nat) (i : Nat) : List Nat := (List.range i).filter fun k => decide (inn.getD k 0 = 1)
theorem reachF_succ (inn : List Nat) (i : Nat) : reachF inn (i + 1) = reachF inn i ++ (if inn.getD i 0 = 1 then [i] else []) := by
  unfold reachF
  rw [List.range_succ, List.filter_append]
  congr 1
  by_cases h : inn.getD i 0 = 1
  · rw [if_pos h, List.filter_cons, if_pos (by simpa using h)]; rfl
  · rw [if_neg h, List.filter_cons, if_neg (by simpa using h)]; rfl
theorem reachF_len (inn : List Nat) (i : Nat) : (reachF inn i).length ≤ i := by
  have := List.length_filter_le (fun k => decide (inn.getD k 0 = 1)) (List.range i)
  rwa [List.length_range] at this

def ReachPost (w w' : World) (n : Int) (E : List (Int × Int)) (fr : Int) (v : Value) : Prop :=
  ∃ ev e, v = .tuple #[ev, .int .i64 e] ∧ ((e ≠ 0 ∧ ¬ (GOk n E ∧ 0 ≤ fr ∧ fr < n) ∧ ev = .slice none 0 0 ∧ Pure w w') ∨
    (e = 0 ∧ GOk n E ∧ 0 ≤ fr ∧ fr < n ∧ ∃ xs : List Nat, (∀ b : Nat, b ∈ xs ↔ (b : Int) < n ∧ PlusE E fr.toNat b) ∧ St (at0 w) w' [row 3 natR ev xs] []))

theorem reach_ok (w : World) (n : Int) (a : Option Addr) (c : Nat) (E : List (Int × Int)) (fr : Int) (hH : Holds w (rd edgeR a c E)) :
    Calls Try.prog 32 #[.int .i64 n, .slice a E.length c, .int .i64 fr] w (Ret fun v w' => ReachPost w w' n E fr v) := by
  refine calls_W (args := [_, _, _]) Try.func32 rfl Try.ntmps32 rfl ?_
  have H0 := St.start [] (w := w) (by simp)
  (repeat (first | refine WO.run tabOk rfl rfl ?_ | refine WO.nil ?_ | refine WO.skip rfl rfl rfl ?_ | refine WO.pu tabOk rfl rfl rfl rfl ?_ | refine W.seq ?_ | refine W.region ?_ | refine W.block ?_ | refine W.skip ?_ | refine W.exit ?_))
  refine WO.one rfl rfl rfl (OpW.call rfl Try.call64 rfl (Calls.ret (gcheck_ok _ n a c E hH) ?_))
  rintro _ w2 ⟨hp2, e, rfl, he⟩
  have H2 := H0.after hp2
  (repeat (first | refine WO.run tabOk rfl rfl ?_ | refine WO.nil ?_ | refine WO.skip rfl rfl rfl ?_ | refine WO.pu tabOk rfl rfl rfl rfl ?_ | refine W.seq ?_ | refine W.region ?_ | refine W.block ?_ | refine W.skip ?_ | refine W.exit ?_))
  refine W.cond rfl (fun h1 => ?_) (fun h1 => ?_)
  · (repeat (first | refine WO.run tabOk rfl rfl ?_ | refine WO.nil ?_ | refine WO.skip rfl rfl rfl ?_ | refine WO.pu tabOk rfl rfl rfl rfl ?_ | refine W.seq ?_ | refine W.region ?_ | refine W.block ?_ | refine W.skip ?_ | refine W.exit ?_))
    simp at h1
    exact W.ret (ret2 Try.results32 rfl rfl ⟨_, rfl, _, _, rfl, .inl ⟨h1, fun h => h1 (he.2 h.1), rfl, H2.pure⟩⟩)
  simp at h1
  have hG := he.1 h1
  subst h1
  clear he
  (repeat (first | refine WO.run tabOk rfl rfl ?_ | refine WO.nil ?_ | refine WO.skip rfl rfl rfl ?_ | refine WO.pu tabOk rfl rfl rfl rfl ?_ | refine W.seq ?_ | refine W.region ?_ | refine W.block ?_ | refine W.skip ?_ | refine W.exit ?_))
  refine WO.tell (d := 24) (u := .bool (decide (fr < 0))) rfl rfl ?_
  refine WO.caseG rfl rfl (fun g1 => ?_) (fun g1 => ?_)
  · (repeat (first | refine WO.run tabOk rfl rfl ?_ | refine WO.nil ?_ | refine WO.skip rfl rfl rfl ?_ | refine WO.pu tabOk rfl rfl rfl rfl ?_ | refine W.seq ?_ | refine W.region ?_ | refine W.block ?_ | refine W.skip ?_ | refine W.exit ?_))
    refine W.cond_t rfl ?_
    (repeat (first | refine WO.run tabOk rfl rfl ?_ | refine WO.nil ?_ | refine WO.skip rfl rfl rfl ?_ | refine WO.pu tabOk rfl rfl rfl rfl ?_ | refine W.seq ?_ | refine W.region ?_ | refine W.block ?_ | refine W.skip ?_ | refine W.exit ?_))
    simp at g1
    exact W.ret (ret2 Try.results32 rfl rfl ⟨_, rfl, _, _, rfl, .inl ⟨by decide, fun h => by omega, rfl, H2.pure⟩⟩)
  (repeat (first | refine WO.run tabOk rfl rfl ?_ | refine WO.nil ?_ | refine WO.skip rfl rfl rfl ?_ | refine WO.pu tabOk rfl rfl rfl rfl ?_ | refine W.seq ?_ | refine W.region ?_ | refine W.block ?_ | refine W.skip ?_ | refine W.exit ?_))
  refine W.cond rfl (fun g2 => ?_) (fun g2 => ?_)
  · (repeat (first | refine WO.run tabOk rfl rfl ?_ | refine WO.nil ?_ | refine WO.skip rfl rfl rfl ?_ | refine WO.pu tabOk rfl rfl rfl rfl ?_ | refine W.seq ?_ | refine W.region ?_ | refine W.block ?_ | refine W.skip ?_ | refine W.exit ?_))
    simp [pickV] at g2
    exact W.ret (ret2 Try.results32 rfl rfl ⟨_, rfl, _, _, rfl, .inl ⟨by decide, fun h => by omega, rfl, H2.pure⟩⟩)
  simp at g1
  simp [pickV] at g2
  obtain ⟨k, rfl⟩ := Int.eq_ofNat_of_zero_le hG.lo
  obtain ⟨f, rfl⟩ := Int.eq_ofNat_of_zero_le g1
  have hfn : f < k := by omega
  have hk60 := hG.hi
  have hEl := hG.len
  (repeat (first | refine WO.run tabOk rfl rfl ?_ | refine WO.nil ?_ | refine WO.skip rfl rfl rfl ?_ | refine WO.pu tabOk rfl rfl rfl rfl ?_ | refine W.seq ?_ | refine W.region ?_ | refine W.block ?_ | refine W.skip ?_ | refine W.exit ?_))
  refine WO.one rfl rfl rfl (OpW.call rfl Try.call65 rfl (Calls.ret (next_ok _ k a c E (hH.pure hp2) hG) ?_))
  rintro v3 w3 ⟨to, hE, K3⟩
  obtain ⟨ta, tc, rfl, H3⟩ := (H2.take K3).toRead
  clear K3 H2 hp2 H0
  (repeat (first | refine WO.run tabOk rfl rfl ?_ | refine WO.nil ?_ | refine WO.skip rfl rfl rfl ?_ | refine WO.pu tabOk rfl rfl rfl rfl ?_ | refine W.seq ?_ | refine W.region ?_ | refine W.block ?_ | refine W.skip ?_ | refine W.exit ?_))
  refine WO.one rfl rfl rfl (OpW.makeN tabOk rfl rfl rfl rfl zero3 rfl rfl rfl (by omega) (by simp only [maxLen]; omega) H3 ?_)
  intro g w4 H4
  rw [rep_nat] at H4
  (repeat (first | refine WO.run tabOk rfl rfl ?_ | refine WO.nil ?_ | refine WO.skip rfl rfl rfl ?_ | refine WO.pu tabOk rfl rfl rfl rfl ?_ | refine W.seq ?_ | refine W.region ?_ | refine W.block ?_ | refine W.skip ?_ | refine W.exit ?_))
  have hy := List.getElem?_eq_getElem (l := to) (i := f) (by rw [hE.len]; exact hfn)
  generalize to[f]'_ = l at hy
  have hlm : l ∈ to := List.mem_of_getElem? hy
  have hls := hE.short l hlm
  obtain ⟨tb, tof, a1, c1, rfl, hcell, H5⟩ := H4.roSub (List.mem_cons_self ..) hy
  refine WO.pv rfl rfl rfl (PureV.idxN tabOk rfl rfl rfl rfl rfl rfl (by rw [hE.len]; exact hfn)) ?_
  refine WO.one rfl rfl rfl (OpW.loadc tabOk rfl rfl rfl rfl hcell ?_)
  (repeat (first | refine WO.run tabOk rfl rfl ?_ | refine WO.nil ?_ | refine WO.skip rfl rfl rfl ?_ | refine WO.pu tabOk rfl rfl rfl rfl ?_ | refine W.seq ?_ | refine W.region ?_ | refine W.block ?_ | refine W.skip ?_ | refine W.exit ?_))
  have hR : Holds w4 (rd natR a1 c1 l) := H5.holds (by simp)
  refine WO.one rfl rfl rfl (OpW.call rfl Try.call69 rfl (Calls.ret (cloneI_ok _ _ _ _ _ (nat_shows hR) (by omega)) ?_))
  intro v5 w5 K5
  have H6 := (H4.take K5).nat_close
  clear H5 H4 K5 hR hcell H3
  (repeat (first | refine WO.run tabOk rfl rfl ?_ | refine WO.nil ?_ | refine WO.skip rfl rfl rfl ?_ | refine WO.pu tabOk rfl rfl rfl rfl ?_ | refine W.seq ?_ | refine W.region ?_ | refine W.block ?_ | refine W.skip ?_ | refine W.exit ?_))
  have hI0 : QInv k E f (List.replicate k 0) l := by
    refine ⟨by simp, fun b hb => ?_, fun a b ha hab => ?_, fun b => ?_⟩
    · rcases hb with hb | hb
      · simp [List.getD_eq_getElem?_getD, List.getElem?_replicate] at hb; split at hb <;> simp at hb
      · exact ⟨b, (hE.ed f b).1 ⟨l, hy, hb⟩, .refl b⟩
    · rcases ha with ha | rfl
      · simp [List.getD_eq_getElem?_getD, List.getElem?_replicate] at ha; split at ha <;> simp at ha
      · obtain ⟨l', hl', hb⟩ := (hE.ed a b).2 hab
        rw [hy] at hl'; cases hl'; exact .inr hb
    · left; simp [List.getD_eq_getElem?_getD, List.getElem?_replicate]; split <;> simp
  have hm0 : (List.replicate k 0).count 0 * 2001 + l.length ≤ k * 2001 + 2000 := by simp; omega
  refine W.loopS [9, 10, 11] (fun s : List Nat × List Nat × Value => [(9, .slice (some ⟨tb, tof, none⟩) to.length tc), (10, .slice (some ⟨g, 0, none⟩) k k), (11, s.2.2)])
    (fun s w' => QInv k E f s.1 s.2.1 ∧ s.1.count 0 * 2001 + s.2.1.length ≤ k * 2001 + 2000 ∧ (∀ x ∈ s.2.1, x < k) ∧ St (at0 w) w' [row 3 natR s.2.2 s.2.1, blk g 3 (s.1.flatMap encN)] [rd (Rdr.rd natR) (some ⟨tb, tof, none⟩) tc to]) (fun s => s.1.count 0 * 2001 + s.2.1.length) (List.replicate k 0, l, v5) rfl ⟨hI0, hm0, fun x hx => hE.lt hG hlm hx, H6⟩ ?_
  clear H6 hI0 hm0
  rintro ⟨inn, q, vq⟩ w6 ⟨hI, hm, hq, H⟩
  simp only at hI hm hq H
  have hil := hI.len
  obtain ⟨qa, qc, rfl, hqr⟩ := row_rd (H.holds (A := row 3 natR vq q) (by simp))
  have hqle := hqr.le
  (repeat (first | refine WO.run tabOk rfl rfl ?_ | refine WO.nil ?_ | refine WO.skip rfl rfl rfl ?_ | refine WO.pu tabOk rfl rfl rfl rfl ?_ | refine W.seq ?_ | refine W.region ?_ | refine W.block ?_ | refine W.skip ?_ | refine W.exit ?_))
  refine W.cond rfl (fun hlt => ?_) (fun hge => ?_)
  · have hlt : 0 < q.length := by simpa using hlt
    obtain ⟨x, q, rfl⟩ : ∃ x q', q = x :: q' := by cases q with | nil => simp at hlt | cons x q => exact ⟨x, q, rfl⟩
    obtain ⟨qb, qo, rfl⟩ := hqr.addr hlt
    have hxk := hq x (by simp)
    (repeat (first | refine WO.run tabOk rfl rfl ?_ | refine WO.nil ?_ | refine WO.skip rfl rfl rfl ?_ | refine WO.pu tabOk rfl rfl rfl rfl ?_ | refine W.seq ?_ | refine W.region ?_ | refine W.block ?_ | refine W.skip ?_ | refine W.exit ?_))
    refine WO.pv rfl rfl rfl (PureV.idxN (i := 0) tabOk rfl rfl rfl rfl rfl rfl hlt) ?_
    refine WO.one rfl rfl rfl (OpW.elem1 (i := 0) (j := 0) tabOk rfl rfl rfl rfl hqr rfl rfl rfl ?_)
    (repeat (first | refine WO.run tabOk rfl rfl ?_ | refine WO.nil ?_ | refine WO.skip rfl rfl rfl ?_ | refine WO.pu tabOk rfl rfl rfl rfl ?_ | refine W.seq ?_ | refine W.region ?_ | refine W.block ?_ | refine W.skip ?_ | refine W.exit ?_))
    refine WO.pv rfl rfl rfl (PureV.slcFrom (i := 1) (n' := q.length) tabOk rfl rfl rfl rfl rfl rfl (by simp) hqle.1 (by simp)) ?_
    have H1 := H.nat_open
    have H2 : St (at0 w) w6 (raw 3 1 (.slice (cutA (some ⟨qb, qo, none⟩) qc 1 1) q.length (qc - 1)) q.length (q.flatMap encN) :: _) _ := St.raw_tail (n := q.length) H1
    clear H H1 hqr
    have cell : (inn.flatMap encN)[0 + x * 1]? = some (.int .i64 ((inn.getD x 0 : Nat) : Int)) := by
      have h : x < inn.length := by omega
      rw [Nat.zero_add, Nat.mul_one]; exact encN_at (by rw [List.getElem?_eq_getElem h, List.getD_eq_getElem?_getD, List.getElem?_eq_getElem h]; rfl)
    (repeat (first | refine WO.run tabOk rfl rfl ?_ | refine WO.nil ?_ | refine WO.skip rfl rfl rfl ?_ | refine WO.pu tabOk rfl rfl rfl rfl ?_ | refine W.seq ?_ | refine W.region ?_ | refine W.block ?_ | refine W.skip ?_ | refine W.exit ?_))
    refine WO.pv rfl rfl rfl (PureV.idxN tabOk rfl rfl rfl rfl rfl rfl hxk) ?_
    refine WO.one rfl rfl rfl (OpW.loadB tabOk rfl rfl rfl rfl H2 (.tail _ (.head _)) cell ?_)
    (repeat (first | refine WO.run tabOk rfl rfl ?_ | refine WO.nil ?_ | refine WO.skip rfl rfl rfl ?_ | refine WO.pu tabOk rfl rfl rfl rfl ?_ | refine W.seq ?_ | refine W.region ?_ | refine W.block ?_ | refine W.skip ?_ | refine W.exit ?_))
    refine W.cond rfl (fun hz => ?_) (fun hz => ?_)
    · have hz : inn.getD x 0 = 0 := by simp only [decide_eq_true_eq] at hz; omega
      have hcm := count_mark (k := x) (by omega) hz
      (repeat (first | refine WO.run tabOk rfl rfl ?_ | refine WO.nil ?_ | refine WO.skip rfl rfl rfl ?_ | refine WO.pu tabOk rfl rfl rfl rfl ?_ | refine W.seq ?_ | refine W.region ?_ | refine W.block ?_ | refine W.skip ?_ | refine W.exit ?_))
      refine WO.pv rfl rfl rfl (PureV.idxN tabOk rfl rfl rfl rfl rfl rfl hxk) ?_
      refine WO.act rfl rfl (OpW.storeB (i := 1) tabOk rfl rfl rfl rfl H2 rfl (v := .int .i64 ((1 : Nat) : Int)) (by intro u hu; simp [cellsL] at hu; subst hu; rfl) rfl (by rw [encN_len]; simp [cellsL]; omega) ?_)
      intro w7 H3
      have esw : spliceL (inn.flatMap encN) (0 + x * 1) (cellsL (.int .i64 ((1 : Nat) : Int))) = (inn.set x 1).flatMap encN := by
        rw [Nat.zero_add, Nat.mul_one]; exact encN_set 1 (by omega)
      rw [esw] at H3
      (repeat (first | refine WO.run tabOk rfl rfl ?_ | refine WO.nil ?_ | refine WO.skip rfl rfl rfl ?_ | refine WO.pu tabOk rfl rfl rfl rfl ?_ | refine W.seq ?_ | refine W.region ?_ | refine W.block ?_ | refine W.skip ?_ | refine W.exit ?_))
      have hyx := List.getElem?_eq_getElem (l := to) (i := x) (by rw [hE.len]; exact hxk)
      generalize to[x]'_ = lx at hyx
      have hlxm : lx ∈ to := List.mem_of_getElem? hyx
      have hlxs := hE.short lx hlxm
      obtain ⟨_, _, a2, c2, e, hcell, H4⟩ := H3.roSub (List.mem_cons_self ..) hyx
      cases e
      refine WO.pv rfl rfl rfl (PureV.idxN tabOk rfl rfl rfl rfl rfl rfl (by rw [hE.len]; exact hxk)) ?_
      refine WO.one rfl rfl rfl (OpW.loadc tabOk rfl rfl rfl rfl hcell ?_)
      have hsh := nat_shows (H4.holds (A := rd natR a2 c2 lx) (by simp))
      have hqln : q.length ≤ 200000 := by simp at hm; omega
      refine WO.one rfl rfl rfl (OpW.append tabOk rfl rfl rfl zero3 rfl rfl rfl rfl (H3.to (i := 1) rfl) hsh (by omega) (by simp only [maxLen]; omega) ?_)
      intro vq2 w8 H5 _
      have e1 : q.flatMap encN ++ lx.flatMap encN = (q ++ lx).flatMap encN := by rw [List.flatMap_append]
      have e2 : q.length + lx.length = (q ++ lx).length := by simp
      rw [e1, e2] at H5
      (repeat (first | refine WO.run tabOk rfl rfl ?_ | refine WO.nil ?_ | refine WO.skip rfl rfl rfl ?_ | refine WO.pu tabOk rfl rfl rfl rfl ?_ | refine W.seq ?_ | refine W.region ?_ | refine W.block ?_ | refine W.skip ?_ | refine W.exit ?_))
      refine ⟨(inn.set x 1, q ++ lx, vq2), rfl, ⟨hI.new hxk (fun b => ?_), ?_, fun y hy => ?_, H5.nat_close⟩, ?_⟩
      · rw [← hE.ed x b]
        exact ⟨fun hb => ⟨lx, hyx, hb⟩, fun ⟨l', hl', hb⟩ => by rw [hyx] at hl'; cases hl'; exact hb⟩
      · simp only [List.length_append]; simp at hm; omega
      · rcases List.mem_append.1 hy with hy | hy
        · exact hq y (List.mem_cons_of_mem _ hy)
        · exact hE.lt hG hlxm hy
      · simp only [List.length_append, List.length_cons]; omega
    · have hz : inn.getD x 0 = 1 := by
        simp only [decide_eq_false_iff_not] at hz
        rcases hI.bit x with h | h
        · rw [h] at hz; exact absurd rfl hz
        · exact h
      (repeat (first | refine WO.run tabOk rfl rfl ?_ | refine WO.nil ?_ | refine WO.skip rfl rfl rfl ?_ | refine WO.pu tabOk rfl rfl rfl rfl ?_ | refine W.seq ?_ | refine W.region ?_ | refine W.block ?_ | refine W.skip ?_ | refine W.exit ?_))
      refine ⟨(inn, q, _), rfl, ⟨hI.old hz, ?_, fun y hy => hq y (List.mem_cons_of_mem _ hy), H2.nat_close⟩, ?_⟩
      · simp at hm ⊢; omega
      · simp only [List.length_cons]; omega
  · have hq0 : q = [] := by
      cases q with
      | nil => rfl
      | cons x q => simp at hge
    subst hq0
    have hend := hI.end
    have H1 := H.drop
    clear H hqr hI hm hq
    (repeat (first | refine WO.run tabOk rfl rfl ?_ | refine WO.nil ?_ | refine WO.skip rfl rfl rfl ?_ | refine WO.pu tabOk rfl rfl rfl rfl ?_ | refine W.seq ?_ | refine W.region ?_ | refine W.block ?_ | refine W.skip ?_ | refine W.exit ?_))
    refine W.loopS [13, 61, 62, 63] (fun s : Nat × Value => [(13, s.2), (61, .slice (some ⟨g, 0, none⟩) k k), (62, .int .i64 (k : Int)), (63, .int .i64 (s.1 : Int))])
      (fun s w' => s.1 ≤ k ∧ St (at0 w) w' [row 3 natR s.2 (reachF inn s.1), blk g 3 (inn.flatMap encN)] [rd (Rdr.rd natR) (some ⟨tb, tof, none⟩) tc to]) (fun s => k - s.1) (0, .slice none 0 0) rfl ⟨Nat.zero_le _, H1.add_nil _ _⟩ ?_
    clear H1
    rintro ⟨i, vo⟩ w7 ⟨hi, H⟩
    simp only at hi H
    (repeat (first | refine WO.run tabOk rfl rfl ?_ | refine WO.nil ?_ | refine WO.skip rfl rfl rfl ?_ | refine WO.pu tabOk rfl rfl rfl rfl ?_ | refine W.seq ?_ | refine W.region ?_ | refine W.block ?_ | refine W.skip ?_ | refine W.exit ?_))
    refine W.cond rfl (fun hlt => ?_) (fun hge => ?_)
    · have hlt : i < k := by simpa using hlt
      have cell : (inn.flatMap encN)[0 + i * 1]? = some (.int .i64 ((inn.getD i 0 : Nat) : Int)) := by
        have h : i < inn.length := by omega
        rw [Nat.zero_add, Nat.mul_one]; exact encN_at (by rw [List.getElem?_eq_getElem h, List.getD_eq_getElem?_getD, List.getElem?_eq_getElem h]; rfl)
      (repeat (first | refine WO.run tabOk rfl rfl ?_ | refine WO.nil ?_ | refine WO.skip rfl rfl rfl ?_ | refine WO.pu tabOk rfl rfl rfl rfl ?_ | refine W.seq ?_ | refine W.region ?_ | refine W.block ?_ | refine W.skip ?_ | refine W.exit ?_))
      refine WO.pv rfl rfl rfl (PureV.idxN tabOk rfl rfl rfl rfl rfl rfl (by omega)) ?_
      refine WO.one rfl rfl rfl (OpW.loadB tabOk rfl rfl rfl rfl H (.tail _ (.head _)) cell ?_)
      (repeat (first | refine WO.run tabOk rfl rfl ?_ | refine WO.nil ?_ | refine WO.skip rfl rfl rfl ?_ | refine WO.pu tabOk rfl rfl rfl rfl ?_ | refine W.seq ?_ | refine W.region ?_ | refine W.block ?_ | refine W.skip ?_ | refine W.exit ?_))
      have hst := reachF_succ inn i
      have hrl := reachF_len inn i
      refine W.cond rfl (fun hz => ?_) (fun hz => ?_)
      · have hz : inn.getD i 0 = 1 := by simp only [decide_eq_true_eq] at hz; omega
        rw [if_pos hz] at hst
        (repeat (first | refine WO.run tabOk rfl rfl ?_ | refine WO.nil ?_ | refine WO.skip rfl rfl rfl ?_ | refine WO.pu tabOk rfl rfl rfl rfl ?_ | refine W.seq ?_ | refine W.region ?_ | refine W.block ?_ | refine W.skip ?_ | refine W.exit ?_))
        refine WO.one rfl rfl rfl (OpW.buildSlice tabOk rfl rfl rfl rfl zero3 rfl rfl (l := [.int .i64 (i : Int)]) rfl H ?_)
        intro b9 w8 H8
        have hsh := shows_blk (sz := 1) (m := 1) (e := 3) (l := [.int .i64 (i : Int)]) H8 (b := b9) (by simp) rfl (by intro u hu; simp at hu; subst hu; rfl)
        have H9 := (H8.to (i := 1) rfl).nat_open
        refine WO.one rfl rfl rfl (OpW.append tabOk rfl rfl rfl zero3 rfl rfl rfl rfl H9 hsh (by omega) (by simp only [maxLen]; omega) ?_)
        intro v' w9 H10 _
        have e1 : (reachF inn i).flatMap encN ++ [.int .i64 (i : Int)] = (reachF inn (i + 1)).flatMap encN := by rw [hst]; simp [encN]
        have e2 : (reachF inn i).length + 1 = (reachF inn (i + 1)).length := by rw [hst]; simp
        rw [e1, e2] at H10
        (repeat (first | refine WO.run tabOk rfl rfl ?_ | refine WO.nil ?_ | refine WO.skip rfl rfl rfl ?_ | refine WO.pu tabOk rfl rfl rfl rfl ?_ | refine W.seq ?_ | refine W.region ?_ | refine W.block ?_ | refine W.skip ?_ | refine W.exit ?_))
        refine WO.pv rfl rfl rfl (PureV.addN (n := i) rfl rfl rfl (by omega)) ?_
        (repeat (first | refine WO.run tabOk rfl rfl ?_ | refine WO.nil ?_ | refine WO.skip rfl rfl rfl ?_ | refine WO.pu tabOk rfl rfl rfl rfl ?_ | refine W.seq ?_ | refine W.region ?_ | refine W.block ?_ | refine W.skip ?_ | refine W.exit ?_))
        exact ⟨(i + 1, v'), rfl, ⟨by simp only; omega, (H10.nat_close.to (i := 1) rfl).drop⟩, by simp only; omega⟩
      · have hz : inn.getD i 0 ≠ 1 := by simp only [decide_eq_false_iff_not] at hz; omega
        rw [if_neg hz, List.append_nil] at hst
        (repeat (first | refine WO.run tabOk rfl rfl ?_ | refine WO.nil ?_ | refine WO.skip rfl rfl rfl ?_ | refine WO.pu tabOk rfl rfl rfl rfl ?_ | refine W.seq ?_ | refine W.region ?_ | refine W.block ?_ | refine W.skip ?_ | refine W.exit ?_))
        refine WO.pv rfl rfl rfl (PureV.addN (n := i) rfl rfl rfl (by omega)) ?_
        (repeat (first | refine WO.run tabOk rfl rfl ?_ | refine WO.nil ?_ | refine WO.skip rfl rfl rfl ?_ | refine WO.pu tabOk rfl rfl rfl rfl ?_ | refine W.seq ?_ | refine W.region ?_ | refine W.block ?_ | refine W.skip ?_ | refine W.exit ?_))
        exact ⟨(i + 1, vo), rfl, ⟨by simp only; omega, by simp only; rw [hst]; exact H⟩, by simp only; omega⟩
    · have hik : i = k := by simp at hge; omega
      subst hik
      (repeat (first | refine WO.run tabOk rfl rfl ?_ | refine WO.nil ?_ | refine WO.skip rfl rfl rfl ?_ | refine WO.pu tabOk rfl rfl rfl rfl ?_ | refine W.seq ?_ | refine W.region ?_ | refine W.block ?_ | refine W.skip ?_ | refine W.exit ?_))
      refine W.ret (ret2 Try.results32 rfl rfl ⟨_, rfl, _, _, rfl, .inr ⟨rfl, hG, by omega, by omega, reachF inn i, fun b => ?_, (H.first).ro (fun A hA => nomatch hA)⟩⟩)
      simp only [reachF, List.mem_filter, List.mem_range, decide_eq_true_eq, Int.toNat_natCast]
      rw [hend b]
      exact and_congr Int.ofNat_lt.symm Iff.rfl
end Go.Proofs.Ytnghaidnbicjjaa
