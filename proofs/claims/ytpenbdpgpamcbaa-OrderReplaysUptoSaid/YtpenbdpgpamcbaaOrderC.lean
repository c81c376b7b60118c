/- order: Deps. Conditions: each fact's own premises. -/
import Derived.Test.YtpenbdpgpamcbaaOrderB
import Derived.Test.YtpenbdpgpamcbaaShelf
set_option linter.unusedVariables false
set_option linter.unusedSimpArgs false
set_option maxRecDepth 20000
namespace Go.Proofs.Ytpenbdpgpamcbaa
open Go Gw
attribute [local irreducible] W WO WD

theorem depCmp_strict {d : Array D3} (hs : ∀ i j, i < j → j < d.size → ¬ depCmp d[j]! d[i]! < 0) : ∀ m, m ≤ d.size → (Go.Lib.compactUpTo d m).Pairwise (fun a b => depCmp a b < 0) ∧ ∀ a ∈ Go.Lib.compactUpTo d m, a = d[m - 1]! ∨ depCmp a d[m - 1]! < 0
  | 0, _ => by simp [Go.Lib.compactUpTo]
  | m + 1, hm => by
    obtain ⟨h1, h2⟩ := depCmp_strict hs m (by omega)
    rw [Go.Lib.compactUpTo_succ]
    by_cases hk : Go.Lib.keeps d m = true
    · rw [if_pos hk]
      have hlt : ∀ a ∈ Go.Lib.compactUpTo d m, depCmp a d[m]! < 0 := fun a ha => by
        rcases Nat.eq_zero_or_pos m with h0 | hpos
        · subst h0; simp [Go.Lib.compactUpTo] at ha
        · simp only [Go.Lib.keeps, decide_eq_true_eq] at hk
          have hne : d[m]! ≠ d[m - 1]! := hk.resolve_left (by omega)
          have hns := hs (m - 1) m (by omega) (by omega)
          generalize d[m]! = y at *
          generalize d[m - 1]! = x at *
          obtain ⟨x1, x2, x3⟩ := x
          obtain ⟨y1, y2, y3⟩ := y
          have hne' : ¬ (y1 = x1 ∧ y2 = x2 ∧ y3 = x3) := fun h => hne (by obtain ⟨rfl, rfl, rfl⟩ := h; rfl)
          rcases h2 a ha with rfl | h3
          · rw [depCmp_lt] at hns ⊢; simp only at *; omega
          · rw [depCmp_lt] at hns h3 ⊢; simp only at *; omega
      refine ⟨List.pairwise_append.2 ⟨h1, by simp, fun a ha b hb => by simp at hb; subst hb; exact hlt a ha⟩, fun a ha => ?_⟩
      rw [Nat.add_sub_cancel]
      rcases List.mem_append.1 ha with ha | ha
      · exact .inr (hlt a ha)
      · exact .inl (by simpa using ha)
    · rw [if_neg hk, List.append_nil]
      simp only [Go.Lib.keeps, decide_eq_true_eq, not_or, Decidable.not_not] at hk
      rw [Nat.add_sub_cancel, hk.2]
      exact ⟨h1, h2⟩
theorem compact_nodup {ys : List D3} (hs : ys.Pairwise fun a b => ¬ depCmp b a < 0) : (Go.Lib.compact ys).Nodup := by
  have h := (depCmp_strict (d := ys.toArray) (fun i j hij hj => by
    have hj' : j < ys.length := by simpa using hj
    have := List.pairwise_iff_getElem.1 hs i j (by omega) hj' hij
    rw [getElem!_pos ys.toArray i (by simp; omega), getElem!_pos ys.toArray j (by simpa using hj)]
    simpa using this) ys.length (by simp)).1
  rw [List.nodup_iff_pairwise_ne]
  refine h.imp fun {a b} hab e => ?_
  subst e
  rw [depCmp_lt] at hab; omega

theorem idxZ_idxF (x : Int) : ∀ l : List Int, idxF (fun y => decide (x = y)) l = idxZ x l
  | [] => rfl
  | y :: l => by
    have ih := idxZ_idxF x l
    have hg := idxZ_ge x l
    unfold idxF idxZ
    by_cases e : x = y
    · simp [e]
    · simp only [e, decide_false, Bool.false_eq_true, if_false]
      rw [ih]
      cases h : idxZ x l with
      | ofNat n => simp <;> omega
      | negSucc n => rw [h] at hg; simp; omega

def addF (xs : List D3) (a b k : Int) : List D3 := xs ++ if a ≠ b ∧ 0 ≤ a then [(a, b, k)] else []
theorem addF_len (xs : List D3) (a b k : Int) : (addF xs a b k).length ≤ xs.length + 1 := by simp [addF]; split <;> simp
theorem mem_addF {xs : List D3} {a b k : Int} {d : D3} : d ∈ addF xs a b k ↔ d ∈ xs ∨ (d = (a, b, k) ∧ a ≠ b ∧ 0 ≤ a) := by
  simp only [addF, List.mem_append]
  by_cases h : a ≠ b ∧ 0 ≤ a
  · rw [if_pos h]; simp [h]
  · rw [if_neg h]; simp [h]
theorem add_ok (c : Ctx) (w : World) (Own Ro : List Asn) (bo : Nat) (v : Value) (xs : List D3) (a b k : Int) (H : St c w (blk bo 64 [v] :: row 69 depR v xs :: Own) Ro) (hx : xs.length ≤ 100000000) :
    Calls Try.prog 36 (#[] ++ #[.int .i64 a, .int .i64 b, .int .i64 k] ++ #[.pointer (some ⟨bo, 0, none⟩)]) w (Ret fun u w' => u = .tuple #[] ∧ ∃ v', St c w' (blk bo 64 [v'] :: row 69 depR v' (addF xs a b k) :: Own) Ro) := by
  show Calls Try.prog 36 #[.int .i64 a, .int .i64 b, .int .i64 k, .pointer (some ⟨bo, 0, none⟩)] w _
  refine calls_W (args := [_, _, _, _]) Try.func36 rfl Try.ntmps36 rfl ?_
  obtain ⟨va, vc, rfl⟩ := rowForm H (v := v) (e := 69) (r := depR) (xs := xs) (by simp)
  (repeat (first | refine WO.run tabOk rfl rfl ?_ | refine WO.nil ?_ | refine WO.skip rfl rfl rfl ?_ | refine WO.pu tabOk rfl rfl rfl rfl ?_ | refine W.seq ?_ | refine W.region ?_ | refine W.block ?_ | refine W.skip ?_ | refine W.exit ?_))
  refine WO.caseG rfl rfl (fun g1 => ?_) (fun g1 => ?_)
  · (repeat (first | refine WO.run tabOk rfl rfl ?_ | refine WO.nil ?_ | refine WO.skip rfl rfl rfl ?_ | refine WO.pu tabOk rfl rfl rfl rfl ?_ | refine W.seq ?_ | refine W.region ?_ | refine W.block ?_ | refine W.skip ?_ | refine W.exit ?_))
    refine W.cond rfl (fun g2 => ?_) (fun g2 => ?_)
    · have hc : a ≠ b ∧ 0 ≤ a := by simp at g1; simp [pickV] at g2; exact ⟨g1, g2⟩
      (repeat (first | refine WO.run tabOk rfl rfl ?_ | refine WO.nil ?_ | refine WO.skip rfl rfl rfl ?_ | refine WO.pu tabOk rfl rfl rfl rfl ?_ | refine W.seq ?_ | refine W.region ?_ | refine W.block ?_ | refine W.skip ?_ | refine W.exit ?_ | refine WO.one rfl rfl rfl (OpW.load1 tabOk rfl rfl rfl rfl H (by (first | exact .head _ | exact .tail _ (.head _) | exact .tail _ (.tail _ (.head _)) | exact .tail _ (.tail _ (.tail _ (.head _))) | exact .tail _ (.tail _ (.tail _ (.tail _ (.head _)))) | exact .tail _ (.tail _ (.tail _ (.tail _ (.tail _ (.head _))))) | exact .tail _ (.tail _ (.tail _ (.tail _ (.tail _ (.tail _ (.head _)))))) | exact .tail _ (.tail _ (.tail _ (.tail _ (.tail _ (.tail _ (.tail _ (.head _))))))) | exact .tail _ (.tail _ (.tail _ (.tail _ (.tail _ (.tail _ (.tail _ (.tail _ (.head _)))))))) | exact .tail _ (.tail _ (.tail _ (.tail _ (.tail _ (.tail _ (.tail _ (.tail _ (.tail _ (.head _))))))))) | exact .tail _ (.tail _ (.tail _ (.tail _ (.tail _ (.tail _ (.tail _ (.tail _ (.tail _ (.tail _ (.head _)))))))))) | exact .tail _ (.tail _ (.tail _ (.tail _ (.tail _ (.tail _ (.tail _ (.tail _ (.tail _ (.tail _ (.tail _ (.head _))))))))))) | exact .tail _ (.tail _ (.tail _ (.tail _ (.tail _ (.tail _ (.tail _ (.tail _ (.tail _ (.tail _ (.tail _ (.tail _ (.head _)))))))))))) | exact .tail _ (.tail _ (.tail _ (.tail _ (.tail _ (.tail _ (.tail _ (.tail _ (.tail _ (.tail _ (.tail _ (.tail _ (.tail _ (.head _))))))))))))) | exact .tail _ (.tail _ (.tail _ (.tail _ (.tail _ (.tail _ (.tail _ (.tail _ (.tail _ (.tail _ (.tail _ (.tail _ (.tail _ (.tail _ (.head _)))))))))))))) | exact .tail _ (.tail _ (.tail _ (.tail _ (.tail _ (.tail _ (.tail _ (.tail _ (.tail _ (.tail _ (.tail _ (.tail _ (.tail _ (.tail _ (.tail _ (.head _))))))))))))))))) rfl ?_)))
      refine WO.pv rfl rfl rfl (PureV.build tabOk rfl rfl rfl zero69 (l := [.int .i64 a, .int .i64 b, .int .i64 k]) rfl) ?_
      refine WO.one rfl rfl rfl (OpW.buildSlice tabOk rfl rfl rfl rfl zero69 rfl rfl (l := [.int .i64 a, .int .i64 b, .int .i64 k]) rfl H ?_)
      intro b1 w1 H1
      have hsh := shows_blk (sz := 3) (m := 1) (e := 69) (l := [.int .i64 a, .int .i64 b, .int .i64 k]) H1 (b := b1) (by simp) rfl (by intro u hu; simp at hu; rcases hu with rfl | rfl | rfl <;> rfl)
      have H2 := (H1.to (i := 2) rfl).flat_open
      refine WO.one rfl rfl rfl (OpW.append tabOk rfl rfl rfl zero69 rfl rfl rfl rfl H2 hsh (by omega) (by simp only [maxLen]; omega) ?_)
      intro v' w2 H3 _
      have e1 : xs.flatMap encD ++ [.int .i64 a, .int .i64 b, .int .i64 k] = (addF xs a b k).flatMap encD := by simp [addF, hc, encD]
      have e2 : xs.length + 1 = (addF xs a b k).length := by simp [addF, hc]
      rw [e1, e2] at H3
      have H4 : St c w2 (row 69 depR v' (addF xs a b k) :: _) Ro := St.flat_close H3
      obtain ⟨ua, uc, rfl⟩ := rowForm H4 (v := v') (e := 69) (r := depR) (xs := addF xs a b k) (by simp)
      (repeat (first | refine WO.run tabOk rfl rfl ?_ | refine WO.nil ?_ | refine WO.skip rfl rfl rfl ?_ | refine WO.pu tabOk rfl rfl rfl rfl ?_ | refine W.seq ?_ | refine W.region ?_ | refine W.block ?_ | refine W.skip ?_ | refine W.exit ?_))
      refine WO.act rfl rfl (OpW.store1 (i := 2) tabOk rfl rfl rfl rfl rfl H4 rfl rfl rfl ?_); intro w3 H5
      (repeat (first | refine WO.run tabOk rfl rfl ?_ | refine WO.nil ?_ | refine WO.skip rfl rfl rfl ?_ | refine WO.pu tabOk rfl rfl rfl rfl ?_ | refine W.seq ?_ | refine W.region ?_ | refine W.block ?_ | refine W.skip ?_ | refine W.exit ?_))
      exact ret0n Try.results36 ⟨_, rfl, rfl, _, (H5.to (i := 2) rfl).drop⟩
    · have hc : ¬ (a ≠ b ∧ 0 ≤ a) := by simp [pickV] at g2; omega
      (repeat (first | refine WO.run tabOk rfl rfl ?_ | refine WO.nil ?_ | refine WO.skip rfl rfl rfl ?_ | refine WO.pu tabOk rfl rfl rfl rfl ?_ | refine W.seq ?_ | refine W.region ?_ | refine W.block ?_ | refine W.skip ?_ | refine W.exit ?_))
      refine ret0n Try.results36 ⟨_, rfl, rfl, .slice va xs.length vc, ?_⟩
      have e : addF xs a b k = xs := by simp only [addF]; rw [if_neg hc, List.append_nil]
      rw [e]; exact H
  · have hc : ¬ (a ≠ b ∧ 0 ≤ a) := by simp at g1; omega
    (repeat (first | refine WO.run tabOk rfl rfl ?_ | refine WO.nil ?_ | refine WO.skip rfl rfl rfl ?_ | refine WO.pu tabOk rfl rfl rfl rfl ?_ | refine W.seq ?_ | refine W.region ?_ | refine W.block ?_ | refine W.skip ?_ | refine W.exit ?_))
    refine W.cond_f rfl ?_
    (repeat (first | refine WO.run tabOk rfl rfl ?_ | refine WO.nil ?_ | refine WO.skip rfl rfl rfl ?_ | refine WO.pu tabOk rfl rfl rfl rfl ?_ | refine W.seq ?_ | refine W.region ?_ | refine W.block ?_ | refine W.skip ?_ | refine W.exit ?_))
    refine ret0n Try.results36 ⟨_, rfl, rfl, .slice va xs.length vc, ?_⟩
    have e : addF xs a b k = xs := by simp only [addF]; rw [if_neg hc, List.append_nil]
    rw [e]; exact H

/-- What has been told of who wrote. -/
structure WDone (T : List Tale) (V : List (List Int)) (i n : Nat) (xs : List D3) : Prop where
  sound : ∀ d ∈ xs, Dep T V d
  old : ∀ j l (m : Nat) a b, j < i → V[j]? = some l → l[m]? = some a → l[m + 1]? = some b → a ≠ b → 0 ≤ a → (a, b, 1) ∈ xs
  cur : ∀ l (m : Nat) a b, V[i]? = some l → m < n → l[m]? = some a → l[m + 1]? = some b → a ≠ b → 0 ≤ a → (a, b, 1) ∈ xs
/-- And of who read. -/
structure RDone (T : List Tale) (V : List (List Int)) (i n : Nat) (xs : List D3) : Prop where
  sound : ∀ d ∈ xs, Dep T V d
  wr : ∀ l (m : Nat) a b, l ∈ V → l[m]? = some a → l[m + 1]? = some b → a ≠ b → 0 ≤ a → (a, b, 1) ∈ xs
  old : ∀ j t g, j < i → T[j]? = some t → g ∈ t.2 → (g.2 ≠ t.1 → 0 ≤ g.2 → (g.2, t.1, 2) ∈ xs) ∧ ∀ l b, V[g.1.toNat]? = some l → after l g.2 = some b → t.1 ≠ b → 0 ≤ t.1 → (t.1, b, 3) ∈ xs
  cur : ∀ t m g, T[i]? = some t → m < n → t.2[m]? = some g → (g.2 ≠ t.1 → 0 ≤ g.2 → (g.2, t.1, 2) ∈ xs) ∧ ∀ l b, V[g.1.toNat]? = some l → after l g.2 = some b → t.1 ≠ b → 0 ≤ t.1 → (t.1, b, 3) ∈ xs
theorem RDone.all {T : List Tale} {V : List (List Int)} {xs : List D3} (h : RDone T V T.length 0 xs) (d : D3) : d ∈ xs ↔ Dep T V d := by
  refine ⟨h.sound d, fun hd => ?_⟩
  obtain ⟨d1, d2, d3⟩ := d
  obtain ⟨hne, hpos, his⟩ := hd
  simp only at hne hpos his
  rcases his with ⟨rfl, l, hl, m, h1, h2⟩ | ⟨rfl, t, ht, g, hg, h1, h2⟩ | ⟨rfl, t, ht, g, hg, l, hl, h1, h2⟩
  · exact h.wr l m d1 d2 hl h1 h2 hne hpos
  · obtain ⟨j, hj, rfl⟩ := List.mem_iff_getElem.1 ht
    subst h1; subst h2
    exact (h.old j _ g hj (List.getElem?_eq_getElem hj) hg).1 hne hpos
  · obtain ⟨j, hj, rfl⟩ := List.mem_iff_getElem.1 ht
    subst h1
    exact (h.old j _ g hj (List.getElem?_eq_getElem hj) hg).2 l d2 hl h2 hne hpos

def DepsPost (w w' : World) (T : List Tale) (V : List (List Int)) (v : Value) : Prop :=
  ∃ dv e, v = .tuple #[dv, .int .i64 e] ∧ ((e ≠ 0 ∧ ¬ StoryOk T V ∧ dv = .slice none 0 0 ∧ Pure w w') ∨ (e = 0 ∧ StoryOk T V ∧ ∃ D : List D3, D.Nodup ∧ (∀ d, d ∈ D ↔ Dep T V d) ∧ St (at0 w) w' [row 69 depR dv D] []))
def readsN (T : List Tale) : Nat := (T.map fun t => t.2.length).sum

theorem encD_len (x : D3) : (encD x).length = 3 := rfl
theorem encD_one (x : D3) : ∀ v ∈ encD x, v.oneCell' = true := fun v hv => by simp [encD] at hv; rcases hv with rfl | rfl | rfl <;> rfl
theorem sortD_ok (c : Ctx) (w : World) (Own Ro : List Asn) (v : Value) (xs : List D3) (H : St c w (row 69 depR v xs :: Own) Ro) (hlen : xs.length < 4611686018427387904) :
    Calls Try.prog 37 #[v, .func (.func 38) #[] #[]] w (Ret fun u w' => u = .tuple #[] ∧ ∃ ys : List D3, ys.Perm xs ∧ ys.Pairwise (fun a b => ¬ depCmp b a < 0) ∧ St c w' (row 69 depR v ys :: Own) Ro) := by
  have hS : ∀ (blk off cap : Nat) (d : Array D3) (w : World), CmpLays Try.prog 38 #[] encD 3 depCmp blk off d.size w → Go.Sort.HoldsK encD 3 w blk off d → blk < w.heap.size → d.size < 4611686018427387904 →
      Calls Try.prog 37 #[.slice (some ⟨blk, off, none⟩) d.size cap, .func (.func 38) #[] #[]] w fun e w' => e = .returned (.tuple #[]) ∧ ∃ d' n os, Go.Sort.PermIn 0 d.size d d' ∧ Go.Sort.SortedIn (ltOf depCmp) 0 d.size d' ∧ w' = sortWorldK encD 3 w blk off n d' os :=
    fun blk off cap d w h1 h2 h3 h4 => sh.slices_SortFunc_f37 3 Try.isAgg69 Try.sizeOf69 encD encD_len encD_one depCmp depCmp_swo 38 #[] blk off cap d w Try.call38 h1 h2 h3 h4
  have h0 : ∀ (p : Option Addr) (cap : Nat) (w : World), Calls Try.prog 37 #[.slice p 0 cap, .func (.func 38) #[] #[]] w fun e w' => e = .returned (.tuple #[]) ∧ w' = w := fun p cap w => sh.slices_SortFunc_none_f37 p cap _ w
  exact sortS_row (sz := 3) (enc := encD) (hl := encD_len) (h1 := encD_one) depCmp hS h0 depCmp_ok H hlen
theorem readsN_snoc {T : List Tale} {i : Nat} {x : Tale} (h : T[i]? = some x) : readsN (T.take (i + 1)) = readsN (T.take i) + x.2.length := by
  rw [readsN, takeSnoc h, List.map_append, List.sum_append]; simp [readsN]
theorem readsN_le (T : List Tale) (i : Nat) : readsN (T.take i) ≤ readsN T := by
  have h : readsN T = readsN (T.take i) + readsN (T.drop i) := by
    rw [readsN, readsN, readsN, ← List.sum_append, ← List.map_append, List.take_append_drop]
  omega

theorem deps_ok (w : World) (T : List Tale) (V : List (List Int)) (ta va : Option Addr) (tc vc : Nat) (hH : StoryR w T V ta va tc vc) (hsm : readsN T ≤ 1048576) :
    Calls Try.prog 22 #[.agg #[.slice ta T.length tc, .slice va V.length vc]] w (Ret fun v w' => DepsPost w w' T V v) := by
  refine calls_W (args := [_]) Try.func22 rfl Try.ntmps22 rfl ?_
  have H := St.start [] (w := w) (by simp)
  (repeat (first | refine W.seq ?_ | refine W.block ?_ | refine W.skip ?_ | refine W.exit ?_ | refine W.region ?_))
  refine WO.one rfl rfl rfl (OpW.box rfl rfl rfl H ?_); intro b1 w1 H1
  (repeat (first | refine WO.run tabOk rfl rfl ?_ | refine WO.nil ?_ | refine WO.skip rfl rfl rfl ?_ | refine WO.pu tabOk rfl rfl rfl rfl ?_ | refine W.seq ?_ | refine W.region ?_ | refine W.block ?_ | refine W.skip ?_ | refine W.exit ?_ | refine WO.one rfl rfl rfl (OpW.load1 tabOk rfl rfl rfl rfl H1 (by (first | exact .head _ | exact .tail _ (.head _) | exact .tail _ (.tail _ (.head _)) | exact .tail _ (.tail _ (.tail _ (.head _))) | exact .tail _ (.tail _ (.tail _ (.tail _ (.head _)))) | exact .tail _ (.tail _ (.tail _ (.tail _ (.tail _ (.head _))))) | exact .tail _ (.tail _ (.tail _ (.tail _ (.tail _ (.tail _ (.head _)))))) | exact .tail _ (.tail _ (.tail _ (.tail _ (.tail _ (.tail _ (.tail _ (.head _))))))) | exact .tail _ (.tail _ (.tail _ (.tail _ (.tail _ (.tail _ (.tail _ (.tail _ (.head _)))))))) | exact .tail _ (.tail _ (.tail _ (.tail _ (.tail _ (.tail _ (.tail _ (.tail _ (.tail _ (.head _))))))))) | exact .tail _ (.tail _ (.tail _ (.tail _ (.tail _ (.tail _ (.tail _ (.tail _ (.tail _ (.tail _ (.head _)))))))))) | exact .tail _ (.tail _ (.tail _ (.tail _ (.tail _ (.tail _ (.tail _ (.tail _ (.tail _ (.tail _ (.tail _ (.head _))))))))))) | exact .tail _ (.tail _ (.tail _ (.tail _ (.tail _ (.tail _ (.tail _ (.tail _ (.tail _ (.tail _ (.tail _ (.tail _ (.head _)))))))))))) | exact .tail _ (.tail _ (.tail _ (.tail _ (.tail _ (.tail _ (.tail _ (.tail _ (.tail _ (.tail _ (.tail _ (.tail _ (.tail _ (.head _))))))))))))) | exact .tail _ (.tail _ (.tail _ (.tail _ (.tail _ (.tail _ (.tail _ (.tail _ (.tail _ (.tail _ (.tail _ (.tail _ (.tail _ (.tail _ (.head _)))))))))))))) | exact .tail _ (.tail _ (.tail _ (.tail _ (.tail _ (.tail _ (.tail _ (.tail _ (.tail _ (.tail _ (.tail _ (.tail _ (.tail _ (.tail _ (.tail _ (.head _))))))))))))))))) rfl ?_)))
  refine WO.one rfl rfl rfl (OpW.loadA tabOk rfl rfl rfl rfl H1 (by (first | exact .head _ | exact .tail _ (.head _) | exact .tail _ (.tail _ (.head _)) | exact .tail _ (.tail _ (.tail _ (.head _))) | exact .tail _ (.tail _ (.tail _ (.tail _ (.head _)))) | exact .tail _ (.tail _ (.tail _ (.tail _ (.tail _ (.head _))))) | exact .tail _ (.tail _ (.tail _ (.tail _ (.tail _ (.tail _ (.head _)))))) | exact .tail _ (.tail _ (.tail _ (.tail _ (.tail _ (.tail _ (.tail _ (.head _))))))) | exact .tail _ (.tail _ (.tail _ (.tail _ (.tail _ (.tail _ (.tail _ (.tail _ (.head _)))))))) | exact .tail _ (.tail _ (.tail _ (.tail _ (.tail _ (.tail _ (.tail _ (.tail _ (.tail _ (.head _))))))))) | exact .tail _ (.tail _ (.tail _ (.tail _ (.tail _ (.tail _ (.tail _ (.tail _ (.tail _ (.tail _ (.head _)))))))))) | exact .tail _ (.tail _ (.tail _ (.tail _ (.tail _ (.tail _ (.tail _ (.tail _ (.tail _ (.tail _ (.tail _ (.head _))))))))))) | exact .tail _ (.tail _ (.tail _ (.tail _ (.tail _ (.tail _ (.tail _ (.tail _ (.tail _ (.tail _ (.tail _ (.tail _ (.head _)))))))))))) | exact .tail _ (.tail _ (.tail _ (.tail _ (.tail _ (.tail _ (.tail _ (.tail _ (.tail _ (.tail _ (.tail _ (.tail _ (.tail _ (.head _))))))))))))) | exact .tail _ (.tail _ (.tail _ (.tail _ (.tail _ (.tail _ (.tail _ (.tail _ (.tail _ (.tail _ (.tail _ (.tail _ (.tail _ (.tail _ (.head _)))))))))))))) | exact .tail _ (.tail _ (.tail _ (.tail _ (.tail _ (.tail _ (.tail _ (.tail _ (.tail _ (.tail _ (.tail _ (.tail _ (.tail _ (.tail _ (.tail _ (.head _))))))))))))))))) rfl rfl ?_)
  refine WO.one rfl rfl rfl (OpW.call rfl Try.call33 rfl (Calls.ret (ocheck_ok _ T V ta va tc vc (hH.pure H1.pure)) ?_))
  rintro _ w2 ⟨hp2, e, rfl, he⟩
  have H2 := H1.after hp2
  clear H H1
  (repeat (first | refine WO.run tabOk rfl rfl ?_ | refine WO.nil ?_ | refine WO.skip rfl rfl rfl ?_ | refine WO.pu tabOk rfl rfl rfl rfl ?_ | refine W.seq ?_ | refine W.region ?_ | refine W.block ?_ | refine W.skip ?_ | refine W.exit ?_))
  refine W.cond rfl (fun h1 => ?_) (fun h1 => ?_)
  · (repeat (first | refine WO.run tabOk rfl rfl ?_ | refine WO.nil ?_ | refine WO.skip rfl rfl rfl ?_ | refine WO.pu tabOk rfl rfl rfl rfl ?_ | refine W.seq ?_ | refine W.region ?_ | refine W.block ?_ | refine W.skip ?_ | refine W.exit ?_))
    simp at h1
    exact W.ret (ret2 Try.results22 rfl rfl ⟨_, rfl, _, _, rfl, .inl ⟨h1, fun h => h1 (he.2 h), rfl, H2.pure⟩⟩)
  simp at h1
  have hS := he.1 h1
  subst h1
  clear he
  have hlT := hS.lt
  have hlV := hS.lv
  have hl12 : ∀ l ∈ V, l.length ≤ 12 := fun l hl => by
    have h := nodup_lt_len (n := 12) (l := l.map Int.toNat) ?_ ?_
    · simpa using h
    · rw [List.nodup_iff_pairwise_ne, List.pairwise_map]
      refine (List.nodup_iff_pairwise_ne.1 (hS.ver l hl).1).imp_of_mem fun {a b} ha hb hne e => hne ?_
      obtain ⟨t, ht, rfl⟩ := (hS.ver l hl).2 a ha
      obtain ⟨t', ht', rfl⟩ := (hS.ver l hl).2 b hb
      have := hS.tx t ht; have := hS.tx t' ht'; omega
    · intro x hx
      obtain ⟨a, ha, rfl⟩ := List.mem_map.1 hx
      obtain ⟨t, ht, rfl⟩ := (hS.ver l hl).2 a ha
      have := hS.tx t ht; omega
  (repeat (first | refine WO.run tabOk rfl rfl ?_ | refine WO.nil ?_ | refine WO.skip rfl rfl rfl ?_ | refine WO.pu tabOk rfl rfl rfl rfl ?_ | refine W.seq ?_ | refine W.region ?_ | refine W.block ?_ | refine W.skip ?_ | refine W.exit ?_))
  refine WO.one rfl rfl rfl (OpW.alloc rfl zero64 rfl H2 ?_); intro b5 w5 H5
  have H6 := (H5.add_nil 69 depR).bring [1, 0, 2] rfl
  clear H2 H5
  (repeat (first | refine WO.run tabOk rfl rfl ?_ | refine WO.nil ?_ | refine WO.skip rfl rfl rfl ?_ | refine WO.pu tabOk rfl rfl rfl rfl ?_ | refine W.seq ?_ | refine W.region ?_ | refine W.block ?_ | refine W.skip ?_ | refine W.exit ?_ | refine WO.one rfl rfl rfl (OpW.load1 tabOk rfl rfl rfl rfl H6 (by (first | exact .head _ | exact .tail _ (.head _) | exact .tail _ (.tail _ (.head _)) | exact .tail _ (.tail _ (.tail _ (.head _))) | exact .tail _ (.tail _ (.tail _ (.tail _ (.head _)))) | exact .tail _ (.tail _ (.tail _ (.tail _ (.tail _ (.head _))))) | exact .tail _ (.tail _ (.tail _ (.tail _ (.tail _ (.tail _ (.head _)))))) | exact .tail _ (.tail _ (.tail _ (.tail _ (.tail _ (.tail _ (.tail _ (.head _))))))) | exact .tail _ (.tail _ (.tail _ (.tail _ (.tail _ (.tail _ (.tail _ (.tail _ (.head _)))))))) | exact .tail _ (.tail _ (.tail _ (.tail _ (.tail _ (.tail _ (.tail _ (.tail _ (.tail _ (.head _))))))))) | exact .tail _ (.tail _ (.tail _ (.tail _ (.tail _ (.tail _ (.tail _ (.tail _ (.tail _ (.tail _ (.head _)))))))))) | exact .tail _ (.tail _ (.tail _ (.tail _ (.tail _ (.tail _ (.tail _ (.tail _ (.tail _ (.tail _ (.tail _ (.head _))))))))))) | exact .tail _ (.tail _ (.tail _ (.tail _ (.tail _ (.tail _ (.tail _ (.tail _ (.tail _ (.tail _ (.tail _ (.tail _ (.head _)))))))))))) | exact .tail _ (.tail _ (.tail _ (.tail _ (.tail _ (.tail _ (.tail _ (.tail _ (.tail _ (.tail _ (.tail _ (.tail _ (.tail _ (.head _))))))))))))) | exact .tail _ (.tail _ (.tail _ (.tail _ (.tail _ (.tail _ (.tail _ (.tail _ (.tail _ (.tail _ (.tail _ (.tail _ (.tail _ (.tail _ (.head _)))))))))))))) | exact .tail _ (.tail _ (.tail _ (.tail _ (.tail _ (.tail _ (.tail _ (.tail _ (.tail _ (.tail _ (.tail _ (.tail _ (.tail _ (.tail _ (.tail _ (.head _))))))))))))))))) rfl ?_)))
  refine W.loopS [1, 5, 6, 23, 24, 25] (fun s : Nat × List D3 × Value => [(1, .pointer (some ⟨b1, 0, none⟩)), (5, .pointer (some ⟨b5, 0, none⟩)), (6, .func (.func 36) #[] #[.pointer (some ⟨b5, 0, none⟩)]), (23, .slice va V.length vc), (24, .int .i64 (V.length : Int)), (25, .int .i64 (s.1 : Int))])
    (fun s w' => s.1 ≤ V.length ∧ WDone T V s.1 0 s.2.1 ∧ s.2.1.length ≤ 12 * s.1 ∧ St (at0 w) w' [blk b5 64 [s.2.2], row 69 depR s.2.2 s.2.1, blk b1 25 (storyV T V ta va tc vc)] []) (fun s => V.length - s.1) (0, [], .slice none 0 0) rfl
    ⟨Nat.zero_le _, ⟨(fun _ h => nomatch h), fun j l m a b hj => by omega, fun l m a b _ hm => by omega⟩, Nat.zero_le _, H6⟩ ?_
  clear H6
  rintro ⟨i, xs, vx⟩ w6 ⟨hi, hW, hxl, H⟩
  simp only at hi hW hxl H
  (repeat (first | refine WO.run tabOk rfl rfl ?_ | refine WO.nil ?_ | refine WO.skip rfl rfl rfl ?_ | refine WO.pu tabOk rfl rfl rfl rfl ?_ | refine W.seq ?_ | refine W.region ?_ | refine W.block ?_ | refine W.skip ?_ | refine W.exit ?_))
  refine W.cond rfl (fun hlt => ?_) (fun hge => ?_)
  · have hlt : i < V.length := by simpa using hlt
    obtain ⟨vb, vo, rfl⟩ := hH.v.addr (by omega)
    have hl := List.getElem?_eq_getElem hlt
    generalize V[i] = l at hl
    have hlm : l ∈ V := List.mem_of_getElem? hl
    obtain ⟨la, lc, hcl, hlr⟩ := hH.v.sub hl
    have hlle := hlr.le
    have hl12 := hl12 l hlm
    (repeat (first | refine WO.run tabOk rfl rfl ?_ | refine WO.nil ?_ | refine WO.skip rfl rfl rfl ?_ | refine WO.pu tabOk rfl rfl rfl rfl ?_ | refine W.seq ?_ | refine W.region ?_ | refine W.block ?_ | refine W.skip ?_ | refine W.exit ?_))
    refine WO.pv rfl rfl rfl (PureV.idxN tabOk rfl rfl rfl rfl rfl rfl (by omega)) ?_
    refine WO.one rfl rfl rfl (OpW.loadc tabOk rfl rfl rfl rfl (cell_pure H.pure (Holds.cell hcl)) ?_)
    (repeat (first | refine WO.run tabOk rfl rfl ?_ | refine WO.nil ?_ | refine WO.skip rfl rfl rfl ?_ | refine WO.pu tabOk rfl rfl rfl rfl ?_ | refine W.seq ?_ | refine W.region ?_ | refine W.block ?_ | refine W.skip ?_ | refine W.exit ?_))
    refine W.loopS [1, 5, 6, 8, 9, 23, 24, 25] (fun s : Nat × List D3 × Value => [(1, .pointer (some ⟨b1, 0, none⟩)), (5, .pointer (some ⟨b5, 0, none⟩)), (6, .func (.func 36) #[] #[.pointer (some ⟨b5, 0, none⟩)]), (8, .slice la l.length lc), (9, .int .i64 ((s.1 + 1 : Nat) : Int)), (23, .slice (some ⟨vb, vo, none⟩) V.length vc), (24, .int .i64 (V.length : Int)), (25, .int .i64 (i : Int))])
      (fun s w' => WDone T V i s.1 s.2.1 ∧ s.1 ≤ l.length ∧ s.2.1.length ≤ 12 * i + s.1 ∧ St (at0 w) w' [blk b5 64 [s.2.2], row 69 depR s.2.2 s.2.1, blk b1 25 (storyV T V ta (some ⟨vb, vo, none⟩) tc vc)] []) (fun s => l.length - s.1) (0, xs, vx) rfl ⟨hW, Nat.zero_le _, hxl, H⟩ ?_
    clear H hW hxl
    rintro ⟨n, xs, vx⟩ w7 ⟨hW, hn, hxl, H⟩
    simp only at hW hn hxl H
    (repeat (first | refine WO.run tabOk rfl rfl ?_ | refine WO.nil ?_ | refine WO.skip rfl rfl rfl ?_ | refine WO.pu tabOk rfl rfl rfl rfl ?_ | refine W.seq ?_ | refine W.region ?_ | refine W.block ?_ | refine W.skip ?_ | refine W.exit ?_))
    refine W.cond rfl (fun hltn => ?_) (fun hgen => ?_)
    · have hltn : n + 1 < l.length := by simp at hltn; omega
      obtain ⟨lb, lo, rfl⟩ := hlr.addr (by omega)
      have hx := List.getElem?_eq_getElem (l := l) (i := n) (by omega)
      have hy := List.getElem?_eq_getElem hltn
      generalize l[n]'_ = x at hx
      generalize l[n + 1] = y at hy
      (repeat (first | refine WO.run tabOk rfl rfl ?_ | refine WO.nil ?_ | refine WO.skip rfl rfl rfl ?_ | refine WO.pu tabOk rfl rfl rfl rfl ?_ | refine W.seq ?_ | refine W.region ?_ | refine W.block ?_ | refine W.skip ?_ | refine W.exit ?_))
      have H1 := H.drew
      have hA : HA [rd i64 (some ⟨lb, lo, none⟩) lc l] w7.drew := HA.cons (hlr.pure H1.pure) (HA.nil _)
      refine W.regionD [5, 9] (HA [rd i64 (some ⟨lb, lo, none⟩) lc l]) [0, 1, 2, 3, 4, 5, 6, 7, 8, 9, 10] rfl (by kernel_rfl) (fun _ _ _ h => h) ?_
      (repeat (first | refine WD.run tabOk rfl rfl ?_ | refine WD.hv rfl rfl rfl rfl rfl hA (HeldV.load1 tabOk rfl rfl rfl rfl (by (first | exact .head _ | exact .tail _ (.head _) | exact .tail _ (.tail _ (.head _)) | exact .tail _ (.tail _ (.tail _ (.head _))) | exact .tail _ (.tail _ (.tail _ (.tail _ (.head _)))) | exact .tail _ (.tail _ (.tail _ (.tail _ (.tail _ (.head _))))) | exact .tail _ (.tail _ (.tail _ (.tail _ (.tail _ (.tail _ (.head _)))))) | exact .tail _ (.tail _ (.tail _ (.tail _ (.tail _ (.tail _ (.tail _ (.head _))))))) | exact .tail _ (.tail _ (.tail _ (.tail _ (.tail _ (.tail _ (.tail _ (.tail _ (.head _)))))))) | exact .tail _ (.tail _ (.tail _ (.tail _ (.tail _ (.tail _ (.tail _ (.tail _ (.tail _ (.head _))))))))) | exact .tail _ (.tail _ (.tail _ (.tail _ (.tail _ (.tail _ (.tail _ (.tail _ (.tail _ (.tail _ (.head _)))))))))) | exact .tail _ (.tail _ (.tail _ (.tail _ (.tail _ (.tail _ (.tail _ (.tail _ (.tail _ (.tail _ (.tail _ (.head _))))))))))) | exact .tail _ (.tail _ (.tail _ (.tail _ (.tail _ (.tail _ (.tail _ (.tail _ (.tail _ (.tail _ (.tail _ (.tail _ (.head _)))))))))))) | exact .tail _ (.tail _ (.tail _ (.tail _ (.tail _ (.tail _ (.tail _ (.tail _ (.tail _ (.tail _ (.tail _ (.tail _ (.tail _ (.head _))))))))))))) | exact .tail _ (.tail _ (.tail _ (.tail _ (.tail _ (.tail _ (.tail _ (.tail _ (.tail _ (.tail _ (.tail _ (.tail _ (.tail _ (.tail _ (.head _)))))))))))))) | exact .tail _ (.tail _ (.tail _ (.tail _ (.tail _ (.tail _ (.tail _ (.tail _ (.tail _ (.tail _ (.tail _ (.tail _ (.tail _ (.tail _ (.tail _ (.head _))))))))))))))))) rfl) ?_ | refine WD.hv rfl rfl rfl rfl rfl hA (HeldV.loadA tabOk rfl rfl rfl rfl (by (first | exact .head _ | exact .tail _ (.head _) | exact .tail _ (.tail _ (.head _)) | exact .tail _ (.tail _ (.tail _ (.head _))) | exact .tail _ (.tail _ (.tail _ (.tail _ (.head _)))) | exact .tail _ (.tail _ (.tail _ (.tail _ (.tail _ (.head _))))) | exact .tail _ (.tail _ (.tail _ (.tail _ (.tail _ (.tail _ (.head _)))))) | exact .tail _ (.tail _ (.tail _ (.tail _ (.tail _ (.tail _ (.tail _ (.head _))))))) | exact .tail _ (.tail _ (.tail _ (.tail _ (.tail _ (.tail _ (.tail _ (.tail _ (.head _)))))))) | exact .tail _ (.tail _ (.tail _ (.tail _ (.tail _ (.tail _ (.tail _ (.tail _ (.tail _ (.head _))))))))) | exact .tail _ (.tail _ (.tail _ (.tail _ (.tail _ (.tail _ (.tail _ (.tail _ (.tail _ (.tail _ (.head _)))))))))) | exact .tail _ (.tail _ (.tail _ (.tail _ (.tail _ (.tail _ (.tail _ (.tail _ (.tail _ (.tail _ (.tail _ (.head _))))))))))) | exact .tail _ (.tail _ (.tail _ (.tail _ (.tail _ (.tail _ (.tail _ (.tail _ (.tail _ (.tail _ (.tail _ (.tail _ (.head _)))))))))))) | exact .tail _ (.tail _ (.tail _ (.tail _ (.tail _ (.tail _ (.tail _ (.tail _ (.tail _ (.tail _ (.tail _ (.tail _ (.tail _ (.head _))))))))))))) | exact .tail _ (.tail _ (.tail _ (.tail _ (.tail _ (.tail _ (.tail _ (.tail _ (.tail _ (.tail _ (.tail _ (.tail _ (.tail _ (.tail _ (.head _)))))))))))))) | exact .tail _ (.tail _ (.tail _ (.tail _ (.tail _ (.tail _ (.tail _ (.tail _ (.tail _ (.tail _ (.tail _ (.tail _ (.tail _ (.tail _ (.tail _ (.head _))))))))))))))))) rfl rfl) ?_ | refine WD.pu tabOk rfl rfl rfl rfl rfl rfl ?_))
      refine WD.pv rfl rfl rfl rfl rfl (PureV.subN (n := n + 1) rfl rfl rfl (by omega) (by omega)) ?_
      refine WD.pv rfl rfl rfl rfl rfl (PureV.idxN (i := n) tabOk rfl rfl rfl rfl rfl rfl (by omega)) ?_
      refine WD.hv rfl rfl rfl rfl rfl hA (HeldV.elem1 (i := n) (j := 0) tabOk rfl rfl rfl rfl (.head _) hx rfl rfl) ?_
      (repeat (first | refine WD.run tabOk rfl rfl ?_ | refine WD.hv rfl rfl rfl rfl rfl hA (HeldV.load1 tabOk rfl rfl rfl rfl (by (first | exact .head _ | exact .tail _ (.head _) | exact .tail _ (.tail _ (.head _)) | exact .tail _ (.tail _ (.tail _ (.head _))) | exact .tail _ (.tail _ (.tail _ (.tail _ (.head _)))) | exact .tail _ (.tail _ (.tail _ (.tail _ (.tail _ (.head _))))) | exact .tail _ (.tail _ (.tail _ (.tail _ (.tail _ (.tail _ (.head _)))))) | exact .tail _ (.tail _ (.tail _ (.tail _ (.tail _ (.tail _ (.tail _ (.head _))))))) | exact .tail _ (.tail _ (.tail _ (.tail _ (.tail _ (.tail _ (.tail _ (.tail _ (.head _)))))))) | exact .tail _ (.tail _ (.tail _ (.tail _ (.tail _ (.tail _ (.tail _ (.tail _ (.tail _ (.head _))))))))) | exact .tail _ (.tail _ (.tail _ (.tail _ (.tail _ (.tail _ (.tail _ (.tail _ (.tail _ (.tail _ (.head _)))))))))) | exact .tail _ (.tail _ (.tail _ (.tail _ (.tail _ (.tail _ (.tail _ (.tail _ (.tail _ (.tail _ (.tail _ (.head _))))))))))) | exact .tail _ (.tail _ (.tail _ (.tail _ (.tail _ (.tail _ (.tail _ (.tail _ (.tail _ (.tail _ (.tail _ (.tail _ (.head _)))))))))))) | exact .tail _ (.tail _ (.tail _ (.tail _ (.tail _ (.tail _ (.tail _ (.tail _ (.tail _ (.tail _ (.tail _ (.tail _ (.tail _ (.head _))))))))))))) | exact .tail _ (.tail _ (.tail _ (.tail _ (.tail _ (.tail _ (.tail _ (.tail _ (.tail _ (.tail _ (.tail _ (.tail _ (.tail _ (.tail _ (.head _)))))))))))))) | exact .tail _ (.tail _ (.tail _ (.tail _ (.tail _ (.tail _ (.tail _ (.tail _ (.tail _ (.tail _ (.tail _ (.tail _ (.tail _ (.tail _ (.tail _ (.head _))))))))))))))))) rfl) ?_ | refine WD.hv rfl rfl rfl rfl rfl hA (HeldV.loadA tabOk rfl rfl rfl rfl (by (first | exact .head _ | exact .tail _ (.head _) | exact .tail _ (.tail _ (.head _)) | exact .tail _ (.tail _ (.tail _ (.head _))) | exact .tail _ (.tail _ (.tail _ (.tail _ (.head _)))) | exact .tail _ (.tail _ (.tail _ (.tail _ (.tail _ (.head _))))) | exact .tail _ (.tail _ (.tail _ (.tail _ (.tail _ (.tail _ (.head _)))))) | exact .tail _ (.tail _ (.tail _ (.tail _ (.tail _ (.tail _ (.tail _ (.head _))))))) | exact .tail _ (.tail _ (.tail _ (.tail _ (.tail _ (.tail _ (.tail _ (.tail _ (.head _)))))))) | exact .tail _ (.tail _ (.tail _ (.tail _ (.tail _ (.tail _ (.tail _ (.tail _ (.tail _ (.head _))))))))) | exact .tail _ (.tail _ (.tail _ (.tail _ (.tail _ (.tail _ (.tail _ (.tail _ (.tail _ (.tail _ (.head _)))))))))) | exact .tail _ (.tail _ (.tail _ (.tail _ (.tail _ (.tail _ (.tail _ (.tail _ (.tail _ (.tail _ (.tail _ (.head _))))))))))) | exact .tail _ (.tail _ (.tail _ (.tail _ (.tail _ (.tail _ (.tail _ (.tail _ (.tail _ (.tail _ (.tail _ (.tail _ (.head _)))))))))))) | exact .tail _ (.tail _ (.tail _ (.tail _ (.tail _ (.tail _ (.tail _ (.tail _ (.tail _ (.tail _ (.tail _ (.tail _ (.tail _ (.head _))))))))))))) | exact .tail _ (.tail _ (.tail _ (.tail _ (.tail _ (.tail _ (.tail _ (.tail _ (.tail _ (.tail _ (.tail _ (.tail _ (.tail _ (.tail _ (.head _)))))))))))))) | exact .tail _ (.tail _ (.tail _ (.tail _ (.tail _ (.tail _ (.tail _ (.tail _ (.tail _ (.tail _ (.tail _ (.tail _ (.tail _ (.tail _ (.tail _ (.head _))))))))))))))))) rfl rfl) ?_ | refine WD.pu tabOk rfl rfl rfl rfl rfl rfl ?_))
      refine WD.pv rfl rfl rfl rfl rfl (PureV.idxN (i := n + 1) tabOk rfl rfl rfl rfl rfl rfl (by omega)) ?_
      refine WD.hv rfl rfl rfl rfl rfl hA (HeldV.elem1 (i := n + 1) (j := 0) tabOk rfl rfl rfl rfl (.head _) hy rfl rfl) ?_
      (repeat (first | refine WD.run tabOk rfl rfl ?_ | refine WD.hv rfl rfl rfl rfl rfl hA (HeldV.load1 tabOk rfl rfl rfl rfl (by (first | exact .head _ | exact .tail _ (.head _) | exact .tail _ (.tail _ (.head _)) | exact .tail _ (.tail _ (.tail _ (.head _))) | exact .tail _ (.tail _ (.tail _ (.tail _ (.head _)))) | exact .tail _ (.tail _ (.tail _ (.tail _ (.tail _ (.head _))))) | exact .tail _ (.tail _ (.tail _ (.tail _ (.tail _ (.tail _ (.head _)))))) | exact .tail _ (.tail _ (.tail _ (.tail _ (.tail _ (.tail _ (.tail _ (.head _))))))) | exact .tail _ (.tail _ (.tail _ (.tail _ (.tail _ (.tail _ (.tail _ (.tail _ (.head _)))))))) | exact .tail _ (.tail _ (.tail _ (.tail _ (.tail _ (.tail _ (.tail _ (.tail _ (.tail _ (.head _))))))))) | exact .tail _ (.tail _ (.tail _ (.tail _ (.tail _ (.tail _ (.tail _ (.tail _ (.tail _ (.tail _ (.head _)))))))))) | exact .tail _ (.tail _ (.tail _ (.tail _ (.tail _ (.tail _ (.tail _ (.tail _ (.tail _ (.tail _ (.tail _ (.head _))))))))))) | exact .tail _ (.tail _ (.tail _ (.tail _ (.tail _ (.tail _ (.tail _ (.tail _ (.tail _ (.tail _ (.tail _ (.tail _ (.head _)))))))))))) | exact .tail _ (.tail _ (.tail _ (.tail _ (.tail _ (.tail _ (.tail _ (.tail _ (.tail _ (.tail _ (.tail _ (.tail _ (.tail _ (.head _))))))))))))) | exact .tail _ (.tail _ (.tail _ (.tail _ (.tail _ (.tail _ (.tail _ (.tail _ (.tail _ (.tail _ (.tail _ (.tail _ (.tail _ (.tail _ (.head _)))))))))))))) | exact .tail _ (.tail _ (.tail _ (.tail _ (.tail _ (.tail _ (.tail _ (.tail _ (.tail _ (.tail _ (.tail _ (.tail _ (.tail _ (.tail _ (.tail _ (.head _))))))))))))))))) rfl) ?_ | refine WD.hv rfl rfl rfl rfl rfl hA (HeldV.loadA tabOk rfl rfl rfl rfl (by (first | exact .head _ | exact .tail _ (.head _) | exact .tail _ (.tail _ (.head _)) | exact .tail _ (.tail _ (.tail _ (.head _))) | exact .tail _ (.tail _ (.tail _ (.tail _ (.head _)))) | exact .tail _ (.tail _ (.tail _ (.tail _ (.tail _ (.head _))))) | exact .tail _ (.tail _ (.tail _ (.tail _ (.tail _ (.tail _ (.head _)))))) | exact .tail _ (.tail _ (.tail _ (.tail _ (.tail _ (.tail _ (.tail _ (.head _))))))) | exact .tail _ (.tail _ (.tail _ (.tail _ (.tail _ (.tail _ (.tail _ (.tail _ (.head _)))))))) | exact .tail _ (.tail _ (.tail _ (.tail _ (.tail _ (.tail _ (.tail _ (.tail _ (.tail _ (.head _))))))))) | exact .tail _ (.tail _ (.tail _ (.tail _ (.tail _ (.tail _ (.tail _ (.tail _ (.tail _ (.tail _ (.head _)))))))))) | exact .tail _ (.tail _ (.tail _ (.tail _ (.tail _ (.tail _ (.tail _ (.tail _ (.tail _ (.tail _ (.tail _ (.head _))))))))))) | exact .tail _ (.tail _ (.tail _ (.tail _ (.tail _ (.tail _ (.tail _ (.tail _ (.tail _ (.tail _ (.tail _ (.tail _ (.head _)))))))))))) | exact .tail _ (.tail _ (.tail _ (.tail _ (.tail _ (.tail _ (.tail _ (.tail _ (.tail _ (.tail _ (.tail _ (.tail _ (.tail _ (.head _))))))))))))) | exact .tail _ (.tail _ (.tail _ (.tail _ (.tail _ (.tail _ (.tail _ (.tail _ (.tail _ (.tail _ (.tail _ (.tail _ (.tail _ (.tail _ (.head _)))))))))))))) | exact .tail _ (.tail _ (.tail _ (.tail _ (.tail _ (.tail _ (.tail _ (.tail _ (.tail _ (.tail _ (.tail _ (.tail _ (.tail _ (.tail _ (.tail _ (.head _))))))))))))))))) rfl rfl) ?_ | refine WD.pu tabOk rfl rfl rfl rfl rfl rfl ?_))
      refine WD.oneS rfl rfl rfl rfl rfl (OpW.callv (first := #[]) (cap := #[.pointer (some ⟨b5, 0, none⟩)]) rfl rfl Try.call36 rfl (Calls.ret (add_ok _ _ _ _ b5 vx xs x y 1 H1 (by omega)) ?_))
      rintro _ w8 ⟨rfl, vx2, H2⟩
      refine ⟨HA.cons (hlr.pure H2.pure) (HA.nil _), ?_⟩
      (repeat (first | refine WD.run tabOk rfl rfl ?_ | refine WD.nil ?_))
      (repeat (first | refine WO.run tabOk rfl rfl ?_ | refine WO.nil ?_ | refine WO.skip rfl rfl rfl ?_ | refine WO.pu tabOk rfl rfl rfl rfl ?_ | refine W.seq ?_ | refine W.region ?_ | refine W.block ?_ | refine W.skip ?_ | refine W.exit ?_))
      refine WO.pv rfl rfl rfl (PureV.addN (n := n + 1) rfl rfl rfl (by omega)) ?_
      (repeat (first | refine WO.run tabOk rfl rfl ?_ | refine WO.nil ?_ | refine WO.skip rfl rfl rfl ?_ | refine WO.pu tabOk rfl rfl rfl rfl ?_ | refine W.seq ?_ | refine W.region ?_ | refine W.block ?_ | refine W.skip ?_ | refine W.exit ?_))
      have hal := addF_len xs x y 1
      refine ⟨(n + 1, addF xs x y 1, vx2), rfl, ⟨⟨fun d hd => ?_, fun j m q a b hj hm ha hb hne h0 => mem_addF.2 (.inl (hW.old j m q a b hj hm ha hb hne h0)), fun m q a b hm hq ha hb hne h0 => ?_⟩, by simp only; omega, by simp only; omega, H2⟩, by simp only; omega⟩
      · rcases mem_addF.1 hd with hd | ⟨rfl, hne, h0⟩
        · exact hW.sound d hd
        · exact ⟨hne, h0, .inl ⟨rfl, l, hlm, n, hx, hy⟩⟩
      · rw [hl] at hm; cases hm
        rcases Nat.lt_succ_iff_lt_or_eq.1 hq with hq | rfl
        · exact mem_addF.2 (.inl (hW.cur l q a b hl hq ha hb hne h0))
        · rw [hx] at ha; rw [hy] at hb; cases ha; cases hb
          exact mem_addF.2 (.inr ⟨rfl, hne, h0⟩)
    · have hnl : l.length ≤ n + 1 := by simp at hgen; omega
      (repeat (first | refine WO.run tabOk rfl rfl ?_ | refine WO.nil ?_ | refine WO.skip rfl rfl rfl ?_ | refine WO.pu tabOk rfl rfl rfl rfl ?_ | refine W.seq ?_ | refine W.region ?_ | refine W.block ?_ | refine W.skip ?_ | refine W.exit ?_))
      refine WO.pv rfl rfl rfl (PureV.addN (n := i) rfl rfl rfl (by omega)) ?_
      (repeat (first | refine WO.run tabOk rfl rfl ?_ | refine WO.nil ?_ | refine WO.skip rfl rfl rfl ?_ | refine WO.pu tabOk rfl rfl rfl rfl ?_ | refine W.seq ?_ | refine W.region ?_ | refine W.block ?_ | refine W.skip ?_ | refine W.exit ?_))
      refine ⟨(i + 1, xs, vx), rfl, ⟨by simp only; omega, ⟨hW.sound, fun j m q a b hj hm ha hb hne h0 => ?_, fun m q a b _ hq => by omega⟩, by simp only; omega, H⟩, by simp only; omega⟩
      rcases Nat.lt_succ_iff_lt_or_eq.1 hj with h | rfl
      · exact hW.old j m q a b h hm ha hb hne h0
      · rw [hl] at hm; cases hm
        exact hW.cur l q a b hl (by have := (List.getElem?_eq_some_iff.1 hb).1; omega) ha hb hne h0
  have hiV : i = V.length := by simp at hge; omega
  subst hiV
  have hR0 : RDone T V 0 0 xs := ⟨hW.sound, fun l m a b hl ha hb hne h0 => by
    obtain ⟨j, hj, rfl⟩ := List.mem_iff_getElem.1 hl
    exact hW.old j _ m a b hj (List.getElem?_eq_getElem hj) ha hb hne h0, fun j t g hj => by omega, fun t m g _ hm => by omega⟩
  clear hW
  (repeat (first | refine WO.run tabOk rfl rfl ?_ | refine WO.nil ?_ | refine WO.skip rfl rfl rfl ?_ | refine WO.pu tabOk rfl rfl rfl rfl ?_ | refine W.seq ?_ | refine W.region ?_ | refine W.block ?_ | refine W.skip ?_ | refine W.exit ?_ | refine WO.one rfl rfl rfl (OpW.load1 tabOk rfl rfl rfl rfl H (by (first | exact .head _ | exact .tail _ (.head _) | exact .tail _ (.tail _ (.head _)) | exact .tail _ (.tail _ (.tail _ (.head _))) | exact .tail _ (.tail _ (.tail _ (.tail _ (.head _)))) | exact .tail _ (.tail _ (.tail _ (.tail _ (.tail _ (.head _))))) | exact .tail _ (.tail _ (.tail _ (.tail _ (.tail _ (.tail _ (.head _)))))) | exact .tail _ (.tail _ (.tail _ (.tail _ (.tail _ (.tail _ (.tail _ (.head _))))))) | exact .tail _ (.tail _ (.tail _ (.tail _ (.tail _ (.tail _ (.tail _ (.tail _ (.head _)))))))) | exact .tail _ (.tail _ (.tail _ (.tail _ (.tail _ (.tail _ (.tail _ (.tail _ (.tail _ (.head _))))))))) | exact .tail _ (.tail _ (.tail _ (.tail _ (.tail _ (.tail _ (.tail _ (.tail _ (.tail _ (.tail _ (.head _)))))))))) | exact .tail _ (.tail _ (.tail _ (.tail _ (.tail _ (.tail _ (.tail _ (.tail _ (.tail _ (.tail _ (.tail _ (.head _))))))))))) | exact .tail _ (.tail _ (.tail _ (.tail _ (.tail _ (.tail _ (.tail _ (.tail _ (.tail _ (.tail _ (.tail _ (.tail _ (.head _)))))))))))) | exact .tail _ (.tail _ (.tail _ (.tail _ (.tail _ (.tail _ (.tail _ (.tail _ (.tail _ (.tail _ (.tail _ (.tail _ (.tail _ (.head _))))))))))))) | exact .tail _ (.tail _ (.tail _ (.tail _ (.tail _ (.tail _ (.tail _ (.tail _ (.tail _ (.tail _ (.tail _ (.tail _ (.tail _ (.tail _ (.head _)))))))))))))) | exact .tail _ (.tail _ (.tail _ (.tail _ (.tail _ (.tail _ (.tail _ (.tail _ (.tail _ (.tail _ (.tail _ (.tail _ (.tail _ (.tail _ (.tail _ (.head _))))))))))))))))) rfl ?_)))
  have hx0 : xs.length ≤ 240 + 2 * readsN (T.take 0) := by simp only [List.take_zero, readsN, List.map_nil, List.sum_nil]; omega
  refine W.loopS [1, 5, 6, 48, 49, 50] (fun s : Nat × List D3 × Value => [(1, .pointer (some ⟨b1, 0, none⟩)), (5, .pointer (some ⟨b5, 0, none⟩)), (6, .func (.func 36) #[] #[.pointer (some ⟨b5, 0, none⟩)]), (48, .slice ta T.length tc), (49, .int .i64 (T.length : Int)), (50, .int .i64 (s.1 : Int))])
    (fun s w' => s.1 ≤ T.length ∧ RDone T V s.1 0 s.2.1 ∧ s.2.1.length ≤ 240 + 2 * readsN (T.take s.1) ∧ St (at0 w) w' [blk b5 64 [s.2.2], row 69 depR s.2.2 s.2.1, blk b1 25 (storyV T V ta va tc vc)] []) (fun s => T.length - s.1) (0, xs, vx) rfl
    ⟨Nat.zero_le _, hR0, hx0, H⟩ ?_
  clear H hR0 hx0 hxl
  rintro ⟨i, xs, vx⟩ w7 ⟨hi, hR, hxl, H⟩
  simp only at hi hR hxl H
  have hri := readsN_le T i
  (repeat (first | refine WO.run tabOk rfl rfl ?_ | refine WO.nil ?_ | refine WO.skip rfl rfl rfl ?_ | refine WO.pu tabOk rfl rfl rfl rfl ?_ | refine W.seq ?_ | refine W.region ?_ | refine W.block ?_ | refine W.skip ?_ | refine W.exit ?_))
  refine W.cond rfl (fun hlt => ?_) (fun hge => ?_)
  · have hlt : i < T.length := by simpa using hlt
    obtain ⟨tb, tof, rfl⟩ := hH.t.addr (by omega)
    have hx := List.getElem?_eq_getElem hlt
    generalize T[i] = x at hx
    have hxm : x ∈ T := List.mem_of_getElem? hx
    obtain ⟨ra, rc, hcs, hr⟩ := tale_elem hH.t hx
    have hrs := readsN_snoc hx
    have hri1 := readsN_le T (i + 1)
    have hrle := hr.le
    simp only [maxLen] at hrle
    (repeat (first | refine WO.run tabOk rfl rfl ?_ | refine WO.nil ?_ | refine WO.skip rfl rfl rfl ?_ | refine WO.pu tabOk rfl rfl rfl rfl ?_ | refine W.seq ?_ | refine W.region ?_ | refine W.block ?_ | refine W.skip ?_ | refine W.exit ?_))
    refine WO.pv rfl rfl rfl (PureV.idxN tabOk rfl rfl rfl rfl rfl rfl (by omega)) ?_
    refine WO.one rfl rfl rfl (OpW.loadcs tabOk rfl rfl rfl rfl rfl (hcs.pure H.pure) ?_)
    refine WO.one rfl rfl rfl (OpW.alloc rfl zero30 rfl H ?_); intro b11 w8 H8
    refine WO.act rfl rfl (OpW.storeA (i := 0) tabOk rfl rfl rfl rfl H8 rfl rfl rfl rfl rfl ?_); intro w9 H9
    (repeat (first | refine WO.run tabOk rfl rfl ?_ | refine WO.nil ?_ | refine WO.skip rfl rfl rfl ?_ | refine WO.pu tabOk rfl rfl rfl rfl ?_ | refine W.seq ?_ | refine W.region ?_ | refine W.block ?_ | refine W.skip ?_ | refine W.exit ?_ | refine WO.one rfl rfl rfl (OpW.load1 tabOk rfl rfl rfl rfl H9 (by (first | exact .head _ | exact .tail _ (.head _) | exact .tail _ (.tail _ (.head _)) | exact .tail _ (.tail _ (.tail _ (.head _))) | exact .tail _ (.tail _ (.tail _ (.tail _ (.head _)))) | exact .tail _ (.tail _ (.tail _ (.tail _ (.tail _ (.head _))))) | exact .tail _ (.tail _ (.tail _ (.tail _ (.tail _ (.tail _ (.head _)))))) | exact .tail _ (.tail _ (.tail _ (.tail _ (.tail _ (.tail _ (.tail _ (.head _))))))) | exact .tail _ (.tail _ (.tail _ (.tail _ (.tail _ (.tail _ (.tail _ (.tail _ (.head _)))))))) | exact .tail _ (.tail _ (.tail _ (.tail _ (.tail _ (.tail _ (.tail _ (.tail _ (.tail _ (.head _))))))))) | exact .tail _ (.tail _ (.tail _ (.tail _ (.tail _ (.tail _ (.tail _ (.tail _ (.tail _ (.tail _ (.head _)))))))))) | exact .tail _ (.tail _ (.tail _ (.tail _ (.tail _ (.tail _ (.tail _ (.tail _ (.tail _ (.tail _ (.tail _ (.head _))))))))))) | exact .tail _ (.tail _ (.tail _ (.tail _ (.tail _ (.tail _ (.tail _ (.tail _ (.tail _ (.tail _ (.tail _ (.tail _ (.head _)))))))))))) | exact .tail _ (.tail _ (.tail _ (.tail _ (.tail _ (.tail _ (.tail _ (.tail _ (.tail _ (.tail _ (.tail _ (.tail _ (.tail _ (.head _))))))))))))) | exact .tail _ (.tail _ (.tail _ (.tail _ (.tail _ (.tail _ (.tail _ (.tail _ (.tail _ (.tail _ (.tail _ (.tail _ (.tail _ (.tail _ (.head _)))))))))))))) | exact .tail _ (.tail _ (.tail _ (.tail _ (.tail _ (.tail _ (.tail _ (.tail _ (.tail _ (.tail _ (.tail _ (.tail _ (.tail _ (.tail _ (.tail _ (.head _))))))))))))))))) rfl ?_)))
    refine W.loopS [1, 5, 6, 11, 48, 49, 50, 55, 56, 57] (fun s : Nat × List D3 × Value => [(1, .pointer (some ⟨b1, 0, none⟩)), (5, .pointer (some ⟨b5, 0, none⟩)), (6, .func (.func 36) #[] #[.pointer (some ⟨b5, 0, none⟩)]), (11, .pointer (some ⟨b11, 0, none⟩)), (48, .slice (some ⟨tb, tof, none⟩) T.length tc), (49, .int .i64 (T.length : Int)), (50, .int .i64 (i : Int)), (55, .slice ra x.2.length rc), (56, .int .i64 (x.2.length : Int)), (57, .int .i64 (s.1 : Int))])
      (fun s w' => s.1 ≤ x.2.length ∧ RDone T V i s.1 s.2.1 ∧ s.2.1.length ≤ 240 + 2 * readsN (T.take i) + 2 * s.1 ∧ St (at0 w) w' [blk b5 64 [s.2.2], row 69 depR s.2.2 s.2.1, blk b11 30 [.int .i64 x.1, .slice ra x.2.length rc], blk b1 25 (storyV T V (some ⟨tb, tof, none⟩) va tc vc)] []) (fun s => x.2.length - s.1) (0, xs, vx) rfl
      ⟨Nat.zero_le _, hR, hxl, H9.bring [1, 2, 0] rfl⟩ ?_
    clear H H8 H9 hR hxl
    rintro ⟨n, xs, vx⟩ w8 ⟨hn, hR, hxl, H⟩
    simp only at hn hR hxl H
    (repeat (first | refine WO.run tabOk rfl rfl ?_ | refine WO.nil ?_ | refine WO.skip rfl rfl rfl ?_ | refine WO.pu tabOk rfl rfl rfl rfl ?_ | refine W.seq ?_ | refine W.region ?_ | refine W.block ?_ | refine W.skip ?_ | refine W.exit ?_))
    refine W.cond rfl (fun hltn => ?_) (fun hgen => ?_)
    · have hltn : n < x.2.length := by simpa using hltn
      obtain ⟨rb, ro, rfl⟩ := hr.addr (by omega)
      have hg := List.getElem?_eq_getElem hltn
      generalize x.2[n] = g at hg
      have hgm : g ∈ x.2 := List.mem_of_getElem? hg
      obtain ⟨hg0, hg1, hg2, hg3⟩ := hS.rd x hxm g hgm
      obtain ⟨g1, g2⟩ := g
      simp only at hg0 hg1 hg2 hg3
      obtain ⟨k, rfl⟩ := Int.eq_ofNat_of_zero_le hg0
      have hkV : k < V.length := by omega
      obtain ⟨vb, vo, rfl⟩ := hH.v.addr (by omega)
      have hl := List.getElem?_eq_getElem hkV
      generalize V[k] = l at hl
      have hlm : l ∈ V := List.mem_of_getElem? hl
      obtain ⟨la, lc, hcl, hlr⟩ := hH.v.sub hl
      have hl12 := hl12 l hlm
      have hlle := hlr.le
      have hxt := hS.tx x hxm
      (repeat (first | refine WO.run tabOk rfl rfl ?_ | refine WO.nil ?_ | refine WO.skip rfl rfl rfl ?_ | refine WO.pu tabOk rfl rfl rfl rfl ?_ | refine W.seq ?_ | refine W.region ?_ | refine W.block ?_ | refine W.skip ?_ | refine W.exit ?_))
      refine WO.pv rfl rfl rfl (PureV.idxN tabOk rfl rfl rfl rfl rfl rfl (by omega)) ?_
      refine WO.one rfl rfl rfl (OpW.elemA (i := n) tabOk rfl rfl rfl rfl (hr.pure H.pure) hg rfl rfl ?_)
      refine WO.one rfl rfl rfl (OpW.alloc rfl zero27 rfl H ?_); intro b13 w9 H9
      refine WO.act rfl rfl (OpW.storeA (i := 0) tabOk rfl rfl rfl rfl H9 rfl rfl rfl rfl rfl ?_); intro w10 H10
      (repeat (first | refine WO.run tabOk rfl rfl ?_ | refine WO.nil ?_ | refine WO.skip rfl rfl rfl ?_ | refine WO.pu tabOk rfl rfl rfl rfl ?_ | refine W.seq ?_ | refine W.region ?_ | refine W.block ?_ | refine W.skip ?_ | refine W.exit ?_ | refine WO.one rfl rfl rfl (OpW.load1 tabOk rfl rfl rfl rfl H10 (by (first | exact .head _ | exact .tail _ (.head _) | exact .tail _ (.tail _ (.head _)) | exact .tail _ (.tail _ (.tail _ (.head _))) | exact .tail _ (.tail _ (.tail _ (.tail _ (.head _)))) | exact .tail _ (.tail _ (.tail _ (.tail _ (.tail _ (.head _))))) | exact .tail _ (.tail _ (.tail _ (.tail _ (.tail _ (.tail _ (.head _)))))) | exact .tail _ (.tail _ (.tail _ (.tail _ (.tail _ (.tail _ (.tail _ (.head _))))))) | exact .tail _ (.tail _ (.tail _ (.tail _ (.tail _ (.tail _ (.tail _ (.tail _ (.head _)))))))) | exact .tail _ (.tail _ (.tail _ (.tail _ (.tail _ (.tail _ (.tail _ (.tail _ (.tail _ (.head _))))))))) | exact .tail _ (.tail _ (.tail _ (.tail _ (.tail _ (.tail _ (.tail _ (.tail _ (.tail _ (.tail _ (.head _)))))))))) | exact .tail _ (.tail _ (.tail _ (.tail _ (.tail _ (.tail _ (.tail _ (.tail _ (.tail _ (.tail _ (.tail _ (.head _))))))))))) | exact .tail _ (.tail _ (.tail _ (.tail _ (.tail _ (.tail _ (.tail _ (.tail _ (.tail _ (.tail _ (.tail _ (.tail _ (.head _)))))))))))) | exact .tail _ (.tail _ (.tail _ (.tail _ (.tail _ (.tail _ (.tail _ (.tail _ (.tail _ (.tail _ (.tail _ (.tail _ (.tail _ (.head _))))))))))))) | exact .tail _ (.tail _ (.tail _ (.tail _ (.tail _ (.tail _ (.tail _ (.tail _ (.tail _ (.tail _ (.tail _ (.tail _ (.tail _ (.tail _ (.head _)))))))))))))) | exact .tail _ (.tail _ (.tail _ (.tail _ (.tail _ (.tail _ (.tail _ (.tail _ (.tail _ (.tail _ (.tail _ (.tail _ (.tail _ (.tail _ (.tail _ (.head _))))))))))))))))) rfl ?_)))
      clear H H9
      refine WO.one rfl rfl rfl (OpW.callv (first := #[]) (cap := #[.pointer (some ⟨b5, 0, none⟩)]) rfl rfl Try.call36 rfl (Calls.ret (add_ok _ _ _ _ b5 vx xs g2 x.1 2 (H10.bring [1, 2, 0, 3, 4] rfl) (by omega)) ?_))
      rintro _ w11 ⟨rfl, vx2, H11⟩
      clear H10
      have hal := addF_len xs g2 x.1 2
      have hsnd : ∀ d ∈ addF xs g2 x.1 2, Dep T V d := fun d hd => by
        rcases mem_addF.1 hd with hd | ⟨rfl, hne, h0⟩
        · exact hR.sound d hd
        · exact ⟨hne, h0, .inr (.inl ⟨rfl, x, hxm, _, hgm, rfl, rfl⟩)⟩
      have hin : ∀ d, d ∈ xs → d ∈ addF xs g2 x.1 2 := fun d hd => mem_addF.2 (.inl hd)
      have hme : g2 ≠ x.1 → 0 ≤ g2 → (g2, x.1, 2) ∈ addF xs g2 x.1 2 := fun h1 h2 => mem_addF.2 (.inr ⟨rfl, h1, h2⟩)
      generalize addF xs g2 x.1 2 = xs1 at H11 hal hsnd hin hme
      (repeat (first | refine WO.run tabOk rfl rfl ?_ | refine WO.nil ?_ | refine WO.skip rfl rfl rfl ?_ | refine WO.pu tabOk rfl rfl rfl rfl ?_ | refine W.seq ?_ | refine W.region ?_ | refine W.block ?_ | refine W.skip ?_ | refine W.exit ?_ | refine WO.one rfl rfl rfl (OpW.load1 tabOk rfl rfl rfl rfl H11 (by (first | exact .head _ | exact .tail _ (.head _) | exact .tail _ (.tail _ (.head _)) | exact .tail _ (.tail _ (.tail _ (.head _))) | exact .tail _ (.tail _ (.tail _ (.tail _ (.head _)))) | exact .tail _ (.tail _ (.tail _ (.tail _ (.tail _ (.head _))))) | exact .tail _ (.tail _ (.tail _ (.tail _ (.tail _ (.tail _ (.head _)))))) | exact .tail _ (.tail _ (.tail _ (.tail _ (.tail _ (.tail _ (.tail _ (.head _))))))) | exact .tail _ (.tail _ (.tail _ (.tail _ (.tail _ (.tail _ (.tail _ (.tail _ (.head _)))))))) | exact .tail _ (.tail _ (.tail _ (.tail _ (.tail _ (.tail _ (.tail _ (.tail _ (.tail _ (.head _))))))))) | exact .tail _ (.tail _ (.tail _ (.tail _ (.tail _ (.tail _ (.tail _ (.tail _ (.tail _ (.tail _ (.head _)))))))))) | exact .tail _ (.tail _ (.tail _ (.tail _ (.tail _ (.tail _ (.tail _ (.tail _ (.tail _ (.tail _ (.tail _ (.head _))))))))))) | exact .tail _ (.tail _ (.tail _ (.tail _ (.tail _ (.tail _ (.tail _ (.tail _ (.tail _ (.tail _ (.tail _ (.tail _ (.head _)))))))))))) | exact .tail _ (.tail _ (.tail _ (.tail _ (.tail _ (.tail _ (.tail _ (.tail _ (.tail _ (.tail _ (.tail _ (.tail _ (.tail _ (.head _))))))))))))) | exact .tail _ (.tail _ (.tail _ (.tail _ (.tail _ (.tail _ (.tail _ (.tail _ (.tail _ (.tail _ (.tail _ (.tail _ (.tail _ (.tail _ (.head _)))))))))))))) | exact .tail _ (.tail _ (.tail _ (.tail _ (.tail _ (.tail _ (.tail _ (.tail _ (.tail _ (.tail _ (.tail _ (.tail _ (.tail _ (.tail _ (.tail _ (.head _))))))))))))))))) rfl ?_)))
      refine WO.pv rfl rfl rfl (PureV.idxN (i := k) tabOk rfl rfl rfl rfl rfl rfl hkV) ?_
      refine WO.one rfl rfl rfl (OpW.loadc tabOk rfl rfl rfl rfl (cell_pure H11.pure (Holds.cell hcl)) ?_)
      (repeat (first | refine WO.run tabOk rfl rfl ?_ | refine WO.nil ?_ | refine WO.skip rfl rfl rfl ?_ | refine WO.pu tabOk rfl rfl rfl rfl ?_ | refine W.seq ?_ | refine W.region ?_ | refine W.block ?_ | refine W.skip ?_ | refine W.exit ?_ | refine WO.one rfl rfl rfl (OpW.load1 tabOk rfl rfl rfl rfl H11 (by (first | exact .head _ | exact .tail _ (.head _) | exact .tail _ (.tail _ (.head _)) | exact .tail _ (.tail _ (.tail _ (.head _))) | exact .tail _ (.tail _ (.tail _ (.tail _ (.head _)))) | exact .tail _ (.tail _ (.tail _ (.tail _ (.tail _ (.head _))))) | exact .tail _ (.tail _ (.tail _ (.tail _ (.tail _ (.tail _ (.head _)))))) | exact .tail _ (.tail _ (.tail _ (.tail _ (.tail _ (.tail _ (.tail _ (.head _))))))) | exact .tail _ (.tail _ (.tail _ (.tail _ (.tail _ (.tail _ (.tail _ (.tail _ (.head _)))))))) | exact .tail _ (.tail _ (.tail _ (.tail _ (.tail _ (.tail _ (.tail _ (.tail _ (.tail _ (.head _))))))))) | exact .tail _ (.tail _ (.tail _ (.tail _ (.tail _ (.tail _ (.tail _ (.tail _ (.tail _ (.tail _ (.head _)))))))))) | exact .tail _ (.tail _ (.tail _ (.tail _ (.tail _ (.tail _ (.tail _ (.tail _ (.tail _ (.tail _ (.tail _ (.head _))))))))))) | exact .tail _ (.tail _ (.tail _ (.tail _ (.tail _ (.tail _ (.tail _ (.tail _ (.tail _ (.tail _ (.tail _ (.tail _ (.head _)))))))))))) | exact .tail _ (.tail _ (.tail _ (.tail _ (.tail _ (.tail _ (.tail _ (.tail _ (.tail _ (.tail _ (.tail _ (.tail _ (.tail _ (.head _))))))))))))) | exact .tail _ (.tail _ (.tail _ (.tail _ (.tail _ (.tail _ (.tail _ (.tail _ (.tail _ (.tail _ (.tail _ (.tail _ (.tail _ (.tail _ (.head _)))))))))))))) | exact .tail _ (.tail _ (.tail _ (.tail _ (.tail _ (.tail _ (.tail _ (.tail _ (.tail _ (.tail _ (.tail _ (.tail _ (.tail _ (.tail _ (.tail _ (.head _))))))))))))))))) rfl ?_)))
      refine WO.one rfl rfl rfl (OpW.call rfl Try.call10 rfl (Calls.ret (idxI_ok _ la lc l g2 (hlr.pure H11.pure)) ?_))
      rintro _ w12 ⟨hp12, rfl⟩
      have H12 := H11.after hp12
      clear H11
      have hig := idxZ_ge g2 l
      have hiu : idxZ g2 l ≤ l.length := by
        rcases idxF_cases (fun y => decide (g2 = y)) l with ⟨h, _⟩ | ⟨j, y, h, hj, _⟩
        · rw [idxZ_idxF] at h; omega
        · rw [idxZ_idxF] at h; have := (List.getElem?_eq_some_iff.1 hj).1; omega
      rw [idxZ_idxF]
      refine WO.pv rfl rfl rfl (PureV.add rfl rfl rfl (by omega) (by omega)) ?_
      obtain ⟨q, hq⟩ := Int.eq_ofNat_of_zero_le (show 0 ≤ idxZ g2 l + 1 by omega)
      have haf : after l g2 = l[q]? := by rw [after, hq]; rfl
      rw [hq]
      (repeat (first | refine WO.run tabOk rfl rfl ?_ | refine WO.nil ?_ | refine WO.skip rfl rfl rfl ?_ | refine WO.pu tabOk rfl rfl rfl rfl ?_ | refine W.seq ?_ | refine W.region ?_ | refine W.block ?_ | refine W.skip ?_ | refine W.exit ?_))
      refine W.cond rfl (fun hlq => ?_) (fun hlq => ?_)
      · have hlq : q < l.length := by simpa using hlq
        obtain ⟨lb, lo, rfl⟩ := hlr.addr (by omega)
        have hy := List.getElem?_eq_getElem hlq
        generalize l[q] = y at hy
        (repeat (first | refine WO.run tabOk rfl rfl ?_ | refine WO.nil ?_ | refine WO.skip rfl rfl rfl ?_ | refine WO.pu tabOk rfl rfl rfl rfl ?_ | refine W.seq ?_ | refine W.region ?_ | refine W.block ?_ | refine W.skip ?_ | refine W.exit ?_))
        have H13 := H12.drew
        have mk : ∀ {w' : World} {Own}, St (at0 w) w' Own [] → blk b11 30 [.int .i64 x.1, .slice (some ⟨rb, ro, none⟩) x.2.length rc] ∈ Own ++ [] → HA [blk b11 30 [.int .i64 x.1, .slice (some ⟨rb, ro, none⟩) x.2.length rc], rd i64 (some ⟨lb, lo, none⟩) lc l] w' := fun H hm => HA.cons (H.holds hm) (HA.cons (hlr.pure H.pure) (HA.nil _))
        have hA := mk H13 (by simp)
        refine W.regionD [2, 6] (HA [blk b11 30 [.int .i64 x.1, .slice (some ⟨rb, ro, none⟩) x.2.length rc], rd i64 (some ⟨lb, lo, none⟩) lc l]) [0, 1, 2, 3, 4, 5, 6, 7] rfl (by kernel_rfl) (fun _ _ _ h => h) ?_
        (repeat (first | refine WD.run tabOk rfl rfl ?_ | refine WD.hv rfl rfl rfl rfl rfl hA (HeldV.load1 tabOk rfl rfl rfl rfl (by (first | exact .head _ | exact .tail _ (.head _) | exact .tail _ (.tail _ (.head _)) | exact .tail _ (.tail _ (.tail _ (.head _))) | exact .tail _ (.tail _ (.tail _ (.tail _ (.head _)))) | exact .tail _ (.tail _ (.tail _ (.tail _ (.tail _ (.head _))))) | exact .tail _ (.tail _ (.tail _ (.tail _ (.tail _ (.tail _ (.head _)))))) | exact .tail _ (.tail _ (.tail _ (.tail _ (.tail _ (.tail _ (.tail _ (.head _))))))) | exact .tail _ (.tail _ (.tail _ (.tail _ (.tail _ (.tail _ (.tail _ (.tail _ (.head _)))))))) | exact .tail _ (.tail _ (.tail _ (.tail _ (.tail _ (.tail _ (.tail _ (.tail _ (.tail _ (.head _))))))))) | exact .tail _ (.tail _ (.tail _ (.tail _ (.tail _ (.tail _ (.tail _ (.tail _ (.tail _ (.tail _ (.head _)))))))))) | exact .tail _ (.tail _ (.tail _ (.tail _ (.tail _ (.tail _ (.tail _ (.tail _ (.tail _ (.tail _ (.tail _ (.head _))))))))))) | exact .tail _ (.tail _ (.tail _ (.tail _ (.tail _ (.tail _ (.tail _ (.tail _ (.tail _ (.tail _ (.tail _ (.tail _ (.head _)))))))))))) | exact .tail _ (.tail _ (.tail _ (.tail _ (.tail _ (.tail _ (.tail _ (.tail _ (.tail _ (.tail _ (.tail _ (.tail _ (.tail _ (.head _))))))))))))) | exact .tail _ (.tail _ (.tail _ (.tail _ (.tail _ (.tail _ (.tail _ (.tail _ (.tail _ (.tail _ (.tail _ (.tail _ (.tail _ (.tail _ (.head _)))))))))))))) | exact .tail _ (.tail _ (.tail _ (.tail _ (.tail _ (.tail _ (.tail _ (.tail _ (.tail _ (.tail _ (.tail _ (.tail _ (.tail _ (.tail _ (.tail _ (.head _))))))))))))))))) rfl) ?_ | refine WD.hv rfl rfl rfl rfl rfl hA (HeldV.loadA tabOk rfl rfl rfl rfl (by (first | exact .head _ | exact .tail _ (.head _) | exact .tail _ (.tail _ (.head _)) | exact .tail _ (.tail _ (.tail _ (.head _))) | exact .tail _ (.tail _ (.tail _ (.tail _ (.head _)))) | exact .tail _ (.tail _ (.tail _ (.tail _ (.tail _ (.head _))))) | exact .tail _ (.tail _ (.tail _ (.tail _ (.tail _ (.tail _ (.head _)))))) | exact .tail _ (.tail _ (.tail _ (.tail _ (.tail _ (.tail _ (.tail _ (.head _))))))) | exact .tail _ (.tail _ (.tail _ (.tail _ (.tail _ (.tail _ (.tail _ (.tail _ (.head _)))))))) | exact .tail _ (.tail _ (.tail _ (.tail _ (.tail _ (.tail _ (.tail _ (.tail _ (.tail _ (.head _))))))))) | exact .tail _ (.tail _ (.tail _ (.tail _ (.tail _ (.tail _ (.tail _ (.tail _ (.tail _ (.tail _ (.head _)))))))))) | exact .tail _ (.tail _ (.tail _ (.tail _ (.tail _ (.tail _ (.tail _ (.tail _ (.tail _ (.tail _ (.tail _ (.head _))))))))))) | exact .tail _ (.tail _ (.tail _ (.tail _ (.tail _ (.tail _ (.tail _ (.tail _ (.tail _ (.tail _ (.tail _ (.tail _ (.head _)))))))))))) | exact .tail _ (.tail _ (.tail _ (.tail _ (.tail _ (.tail _ (.tail _ (.tail _ (.tail _ (.tail _ (.tail _ (.tail _ (.tail _ (.head _))))))))))))) | exact .tail _ (.tail _ (.tail _ (.tail _ (.tail _ (.tail _ (.tail _ (.tail _ (.tail _ (.tail _ (.tail _ (.tail _ (.tail _ (.tail _ (.head _)))))))))))))) | exact .tail _ (.tail _ (.tail _ (.tail _ (.tail _ (.tail _ (.tail _ (.tail _ (.tail _ (.tail _ (.tail _ (.tail _ (.tail _ (.tail _ (.tail _ (.head _))))))))))))))))) rfl rfl) ?_ | refine WD.pu tabOk rfl rfl rfl rfl rfl rfl ?_))
        refine WD.pv rfl rfl rfl rfl rfl (PureV.idxN (i := q) tabOk rfl rfl rfl rfl rfl rfl hlq) ?_
        refine WD.hv rfl rfl rfl rfl rfl hA (HeldV.elem1 (i := q) (j := 0) tabOk rfl rfl rfl rfl (.tail _ (.head _)) hy rfl rfl) ?_
        (repeat (first | refine WD.run tabOk rfl rfl ?_ | refine WD.hv rfl rfl rfl rfl rfl hA (HeldV.load1 tabOk rfl rfl rfl rfl (by (first | exact .head _ | exact .tail _ (.head _) | exact .tail _ (.tail _ (.head _)) | exact .tail _ (.tail _ (.tail _ (.head _))) | exact .tail _ (.tail _ (.tail _ (.tail _ (.head _)))) | exact .tail _ (.tail _ (.tail _ (.tail _ (.tail _ (.head _))))) | exact .tail _ (.tail _ (.tail _ (.tail _ (.tail _ (.tail _ (.head _)))))) | exact .tail _ (.tail _ (.tail _ (.tail _ (.tail _ (.tail _ (.tail _ (.head _))))))) | exact .tail _ (.tail _ (.tail _ (.tail _ (.tail _ (.tail _ (.tail _ (.tail _ (.head _)))))))) | exact .tail _ (.tail _ (.tail _ (.tail _ (.tail _ (.tail _ (.tail _ (.tail _ (.tail _ (.head _))))))))) | exact .tail _ (.tail _ (.tail _ (.tail _ (.tail _ (.tail _ (.tail _ (.tail _ (.tail _ (.tail _ (.head _)))))))))) | exact .tail _ (.tail _ (.tail _ (.tail _ (.tail _ (.tail _ (.tail _ (.tail _ (.tail _ (.tail _ (.tail _ (.head _))))))))))) | exact .tail _ (.tail _ (.tail _ (.tail _ (.tail _ (.tail _ (.tail _ (.tail _ (.tail _ (.tail _ (.tail _ (.tail _ (.head _)))))))))))) | exact .tail _ (.tail _ (.tail _ (.tail _ (.tail _ (.tail _ (.tail _ (.tail _ (.tail _ (.tail _ (.tail _ (.tail _ (.tail _ (.head _))))))))))))) | exact .tail _ (.tail _ (.tail _ (.tail _ (.tail _ (.tail _ (.tail _ (.tail _ (.tail _ (.tail _ (.tail _ (.tail _ (.tail _ (.tail _ (.head _)))))))))))))) | exact .tail _ (.tail _ (.tail _ (.tail _ (.tail _ (.tail _ (.tail _ (.tail _ (.tail _ (.tail _ (.tail _ (.tail _ (.tail _ (.tail _ (.tail _ (.head _))))))))))))))))) rfl) ?_ | refine WD.hv rfl rfl rfl rfl rfl hA (HeldV.loadA tabOk rfl rfl rfl rfl (by (first | exact .head _ | exact .tail _ (.head _) | exact .tail _ (.tail _ (.head _)) | exact .tail _ (.tail _ (.tail _ (.head _))) | exact .tail _ (.tail _ (.tail _ (.tail _ (.head _)))) | exact .tail _ (.tail _ (.tail _ (.tail _ (.tail _ (.head _))))) | exact .tail _ (.tail _ (.tail _ (.tail _ (.tail _ (.tail _ (.head _)))))) | exact .tail _ (.tail _ (.tail _ (.tail _ (.tail _ (.tail _ (.tail _ (.head _))))))) | exact .tail _ (.tail _ (.tail _ (.tail _ (.tail _ (.tail _ (.tail _ (.tail _ (.head _)))))))) | exact .tail _ (.tail _ (.tail _ (.tail _ (.tail _ (.tail _ (.tail _ (.tail _ (.tail _ (.head _))))))))) | exact .tail _ (.tail _ (.tail _ (.tail _ (.tail _ (.tail _ (.tail _ (.tail _ (.tail _ (.tail _ (.head _)))))))))) | exact .tail _ (.tail _ (.tail _ (.tail _ (.tail _ (.tail _ (.tail _ (.tail _ (.tail _ (.tail _ (.tail _ (.head _))))))))))) | exact .tail _ (.tail _ (.tail _ (.tail _ (.tail _ (.tail _ (.tail _ (.tail _ (.tail _ (.tail _ (.tail _ (.tail _ (.head _)))))))))))) | exact .tail _ (.tail _ (.tail _ (.tail _ (.tail _ (.tail _ (.tail _ (.tail _ (.tail _ (.tail _ (.tail _ (.tail _ (.tail _ (.head _))))))))))))) | exact .tail _ (.tail _ (.tail _ (.tail _ (.tail _ (.tail _ (.tail _ (.tail _ (.tail _ (.tail _ (.tail _ (.tail _ (.tail _ (.tail _ (.head _)))))))))))))) | exact .tail _ (.tail _ (.tail _ (.tail _ (.tail _ (.tail _ (.tail _ (.tail _ (.tail _ (.tail _ (.tail _ (.tail _ (.tail _ (.tail _ (.tail _ (.head _))))))))))))))))) rfl rfl) ?_ | refine WD.pu tabOk rfl rfl rfl rfl rfl rfl ?_))
        refine WD.oneS rfl rfl rfl rfl rfl (OpW.callv (first := #[]) (cap := #[.pointer (some ⟨b5, 0, none⟩)]) rfl rfl Try.call36 rfl (Calls.ret (add_ok _ _ _ _ b5 vx2 xs1 x.1 y 3 H13 (by omega)) ?_))
        rintro _ w14 ⟨rfl, vx3, H14⟩
        refine ⟨mk H14 (by simp), ?_⟩
        (repeat (first | refine WD.run tabOk rfl rfl ?_ | refine WD.nil ?_))
        (repeat (first | refine WO.run tabOk rfl rfl ?_ | refine WO.nil ?_ | refine WO.skip rfl rfl rfl ?_ | refine WO.pu tabOk rfl rfl rfl rfl ?_ | refine W.seq ?_ | refine W.region ?_ | refine W.block ?_ | refine W.skip ?_ | refine W.exit ?_))
        refine WO.pv rfl rfl rfl (PureV.addN (n := n) rfl rfl rfl (by omega)) ?_
        (repeat (first | refine WO.run tabOk rfl rfl ?_ | refine WO.nil ?_ | refine WO.skip rfl rfl rfl ?_ | refine WO.pu tabOk rfl rfl rfl rfl ?_ | refine W.seq ?_ | refine W.region ?_ | refine W.block ?_ | refine W.skip ?_ | refine W.exit ?_))
        have hal2 := addF_len xs1 x.1 y 3
        refine ⟨(n + 1, addF xs1 x.1 y 3, vx3), rfl, ⟨by simp only; omega, ⟨fun d hd => ?_, fun m q a b hm ha hb hne h0 => mem_addF.2 (.inl (hin _ (hR.wr m q a b hm ha hb hne h0))), fun j t g' hj ht hg' => ?_, fun t m g' ht hm hg' => ?_⟩, by simp only; omega, (H14.bring [0, 1, 3, 4] rfl |>.bring [4] rfl).drop⟩, by simp only; omega⟩
        · rcases mem_addF.1 hd with hd | ⟨rfl, hne, h0⟩
          · exact hsnd d hd
          · exact ⟨hne, h0, .inr (.inr ⟨rfl, x, hxm, _, hgm, l, by simpa using hl, rfl, by rw [haf]; exact hy⟩)⟩
        · obtain ⟨h1, h2⟩ := hR.old j t g' hj ht hg'
          exact ⟨fun a b => mem_addF.2 (.inl (hin _ (h1 a b))), fun l' b a c d e => mem_addF.2 (.inl (hin _ (h2 l' b a c d e)))⟩
        · rw [hx] at ht; cases ht
          rcases Nat.lt_succ_iff_lt_or_eq.1 hm with hm | rfl
          · obtain ⟨h1, h2⟩ := hR.cur x m g' hx hm hg'
            exact ⟨fun a b => mem_addF.2 (.inl (hin _ (h1 a b))), fun l' b a c d e => mem_addF.2 (.inl (hin _ (h2 l' b a c d e)))⟩
          · rw [hg] at hg'; cases hg'
            refine ⟨fun a b => mem_addF.2 (.inl (hme a b)), fun l' b hl' hb hne h0 => ?_⟩
            simp only [Int.toNat_natCast] at hl'
            rw [hl] at hl'; cases hl'
            rw [haf, hy] at hb; cases hb
            exact mem_addF.2 (.inr ⟨rfl, hne, h0⟩)
      · have hlq : l.length ≤ q := by simp at hlq; omega
        (repeat (first | refine WO.run tabOk rfl rfl ?_ | refine WO.nil ?_ | refine WO.skip rfl rfl rfl ?_ | refine WO.pu tabOk rfl rfl rfl rfl ?_ | refine W.seq ?_ | refine W.region ?_ | refine W.block ?_ | refine W.skip ?_ | refine W.exit ?_))
        refine WO.pv rfl rfl rfl (PureV.addN (n := n) rfl rfl rfl (by omega)) ?_
        (repeat (first | refine WO.run tabOk rfl rfl ?_ | refine WO.nil ?_ | refine WO.skip rfl rfl rfl ?_ | refine WO.pu tabOk rfl rfl rfl rfl ?_ | refine W.seq ?_ | refine W.region ?_ | refine W.block ?_ | refine W.skip ?_ | refine W.exit ?_))
        refine ⟨(n + 1, xs1, vx2), rfl, ⟨by simp only; omega, ⟨hsnd, fun m q a b hm ha hb hne h0 => hin _ (hR.wr m q a b hm ha hb hne h0), fun j t g' hj ht hg' => ?_, fun t m g' ht hm hg' => ?_⟩, by simp only; omega, (H12.bring [0, 1, 3, 4] rfl |>.bring [4] rfl).drop⟩, by simp only; omega⟩
        · obtain ⟨h1, h2⟩ := hR.old j t g' hj ht hg'
          exact ⟨fun a b => hin _ (h1 a b), fun l' b a c d e => hin _ (h2 l' b a c d e)⟩
        · rw [hx] at ht; cases ht
          rcases Nat.lt_succ_iff_lt_or_eq.1 hm with hm | rfl
          · obtain ⟨h1, h2⟩ := hR.cur x m g' hx hm hg'
            exact ⟨fun a b => hin _ (h1 a b), fun l' b a c d e => hin _ (h2 l' b a c d e)⟩
          · rw [hg] at hg'; cases hg'
            refine ⟨hme, fun l' b hl' hb hne h0 => ?_⟩
            simp only [Int.toNat_natCast] at hl'
            rw [hl] at hl'; cases hl'
            rw [haf, List.getElem?_eq_none hlq] at hb; cases hb
    · have hnx : n = x.2.length := by simp at hgen; omega
      (repeat (first | refine WO.run tabOk rfl rfl ?_ | refine WO.nil ?_ | refine WO.skip rfl rfl rfl ?_ | refine WO.pu tabOk rfl rfl rfl rfl ?_ | refine W.seq ?_ | refine W.region ?_ | refine W.block ?_ | refine W.skip ?_ | refine W.exit ?_))
      refine WO.pv rfl rfl rfl (PureV.addN (n := i) rfl rfl rfl (by omega)) ?_
      (repeat (first | refine WO.run tabOk rfl rfl ?_ | refine WO.nil ?_ | refine WO.skip rfl rfl rfl ?_ | refine WO.pu tabOk rfl rfl rfl rfl ?_ | refine W.seq ?_ | refine W.region ?_ | refine W.block ?_ | refine W.skip ?_ | refine W.exit ?_))
      refine ⟨(i + 1, xs, vx), rfl, ⟨by simp only; omega, ⟨hR.sound, hR.wr, fun j t g hj ht hg => ?_, fun t m g _ hm => by omega⟩, by simp only; omega, (H.bring [0, 1, 3] rfl |>.bring [3] rfl).drop⟩, by simp only; omega⟩
      rcases Nat.lt_succ_iff_lt_or_eq.1 hj with h | rfl
      · exact hR.old j t g h ht hg
      · rw [hx] at ht; cases ht
        obtain ⟨m, hm, rfl⟩ := List.mem_iff_getElem.1 hg
        exact hR.cur x m _ hx (by omega) (List.getElem?_eq_getElem hm)
  have hiT : i = T.length := by simp at hge; omega
  subst hiT
  have hall := hR.all
  clear hR
  (repeat (first | refine WO.run tabOk rfl rfl ?_ | refine WO.nil ?_ | refine WO.skip rfl rfl rfl ?_ | refine WO.pu tabOk rfl rfl rfl rfl ?_ | refine W.seq ?_ | refine W.region ?_ | refine W.block ?_ | refine W.skip ?_ | refine W.exit ?_ | refine WO.one rfl rfl rfl (OpW.load1 tabOk rfl rfl rfl rfl H (by (first | exact .head _ | exact .tail _ (.head _) | exact .tail _ (.tail _ (.head _)) | exact .tail _ (.tail _ (.tail _ (.head _))) | exact .tail _ (.tail _ (.tail _ (.tail _ (.head _)))) | exact .tail _ (.tail _ (.tail _ (.tail _ (.tail _ (.head _))))) | exact .tail _ (.tail _ (.tail _ (.tail _ (.tail _ (.tail _ (.head _)))))) | exact .tail _ (.tail _ (.tail _ (.tail _ (.tail _ (.tail _ (.tail _ (.head _))))))) | exact .tail _ (.tail _ (.tail _ (.tail _ (.tail _ (.tail _ (.tail _ (.tail _ (.head _)))))))) | exact .tail _ (.tail _ (.tail _ (.tail _ (.tail _ (.tail _ (.tail _ (.tail _ (.tail _ (.head _))))))))) | exact .tail _ (.tail _ (.tail _ (.tail _ (.tail _ (.tail _ (.tail _ (.tail _ (.tail _ (.tail _ (.head _)))))))))) | exact .tail _ (.tail _ (.tail _ (.tail _ (.tail _ (.tail _ (.tail _ (.tail _ (.tail _ (.tail _ (.tail _ (.head _))))))))))) | exact .tail _ (.tail _ (.tail _ (.tail _ (.tail _ (.tail _ (.tail _ (.tail _ (.tail _ (.tail _ (.tail _ (.tail _ (.head _)))))))))))) | exact .tail _ (.tail _ (.tail _ (.tail _ (.tail _ (.tail _ (.tail _ (.tail _ (.tail _ (.tail _ (.tail _ (.tail _ (.tail _ (.head _))))))))))))) | exact .tail _ (.tail _ (.tail _ (.tail _ (.tail _ (.tail _ (.tail _ (.tail _ (.tail _ (.tail _ (.tail _ (.tail _ (.tail _ (.tail _ (.head _)))))))))))))) | exact .tail _ (.tail _ (.tail _ (.tail _ (.tail _ (.tail _ (.tail _ (.tail _ (.tail _ (.tail _ (.tail _ (.tail _ (.tail _ (.tail _ (.tail _ (.head _))))))))))))))))) rfl ?_)))
  refine WO.one rfl rfl rfl (OpW.call rfl Try.call37 rfl (Calls.ret (sortD_ok _ _ _ _ vx xs (H.to (i := 1) rfl) (by omega)) ?_))
  rintro _ w8 ⟨rfl, ys, hperm, hsrt, H8⟩
  have H9 : St (at0 w) w8 [blk b5 64 [vx], row 69 depR vx ys, blk b1 25 (storyV T V ta va tc vc)] [] := H8.bring [1, 0, 2] rfl
  clear H H8
  (repeat (first | refine WO.run tabOk rfl rfl ?_ | refine WO.nil ?_ | refine WO.skip rfl rfl rfl ?_ | refine WO.pu tabOk rfl rfl rfl rfl ?_ | refine W.seq ?_ | refine W.region ?_ | refine W.block ?_ | refine W.skip ?_ | refine W.exit ?_ | refine WO.one rfl rfl rfl (OpW.load1 tabOk rfl rfl rfl rfl H9 (by (first | exact .head _ | exact .tail _ (.head _) | exact .tail _ (.tail _ (.head _)) | exact .tail _ (.tail _ (.tail _ (.head _))) | exact .tail _ (.tail _ (.tail _ (.tail _ (.head _)))) | exact .tail _ (.tail _ (.tail _ (.tail _ (.tail _ (.head _))))) | exact .tail _ (.tail _ (.tail _ (.tail _ (.tail _ (.tail _ (.head _)))))) | exact .tail _ (.tail _ (.tail _ (.tail _ (.tail _ (.tail _ (.tail _ (.head _))))))) | exact .tail _ (.tail _ (.tail _ (.tail _ (.tail _ (.tail _ (.tail _ (.tail _ (.head _)))))))) | exact .tail _ (.tail _ (.tail _ (.tail _ (.tail _ (.tail _ (.tail _ (.tail _ (.tail _ (.head _))))))))) | exact .tail _ (.tail _ (.tail _ (.tail _ (.tail _ (.tail _ (.tail _ (.tail _ (.tail _ (.tail _ (.head _)))))))))) | exact .tail _ (.tail _ (.tail _ (.tail _ (.tail _ (.tail _ (.tail _ (.tail _ (.tail _ (.tail _ (.tail _ (.head _))))))))))) | exact .tail _ (.tail _ (.tail _ (.tail _ (.tail _ (.tail _ (.tail _ (.tail _ (.tail _ (.tail _ (.tail _ (.tail _ (.head _)))))))))))) | exact .tail _ (.tail _ (.tail _ (.tail _ (.tail _ (.tail _ (.tail _ (.tail _ (.tail _ (.tail _ (.tail _ (.tail _ (.tail _ (.head _))))))))))))) | exact .tail _ (.tail _ (.tail _ (.tail _ (.tail _ (.tail _ (.tail _ (.tail _ (.tail _ (.tail _ (.tail _ (.tail _ (.tail _ (.tail _ (.head _)))))))))))))) | exact .tail _ (.tail _ (.tail _ (.tail _ (.tail _ (.tail _ (.tail _ (.tail _ (.tail _ (.tail _ (.tail _ (.tail _ (.tail _ (.tail _ (.tail _ (.head _))))))))))))))))) rfl ?_)))
  refine WO.one rfl rfl rfl (OpW.call rfl Try.call40 rfl (Calls.ret (compactD_ok _ _ _ _ vx ys (H9.to (i := 1) rfl)) ?_))
  intro vd w10 H10
  (repeat (first | refine WO.run tabOk rfl rfl ?_ | refine WO.nil ?_ | refine WO.skip rfl rfl rfl ?_ | refine WO.pu tabOk rfl rfl rfl rfl ?_ | refine W.seq ?_ | refine W.region ?_ | refine W.block ?_ | refine W.skip ?_ | refine W.exit ?_))
  exact W.ret (ret2 Try.results22 rfl rfl ⟨_, rfl, _, _, rfl, .inr ⟨rfl, hS, Go.Lib.compact ys, compact_nodup hsrt, fun d => by rw [compact_mem, hperm.mem_iff, hall], H10.first⟩⟩)
end Go.Proofs.Ytpenbdpgpamcbaa
