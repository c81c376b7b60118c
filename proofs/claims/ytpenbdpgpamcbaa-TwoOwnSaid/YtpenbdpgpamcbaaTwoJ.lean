/- two: of each one is done what it wished, up to some place; no program in sight. Conditions: each fact's own premises. -/
import Derived.Test.YtpenbdpgpamcbaaTwoI
set_option linter.unusedVariables false
set_option linter.unusedSimpArgs false
set_option maxRecDepth 20000
namespace Go.Proofs.Ytpenbdpgpamcbaa
open Go Gw

structure Own1 (l : List Act) (s : TwoS) (K : List Task) : Prop where
  live : ∀ u, 0 ≤ u ∧ u < 12 → s.dd u = false → ownL u s.out ++ s.lt u ++ ownL u (takes K) = ownL u l
  dead : ∀ u, 0 ≤ u ∧ u < 12 → s.dd u = true → ∃ pre, pre <+: ownL u l ∧ ownL u s.out = pre ++ [(u, 4, 0)]
theorem ownL_cons (u : Int) (o : Act) (l : List Act) : ownL u (o :: l) = (if o.1 = u then [o] else []) ++ ownL u l := by
  simp only [ownL, List.filter_cons]
  by_cases h : o.1 = u <;> simp [h]
theorem ownL_all {u : Int} {l : List Act} (h : ∀ o ∈ l, o.1 = u) : ownL u l = l := List.filter_eq_self.2 fun o ho => by simp [h o ho]
theorem ownL_none {u v : Int} {l : List Act} (h : ∀ o ∈ l, o.1 = u) (hne : u ≠ v) : ownL v l = [] := List.filter_eq_nil_iff.2 fun o ho => by simp [h o ho, hne]

theorem Step.own1 {l : List Act} {s s' : TwoS} {K K' : List Task} (hst : Step (s, K) (s', K')) (hI : Inv s K) (h : Own1 l s K) : Own1 l s' K' := by
  cases hst with
  | @dead _ o _ hd =>
    refine ⟨fun u hu hdu => ?_, h.dead⟩
    have := h.live u hu hdu
    rw [takes, ownL_cons, if_neg (fun e => by rw [e, hdu] at hd; cases hd)] at this
    exact this
  | @late _ o _ hd hl =>
    have ho := hI.tk o (by simp [takes])
    refine ⟨fun u hu hdu => ?_, h.dead⟩
    have hdu : s.dd u = false := hdu
    have := h.live u hu hdu
    rw [takes, ownL_cons] at this
    show ownL u s.out ++ (s.setL o.1 (s.lt o.1 ++ [o])).lt u ++ ownL u (takes K') = _
    rw [TwoS.lt_set hI.lateL ho.1 hu]
    by_cases e : o.1 = u
    · rw [if_pos e] at this ⊢
      rw [← this, e]; simp
    · rw [if_neg e] at this ⊢; exact this
  | @fin _ o K hd hl hk =>
    have ho := hI.tk o (by simp [takes])
    refine ⟨fun u hu hdu => ?_, fun u hu hdu => ?_⟩
    · have hdu : s.dd u = false := hdu
      have := h.live u hu hdu
      rw [takes, ownL_cons] at this
      rw [takes_given]
      show ownL u (s.out ++ [o]) ++ s.lt u ++ ownL u (takes K) = _
      rw [ownL_append, ← this, ownL_cons]
      by_cases e : o.1 = u
      · rw [if_pos e, ← e, hl]; simp [ownL]
      · rw [if_neg e]; simp [ownL]
    · have hdu : s.dd u = true := hdu
      have hne : o.1 ≠ u := fun e => by rw [e, hdu] at hd; cases hd
      obtain ⟨pre, h1, h2⟩ := h.dead u hu hdu
      refine ⟨pre, h1, ?_⟩
      show ownL u (s.out ++ [o]) = _
      rw [ownL_append, h2, ownL_cons, if_neg hne]; simp [ownL]
  | @ok _ o _ hd hl hk hok =>
    have ho := hI.tk o (by simp [takes])
    refine ⟨fun u hu hdu => ?_, fun u hu hdu => ?_⟩
    · have hdu : s.dd u = false := hdu
      have := h.live u hu hdu
      rw [takes, ownL_cons] at this
      show ownL u (s.out ++ [o]) ++ s.lt u ++ ownL u (takes K') = _
      rw [ownL_append, ← this, ownL_cons]
      by_cases e : o.1 = u
      · rw [if_pos e, ← e, hl]; simp [ownL]
      · rw [if_neg e]; simp [ownL]
    · have hdu : s.dd u = true := hdu
      have hne : o.1 ≠ u := fun e => by rw [e, hdu] at hd; cases hd
      obtain ⟨pre, h1, h2⟩ := h.dead u hu hdu
      refine ⟨pre, h1, ?_⟩
      show ownL u (s.out ++ [o]) = _
      rw [ownL_append, h2, ownL_cons, if_neg hne]; simp [ownL]
  | @wait _ o K hd hl hk hok =>
    have ho := hI.tk o (by simp [takes])
    refine ⟨fun u hu hdu => ?_, h.dead⟩
    have hdu : s.dd u = false := hdu
    have := h.live u hu hdu
    rw [takes, ownL_cons] at this
    show ownL u s.out ++ (s.setL o.1 [o]).lt u ++ ownL u (takes K) = _
    rw [TwoS.lt_set hI.lateL ho.1 hu, ← this]
    by_cases e : o.1 = u
    · rw [if_pos e, if_pos e, ← e, hl]; simp
    · rw [if_neg e, if_neg e]; simp
  | @wake _ v o r K hl =>
    have hv := hI.rng v (by simp [wakes])
    have hof := hI.of v hv
    rw [hl] at hof
    have hov : o.1 = v := (hof o (.head _)).1
    have hr : ∀ x ∈ r, x.1 = v := fun x hx => (hof x (List.mem_cons_of_mem _ hx)).1
    have hdv : s.dd v = false := by
      cases hd : s.dd v with
      | false => rfl
      | true => have := hI.gone v hv hd; rw [hl] at this; cases this
    refine ⟨fun u hu hdu => ?_, fun u hu hdu => ?_⟩
    · have hdu : s.dd u = false := hdu
      have := h.live u hu hdu
      rw [takes_append, takes_take]
      show ownL u (s.out ++ [o]) ++ (s.setL v []).lt u ++ ownL u (r ++ takes K) = _
      rw [TwoS.lt_set hI.lateL hv hu, ownL_append, ownL_append, ← this]
      show _ = ownL u s.out ++ s.lt u ++ ownL u (takes K)
      by_cases e : v = u
      · rw [if_pos e, ← e, hl, ownL_all hr, ownL_cons, if_pos hov]; simp [ownL]
      · rw [if_neg e, ownL_none hr e, ownL_cons, if_neg (by rw [hov]; exact e)]; simp [ownL]
    · have hdu : s.dd u = true := hdu
      have hne : o.1 ≠ u := fun e => by rw [← e, hov, hdv] at hdu; cases hdu
      obtain ⟨pre, h1, h2⟩ := h.dead u hu hdu
      refine ⟨pre, h1, ?_⟩
      show ownL u (s.out ++ [o]) = _
      rw [ownL_append, h2, ownL_cons, if_neg hne]; simp [ownL]
  | calm hv => exact ⟨h.live, h.dead⟩
  | @kill _ vs v K hv hu =>
    obtain ⟨hw, hv12, hlt, hdv⟩ := hI.victim hv hu
    have hvr : 0 ≤ (v : Int) ∧ (v : Int) < 12 := by omega
    refine ⟨fun u hu hdu => ?_, fun u hu hdu => ?_⟩
    · have hdu : (s.kill (v : Int)).dd u = false := hdu
      rw [TwoS.dd_kill hI.deadL hvr hu] at hdu
      split at hdu
      · cases hdu
      rename_i e
      have := h.live u hu hdu
      rw [takes_given]
      show ownL u (s.out ++ [((v : Int), 4, 0)]) ++ (s.setL (v : Int) []).lt u ++ ownL u (takes (.free :: K)) = _
      rw [TwoS.lt_set hI.lateL hvr hu, if_neg e, ownL_append, ownL_cons, if_neg e, ← this]
      simp [ownL]
    · have hdu : (s.kill (v : Int)).dd u = true := hdu
      rw [TwoS.dd_kill hI.deadL hvr hu] at hdu
      have hout : ownL u (s.out ++ [((v : Int), (4 : Int), (0 : Int))]) = ownL u s.out ++ (if (v : Int) = u then [((v : Int), (4 : Int), (0 : Int))] else []) := by
        rw [ownL_append, ownL_cons]; simp [ownL]
      show ∃ pre, pre <+: ownL u l ∧ ownL u (s.out ++ [((v : Int), 4, 0)]) = _
      rw [hout]
      split at hdu
      · rename_i e
        rw [if_pos e, ← e]
        refine ⟨ownL (v : Int) s.out, ?_, rfl⟩
        rw [← h.live (v : Int) hvr hdv, List.append_assoc]
        exact List.prefix_append _ _
      · rename_i e
        rw [if_neg e, List.append_nil]
        exact h.dead u hu hdu
theorem Steps.own1 {l : List Act} {a b : TwoS × List Task} (hst : Steps a b) : Inv a.1 a.2 → Own1 l a.1 a.2 → Own1 l b.1 b.2 := by
  induction hst with
  | refl a => exact fun _ h => h
  | @head a b c h _ ih =>
    intro hi ho
    exact ih (Step.inv (s := a.1) (K := a.2) (s' := b.1) (K' := b.2) h hi).1 (Step.own1 (s := a.1) (K := a.2) (s' := b.1) (K' := b.2) h hi ho)
theorem own1_0 (l : List Act) : Own1 l twoS0 (l.map .take) := by
  have lt0 : ∀ u, twoS0.lt u = [] := fun u => by
    simp only [twoS0, TwoS.lt, List.getD_eq_getElem?_getD, List.getElem?_replicate]
    split <;> rfl
  refine ⟨fun u _ _ => ?_, fun u _ hd => ?_⟩
  · rw [lt0, takes_take]; rfl
  · have : twoS0.dd u = false := by
      simp only [twoS0, TwoS.dd, List.getD_eq_getElem?_getD, List.getElem?_replicate]
      split <;> rfl
    rw [this] at hd; cases hd

/-! ### Steps that are forced -/
section
variable {s z : TwoS} {K : List Task} {o : Act}
theorem Steps.do_ok (h : Steps (s, .take o :: K) (z, [])) (h1 : s.dd o.1 = false) (h2 : s.lt o.1 = []) (h3 : o.2.1 < 3) (h4 : (askStep o.1 o.2.2 (modeF o) s.locks).2 = true) : Steps ((s.lock (askStep o.1 o.2.2 (modeF o) s.locks).1).tell o, K) (z, []) := by
  cases h with
  | head st k =>
    cases st with
    | dead hd => rw [h1] at hd; cases hd
    | late _ hl => exact absurd h2 hl
    | fin _ _ hk => omega
    | ok _ _ _ _ => exact k
    | wait _ _ _ hw => rw [h4] at hw; cases hw
theorem Steps.do_wait (h : Steps (s, .take o :: K) (z, [])) (h1 : s.dd o.1 = false) (h2 : s.lt o.1 = []) (h3 : o.2.1 < 3) (h4 : (askStep o.1 o.2.2 (modeF o) s.locks).2 = false) : Steps ((s.lock (askStep o.1 o.2.2 (modeF o) s.locks).1).setL o.1 [o], .free :: K) (z, []) := by
  cases h with
  | head st k =>
    cases st with
    | dead hd => rw [h1] at hd; cases hd
    | late _ hl => exact absurd h2 hl
    | fin _ _ hk => omega
    | ok _ _ _ hw => rw [h4] at hw; cases hw
    | wait _ _ _ _ => exact k
theorem Steps.do_wake {u : Int} {l : List Act} (h : Steps (s, .wake u :: K) (z, [])) (h1 : s.lt u = o :: l) : Steps ((s.tell o).setL u [], l.map .take ++ K) (z, []) := by
  cases h with
  | head st k =>
    cases st with
    | wake hl => rw [h1] at hl; cases hl; exact k
theorem Steps.do_calm (h : Steps (s, .free :: K) (z, [])) (h1 : ∀ u, ¬ PlusE (waitsF s.locks) u u) : Steps (s, K) (z, []) := by
  cases h with
  | head st k =>
    cases st with
    | calm _ => exact k
    | kill hv hu => exact absurd (hv.plus _ hu) (h1 _)
theorem Steps.do_kill {u : Nat} (h : Steps (s, .free :: K) (z, [])) (h1 : ∀ vs, Vic (waitsF s.locks) vs → vs = [u]) : Steps ((((s.kill (u : Int)).setL (u : Int) []).tell ((u : Int), 4, 0)).lock (dropF (u : Int) s.locks).1, givenT (u : Int) s.locks ++ .free :: K) (z, []) := by
  cases h with
  | head st k =>
    cases st with
    | calm hv => have := h1 _ hv; cases this
    | @kill _ _ v _ hv hu =>
      have := h1 _ hv
      subst this
      have : v = u := by simpa using hu
      subst this; exact k
end
theorem no_plus {E : List (Int × Int)} {a : Nat} (h : ∀ e ∈ E, e.1 ≠ (a : Int) ∧ e.2 = (a : Int)) : ∀ u, ¬ PlusE E u u := by
  rintro u ⟨c, h1, h2⟩
  have k := h _ h1
  simp only at k
  have hc : c = a := by omega
  subst hc
  cases h2 with
  | refl => exact k.1 rfl
  | step e _ => exact (h _ e).1 rfl
def exOwn : List Act := [(0, 2, 1), (1, 2, 2), (0, 2, 2), (1, 2, 1)]
def off12 {α : Type} (x : α) : List α := [x, x, x, x, x, x, x, x, x, x]
theorem ex_own {z : TwoS} (h : Steps (twoS0, exOwn.map .take) (z, [])) : deadF z 12 = [1] ∧ lateF z 12 = [] := by
  have h := h.do_ok rfl rfl (by decide) (by kernel_rfl)
  have h : Steps (⟨[(1, [(0, 5)], [])], List.replicate 12 [], List.replicate 12 false, [(0, 2, 1)]⟩, [.take (1, 2, 2), .take (0, 2, 2), .take (1, 2, 1)]) (z, []) := h
  have h := h.do_ok rfl rfl (by decide) (by kernel_rfl)
  have h : Steps (⟨[(1, [(0, 5)], []), (2, [(1, 5)], [])], List.replicate 12 [], List.replicate 12 false, [(0, 2, 1), (1, 2, 2)]⟩, [.take (0, 2, 2), .take (1, 2, 1)]) (z, []) := h
  have h := h.do_wait rfl rfl (by decide) (by kernel_rfl)
  have h : Steps (⟨[(1, [(0, 5)], []), (2, [(1, 5)], [(0, 5)])], [(0, 2, 2)] :: [] :: off12 [], false :: false :: off12 false, [(0, 2, 1), (1, 2, 2)]⟩, [.free, .take (1, 2, 1)]) (z, []) := h
  have e1 : waitsF [(1, [(0, 5)], []), (2, [(1, 5)], [(0, 5)])] = [(0, 1)] := by kernel_rfl
  have h := h.do_calm (by rw [e1]; exact no_plus (a := 1) (by simp))
  have h := h.do_wait rfl rfl (by decide) (by kernel_rfl)
  have h : Steps (⟨[(1, [(0, 5)], [(1, 5)]), (2, [(1, 5)], [(0, 5)])], [(0, 2, 2)] :: [(1, 2, 1)] :: off12 [], false :: false :: off12 false, [(0, 2, 1), (1, 2, 2)]⟩, [.free]) (z, []) := h
  have e2 : waitsF [(1, [(0, 5)], [(1, 5)]), (2, [(1, 5)], [(0, 5)])] = [(0, 1), (1, 0)] := by kernel_rfl
  have h := h.do_kill (u := 1) (by rw [e2]; exact fun vs hv => ex_vic hv)
  have h : Steps (⟨[(1, [(0, 5)], []), (2, [(0, 5)], [])], [(0, 2, 2)] :: [] :: off12 [], false :: true :: off12 false, [(0, 2, 1), (1, 2, 2), (1, 4, 0)]⟩, [.wake 0, .free]) (z, []) := h
  have h := h.do_wake (o := (0, 2, 2)) (l := []) rfl
  have h : Steps (⟨[(1, [(0, 5)], []), (2, [(0, 5)], [])], [] :: [] :: off12 [], false :: true :: off12 false, [(0, 2, 1), (1, 2, 2), (1, 4, 0), (0, 2, 2)]⟩, [.free]) (z, []) := h
  have e3 : waitsF [(1, [(0, 5)], []), (2, [(0, 5)], [])] = [] := by kernel_rfl
  have h := h.do_calm (by rw [e3]; exact fun u h => plus_nil h)
  cases h with
  | refl => exact ⟨by decide, by decide⟩
  | head st _ => cases st
end Go.Proofs.Ytpenbdpgpamcbaa
