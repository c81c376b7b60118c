/- graph: Tarjan, no program in sight: edges and ways, what holds at each place of the walk, and that it is kept. Conditions: none; plain facts on lists. -/
import Derived.Test.YtpenbdpgpamcbaaGwNest
set_option linter.unusedVariables false
set_option linter.unusedSimpArgs false
namespace Go.Proofs.Ytpenbdpgpamcbaa

/-! ### Edges and ways -/
def Ed (to : List (List Nat)) (a b : Nat) : Prop := ∃ l, to[a]? = some l ∧ b ∈ l
inductive Rch (to : List (List Nat)) : Nat → Nat → Prop where
  | refl (a : Nat) : Rch to a a
  | step {a b c : Nat} : Ed to a b → Rch to b c → Rch to a c
theorem Rch.trans {to : List (List Nat)} {a b c : Nat} (h : Rch to a b) (k : Rch to b c) : Rch to a c := by
  induction h with
  | refl a => exact k
  | step e _ ih => exact .step e (ih k)
theorem Rch.one {to : List (List Nat)} {a b : Nat} (h : Ed to a b) : Rch to a b := .step h (.refl b)
/-- A way that leaves a set leaves it by an edge. -/
theorem Rch.leave {to : List (List Nat)} {S : Nat → Prop} {a b : Nat} (h : Rch to a b) (ha : S a) (hb : ¬ S b) : ∃ u v, S u ∧ ¬ S v ∧ Ed to u v ∧ Rch to v b := by
  induction h with
  | refl a => exact absurd ha hb
  | @step a b c e k ih =>
    by_cases hs : S b
    · exact ih hs hb
    · exact ⟨a, b, ha, hs, e, k⟩
theorem Rch.closed {to : List (List Nat)} {S : Nat → Prop} (hS : ∀ a b, S a → Ed to a b → S b) {a b : Nat} (h : Rch to a b) (ha : S a) : S b := by
  induction h with
  | refl a => exact ha
  | step e _ ih => exact ih (hS _ _ ha e)

/-! ### Tarjan's walk: what holds at each place -/
structure Tj where
  whn : List Nat
  low : List Nat
  stk : List Nat
  parts : List (List Nat)
  time : Nat
abbrev Tj.wh (s : Tj) (a : Nat) : Nat := s.whn.getD a 0
abbrev Tj.lo (s : Tj) (a : Nat) : Nat := s.low.getD a 0

theorem getD_setN (l : List Nat) (i j v : Nat) (hi : i < l.length) : (l.set i v).getD j 0 = if i = j then v else l.getD j 0 := by
  simp only [List.getD_eq_getElem?_getD, List.getElem?_set]
  by_cases e : i = j
  · subst e; simp [hi]
  · simp [e]

structure TInv (n : Nat) (to : List (List Nat)) (g : List Nat) (s : Tj) : Prop where
  lw : s.whn.length = n
  ll : s.low.length = n
  tm : ∀ a, s.wh a ≤ s.time
  nd : (s.stk ++ s.parts.flatten).Nodup
  mem : ∀ a, a ∈ s.stk ++ s.parts.flatten ↔ s.wh a ≠ 0
  ord : s.stk.Pairwise fun x y => s.wh x < s.wh y
  gs : ∀ a ∈ g, a ∈ s.stk
  closed : ∀ a b, a ∈ s.parts.flatten → Ed to a b → b ∈ s.parts.flatten
  black : ∀ a b, s.wh a ≠ 0 → a ∉ g → Ed to a b → s.wh b ≠ 0
  scc : ∀ p ∈ s.parts, ∀ a ∈ p, ∀ b, b ∈ p ↔ Rch to a b ∧ Rch to b a
  gpath : ∀ x ∈ g, ∀ y ∈ s.stk, s.wh x ≤ s.wh y → Rch to x y
  toG : ∀ y ∈ s.stk, ∃ x ∈ g, s.wh x ≤ s.wh y ∧ Rch to y x
  ne : ∀ p ∈ s.parts, p ≠ [] ∧ p.Pairwise (· ≤ ·)

theorem TInv.stk_vis {n : Nat} {to : List (List Nat)} {g : List Nat} {s : Tj} (h : TInv n to g s) {a : Nat} (ha : a ∈ s.stk) : s.wh a ≠ 0 := (h.mem a).1 (List.mem_append.2 (.inl ha))
theorem TInv.part_vis {n : Nat} {to : List (List Nat)} {g : List Nat} {s : Tj} (h : TInv n to g s) {a : Nat} (ha : a ∈ s.parts.flatten) : s.wh a ≠ 0 := (h.mem a).1 (List.mem_append.2 (.inr ha))
theorem TInv.vis {n : Nat} {to : List (List Nat)} {g : List Nat} {s : Tj} (h : TInv n to g s) {a : Nat} (ha : s.wh a ≠ 0) : a ∈ s.stk ∨ a ∈ s.parts.flatten := List.mem_append.1 ((h.mem a).2 ha)
theorem TInv.apart {n : Nat} {to : List (List Nat)} {g : List Nat} {s : Tj} (h : TInv n to g s) {a : Nat} (ha : a ∈ s.stk) (hp : a ∈ s.parts.flatten) : False := by
  have := (List.nodup_append.1 h.nd).2.2 a ha a hp
  exact this rfl
theorem TInv.inj {n : Nat} {to : List (List Nat)} {g : List Nat} {s : Tj} (h : TInv n to g s) {a b : Nat} (ha : a ∈ s.stk) (hb : b ∈ s.stk) (he : s.wh a = s.wh b) : a = b := by
  obtain ⟨i, hi, rfl⟩ := List.mem_iff_getElem.1 ha
  obtain ⟨j, hj, rfl⟩ := List.mem_iff_getElem.1 hb
  rcases Nat.lt_trichotomy i j with hij | hij | hij
  · have := List.pairwise_iff_getElem.1 h.ord i j hi hj hij; omega
  · subst hij; rfl
  · have := List.pairwise_iff_getElem.1 h.ord j i hj hi hij; omega

/-- What a visit of x does. -/
structure TVis (n : Nat) (to : List (List Nat)) (g : List Nat) (x : Nat) (s s' : Tj) : Prop where
  inv : TInv n to g s'
  keepW : ∀ a, s.wh a ≠ 0 → s'.wh a = s.wh a
  keepL : ∀ a, s.wh a ≠ 0 → s'.lo a = s.lo a
  new : ∀ a, s.wh a = 0 → s'.wh a ≠ 0 → s.time < s'.wh a
  tm : s.time ≤ s'.time
  vis : s'.wh x ≠ 0
  seg : ∃ seg, s'.stk = s.stk ++ seg ∧ ((seg = [] ∧ s'.lo x = s'.wh x) ∨ (x ∈ seg ∧ (∃ y ∈ s.stk, s.wh y = s'.lo x ∧ Rch to x y) ∧ ∀ u ∈ seg, ∀ v ∈ s.stk, Ed to u v → s'.lo x ≤ s.wh v))

/-- Within the visit of k, behind i of its edges; s: the state ahead. -/
structure TLoop (n : Nat) (to : List (List Nat)) (g : List Nat) (k i : Nat) (l : List Nat) (s s' : Tj) : Prop where
  inv : TInv n to (k :: g) s'
  keepW : ∀ a, s.wh a ≠ 0 → s'.wh a = s.wh a
  keepL : ∀ a, s.wh a ≠ 0 → s'.lo a = s.lo a
  new : ∀ a, s.wh a = 0 → s'.wh a ≠ 0 → s.time < s'.wh a
  tm : s.time < s'.time
  k0 : s.wh k = 0
  k1 : s'.wh k = s.time + 1
  seg : ∃ seg, s'.stk = s.stk ++ k :: seg ∧ ∀ u ∈ seg, ∀ v ∈ s.stk, Ed to u v → s'.lo k ≤ s.wh v
  low1 : s'.lo k ≤ s'.wh k
  low2 : ∃ y ∈ s'.stk, s'.wh y = s'.lo k ∧ Rch to k y
  done : ∀ j x, j < i → l[j]? = some x → s'.wh x ≠ 0 ∧ (x ∈ s.stk → s'.lo k ≤ s.wh x)

section
variable {n : Nat} {to : List (List Nat)} {g : List Nat} {s s' s'' : Tj} {k i x : Nat} {l : List Nat}

def Tj.enter (s : Tj) (k : Nat) : Tj := ⟨s.whn.set k (s.time + 1), s.low.set k (s.time + 1), s.stk ++ [k], s.parts, s.time + 1⟩

theorem TLoop.start (h : TInv n to g s) (hk : k < n) (h0 : s.wh k = 0) (hg : ∀ y ∈ g, Rch to y k) : TLoop n to g k 0 l s (s.enter k) := by
  have hw : ∀ a, (s.enter k).wh a = if k = a then s.time + 1 else s.wh a := fun a => getD_setN _ _ _ _ (by rw [h.lw]; exact hk)
  have hl : ∀ a, (s.enter k).lo a = if k = a then s.time + 1 else s.lo a := fun a => getD_setN _ _ _ _ (by rw [h.ll]; exact hk)
  have hne : ∀ a, s.wh a ≠ 0 → k ≠ a := fun a ha e => by subst e; exact ha h0
  have hks : k ∉ s.stk := fun hm => h.stk_vis hm h0
  have hkp : k ∉ s.parts.flatten := fun hm => h.part_vis hm h0
  have hstk : (s.enter k).stk = s.stk ++ [k] := rfl
  have hpts : (s.enter k).parts = s.parts := rfl
  refine { inv := ?_, keepW := fun a ha => by rw [hw, if_neg (hne a ha)], keepL := fun a ha => by rw [hl, if_neg (hne a ha)], new := fun a ha hb => ?_, tm := Nat.lt_succ_self _, k0 := h0, k1 := by rw [hw, if_pos rfl], seg := ⟨[], rfl, fun u hu => nomatch hu⟩,
           low1 := by rw [hl, hw, if_pos rfl, if_pos rfl]; exact Nat.le_refl _, low2 := ⟨k, by rw [hstk]; simp, by rw [hl, hw, if_pos rfl, if_pos rfl], .refl k⟩, done := fun j x hj => (by omega) }
  · refine { lw := by simp [Tj.enter, h.lw], ll := by simp [Tj.enter, h.ll], tm := fun a => ?_, nd := ?_, mem := fun a => ?_, ord := ?_, gs := fun a ha => ?_, closed := h.closed, black := fun a b ha hag hab => ?_, scc := h.scc, gpath := fun x hx y hy hxy => ?_, toG := fun y hy => ?_, ne := h.ne }
    · rw [hw]; have := h.tm a; show _ ≤ s.time + 1; split <;> omega
    · rw [hstk, hpts, List.append_assoc]
      have h3 := List.nodup_append.1 h.nd
      refine List.nodup_append.2 ⟨h3.1, List.nodup_append.2 ⟨by simp, h3.2.1, fun a ha b hb => ?_⟩, fun a ha b hb => ?_⟩
      · simp at ha; subst ha; intro e; subst e; exact hkp hb
      · rcases List.mem_append.1 hb with hb | hb
        · simp at hb; subst hb; intro e; subst e; exact hks ha
        · exact h3.2.2 a ha b hb
    · rw [hw, hstk, hpts]
      have := h.mem a
      by_cases e : k = a
      · subst e; simp
      · rw [if_neg e, ← this]; simp [Ne.symm e]
    · rw [hstk]
      refine List.pairwise_append.2 ⟨h.ord.imp_of_mem fun {a b} ha hb hab => ?_, by simp, fun a ha b hb => ?_⟩
      · rw [hw, hw, if_neg (hne a (h.stk_vis ha)), if_neg (hne b (h.stk_vis hb))]; exact hab
      · simp at hb; subst hb; rw [hw, hw, if_pos rfl, if_neg (hne a (h.stk_vis ha))]; have := h.tm a; omega
    · rw [hstk]
      rcases List.mem_cons.1 ha with rfl | ha
      · simp
      · exact List.mem_append.2 (.inl (h.gs a ha))
    · rw [hw] at ha ⊢
      have hak : k ≠ a := fun e => hag (by subst e; simp)
      rw [if_neg hak] at ha
      have := h.black a b ha (fun hm => hag (List.mem_cons_of_mem _ hm)) hab
      split <;> omega
    · rw [hw, hw] at hxy
      rw [hstk] at hy
      have hy' : y ∈ s.stk ∨ y = k := by simpa using hy
      rcases List.mem_cons.1 hx with e | hx
      · subst e
        rcases hy' with hy' | e
        · rw [if_pos rfl, if_neg (hne y (h.stk_vis hy'))] at hxy; have := h.tm y; omega
        · subst e; exact .refl _
      · have hxv := hne x (h.stk_vis (h.gs x hx))
        rcases hy' with hy' | e
        · rw [if_neg hxv, if_neg (hne y (h.stk_vis hy'))] at hxy; exact h.gpath x hx y hy' hxy
        · rw [e]; exact hg x hx
    · rw [hstk] at hy
      have hy' : y ∈ s.stk ∨ y = k := by simpa using hy
      rcases hy' with hy' | rfl
      · obtain ⟨x, hx, h1, h2⟩ := h.toG y hy'
        refine ⟨x, List.mem_cons_of_mem _ hx, ?_, h2⟩
        rw [hw, hw, if_neg (hne y (h.stk_vis hy')), if_neg (hne x (h.stk_vis (h.gs x hx)))]; exact h1
      · exact ⟨y, by simp, Nat.le_refl _, .refl _⟩
  · rw [hw] at hb ⊢
    split
    · omega
    · rename_i e; rw [if_neg e] at hb; exact absurd ha hb

/-- What is asked of a visit of a node that k goes to. -/
theorem TLoop.ask (h0 : TInv n to g s) (h : TLoop n to g k i l s s') (hl : to[k]? = some l) (hx : l[i]? = some x) : ∀ y ∈ k :: g, Rch to y x := by
  have hkx : Ed to k x := ⟨l, hl, List.mem_of_getElem? hx⟩
  obtain ⟨seg, hs, _⟩ := h.seg
  have hkm : k ∈ s'.stk := by rw [hs]; simp
  intro y hy
  rcases List.mem_cons.1 hy with rfl | hy
  · exact .one hkx
  · refine (h.inv.gpath y (List.mem_cons_of_mem _ hy) k hkm ?_).trans (.one hkx)
    rw [h.keepW y (h0.stk_vis (h0.gs y hy)), h.k1]
    have := h0.tm y; omega

/-- low[k] is written: nothing else is turned. -/
def Tj.lower (s : Tj) (k v : Nat) : Tj := { s with low := s.low.set k v }
theorem TInv.lower (h : TInv n to g s) (k v : Nat) : TInv n to g (s.lower k v) :=
  { lw := h.lw, ll := by simp [Tj.lower, h.ll], tm := h.tm, nd := h.nd, mem := h.mem, ord := h.ord, gs := h.gs, closed := h.closed, black := h.black, scc := h.scc, gpath := h.gpath, toG := h.toG, ne := h.ne }
theorem Tj.lower_lo (s : Tj) (k v a : Nat) (hk : k < s.low.length) : (s.lower k v).lo a = if k = a then v else s.lo a := getD_setN _ _ _ _ hk

theorem TLoop.child (hk : k < n) (h : TLoop n to g k i l s s') (hl : to[k]? = some l) (hx : l[i]? = some x) (hx0 : s'.wh x = 0) (hv : TVis n to (k :: g) x s' s'') :
    TLoop n to g k (i + 1) l s (s''.lower k (min (s''.lo k) (s''.lo x))) := by
  have hkv : s'.wh k ≠ 0 := by rw [h.k1]; omega
  have hkw : s''.wh k = s'.wh k := hv.keepW k hkv
  have hkl : s''.lo k = s'.lo k := hv.keepL k hkv
  have hlo : ∀ a, (s''.lower k (min (s''.lo k) (s''.lo x))).lo a = if k = a then min (s''.lo k) (s''.lo x) else s''.lo a := fun a => Tj.lower_lo _ _ _ _ (by rw [hv.inv.ll]; exact hk)
  have hlk := hlo k
  rw [if_pos rfl] at hlk
  obtain ⟨seg, hseg, hs1⟩ := h.seg
  obtain ⟨seg2, hseg2, hs2⟩ := hv.seg
  have hold : ∀ v, v ∈ s.stk → v ∈ s'.stk := fun v hv => by rw [hseg]; exact List.mem_append.2 (.inl hv)
  have vis_old : ∀ v, v ∈ s.stk → s.wh v ≠ 0 → s'.wh v = s.wh v := fun v _ h2 => h.keepW v h2
  refine { inv := hv.inv.lower _ _, keepW := fun a ha => ?_, keepL := fun a ha => ?_, new := fun a ha hb => ?_, tm := Nat.lt_of_lt_of_le h.tm hv.tm, k0 := h.k0, k1 := hkw.trans h.k1,
           seg := ⟨seg ++ seg2, ?_, fun u hu v hvs he => ?_⟩, low1 := ?_, low2 := ?_, done := fun j y hj hy => ?_ }
  · have h1 := h.keepW a ha
    exact (hv.keepW a (by rw [h1]; exact ha)).trans h1
  · have h1 := h.keepW a ha
    have hka : k ≠ a := fun e => by subst e; exact ha h.k0
    rw [hlo, if_neg hka]
    exact (hv.keepL a (by rw [h1]; exact ha)).trans (h.keepL a ha)
  · by_cases h1 : s'.wh a = 0
    · have := hv.new a h1 hb; have := h.tm; show s.time < s''.wh a; omega
    · have e : s''.wh a = s'.wh a := hv.keepW a h1
      show s.time < s''.wh a
      rw [e]; exact h.new a ha h1
  · show s''.stk = _
    rw [hseg2, hseg]; simp
  · rw [hlk]
    rcases List.mem_append.1 hu with hu | hu
    · have := hs1 u hu v hvs he; rw [hkl]; omega
    · rcases hs2 with ⟨hn, _⟩ | ⟨_, _, h3⟩
      · subst hn; cases hu
      · have h4 := h3 u hu v (hold v hvs) he
        by_cases hz : s.wh v = 0
        · -- a node on the stack is visited
          have := h.inv.stk_vis (hold v hvs)
          have h5 := h.new v hz this
          have h6 : k ∈ s'.stk := by rw [hseg]; simp
          -- it stands below k
          have h7 := h.inv.ord
          rw [hseg] at h7
          have h8 := (List.pairwise_append.1 h7).2.2 v hvs k (by simp)
          rw [h.k1] at h8; omega
        · rw [vis_old v hvs hz] at h4; omega
  · rw [hlk]; show _ ≤ s''.wh k
    have := h.low1; omega
  · rw [hlk]
    obtain ⟨y, hy, hyw, hyr⟩ := h.low2
    have hmono : ∀ y, y ∈ s'.stk → y ∈ s''.stk := fun y hy => by rw [hseg2]; exact List.mem_append.2 (.inl hy)
    by_cases hle : s'.lo k ≤ s''.lo x
    · refine ⟨y, hmono y hy, ?_, hyr⟩
      show s''.wh y = _
      rw [hv.keepW y (h.inv.stk_vis hy), hyw, hkl]; omega
    · rcases hs2 with ⟨_, h3⟩ | ⟨_, ⟨z, hz, hzw, hzr⟩, _⟩
      · have h4 := hv.new x hx0 hv.vis
        have h5 := h.low1; have h6 := h.inv.tm k
        omega
      · refine ⟨z, hmono z hz, ?_, .step ⟨l, hl, List.mem_of_getElem? hx⟩ hzr⟩
        show s''.wh z = _
        rw [hv.keepW z (h.inv.stk_vis hz), hzw, hkl]; omega
  · rw [hlk]
    by_cases e : j = i
    · subst e
      rw [hx] at hy; cases hy
      exact ⟨hv.vis, fun hm => absurd hx0 (h.inv.stk_vis (hold _ hm))⟩
    · obtain ⟨h1, h2⟩ := h.done j y (by omega) hy
      refine ⟨?_, fun hm => ?_⟩
      · show s''.wh y ≠ 0
        rw [hv.keepW y h1]; exact h1
      · have := h2 hm; rw [hkl]; omega

theorem TLoop.onstack (hk : k < n) (h : TLoop n to g k i l s s') (hl : to[k]? = some l) (hx : l[i]? = some x) (hx0 : s'.wh x ≠ 0) (hm : x ∈ s'.stk) :
    TLoop n to g k (i + 1) l s (s'.lower k (min (s'.lo k) (s'.wh x))) := by
  have hlo : ∀ a, (s'.lower k (min (s'.lo k) (s'.wh x))).lo a = if k = a then min (s'.lo k) (s'.wh x) else s'.lo a := fun a => Tj.lower_lo _ _ _ _ (by rw [h.inv.ll]; exact hk)
  have hlk := hlo k
  rw [if_pos rfl] at hlk
  obtain ⟨seg, hseg, hs1⟩ := h.seg
  refine { inv := h.inv.lower _ _, keepW := h.keepW, keepL := fun a ha => ?_, new := h.new, tm := h.tm, k0 := h.k0, k1 := h.k1, seg := ⟨seg, hseg, fun u hu v hv he => ?_⟩, low1 := ?_, low2 := ?_, done := fun j y hj hy => ?_ }
  · have hka : k ≠ a := fun e => by subst e; exact ha h.k0
    rw [hlo, if_neg hka]; exact h.keepL a ha
  · rw [hlk]; have := hs1 u hu v hv he; omega
  · rw [hlk]; show _ ≤ s'.wh k; have := h.low1; omega
  · rw [hlk]
    obtain ⟨y, hy, hyw, hyr⟩ := h.low2
    by_cases hle : s'.lo k ≤ s'.wh x
    · exact ⟨y, hy, by show s'.wh y = _; rw [hyw]; omega, hyr⟩
    · exact ⟨x, hm, by show s'.wh x = _; omega, .one ⟨l, hl, List.mem_of_getElem? hx⟩⟩
  · rw [hlk]
    by_cases e : j = i
    · subst e
      rw [hx] at hy; cases hy
      refine ⟨hx0, fun hms => ?_⟩
      by_cases hz : s.wh x = 0
      · have h5 := h.new x hz hx0
        have h7 := h.inv.ord
        rw [hseg] at h7
        have h8 := (List.pairwise_append.1 h7).2.2 x hms k (by simp)
        rw [h.k1] at h8; omega
      · have := h.keepW x hz; omega
    · obtain ⟨h1, h2⟩ := h.done j y (by omega) hy
      exact ⟨h1, fun hms => by have := h2 hms; omega⟩

theorem TLoop.past (h : TLoop n to g k i l s s') (hx : l[i]? = some x) (hx0 : s'.wh x ≠ 0) (hm : x ∉ s'.stk) : TLoop n to g k (i + 1) l s s' := by
  obtain ⟨seg, hseg, hs1⟩ := h.seg
  refine { inv := h.inv, keepW := h.keepW, keepL := h.keepL, new := h.new, tm := h.tm, k0 := h.k0, k1 := h.k1, seg := h.seg, low1 := h.low1, low2 := h.low2, done := fun j y hj hy => ?_ }
  by_cases e : j = i
  · subst e
    rw [hx] at hy; cases hy
    exact ⟨hx0, fun hms => absurd (by rw [hseg]; exact List.mem_append.2 (.inl hms)) hm⟩
  · exact h.done j y (by omega) hy

/-- The visit ends, and k stays on the stack. -/
theorem TLoop.stay (h : TLoop n to g k l.length l s s') (hl : to[k]? = some l) (hne : s'.lo k ≠ s'.wh k) : TVis n to g k s s' := by
  obtain ⟨seg, hseg, hs1⟩ := h.seg
  have hlt : s'.lo k < s'.wh k := by have := h.low1; omega
  have hkm : k ∈ s'.stk := by rw [hseg]; simp
  have hord := h.inv.ord
  rw [hseg] at hord
  obtain ⟨y0, hy0, hyw, hyr⟩ := h.low2
  have hy0s : y0 ∈ s.stk := by
    rw [hseg] at hy0
    rcases List.mem_append.1 hy0 with hm | hm
    · exact hm
    · rcases List.mem_cons.1 hm with rfl | hm
      · omega
      · have := (List.pairwise_cons.1 (List.pairwise_append.1 hord).2.1).1 y0 hm; omega
  have hback : ∀ v, v ∈ s.stk → s'.wh v < s'.wh k := fun v hv => (List.pairwise_append.1 hord).2.2 v hv k (by simp)
  have hsame : ∀ v, v ∈ s.stk → s'.wh v = s.wh v := fun v hv => by
    by_cases hz : s.wh v = 0
    · have h1 := h.inv.stk_vis (a := v) (by rw [hseg]; exact List.mem_append.2 (.inl hv))
      have := h.new v hz h1; have := hback v hv; have := h.k1; omega
    · exact h.keepW v hz
  refine { inv := ?_, keepW := h.keepW, keepL := h.keepL, new := h.new, tm := Nat.le_of_lt h.tm, vis := by rw [h.k1]; omega, seg := ⟨k :: seg, hseg, .inr ⟨by simp, ⟨y0, hy0s, by rw [← hsame y0 hy0s, hyw], hyr⟩, fun u hu v hv he => ?_⟩⟩ }
  · have I := h.inv
    refine { lw := I.lw, ll := I.ll, tm := I.tm, nd := I.nd, mem := I.mem, ord := I.ord, gs := fun a ha => I.gs a (List.mem_cons_of_mem _ ha), closed := I.closed, black := fun a b ha hag hab => ?_, scc := I.scc, gpath := fun x hx => I.gpath x (List.mem_cons_of_mem _ hx), toG := fun y hy => ?_, ne := I.ne }
    · by_cases e : a = k
      · subst e
        obtain ⟨l', hl', hb⟩ := hab
        rw [hl] at hl'; cases hl'
        obtain ⟨j, hj, hjb⟩ := List.mem_iff_getElem.1 hb
        exact (h.done j b hj (by rw [List.getElem?_eq_getElem hj, hjb])).1
      · exact I.black a b ha (fun hm => (List.mem_cons.1 hm).elim e hag) hab
    · obtain ⟨x, hx, h1, h2⟩ := I.toG y hy
      rcases List.mem_cons.1 hx with rfl | hx
      · obtain ⟨x', hx', h3, h4⟩ := I.toG y0 (by rw [hseg]; exact List.mem_append.2 (.inl hy0s))
        rcases List.mem_cons.1 hx' with rfl | hx'
        · omega
        · exact ⟨x', hx', by omega, h2.trans (hyr.trans h4)⟩
      · exact ⟨x, hx, h1, h2⟩
  · rcases List.mem_cons.1 hu with rfl | hu
    · obtain ⟨l', hl', hb⟩ := he
      rw [hl] at hl'; cases hl'
      obtain ⟨j, hj, hjb⟩ := List.mem_iff_getElem.1 hb
      exact (h.done j v hj (by rw [List.getElem?_eq_getElem hj, hjb])).2 hv
    · exact hs1 u hu v hv he

def Tj.close (s s' : Tj) (part : List Nat) : Tj := { s' with stk := s.stk, parts := s'.parts ++ [part] }

/-- The visit ends, and k is the first of its part. -/
theorem TLoop.pop (h0 : TInv n to g s) (h : TLoop n to g k l.length l s s') (hl : to[k]? = some l) (he : s'.lo k = s'.wh k) {seg part : List Nat} (hseg : s'.stk = s.stk ++ k :: seg) (hp : part.Perm (k :: seg)) (hpo : part.Pairwise (· ≤ ·)) : TVis n to g k s (s.close s' part) := by
  have I := h.inv
  obtain ⟨seg', hseg', hs1⟩ := h.seg
  obtain rfl : seg' = seg := by
    rw [hseg] at hseg'
    have := List.append_cancel_left hseg'
    exact ((List.cons.inj this).2).symm
  have hord := I.ord
  rw [hseg] at hord
  have hS : ∀ a, a ∈ k :: seg' → a ∈ s'.stk := fun a ha => by rw [hseg]; exact List.mem_append.2 (.inr ha)
  have hS2 : ∀ a, a ∈ s.stk → a ∈ s'.stk := fun a ha => by rw [hseg]; exact List.mem_append.2 (.inl ha)
  have hkm : k ∈ s'.stk := hS k (by simp)
  have hback : ∀ v, v ∈ s.stk → s'.wh v < s'.wh k := fun v hv => (List.pairwise_append.1 hord).2.2 v hv k (by simp)
  have hfwd : ∀ v, v ∈ k :: seg' → s'.wh k ≤ s'.wh v := fun v hv => by
    rcases List.mem_cons.1 hv with rfl | hv
    · exact Nat.le_refl _
    · exact Nat.le_of_lt ((List.pairwise_cons.1 (List.pairwise_append.1 hord).2.1).1 v hv)
  -- edges out of the segment
  have hout : ∀ u v, u ∈ k :: seg' → Ed to u v → v ∈ k :: seg' ∨ v ∈ s'.parts.flatten := fun u v hu huv => by
    have hvis : s'.wh v ≠ 0 ∧ (v ∈ s.stk → s'.lo k ≤ s.wh v) := by
      rcases List.mem_cons.1 hu with rfl | hu
      · obtain ⟨l', hl', hb⟩ := huv
        rw [hl] at hl'; cases hl'
        obtain ⟨j, hj, hjb⟩ := List.mem_iff_getElem.1 hb
        exact h.done j v hj (by rw [List.getElem?_eq_getElem hj, hjb])
      · rename_i hu2
        refine ⟨I.black u v (I.stk_vis (hS u (List.mem_cons_of_mem _ hu))) (fun hm => ?_) huv, fun hv => hs1 u hu v hv huv⟩
        -- u isn't gray: it stands above k
        have hlt := (List.pairwise_cons.1 (List.pairwise_append.1 hord).2.1).1 u hu
        rcases List.mem_cons.1 hm with e | hm
        · rw [e] at hlt; omega
        · have h1 := hback u (h0.gs u hm)
          have h2 := hfwd u (List.mem_cons_of_mem _ hu); omega
    rcases I.vis hvis.1 with hv | hv
    · rw [hseg] at hv
      rcases List.mem_append.1 hv with hv | hv
      · have h1 := hvis.2 hv
        have h2 := hback v hv
        have h3 := h.keepW v (h0.stk_vis hv)
        omega
      · exact .inl hv
    · exact .inr hv
  have hcl : ∀ a b, (a ∈ k :: seg' ∨ a ∈ s'.parts.flatten) → Ed to a b → (b ∈ k :: seg' ∨ b ∈ s'.parts.flatten) := fun a b ha hab => ha.elim (fun ha => hout a b ha hab) fun ha => .inr (I.closed a b ha hab)
  -- nobody of the segment comes to what is below
  have hlow : ∀ u x, u ∈ k :: seg' → x ∈ s.stk → ¬ Rch to u x := fun u x hu hx hr => by
    rcases Rch.closed (S := fun a => a ∈ k :: seg' ∨ a ∈ s'.parts.flatten) hcl hr (.inl hu) with h1 | h1
    · have := hback x hx; have := hfwd x h1; omega
    · exact I.apart (hS2 x hx) h1
  have hto : ∀ u, u ∈ k :: seg' → Rch to u k := fun u hu => by
    obtain ⟨x, hx, h1, h2⟩ := I.toG u (hS u hu)
    rcases List.mem_cons.1 hx with rfl | hx
    · exact h2
    · exact absurd h2 (hlow u x hu (h0.gs x hx))
  have hfrom : ∀ u, u ∈ k :: seg' → Rch to k u := fun u hu => I.gpath k (by simp) u (hS u hu) (hfwd u hu)
  have hpm : ∀ a, a ∈ part ↔ a ∈ k :: seg' := fun a => hp.mem_iff
  have hfl : (s.close s' part).parts.flatten = s'.parts.flatten ++ part := by simp [Tj.close]
  have hnd := I.nd
  rw [hseg] at hnd
  have hperm : ((s.close s' part).stk ++ (s.close s' part).parts.flatten).Perm (s'.stk ++ s'.parts.flatten) := by
    rw [hfl, hseg]
    show (s.stk ++ (s'.parts.flatten ++ part)).Perm _
    rw [List.append_assoc]
    exact List.Perm.append_left _ (List.perm_append_comm.trans (List.Perm.append_right _ hp))
  refine { inv := ?_, keepW := h.keepW, keepL := h.keepL, new := h.new, tm := Nat.le_of_lt h.tm, vis := by show s'.wh k ≠ 0; rw [h.k1]; omega, seg := ⟨[], by simp [Tj.close], .inl ⟨rfl, he⟩⟩ }
  refine { lw := I.lw, ll := I.ll, tm := I.tm, nd := hperm.nodup_iff.2 (by rw [hseg]; exact hnd), mem := fun a => (hperm.mem_iff).trans (I.mem a), ord := (List.pairwise_append.1 hord).1, gs := fun a ha => h0.gs a ha, closed := fun a b ha hab => ?_, black := fun a b ha hag hab => ?_, scc := fun p hp' a ha b => ?_,
           gpath := fun x hx y hy hxy => I.gpath x (List.mem_cons_of_mem _ hx) y (hS2 y hy) hxy, toG := fun y hy => ?_, ne := fun p hp' => ?_ }
  · rw [hfl] at ha ⊢
    have h1 : a ∈ k :: seg' ∨ a ∈ s'.parts.flatten := (List.mem_append.1 ha).elim .inr fun h => .inl ((hpm a).1 h)
    exact List.mem_append.2 ((hcl a b h1 hab).elim (fun h => .inr ((hpm b).2 h)) .inl)
  · by_cases e : a = k
    · subst e
      obtain ⟨l', hl', hb⟩ := hab
      rw [hl] at hl'; cases hl'
      obtain ⟨j, hj, hjb⟩ := List.mem_iff_getElem.1 hb
      exact (h.done j b hj (by rw [List.getElem?_eq_getElem hj, hjb])).1
    · exact I.black a b ha (fun hm => (List.mem_cons.1 hm).elim e hag) hab
  · rcases List.mem_append.1 hp' with hp' | hp'
    · exact I.scc p hp' a ha b
    · simp at hp'; subst hp'
      rw [hpm] at ha ⊢
      refine ⟨fun hb => ⟨(hto a ha).trans (hfrom b hb), (hto b hb).trans (hfrom a ha)⟩, fun ⟨h1, h2⟩ => ?_⟩
      rcases Rch.closed (S := fun a => a ∈ k :: seg' ∨ a ∈ s'.parts.flatten) hcl h1 (.inl ha) with h3 | h3
      · exact h3
      · have := Rch.closed (S := fun a => a ∈ s'.parts.flatten) (fun a b => I.closed a b) h2 h3
        exact (I.apart (hS a ha) this).elim
  · obtain ⟨x, hx, h1, h2⟩ := I.toG y (hS2 y hy)
    rcases List.mem_cons.1 hx with rfl | hx
    · have := hback y hy; omega
    · exact ⟨x, hx, h1, h2⟩
  · rcases List.mem_append.1 hp' with hp' | hp'
    · exact I.ne p hp'
    · simp at hp'; subst hp'
      refine ⟨fun e => ?_, hpo⟩
      subst e; have := (hpm k).2 (by simp); cases this
end
end Go.Proofs.Ytpenbdpgpamcbaa
