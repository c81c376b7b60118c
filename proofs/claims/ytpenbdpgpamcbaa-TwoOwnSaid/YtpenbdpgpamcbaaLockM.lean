/- lock: plain laws: what is asked for and dropped keeps a table right. -/
import Derived.Test.YtpenbdpgpamcbaaLockL
set_option linter.unusedVariables false
set_option linter.unusedSimpArgs false
set_option maxRecDepth 20000
namespace Go.Proofs.Ytpenbdpgpamcbaa
open Go Gw

abbrev Locks1 := List (Int × Int)

theorem mode_cases {m : Int} (h : isModeF m = true) : m = 1 ∨ m = 2 ∨ m = 3 ∨ m = 4 ∨ m = 5 := by
  simp only [isModeF, decide_eq_true_eq] at h; omega
theorem clashF_symm {a b : Int} (ha : isModeF a = true) (hb : isModeF b = true) : clashF a b = clashF b a := by
  rcases mode_cases ha with rfl | rfl | rfl | rfl | rfl <;> rcases mode_cases hb with rfl | rfl | rfl | rfl | rfl <;> decide
theorem clashF_join {w h m : Int} (hw : isModeF w = true) (hh : isModeF h = true) (hm : isModeF m = true) (hc : clashF w h = true) : clashF w (joinF h m) = true := by
  revert hc
  rcases mode_cases hw with rfl | rfl | rfl | rfl | rfl <;> rcases mode_cases hh with rfl | rfl | rfl | rfl | rfl <;> rcases mode_cases hm with rfl | rfl | rfl | rfl | rfl <;> decide

/-! ### Sides -/
structure SideOk (l : Locks1) : Prop where
  tx : ∀ h ∈ l, 0 ≤ h.1 ∧ h.1 < 12
  mode : ∀ h ∈ l, isModeF h.2 = true
  nodup : (l.map (·.1)).Nodup
theorem okSide_iff {l : Locks1} : okSide l = true ↔ SideOk l := by
  simp only [okSide, Bool.and_eq_true, List.all_eq_true, decide_eq_true_eq]
  exact ⟨fun h => ⟨fun x hx => (h.1 x hx).1, fun x hx => (h.1 x hx).2, h.2⟩, fun h => ⟨fun x hx => ⟨h.tx x hx, h.mode x hx⟩, h.nodup⟩⟩
theorem SideOk.nil : SideOk [] := ⟨fun _ h => (by cases h), fun _ h => (by cases h), .nil⟩
theorem SideOk.perm {l m : Locks1} (h : SideOk l) (hp : l.Perm m) : SideOk m :=
  ⟨fun x hx => h.tx x (hp.mem_iff.2 hx), fun x hx => h.mode x (hp.mem_iff.2 hx), (hp.map _).nodup_iff.1 h.nodup⟩
theorem SideOk.sub {l m : Locks1} (h : SideOk l) (hs : List.Sublist m l) : SideOk m :=
  ⟨fun x hx => h.tx x (hs.subset hx), fun x hx => h.mode x (hs.subset hx), h.nodup.sublist (hs.map _)⟩
theorem SideOk.cons {l : Locks1} {x : Int × Int} (h : SideOk l) (h0 : 0 ≤ x.1 ∧ x.1 < 12) (hm : isModeF x.2 = true) (hn : ∀ y ∈ l, y.1 ≠ x.1) : SideOk (x :: l) := by
  refine ⟨fun y hy => ?_, fun y hy => ?_, ?_⟩
  · rcases List.mem_cons.1 hy with rfl | hy
    · exact h0
    · exact h.tx y hy
  · rcases List.mem_cons.1 hy with rfl | hy
    · exact hm
    · exact h.mode y hy
  · rw [List.map_cons, List.nodup_cons]
    refine ⟨fun hm => ?_, h.nodup⟩
    obtain ⟨y, hy, e⟩ := List.mem_map.1 hm
    exact hn y hy e
theorem SideOk.tail {l : Locks1} {x : Int × Int} (h : SideOk (x :: l)) : SideOk l := h.sub (List.sublist_cons_self _ _)
theorem SideOk.head_ne {l : Locks1} {x : Int × Int} (h : SideOk (x :: l)) : ∀ y ∈ l, y.1 ≠ x.1 := by
  have := h.nodup
  rw [List.map_cons, List.nodup_cons] at this
  exact fun y hy e => this.1 (e ▸ List.mem_map_of_mem hy)

/-! ### setF -/
theorem setF_mem {tx m : Int} : ∀ {l : Locks1} {x : Int × Int}, x ∈ setF tx m l → x ∈ l ∨ x = (tx, m)
  | [], x, h => by simp [setF] at h; exact .inr h
  | y :: l, x, h => by
    rw [setF] at h
    split at h
    · rcases List.mem_cons.1 h with h | h
      · exact .inr h
      · exact .inl (.tail _ h)
    · rcases List.mem_cons.1 h with h | h
      · exact .inl (h ▸ .head _)
      · exact (setF_mem h).imp (.tail _) id
theorem setF_self {tx m : Int} : ∀ (l : Locks1), (tx, m) ∈ setF tx m l
  | [] => by simp [setF]
  | y :: l => by rw [setF]; split <;> simp; exact .inr (setF_self l)
theorem setF_keep {tx m : Int} : ∀ {l : Locks1} {x : Int × Int}, x ∈ l → x.1 ≠ tx → x ∈ setF tx m l
  | [], x, h, _ => by cases h
  | y :: l, x, h, hn => by
    rw [setF]
    rcases List.mem_cons.1 h with rfl | h
    · rw [if_neg hn]; simp
    · split
      · exact .tail _ h
      · exact .tail _ (setF_keep h hn)
theorem setF_ok {tx m : Int} (h0 : 0 ≤ tx ∧ tx < 12) (hm : isModeF m = true) : ∀ {l : Locks1}, SideOk l → SideOk (setF tx m l)
  | [], _ => SideOk.nil.cons h0 hm (fun y hy => by cases hy)
  | x :: l, h => by
    rw [setF]
    split
    · rename_i e
      refine h.tail.cons h0 hm fun y hy => ?_
      show y.1 ≠ tx
      rw [← e]; exact h.head_ne y hy
    · rename_i e
      refine (setF_ok h0 hm h.tail).cons (h.tx x (.head _)) (h.mode x (.head _)) fun y hy => ?_
      rcases setF_mem hy with hy | rfl
      · exact h.head_ne y hy
      · exact fun h => e h.symm
theorem setF_pairs {tx m : Int} (hm : isModeF m = true) : ∀ {l : Locks1}, SideOk l → l.Pairwise (fun a b => clashF a.2 b.2 = false) → (∀ h ∈ l, h.1 ≠ tx → clashF m h.2 = false) → (setF tx m l).Pairwise fun a b => clashF a.2 b.2 = false
  | [], _, _, _ => by simp [setF]
  | x :: l, hs, hp, hc => by
    rw [List.pairwise_cons] at hp
    rw [setF]
    split
    · rename_i e
      refine List.pairwise_cons.2 ⟨fun y hy => ?_, hp.2⟩
      exact hc y (.tail _ hy) (by rw [← e]; exact hs.head_ne y hy)
    · rename_i e
      refine List.pairwise_cons.2 ⟨fun y hy => ?_, setF_pairs hm hs.tail hp.2 fun h hh => hc h (.tail _ hh)⟩
      rcases setF_mem hy with hy | rfl
      · exact hp.1 y hy
      · show clashF x.2 m = false
        rw [clashF_symm (hs.mode x (.head _)) hm]
        exact hc x (.head _) e
theorem setF_find {tx m u : Int} (hu : u ≠ tx) : ∀ (l : Locks1), (setF tx m l).find? (fun h => h.1 = u) = l.find? (fun h => h.1 = u)
  | [] => by simp [setF, Ne.symm hu]
  | x :: l => by
    rw [setF]
    split
    · rename_i e
      rw [List.find?_cons_of_neg (by simpa using Ne.symm hu), List.find?_cons_of_neg (by simp [e]; exact Ne.symm hu)]
    · by_cases hx : x.1 = u
      · rw [List.find?_cons_of_pos (by simpa using hx), List.find?_cons_of_pos (by simpa using hx)]
      · rw [List.find?_cons_of_neg (by simpa using hx), List.find?_cons_of_neg (by simpa using hx), setF_find hu l]
theorem wishF_other {hs : Locks1} {tx m u mode : Int} (hu : u ≠ tx) : wishF (setF tx m hs) u mode = wishF hs u mode := by
  unfold wishF; rw [setF_find hu]
theorem wishF_self {hs : Locks1} (hs' : SideOk hs) {h : Int × Int} (hh : h ∈ hs) (mode : Int) : wishF hs h.1 mode = joinF h.2 mode := by
  unfold wishF
  induction hs with
  | nil => cases hh
  | cons x l ih =>
    rcases List.mem_cons.1 hh with rfl | hm
    · rw [List.find?_cons_of_pos (by simp)]
    · rw [List.find?_cons_of_neg (by simpa using (hs'.head_ne h hm).symm)]
      exact ih hs'.tail hm

/-! ### canF -/
theorem canF_true {hs : Locks1} {tx mode : Int} : canF hs tx mode = true ↔ ∀ h ∈ hs, h.1 ≠ tx → clashF (wishF hs tx mode) h.2 = false := by
  simp only [canF, Bool.not_eq_true', List.any_eq_false, Bool.and_eq_true, decide_eq_true_eq, not_and, Bool.not_eq_true]
theorem canF_false {hs : Locks1} {tx mode : Int} : canF hs tx mode = false ↔ ∃ h ∈ hs, h.1 ≠ tx ∧ clashF (wishF hs tx mode) h.2 = true := by
  simp only [canF, Bool.not_eq_false', List.any_eq_true, Bool.and_eq_true, decide_eq_true_eq]
theorem canF_give {hs : Locks1} (hs' : SideOk hs) {tx mode u umode : Int} (hm : isModeF mode = true) (hum : isModeF umode = true) (hu : u ≠ tx) (hc : canF hs u umode = false) : canF (giveF hs tx mode) u umode = false := by
  rw [canF_false] at hc ⊢
  obtain ⟨h, hh, hn, hcl⟩ := hc
  unfold giveF
  rw [wishF_other hu]
  by_cases e : h.1 = tx
  · refine ⟨_, setF_self hs, Ne.symm hu, ?_⟩
    show clashF _ (wishF hs tx mode) = true
    rw [← e, wishF_self hs' hh]
    exact clashF_join (wishF_mode hs'.mode hum) (hs'.mode h hh) hm hcl
  · exact ⟨h, setF_keep hh e, hn, hcl⟩

/-! ### An item -/
structure LineOk (hs qs : Locks1) : Prop where
  held : SideOk hs
  pairs : hs.Pairwise fun a b => clashF a.2 b.2 = false
  queue : SideOk qs
  front : ∀ q l, qs = q :: l → canF hs q.1 q.2 = false
theorem lineF_iff {hs qs : Locks1} : lineF hs qs = true ↔ LineOk hs qs := by
  have hf : frontF hs qs = true ↔ ∀ q l, qs = q :: l → canF hs q.1 q.2 = false := by
    cases qs with
    | nil => simp [frontF]
    | cons q l =>
      simp only [frontF, Bool.not_eq_true', List.cons.injEq]
      exact ⟨fun h q' l' ⟨e, _⟩ => e ▸ h, fun h => h q l ⟨rfl, rfl⟩⟩
  unfold lineF
  rw [Bool.and_eq_true, Bool.and_eq_true, Bool.and_eq_true, okSide_iff, okSide_iff, hf]
  simp only [pairsF, decide_eq_true_eq]
  exact ⟨fun h => ⟨h.1.1.1, h.1.1.2, h.1.2, h.2⟩, fun h => ⟨⟨⟨h.held, h.pairs⟩, h.queue⟩, h.front⟩⟩
theorem giveF_ok {hs : Locks1} {tx mode : Int} (h : SideOk hs) (h0 : 0 ≤ tx ∧ tx < 12) (hm : isModeF mode = true) : SideOk (giveF hs tx mode) := setF_ok h0 (wishF_mode h.mode hm) h
theorem giveF_pairs {hs : Locks1} {tx mode : Int} (h : SideOk hs) (hp : hs.Pairwise fun a b => clashF a.2 b.2 = false) (hm : isModeF mode = true) (hc : canF hs tx mode = true) : (giveF hs tx mode).Pairwise fun a b => clashF a.2 b.2 = false :=
  setF_pairs (wishF_mode h.mode hm) h hp (canF_true.1 hc)
theorem giveF_ne {hs : Locks1} {tx mode : Int} : giveF hs tx mode ≠ [] := fun h => by
  have := setF_self (tx := tx) (m := wishF hs tx mode) hs
  unfold giveF at h
  rw [h] at this; cases this

theorem askItem_ok {x : Item} {tx mode : Int} (hx : ItemOk x) (htx : 0 ≤ tx ∧ tx < 12) (hm : isModeF mode = true) (hfree : ∀ q ∈ x.2.2, q.1 ≠ tx) : ItemOk (askItem x tx mode).1 ∧ (askItem x tx mode).1.1 = x.1 := by
  have hl := lineF_iff.1 hx.line
  unfold askItem
  split
  · rename_i hc
    simp only [Bool.and_eq_true] at hc
    refine ⟨⟨hx.lo, hx.hi, giveF_ne, lineF_iff.2 ⟨giveF_ok hl.held htx hm, giveF_pairs hl.held hl.pairs hm hc.1, hl.queue, ?_⟩⟩, rfl⟩
    intro q l e
    have hq : q ∈ x.2.2 := by
      have : x.2.2 = q :: l := e
      rw [this]; exact .head _
    exact canF_give hl.held hm (hl.queue.mode q hq) (hfree q hq) (hl.front q l e)
  · rename_i hc
    have hnew : SideOk ((tx, mode) :: x.2.2) := hl.queue.cons htx hm hfree
    split
    · rename_i hh
      have hcan : canF x.2.1 tx mode = false := by
        simp only [hh, Bool.true_or, Bool.and_true] at hc
        simpa using hc
      refine ⟨⟨hx.lo, hx.hi, hx.held, lineF_iff.2 ⟨hl.held, hl.pairs, hnew.perm ?_, ?_⟩⟩, rfl⟩
      · rw [List.append_assoc]
        have h1 : x.2.2 = x.2.2.take (aheadF x) ++ x.2.2.drop (aheadF x) := (List.take_append_drop _ _).symm
        conv => lhs; rw [h1]
        exact List.perm_middle.symm
      · intro q l e
        have e : x.2.2.take (aheadF x) ++ [(tx, mode)] ++ x.2.2.drop (aheadF x) = q :: l := e
        cases hq : x.2.2.take (aheadF x) with
        | nil =>
          rw [hq] at e
          simp at e
          rw [← e.1]
          exact hcan
        | cons q' l' =>
          rw [hq] at e
          simp at e
          obtain ⟨rfl, _⟩ := e
          refine hl.front q' (l' ++ x.2.2.drop (aheadF x)) ?_
          rw [← List.cons_append, ← hq, List.take_append_drop]
    · rename_i hh
      refine ⟨⟨hx.lo, hx.hi, hx.held, lineF_iff.2 ⟨hl.held, hl.pairs, hnew.perm ?_, ?_⟩⟩, rfl⟩
      · exact (List.perm_append_comm (l₁ := [(tx, mode)]) (l₂ := x.2.2))
      · intro q l e
        have e : x.2.2 ++ [(tx, mode)] = q :: l := e
        cases hq : x.2.2 with
        | nil =>
          rw [hq] at e
          simp at e
          rw [← e.1]
          rw [hq] at hc
          simpa using hc
        | cons q' l' =>
          rw [hq] at e
          simp at e
          obtain ⟨rfl, _⟩ := e
          exact hl.front q' l' hq

/-! ### Tables -/
theorem valid_of {t : List Item} (h : ∀ x ∈ t, ItemOk x) (hi : t.Pairwise fun x y => x.1 < y.1) : Valid t := by
  refine ⟨?_, h, hi⟩
  have hn : (t.map (·.1)).Nodup := by
    rw [List.nodup_iff_pairwise_ne, List.pairwise_map]
    exact hi.imp fun h => by omega
  have := nodup_bound 20 (t.map (·.1)) hn fun x hx => by
    obtain ⟨y, hy, rfl⟩ := List.mem_map.1 hx
    exact ⟨(h y hy).lo, (h y hy).hi⟩
  simpa using this
theorem valid_nil : Valid [] := ⟨by simp, fun _ h => (by cases h), .nil⟩
theorem newItem_ok {tx item mode : Int} (htx : 0 ≤ tx ∧ tx < 12) (hi : 0 ≤ item ∧ item < 20) (hm : isModeF mode = true) : ItemOk (item, [(tx, mode)], []) :=
  ⟨hi.1, hi.2, by simp, lineF_iff.2 ⟨SideOk.nil.cons htx hm (fun y hy => by cases hy), by simp, .nil, fun q l e => (by cases e)⟩⟩
theorem askStep_ok {tx item mode : Int} (htx : 0 ≤ tx ∧ tx < 12) (hi : 0 ≤ item ∧ item < 20) (hm : isModeF mode = true) : ∀ {t : List Item}, (∀ x ∈ t, ItemOk x) → (t.Pairwise fun x y => x.1 < y.1) → (∀ x ∈ t, ∀ q ∈ x.2.2, q.1 ≠ tx) →
    (∀ x ∈ (askStep tx item mode t).1, ItemOk x) ∧ ((askStep tx item mode t).1.Pairwise fun x y => x.1 < y.1) ∧ ∀ x ∈ (askStep tx item mode t).1, x.1 = item ∨ ∃ y ∈ t, x.1 = y.1
  | [], _, _, _ => by
    simp only [askStep, List.mem_singleton, forall_eq]
    exact ⟨newItem_ok htx hi hm, by simp, .inl trivial⟩
  | x :: l, hok, hp, hf => by
    rw [List.pairwise_cons] at hp
    rw [askStep]
    split
    · rename_i hlt
      obtain ⟨h1, h2, h3⟩ := askStep_ok htx hi hm (fun y hy => hok y (.tail _ hy)) hp.2 fun y hy => hf y (.tail _ hy)
      refine ⟨fun y hy => ?_, List.pairwise_cons.2 ⟨fun y hy => ?_, h2⟩, fun y hy => ?_⟩
      · rcases List.mem_cons.1 hy with rfl | hy
        · exact hok _ (.head _)
        · exact h1 y hy
      · rcases h3 y hy with e | ⟨z, hz, e⟩
        · rw [e]; exact hlt
        · rw [e]; exact hp.1 z hz
      · rcases List.mem_cons.1 hy with rfl | hy
        · exact .inr ⟨_, .head _, rfl⟩
        · exact (h3 y hy).imp id fun ⟨z, hz, e⟩ => ⟨z, .tail _ hz, e⟩
    · rename_i hge
      split
      · rename_i he
        obtain ⟨h1, h2⟩ := askItem_ok (hok x (.head _)) htx hm (hf x (.head _))
        refine ⟨fun y hy => ?_, List.pairwise_cons.2 ⟨fun y hy => ?_, hp.2⟩, fun y hy => ?_⟩
        · rcases List.mem_cons.1 hy with rfl | hy
          · exact h1
          · exact hok y (.tail _ hy)
        · rw [h2]; exact hp.1 y hy
        · rcases List.mem_cons.1 hy with rfl | hy
          · exact .inl (h2.trans he)
          · exact .inr ⟨y, .tail _ hy, rfl⟩
      · rename_i hne
        refine ⟨fun y hy => ?_, List.pairwise_cons.2 ⟨fun y hy => ?_, List.pairwise_cons.2 hp⟩, fun y hy => ?_⟩
        · rcases List.mem_cons.1 hy with rfl | hy
          · exact newItem_ok htx hi hm
          · exact hok y hy
        · show item < y.1
          rcases List.mem_cons.1 hy with rfl | hy
          · omega
          · have := hp.1 y hy; omega
        · rcases List.mem_cons.1 hy with rfl | hy
          · exact .inl rfl
          · exact .inr ⟨y, hy, rfl⟩
theorem ask_valid {t : List Item} {tx item mode : Int} (h : AskOk t tx item mode) : Valid (askStep tx item mode t).1 := by
  obtain ⟨h1, h2, _⟩ := askStep_ok h.txOk h.itemOk h.modeOk h.valid.ok h.valid.inc h.free
  exact valid_of h1 h2

/-! ### Drop -/
theorem grantF_ok : ∀ (qs : Locks1) {hs : Locks1}, SideOk hs → (hs.Pairwise fun a b => clashF a.2 b.2 = false) → SideOk qs → LineOk (grantF hs qs).1 (grantF hs qs).2.1
  | [], hs, h1, h2, h3 => ⟨h1, h2, .nil, fun q l e => (by simp [grantF] at e)⟩
  | q :: qs, hs, h1, h2, h3 => by
    rw [grantF]
    split
    · rename_i hc
      exact grantF_ok qs (giveF_ok h1 (h3.tx q (.head _)) (h3.mode q (.head _))) (giveF_pairs h1 h2 (h3.mode q (.head _)) hc) h3.tail
    · rename_i hc
      refine ⟨h1, h2, h3, fun q' l e => ?_⟩
      simp only [List.cons.injEq] at e
      rw [← e.1]; simpa using hc
/-- Whom an item's lists name. -/
def names (hs qs : Locks1) (u : Int) : Prop := (∃ h ∈ hs, h.1 = u) ∨ ∃ h ∈ qs, h.1 = u
theorem grantF_names : ∀ (qs hs : Locks1) (u : Int), (names (grantF hs qs).1 (grantF hs qs).2.1 u ∨ u ∈ (grantF hs qs).2.2) → names hs qs u
  | [], hs, u, h => by
    rcases h with h | h
    · exact h
    · simp [grantF] at h
  | q :: qs, hs, u, h => by
    rw [grantF] at h
    split at h
    · have key : names (giveF hs q.1 q.2) qs u → names hs (q :: qs) u := by
        rintro (⟨x, hx, e⟩ | ⟨x, hx, e⟩)
        · rcases setF_mem hx with hx | rfl
          · exact .inl ⟨x, hx, e⟩
          · exact .inr ⟨q, .head _, e⟩
        · exact .inr ⟨x, .tail _ hx, e⟩
      rcases h with h | h
      · exact key (grantF_names qs _ u (.inl h))
      · rcases List.mem_cons.1 h with rfl | h
        · exact .inr ⟨q, .head _, rfl⟩
        · exact key (grantF_names qs _ u (.inr h))
    · rcases h with h | h
      · exact h
      · simp at h
theorem sansTx_mem {tx : Int} {l : Locks1} {x : Int × Int} : x ∈ sansTx tx l ↔ x ∈ l ∧ x.1 ≠ tx := by
  simp [sansTx]
theorem sansTx_ok {tx : Int} {l : Locks1} (h : SideOk l) : SideOk (sansTx tx l) := h.sub List.filter_sublist
theorem dropItem_line {tx : Int} {x : Item} (h : ItemOk x) : LineOk (dropItem tx x).1 (dropItem tx x).2.1 := by
  have hl := lineF_iff.1 h.line
  exact grantF_ok _ (sansTx_ok hl.held) (hl.pairs.sublist List.filter_sublist) (sansTx_ok hl.queue)
theorem dropItem_names {tx u : Int} {x : Item} (h : names (dropItem tx x).1 (dropItem tx x).2.1 u ∨ u ∈ (dropItem tx x).2.2) : names x.2.1 x.2.2 u ∧ u ≠ tx := by
  rcases grantF_names _ _ _ h with ⟨y, hy, e⟩ | ⟨y, hy, e⟩
  · rw [sansTx_mem] at hy; exact ⟨.inl ⟨y, hy.1, e⟩, e ▸ hy.2⟩
  · rw [sansTx_mem] at hy; exact ⟨.inr ⟨y, hy.1, e⟩, e ▸ hy.2⟩
theorem dropF_mem {tx : Int} : ∀ {t : List Item} {y : Item}, y ∈ (dropF tx t).1 → ∃ x ∈ t, y = (x.1, (dropItem tx x).1, (dropItem tx x).2.1) ∧ (dropItem tx x).1 ≠ []
  | [], y, h => by simp [dropF] at h
  | x :: l, y, h => by
    rw [dropF] at h
    simp only at h
    split at h
    · obtain ⟨z, hz, e⟩ := dropF_mem h
      exact ⟨z, .tail _ hz, e⟩
    · rename_i hne
      rcases List.mem_cons.1 h with rfl | h
      · exact ⟨x, .head _, rfl, fun e => hne (by rw [e]; rfl)⟩
      · obtain ⟨z, hz, e⟩ := dropF_mem h
        exact ⟨z, .tail _ hz, e⟩
theorem dropF_given {tx u : Int} : ∀ {t : List Item}, u ∈ (dropF tx t).2 → ∃ x ∈ t, u ∈ (dropItem tx x).2.2
  | [], h => by simp [dropF] at h
  | x :: l, h => by
    rw [dropF] at h
    rcases List.mem_append.1 h with h | h
    · exact ⟨x, .head _, h⟩
    · obtain ⟨z, hz, e⟩ := dropF_given h
      exact ⟨z, .tail _ hz, e⟩
theorem dropF_inc {tx : Int} : ∀ {t : List Item}, (t.Pairwise fun x y => x.1 < y.1) → (dropF tx t).1.Pairwise fun x y => x.1 < y.1
  | [], _ => by simp [dropF]
  | x :: l, h => by
    rw [List.pairwise_cons] at h
    rw [dropF]
    simp only
    split
    · exact dropF_inc h.2
    · refine List.pairwise_cons.2 ⟨fun y hy => ?_, dropF_inc h.2⟩
      obtain ⟨z, hz, rfl, _⟩ := dropF_mem hy
      exact h.1 z hz
theorem drop_valid {t : List Item} (tx : Int) (h : Valid t) : Valid (dropF tx t).1 := by
  refine valid_of (fun y hy => ?_) (dropF_inc h.inc)
  obtain ⟨x, hx, rfl, hne⟩ := dropF_mem hy
  exact ⟨(h.ok x hx).lo, (h.ok x hx).hi, hne, lineF_iff.2 (dropItem_line (h.ok x hx))⟩
theorem drop_names {t : List Item} {tx u : Int} {y : Item} (hy : y ∈ (dropF tx t).1) (hu : names y.2.1 y.2.2 u) : u ≠ tx ∧ ∃ x ∈ t, names x.2.1 x.2.2 u := by
  obtain ⟨x, hx, rfl, _⟩ := dropF_mem hy
  obtain ⟨h1, h2⟩ := dropItem_names (.inl hu)
  exact ⟨h2, x, hx, h1⟩
theorem drop_given {t : List Item} {tx : Int} : tx ∉ (dropF tx t).2 := fun h => by
  obtain ⟨x, hx, h⟩ := dropF_given h
  exact (dropItem_names (.inr h)).2 rfl
/-- When all have dropped everything nothing is held. -/
theorem names_nil {t : List Item} (h : Valid t) (hn : ∀ x ∈ t, ∀ u, 0 ≤ u → u < 12 → ¬ names x.2.1 x.2.2 u) : t = [] := by
  cases t with
  | nil => rfl
  | cons x l =>
    exfalso
    have hx := h.ok x (.head _)
    cases hh : x.2.1 with
    | nil => exact hx.held hh
    | cons y m =>
      have hy : y ∈ x.2.1 := by rw [hh]; exact .head _
      have := (lineF_iff.1 hx.line).held.tx y hy
      exact hn x (.head _) y.1 this.1 this.2 (.inl ⟨y, hy, rfl⟩)

/-! ### Waits -/
theorem edgesUp_mem {E : Nat → Nat → Bool} {a b : Nat} (ha : a < 12) (hb : b < 12) (he : E a b = true) : ((a : Int), (b : Int)) ∈ edgesUp E 144 := by
  unfold edgesUp
  rw [List.mem_filterMap]
  refine ⟨a * 12 + b, by simp; omega, ?_⟩
  have h1 : (a * 12 + b) / 12 = a := by omega
  have h2 : (a * 12 + b) % 12 = b := by omega
  rw [h1, h2, if_pos he]
theorem waits_edge {t : List Item} (h : Valid t) {x : Item} (hx : x ∈ t) {q : Int × Int} (hq : q ∈ x.2.2) : ∃ e ∈ waitsF t, e.1 = q.1 := by
  have hl := lineF_iff.1 (h.ok x hx).line
  obtain ⟨i, hi, rfl⟩ := List.mem_iff_getElem.1 hq
  have hq := List.getElem?_eq_getElem hi
  generalize x.2.2[i] = q at hq
  have hqm : q ∈ x.2.2 := List.mem_of_getElem? hq
  have hqt := hl.queue.tx q hqm
  have key : ∀ b : Int, 0 ≤ b → b < 12 → rowE x q i b.toNat = true → ∃ e ∈ waitsF t, e.1 = q.1 := by
    intro b h0 h1 hr
    refine ⟨((q.1.toNat : Int), (b.toNat : Int)), edgesUp_mem (by omega) (by omega) ?_, by show (q.1.toNat : Int) = q.1; omega⟩
    simp only [edgeE, List.any_eq_true]
    refine ⟨x, hx, ?_⟩
    simp only [itemE, queueE, List.any_eq_true]
    refine ⟨i, by simpa using hi, ?_⟩
    rw [hq]
    simp only [hr, Bool.and_true, decide_eq_true_eq]
    omega
  cases i with
  | zero =>
    have hf : canF x.2.1 q.1 q.2 = false := by
      cases hqs : x.2.2 with
      | nil => rw [hqs] at hq; cases hq
      | cons q' l =>
        rw [hqs] at hq
        simp at hq
        subst hq
        exact hl.front _ _ hqs
    obtain ⟨y, hy, hn, hc⟩ := canF_false.1 hf
    have hyt := hl.held.tx y hy
    refine key y.1 hyt.1 hyt.2 ?_
    simp only [rowE, Bool.or_eq_true, List.any_eq_true]
    refine .inl ⟨y, hy, ?_⟩
    simp only [heldE, hc, Bool.and_true, Bool.and_eq_true, decide_eq_true_eq]
    exact ⟨by omega, hn⟩
  | succ i =>
    have hv := List.getElem?_eq_getElem (l := x.2.2) (i := 0) (by omega)
    generalize x.2.2[0] = v at hv
    have hvt := hl.queue.tx v (List.mem_of_getElem? hv)
    refine key v.1 hvt.1 hvt.2 ?_
    simp only [rowE, Bool.or_eq_true, List.any_eq_true]
    refine .inr ⟨v, ?_, by simp; omega⟩
    rw [List.mem_iff_getElem?]
    exact ⟨0, by rw [List.getElem?_take, if_pos (by omega), hv]⟩
end Go.Proofs.Ytpenbdpgpamcbaa
