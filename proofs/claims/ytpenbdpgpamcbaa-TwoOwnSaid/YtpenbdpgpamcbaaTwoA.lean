/- two: who waits, and in the end goes on: the plain machine, its steps, what they keep; no program in sight. Conditions: each fact's own premises. -/
import Derived.Test.YtpenbdpgpamcbaaLockM
import Derived.Test.YtpenbdpgpamcbaaGraphI
set_option linter.unusedVariables false
set_option linter.unusedSimpArgs false
namespace Go.Proofs.Ytpenbdpgpamcbaa
open Go Gw

abbrev Act := Int × Int × Int
def actOk (o : Act) : Prop := (0 ≤ o.1 ∧ o.1 < 12) ∧ (1 ≤ o.2.1 ∧ o.2.1 ≤ 4) ∧ 0 ≤ o.2.2 ∧ o.2.2 < 20
def modeF (o : Act) : Int := if o.2.1 = 2 then 5 else 3
theorem modeF_ok (o : Act) : isModeF (modeF o) = true := by unfold modeF; split <;> rfl

/-! ### Who waits in a table -/
def wq (t : List Item) : List Int := t.flatMap fun x => x.2.2.map (·.1)
theorem mem_wq {t : List Item} {u : Int} : u ∈ wq t ↔ ∃ x ∈ t, ∃ q ∈ x.2.2, q.1 = u := by simp [wq]
theorem wq_cons (x : Item) (t : List Item) : wq (x :: t) = x.2.2.map (·.1) ++ wq t := rfl
theorem wq_range {t : List Item} (h : Valid t) {u : Int} (hu : u ∈ wq t) : 0 ≤ u ∧ u < 12 := by
  obtain ⟨x, hx, q, hq, rfl⟩ := mem_wq.1 hu
  exact (lineF_iff.1 (h.ok x hx).line).queue.tx q hq
theorem askItem_wq (x : Item) (tx mode : Int) : ((askItem x tx mode).2 = true → (askItem x tx mode).1.2.2 = x.2.2) ∧ ((askItem x tx mode).2 = false → ((askItem x tx mode).1.2.2.map (·.1)).Perm (tx :: x.2.2.map (·.1))) := by
  unfold askItem
  split
  · exact ⟨fun _ => rfl, (fun h => nomatch h)⟩
  · split
    · refine ⟨(fun h => nomatch h), fun _ => ?_⟩
      simp only [List.map_append, List.map_cons, List.map_nil]
      refine (List.Perm.append_right _ List.perm_append_comm).trans ?_
      simp only [List.cons_append, List.nil_append, List.append_assoc]
      rw [← List.map_append, List.take_append_drop]
    · refine ⟨(fun h => nomatch h), fun _ => ?_⟩
      simp only [List.map_append, List.map_cons, List.map_nil]
      exact List.perm_append_comm
theorem askStep_wq (tx item mode : Int) : ∀ t : List Item, ((askStep tx item mode t).2 = true → wq (askStep tx item mode t).1 = wq t) ∧ ((askStep tx item mode t).2 = false → (wq (askStep tx item mode t).1).Perm (tx :: wq t))
  | [] => ⟨fun _ => rfl, (fun h => nomatch h)⟩
  | x :: t => by
    have ih := askStep_wq tx item mode t
    have hi := askItem_wq x tx mode
    rw [askStep]
    split
    · refine ⟨fun h => ?_, fun h => ?_⟩
      · rw [wq_cons, wq_cons, ih.1 h]
      · rw [wq_cons, wq_cons]
        exact ((ih.2 h).append_left _).trans List.perm_middle
    · split
      · refine ⟨fun h => ?_, fun h => ?_⟩
        · rw [wq_cons, wq_cons, hi.1 h]
        · rw [wq_cons, wq_cons]
          exact (hi.2 h).append_right _
      · exact ⟨fun _ => rfl, (fun h => nomatch h)⟩
theorem grantF_wq : ∀ (qs hs : Locks1), (grantF hs qs).2.2 ++ (grantF hs qs).2.1.map (·.1) = qs.map (·.1)
  | [], hs => rfl
  | q :: qs, hs => by
    rw [grantF]
    split
    · simp only [List.cons_append, List.map_cons]; rw [grantF_wq qs]
    · rfl
theorem grantF_none : ∀ (qs hs : Locks1), (grantF hs qs).1 = [] → (grantF hs qs).2.1 = []
  | [], hs, _ => rfl
  | q :: qs, hs, h => by
    rw [grantF] at h ⊢
    split at h
    · rename_i hc
      rw [if_pos hc]; exact grantF_none qs _ h
    · rename_i hc
      subst h
      exact absurd (by simp [canF]) hc
theorem sansTx_map (tx : Int) (l : Locks1) : (sansTx tx l).map (·.1) = (l.map (·.1)).filter fun u => !decide (u = tx) := by
  induction l with
  | nil => rfl
  | cons x l ih =>
    simp only [sansTx, List.filter_cons, List.map_cons] at *
    by_cases h : x.1 = tx
    · simp [h]; simpa using ih
    · simp [h]; simpa using ih
theorem dropF_wq (tx : Int) : ∀ t : List Item, ((dropF tx t).2 ++ wq (dropF tx t).1).Perm ((wq t).filter fun u => !decide (u = tx))
  | [] => .refl _
  | x :: t => by
    have ih := dropF_wq tx t
    have h1 : (dropItem tx x).2.2 ++ (dropItem tx x).2.1.map (·.1) = (x.2.2.map (·.1)).filter fun u => !decide (u = tx) := by
      rw [dropItem, grantF_wq, sansTx_map]
    rw [wq_cons, List.filter_append, ← h1, dropF]
    simp only
    split
    · rename_i h0
      have h2 : (dropItem tx x).2.1 = [] := grantF_none _ _ (List.eq_nil_of_length_eq_zero h0)
      rw [h2, List.map_nil, List.append_nil, List.append_assoc]
      exact ih.append_left _
    · rw [wq_cons]
      simp only [List.append_assoc]
      refine List.Perm.append_left _ ?_
      refine (List.Perm.append_left _ ?_).trans ((List.perm_append_comm_assoc _ _ _).trans (ih.append_left _))
      exact .refl _
theorem waitsF_from {t : List Item} (h : Valid t) {e : Int × Int} (he : e ∈ waitsF t) : e.1 ∈ wq t ∧ (0 ≤ e.1 ∧ e.1 < 12) ∧ 0 ≤ e.2 ∧ e.2 < 12 := by
  unfold waitsF edgesUp at he
  rw [List.mem_filterMap] at he
  obtain ⟨k, hk, he⟩ := he
  simp only [List.mem_range] at hk
  split at he
  · rename_i hE
    cases he
    refine ⟨?_, by simp only; omega, by simp only; omega⟩
    simp only [edgeE, List.any_eq_true] at hE
    obtain ⟨x, hx, hE⟩ := hE
    simp only [itemE, queueE, List.any_eq_true] at hE
    obtain ⟨i, hi, hE⟩ := hE
    have hi : i < x.2.2.length := by simpa using hi
    rw [List.getElem?_eq_getElem hi] at hE
    simp only [Bool.and_eq_true, decide_eq_true_eq] at hE
    refine mem_wq.2 ⟨x, hx, _, List.getElem_mem hi, ?_⟩
    have := ((lineF_iff.1 (h.ok x hx).line).queue.tx _ (List.getElem_mem hi)).1
    omega
  · cases he

structure TwoS where
  locks : List Item
  late : List (List Act)
  dead : List Bool
  out : List Act
inductive Task where
  | take (o : Act)
  | wake (u : Int)
  | free
def TwoS.lt (s : TwoS) (u : Int) : List Act := s.late.getD u.toNat []
def TwoS.dd (s : TwoS) (u : Int) : Bool := s.dead.getD u.toNat false
def TwoS.setL (s : TwoS) (u : Int) (l : List Act) : TwoS := { s with late := s.late.set u.toNat l }
def TwoS.tell (s : TwoS) (o : Act) : TwoS := { s with out := s.out ++ [o] }
def TwoS.lock (s : TwoS) (t : List Item) : TwoS := { s with locks := t }
def TwoS.kill (s : TwoS) (u : Int) : TwoS := { s with dead := s.dead.set u.toNat true }
def givenT (tx : Int) (t : List Item) : List Task := (dropF tx t).2.map .wake

inductive Step : TwoS × List Task → TwoS × List Task → Prop where
  | dead {s : TwoS} {o : Act} {K : List Task} : s.dd o.1 = true → Step (s, .take o :: K) (s, K)
  | late {s : TwoS} {o : Act} {K : List Task} : s.dd o.1 = false → s.lt o.1 ≠ [] → Step (s, .take o :: K) (s.setL o.1 (s.lt o.1 ++ [o]), K)
  | fin {s : TwoS} {o : Act} {K : List Task} : s.dd o.1 = false → s.lt o.1 = [] → 3 ≤ o.2.1 → Step (s, .take o :: K) ((s.tell o).lock (dropF o.1 s.locks).1, givenT o.1 s.locks ++ K)
  | ok {s : TwoS} {o : Act} {K : List Task} : s.dd o.1 = false → s.lt o.1 = [] → o.2.1 < 3 → (askStep o.1 o.2.2 (modeF o) s.locks).2 = true → Step (s, .take o :: K) ((s.lock (askStep o.1 o.2.2 (modeF o) s.locks).1).tell o, K)
  | wait {s : TwoS} {o : Act} {K : List Task} : s.dd o.1 = false → s.lt o.1 = [] → o.2.1 < 3 → (askStep o.1 o.2.2 (modeF o) s.locks).2 = false → Step (s, .take o :: K) ((s.lock (askStep o.1 o.2.2 (modeF o) s.locks).1).setL o.1 [o], .free :: K)
  | wake {s : TwoS} {u : Int} {o : Act} {l : List Act} {K : List Task} : s.lt u = o :: l → Step (s, .wake u :: K) ((s.tell o).setL u [], l.map .take ++ K)
  | calm {s : TwoS} {K : List Task} : Vic (waitsF s.locks) [] → Step (s, .free :: K) (s, K)
  | kill {s : TwoS} {vs : List Nat} {u : Nat} {K : List Task} : Vic (waitsF s.locks) vs → u ∈ vs → Step (s, .free :: K) ((((s.kill (u : Int)).setL (u : Int) []).tell ((u : Int), 4, 0)).lock (dropF (u : Int) s.locks).1, givenT (u : Int) s.locks ++ .free :: K)

inductive Steps : TwoS × List Task → TwoS × List Task → Prop where
  | refl (a) : Steps a a
  | head {a b c} : Step a b → Steps b c → Steps a c
theorem Steps.one {a b} (h : Step a b) : Steps a b := .head h (.refl _)
theorem Steps.trans {a b c} (h : Steps a b) (k : Steps b c) : Steps a c := by
  induction h with
  | refl => exact k
  | head h _ ih => exact .head h (ih k)

/-! ### What tasks there are -/
def takes : List Task → List Act
  | [] => []
  | .take o :: K => o :: takes K
  | _ :: K => takes K
def wakes : List Task → List Int
  | [] => []
  | .wake u :: K => u :: wakes K
  | _ :: K => wakes K
theorem takes_append : ∀ A B : List Task, takes (A ++ B) = takes A ++ takes B
  | [], B => rfl
  | .take o :: A, B => by simp [takes, takes_append A B]
  | .wake u :: A, B => by simp [takes, takes_append A B]
  | .free :: A, B => by simp [takes, takes_append A B]
theorem wakes_append : ∀ A B : List Task, wakes (A ++ B) = wakes A ++ wakes B
  | [], B => rfl
  | .take o :: A, B => by simp [wakes, wakes_append A B]
  | .wake u :: A, B => by simp [wakes, wakes_append A B]
  | .free :: A, B => by simp [wakes, wakes_append A B]
theorem takes_take (l : List Act) : takes (l.map .take) = l := by induction l with | nil => rfl | cons o l ih => simp [takes, ih]
theorem wakes_take (l : List Act) : wakes (l.map .take) = [] := by induction l with | nil => rfl | cons o l ih => simp [wakes, ih]
theorem takes_wake (l : List Int) : takes (l.map .wake) = [] := by induction l with | nil => rfl | cons o l ih => simp [takes, ih]
theorem wakes_wake (l : List Int) : wakes (l.map .wake) = l := by induction l with | nil => rfl | cons o l ih => simp [wakes, ih]

/-! ### How much there is to do -/
theorem sum_set {α : Type} (f : α → Nat) : ∀ {l : List α} {i : Nat} {y : α} (x : α), l[i]? = some y → ((l.set i x).map f).sum + f y = (l.map f).sum + f x
  | [], i, y, x, h => by simp at h
  | z :: l, 0, y, x, h => by simp at h; subst h; simp; omega
  | z :: l, i + 1, y, x, h => by have := sum_set f (l := l) (i := i) x (by simpa using h); simp at *; omega
def TwoS.pend (s : TwoS) : Nat := (s.late.map List.length).sum
def TwoS.alive (s : TwoS) : Nat := (s.dead.map fun b => if b then 0 else 1).sum
def TwoS.bud (s : TwoS) : Nat := s.alive + s.pend
theorem TwoS.lt_get {s : TwoS} (h : s.late.length = 12) {u : Int} (hu : 0 ≤ u ∧ u < 12) : s.late[u.toNat]? = some (s.lt u) := by
  have : u.toNat < s.late.length := by omega
  rw [TwoS.lt, List.getD_eq_getElem?_getD, List.getElem?_eq_getElem this]; rfl
theorem TwoS.dd_get {s : TwoS} (h : s.dead.length = 12) {u : Int} (hu : 0 ≤ u ∧ u < 12) : s.dead[u.toNat]? = some (s.dd u) := by
  have : u.toNat < s.dead.length := by omega
  rw [TwoS.dd, List.getD_eq_getElem?_getD, List.getElem?_eq_getElem this]; rfl
theorem TwoS.pend_set {s : TwoS} (h : s.late.length = 12) {u : Int} (hu : 0 ≤ u ∧ u < 12) (l : List Act) : (s.setL u l).pend + (s.lt u).length = s.pend + l.length := sum_set List.length l (s.lt_get h hu)
theorem TwoS.alive_kill {s : TwoS} (h : s.dead.length = 12) {u : Int} (hu : 0 ≤ u ∧ u < 12) (hd : s.dd u = false) : (s.kill u).alive + 1 = s.alive := by
  have := sum_set (fun b : Bool => if b then 0 else 1) true (s.dd_get h hu)
  rw [hd] at this
  simp only [TwoS.kill, TwoS.alive]
  simpa using this
theorem TwoS.lt_set {s : TwoS} (h : s.late.length = 12) {u v : Int} (hu : 0 ≤ u ∧ u < 12) (hv : 0 ≤ v ∧ v < 12) (l : List Act) : (s.setL u l).lt v = if u = v then l else s.lt v := by
  simp only [TwoS.lt, TwoS.setL, List.getD_eq_getElem?_getD, List.getElem?_set]
  by_cases e : u = v
  · subst e; rw [if_pos rfl, if_pos (by omega), if_pos rfl]; rfl
  · rw [if_neg (by omega), if_neg e]
theorem TwoS.dd_kill {s : TwoS} (h : s.dead.length = 12) {u v : Int} (hu : 0 ≤ u ∧ u < 12) (hv : 0 ≤ v ∧ v < 12) : (s.kill u).dd v = if u = v then true else s.dd v := by
  simp only [TwoS.dd, TwoS.kill, List.getD_eq_getElem?_getD, List.getElem?_set]
  by_cases e : u = v
  · subst e; rw [if_pos rfl, if_pos (by omega), if_pos rfl]; rfl
  · rw [if_neg (by omega), if_neg e]
theorem TwoS.pend_ge {s : TwoS} (h : s.late.length = 12) {u : Int} (hu : 0 ≤ u ∧ u < 12) : (s.lt u).length ≤ s.pend := by
  have := s.pend_set h hu []
  simp at this; omega

/-! ### What is kept -/
structure Inv (s : TwoS) (K : List Task) : Prop where
  val : Valid s.locks
  lateL : s.late.length = 12
  deadL : s.dead.length = 12
  tk : ∀ o ∈ takes K, actOk o
  nd : (wakes K ++ wq s.locks).Nodup
  rng : ∀ u ∈ wakes K, 0 ≤ u ∧ u < 12
  own : ∀ u, 0 ≤ u ∧ u < 12 → (s.lt u ≠ [] ↔ u ∈ wakes K ++ wq s.locks)
  of : ∀ u, 0 ≤ u ∧ u < 12 → ∀ o ∈ s.lt u, o.1 = u ∧ actOk o
  gone : ∀ u, 0 ≤ u ∧ u < 12 → s.dd u = true → s.lt u = []
  size : s.out.length + s.bud + (takes K).length ≤ 300

theorem Inv.askOk {s : TwoS} {o : Act} {K : List Task} (h : Inv s (.take o :: K)) (hl : s.lt o.1 = []) : AskOk s.locks o.1 o.2.2 (modeF o) := by
  have ho := h.tk o (by simp [takes])
  refine ⟨h.val, ho.1, ho.2.2, modeF_ok o, fun x hx q hq e => ?_⟩
  exact (h.own o.1 ho.1).2 (List.mem_append.2 (.inr (mem_wq.2 ⟨x, hx, q, hq, e⟩))) hl
theorem Vic.plus {E : List (Int × Int)} {vs : List Nat} (h : Vic E vs) : ∀ u ∈ vs, PlusE E u u := by
  induction h with
  | done _ => intro u hu; cases hu
  | @more E w vs hw hv ih =>
    intro u hu
    rcases List.mem_cons.1 hu with rfl | hu
    · exact hw.on
    · obtain ⟨c, h1, h2⟩ := ih u hu
      have sub : ∀ e ∈ without E w, e ∈ E := (without_sub E w).subset
      have mono : ∀ {a b : Nat}, RchE (without E w) a b → RchE E a b := by
        intro a b h
        induction h with
        | refl a => exact .refl a
        | step e _ ih => exact .step (sub _ e) ih
      exact ⟨c, sub _ h1, mono h2⟩
theorem Inv.victim {s : TwoS} {K : List Task} (h : Inv s K) {vs : List Nat} {u : Nat} (hv : Vic (waitsF s.locks) vs) (hu : u ∈ vs) : (u : Int) ∈ wq s.locks ∧ u < 12 ∧ s.lt (u : Int) ≠ [] ∧ s.dd (u : Int) = false := by
  obtain ⟨c, h1, _⟩ := hv.plus u hu
  obtain ⟨h2, h3, _⟩ := waitsF_from h.val h1
  simp only at h2 h3
  have h4 := (h.own (u : Int) h3).2 (List.mem_append.2 (.inr h2))
  refine ⟨h2, by omega, h4, ?_⟩
  cases hd : s.dd (u : Int) with
  | false => rfl
  | true => exact absurd (h.gone _ h3 hd) h4


theorem wq_filter {t : List Item} {tx : Int} (h : tx ∉ wq t) : (wq t).filter (fun u => !decide (u = tx)) = wq t := by
  refine List.filter_eq_self.2 fun u hu => ?_
  have : u ≠ tx := fun e => h (e ▸ hu)
  simp [this]
/-- Dropping: who is given something is woken. -/
theorem drop_perm (t : List Item) (tx : Int) (K : List Task) : (wakes (givenT tx t ++ K) ++ wq (dropF tx t).1).Perm (wakes K ++ (wq t).filter fun u => !decide (u = tx)) := by
  rw [wakes_append, givenT, wakes_wake, List.append_assoc]
  exact (List.perm_append_comm_assoc _ _ _).trans ((dropF_wq tx t).append_left _)
theorem takes_given (t : List Item) (tx : Int) (K : List Task) : takes (givenT tx t ++ K) = takes K := by rw [takes_append, givenT, takes_wake]; rfl

theorem Step.inv {s s' : TwoS} {K K' : List Task} (hst : Step (s, K) (s', K')) (h : Inv s K) : Inv s' K' ∧ s'.bud + (takes K').length ≤ s.bud + (takes K).length := by
  cases hst with
  | dead hd =>
    refine ⟨⟨h.val, h.lateL, h.deadL, fun o ho => h.tk o (List.mem_cons_of_mem _ ho), h.nd, h.rng, h.own, h.of, h.gone, ?_⟩, ?_⟩
    · have := h.size; simp [takes] at this; omega
    · simp [takes]
  | @late _ o _ hd hl =>
    have ho := h.tk o (by simp [takes])
    have hp := s.pend_set h.lateL ho.1 (s.lt o.1 ++ [o])
    have hsz := h.size
    have hbud : (s.setL o.1 (s.lt o.1 ++ [o])).bud + (takes K').length ≤ s.bud + (takes (.take o :: K')).length := by
      simp only [TwoS.bud, takes, List.length_cons, List.length_append, List.length_nil] at *
      have : (s.setL o.1 (s.lt o.1 ++ [o])).alive = s.alive := rfl
      omega
    refine ⟨⟨h.val, by simp [TwoS.setL, h.lateL], h.deadL, fun o' ho' => h.tk o' (List.mem_cons_of_mem _ ho'), h.nd, h.rng, fun v hv => ?_, fun v hv o' ho' => ?_, fun v hv hdv => ?_, ?_⟩, hbud⟩
    · rw [TwoS.lt_set h.lateL ho.1 hv]
      by_cases e : o.1 = v
      · rw [if_pos e]
        have := h.own v hv
        rw [← e] at this ⊢
        exact ⟨fun _ => this.1 hl, fun _ => by simp⟩
      · rw [if_neg e]; exact h.own v hv
    · rw [TwoS.lt_set h.lateL ho.1 hv] at ho'
      split at ho'
      · rename_i e
        rcases List.mem_append.1 ho' with h1 | h1
        · rw [← e]; exact h.of o.1 ho.1 o' h1
        · simp at h1; subst h1; exact ⟨e, ho⟩
      · exact h.of v hv o' ho'
    · have hdv : s.dd v = true := hdv
      rw [TwoS.lt_set h.lateL ho.1 hv]
      by_cases e : o.1 = v
      · rw [← e, hd] at hdv; cases hdv
      · rw [if_neg e]; exact h.gone v hv hdv
    · have : (s.setL o.1 (s.lt o.1 ++ [o])).out = s.out := rfl
      rw [this]; omega
  | @fin _ o K hd hl hk =>
    have ho := h.tk o (by simp [takes])
    have hno : o.1 ∉ wq s.locks := fun hm => (h.own o.1 ho.1).2 (List.mem_append.2 (.inr hm)) hl
    have hp := drop_perm s.locks o.1 K
    rw [wq_filter hno] at hp
    have hsz := h.size
    have htk := takes_given s.locks o.1 K
    refine ⟨⟨drop_valid _ h.val, h.lateL, h.deadL, fun o' ho' => ?_, hp.nodup_iff.2 h.nd, fun u hu => ?_, fun v hv => (h.own v hv).trans hp.mem_iff.symm, h.of, h.gone, ?_⟩, ?_⟩
    · rw [htk] at ho'; exact h.tk o' (List.mem_cons_of_mem _ ho')
    · have hm := hp.mem_iff.1 (List.mem_append.2 (.inl hu))
      rcases List.mem_append.1 hm with hm | hm
      · exact h.rng u hm
      · exact wq_range h.val hm
    · rw [htk]; simp only [takes, List.length_cons] at hsz
      show (s.out ++ [o]).length + s.bud + _ ≤ _
      simp; omega
    · rw [htk]; show s.bud + _ ≤ _; simp [takes]
  | @ok _ o _ hd hl hk hok =>
    have ho := h.tk o (by simp [takes])
    have hsz := h.size
    have hw := (askStep_wq o.1 o.2.2 (modeF o) s.locks).1 hok
    have e : wq ((s.lock (askStep o.1 o.2.2 (modeF o) s.locks).1).tell o).locks = wq s.locks := hw
    refine ⟨⟨ask_valid (h.askOk hl), h.lateL, h.deadL, fun o' ho' => h.tk o' (List.mem_cons_of_mem _ ho'), by rw [e]; exact h.nd, h.rng, by rw [e]; exact h.own, h.of, h.gone, ?_⟩, ?_⟩
    · simp only [takes, List.length_cons] at hsz
      show (s.out ++ [o]).length + s.bud + _ ≤ _
      simp; omega
    · show s.bud + _ ≤ _; simp [takes]
  | @wait _ o K hd hl hk hok =>
    have ho := h.tk o (by simp [takes])
    have hsz := h.size
    have hw := (askStep_wq o.1 o.2.2 (modeF o) s.locks).2 hok
    have hp := s.pend_set h.lateL ho.1 [o]
    have hnm : o.1 ∉ wakes K ++ wq s.locks := fun hm => (h.own o.1 ho.1).2 hm hl
    have hperm : (wakes (.free :: K) ++ wq (askStep o.1 o.2.2 (modeF o) s.locks).1).Perm (o.1 :: (wakes K ++ wq s.locks)) := (hw.append_left _).trans List.perm_middle
    have hbud : (s.setL o.1 [o]).bud + (takes K).length ≤ s.bud + (takes (.take o :: K)).length := by
      rw [hl] at hp
      simp only [TwoS.bud, takes, List.length_cons, List.length_nil] at *
      have : (s.setL o.1 [o]).alive = s.alive := rfl
      omega
    refine ⟨⟨ask_valid (h.askOk hl), by simp [TwoS.setL, TwoS.lock, h.lateL], h.deadL, fun o' ho' => h.tk o' (List.mem_cons_of_mem _ ho'), hperm.nodup_iff.2 (List.nodup_cons.2 ⟨hnm, h.nd⟩), h.rng, fun v hv => ?_, fun v hv o' ho' => ?_, fun v hv hdv => ?_, ?_⟩, hbud⟩
    · refine Iff.trans ?_ hperm.mem_iff.symm
      have e1 : ((s.lock (askStep o.1 o.2.2 (modeF o) s.locks).1).setL o.1 [o]).lt v = (s.setL o.1 [o]).lt v := rfl
      rw [e1, TwoS.lt_set h.lateL ho.1 hv, List.mem_cons]
      by_cases e : o.1 = v
      · rw [if_pos e]; exact ⟨fun _ => .inl e.symm, fun _ => by simp⟩
      · rw [if_neg e]
        exact (h.own v hv).trans ⟨.inr, fun h => h.resolve_left fun h => e h.symm⟩
    · have e1 : ((s.lock (askStep o.1 o.2.2 (modeF o) s.locks).1).setL o.1 [o]).lt v = (s.setL o.1 [o]).lt v := rfl
      rw [e1, TwoS.lt_set h.lateL ho.1 hv] at ho'
      split at ho'
      · rename_i e
        simp at ho'; subst ho'; exact ⟨e, ho⟩
      · exact h.of v hv o' ho'
    · have hdv : s.dd v = true := hdv
      have e1 : ((s.lock (askStep o.1 o.2.2 (modeF o) s.locks).1).setL o.1 [o]).lt v = (s.setL o.1 [o]).lt v := rfl
      rw [e1, TwoS.lt_set h.lateL ho.1 hv]
      by_cases e : o.1 = v
      · rw [← e, hd] at hdv; cases hdv
      · rw [if_neg e]; exact h.gone v hv hdv
    · show s.out.length + (s.setL o.1 [o]).bud + (takes K).length ≤ 300
      omega
  | @wake _ u o l K hl =>
    have hu := h.rng u (by simp [wakes])
    have hsz := h.size
    have hp := s.pend_set h.lateL hu []
    have hnd : u ∉ wakes K ++ wq s.locks ∧ (wakes K ++ wq s.locks).Nodup := List.nodup_cons.1 h.nd
    have hof := h.of u hu
    have htk : takes (l.map .take ++ K) = l ++ takes K := by rw [takes_append, takes_take]
    have hwk : wakes (l.map .take ++ K) = wakes K := by rw [wakes_append, wakes_take]; rfl
    have e1 : ∀ v, ((s.tell o).setL u []).lt v = (s.setL u []).lt v := fun v => rfl
    have hb : (s.setL u []).bud + l.length + 1 = s.bud := by
      rw [hl] at hp
      simp only [TwoS.bud, List.length_cons, List.length_nil] at *
      have : (s.setL u []).alive = s.alive := rfl
      omega
    refine ⟨⟨h.val, by simp [TwoS.setL, TwoS.tell, h.lateL], h.deadL, fun o' ho' => ?_, by rw [hwk]; exact hnd.2, fun v hv => ?_, fun v hv => ?_, fun v hv o' ho' => ?_, fun v hv hdv => ?_, ?_⟩, ?_⟩
    · rw [htk] at ho'
      rcases List.mem_append.1 ho' with h1 | h1
      · exact (hof o' (by rw [hl]; exact List.mem_cons_of_mem _ h1)).2
      · exact h.tk o' h1
    · rw [hwk] at hv; exact h.rng v (List.mem_cons_of_mem _ hv)
    · rw [e1, TwoS.lt_set h.lateL hu hv, hwk]
      by_cases e : u = v
      · rw [if_pos e]
        exact ⟨fun h => absurd rfl h, fun hm => absurd (e ▸ hm) hnd.1⟩
      · rw [if_neg e]
        refine (h.own v hv).trans ?_
        show v ∈ u :: (wakes K ++ wq s.locks) ↔ v ∈ wakes K ++ wq s.locks
        rw [List.mem_cons]
        exact ⟨fun h => h.resolve_left fun h => e h.symm, .inr⟩
    · rw [e1, TwoS.lt_set h.lateL hu hv] at ho'
      split at ho'
      · cases ho'
      · exact h.of v hv o' ho'
    · have hdv : s.dd v = true := hdv
      rw [e1, TwoS.lt_set h.lateL hu hv]
      split
      · rfl
      · exact h.gone v hv hdv
    · rw [htk]
      show (s.out ++ [o]).length + (s.setL u []).bud + (l ++ takes K).length ≤ 300
      simp only [takes] at hsz
      simp only [List.length_append, List.length_cons, List.length_nil]
      omega
    · rw [htk]
      show (s.setL u []).bud + (l ++ takes K).length ≤ s.bud + (takes K).length
      simp only [List.length_append]
      omega
  | calm hv => exact ⟨⟨h.val, h.lateL, h.deadL, h.tk, h.nd, h.rng, h.own, h.of, h.gone, h.size⟩, Nat.le_refl _⟩
  | @kill _ vs u K hv hu =>
    obtain ⟨hw, hu12, hlt, hdu⟩ := h.victim hv hu
    have hur : 0 ≤ (u : Int) ∧ (u : Int) < 12 := by omega
    have hsz := h.size
    have hp := s.pend_set h.lateL hur []
    have ha := s.alive_kill h.deadL hur hdu
    have htk := takes_given s.locks (u : Int) (.free :: K)
    have hnw : (u : Int) ∉ wakes K := fun hm => (List.nodup_append.1 h.nd).2.2 _ hm _ hw rfl
    have hperm := drop_perm s.locks (u : Int) (.free :: K)
    have hmem : ∀ v, v ≠ (u : Int) → (v ∈ wakes K ++ wq s.locks ↔ v ∈ wakes (givenT (u : Int) s.locks ++ .free :: K) ++ wq (dropF (u : Int) s.locks).1) := fun v hv => by
      rw [hperm.mem_iff, List.mem_append, List.mem_append, List.mem_filter]
      simp [hv, wakes]
    have hnm : (u : Int) ∉ wakes (givenT (u : Int) s.locks ++ .free :: K) ++ wq (dropF (u : Int) s.locks).1 := fun hm => by
      rcases List.mem_append.1 (hperm.mem_iff.1 hm) with h1 | h1
      · exact hnw h1
      · simp at h1
    have e1 : ∀ v, ((((s.kill (u : Int)).setL (u : Int) []).tell ((u : Int), 4, 0)).lock (dropF (u : Int) s.locks).1).lt v = (s.setL (u : Int) []).lt v := fun v => rfl
    have e2 : ∀ v, ((((s.kill (u : Int)).setL (u : Int) []).tell ((u : Int), 4, 0)).lock (dropF (u : Int) s.locks).1).dd v = (s.kill (u : Int)).dd v := fun v => rfl
    have hlpos : 0 < (s.lt (u : Int)).length := List.length_pos_iff.2 hlt
    have e3 : ((((s.kill (u : Int)).setL (u : Int) []).tell ((u : Int), 4, 0)).lock (dropF (u : Int) s.locks).1).bud = (s.kill (u : Int)).alive + (s.setL (u : Int) []).pend := rfl
    have hb : (s.kill (u : Int)).alive + (s.setL (u : Int) []).pend + 1 ≤ s.bud := by
      simp only [TwoS.bud, List.length_nil] at *; omega
    refine ⟨⟨drop_valid _ h.val, by simp [TwoS.setL, TwoS.tell, TwoS.lock, TwoS.kill, h.lateL], by simp [TwoS.setL, TwoS.tell, TwoS.lock, TwoS.kill, h.deadL], fun o' ho' => ?_, hperm.nodup_iff.2 ?_, fun v hv => ?_, fun v hv => ?_, fun v hv o' ho' => ?_, fun v hv hdv => ?_, ?_⟩, ?_⟩
    · rw [htk] at ho'; exact h.tk o' ho'
    · exact h.nd.sublist (List.Sublist.append_left List.filter_sublist _)
    · have hm := hperm.mem_iff.1 (List.mem_append.2 (.inl hv))
      rcases List.mem_append.1 hm with hm | hm
      · exact h.rng v hm
      · exact wq_range h.val (List.mem_filter.1 hm).1
    · rw [e1, TwoS.lt_set h.lateL hur hv]
      by_cases e : (u : Int) = v
      · rw [if_pos e]
        exact ⟨fun h => absurd rfl h, fun hm => absurd (e ▸ hm) hnm⟩
      · rw [if_neg e]
        exact (h.own v hv).trans (hmem v fun h => e h.symm)
    · rw [e1, TwoS.lt_set h.lateL hur hv] at ho'
      split at ho'
      · cases ho'
      · exact h.of v hv o' ho'
    · rw [e1, TwoS.lt_set h.lateL hur hv]
      split
      · rfl
      · rename_i e
        rw [e2, TwoS.dd_kill h.deadL hur hv, if_neg e] at hdv
        exact h.gone v hv hdv
    · rw [htk, e3]
      show (s.out ++ [_]).length + _ + (takes (.free :: K)).length ≤ 300
      simp only [takes, List.length_append, List.length_cons, List.length_nil] at *
      omega
    · rw [htk, e3]; omega
theorem Steps.inv {a b : TwoS × List Task} (hst : Steps a b) : Inv a.1 a.2 → Inv b.1 b.2 ∧ b.1.bud + (takes b.2).length ≤ a.1.bud + (takes a.2).length := by
  induction hst with
  | refl a => exact fun h => ⟨h, Nat.le_refl _⟩
  | @head a b c h _ ih =>
    intro hi
    obtain ⟨h1, h2⟩ := Step.inv (s := a.1) (K := a.2) (s' := b.1) (K' := b.2) h hi
    obtain ⟨h3, h4⟩ := ih h1
    exact ⟨h3, by omega⟩
end Go.Proofs.Ytpenbdpgpamcbaa
