/- lock: Ask. -/
import Derived.Test.YtpenbdpgpamcbaaLockH
set_option linter.unusedVariables false
set_option linter.unusedSimpArgs false
set_option maxRecDepth 20000
namespace Go.Proofs.Ytpenbdpgpamcbaa
open Go Gw
attribute [local irreducible] W WO WD

theorem nodup_bound : ∀ (n : Nat) (l : List Int), l.Nodup → (∀ x ∈ l, 0 ≤ x ∧ x < n) → l.length ≤ n
  | 0, l, _, h => by
    cases l with
    | nil => simp
    | cons x l => have := h x (by simp); omega
  | n + 1, l, hn, h => by
    have h2 : ∀ x ∈ l.erase (n : Int), 0 ≤ x ∧ x < n := fun x hx => by
      have hm := (hn.mem_erase_iff).1 hx
      have := h x hm.2
      have := hm.1
      omega
    have ih := nodup_bound n _ (hn.erase _) h2
    by_cases hm : (n : Int) ∈ l
    · have := List.length_erase_of_mem hm
      omega
    · rw [List.erase_of_not_mem hm] at ih; omega
theorem okSide_len {l : List (Int × Int)} (hl : okSide l = true) : l.length ≤ 12 := by
  simp only [okSide, Bool.and_eq_true, decide_eq_true_eq, List.all_eq_true] at hl
  have := nodup_bound 12 (l.map (·.1)) hl.2 fun x hx => by
    obtain ⟨y, hy, rfl⟩ := List.mem_map.1 hx
    exact (hl.1 y hy).1
  simpa using this
theorem valid_lens {t : List Item} (h : Valid t) {x : Item} (hx : x ∈ t) : x.2.1.length ≤ 12 ∧ x.2.2.length ≤ 12 ∧ ∀ y ∈ x.2.1, isModeF y.2 = true := by
  have hl := (h.ok x hx).line
  simp only [lineF, Bool.and_eq_true] at hl
  exact ⟨okSide_len hl.1.1.1, okSide_len hl.1.2, okSide_mode hl.1.1.1⟩
theorem valid_short {t : List Item} (h : Valid t) : Short t :=
  ⟨by have := h.len; omega, fun x hx => by have := valid_lens h hx; omega⟩

theorem queueTx_ok (w : World) (h : Int × Int) (b18 b20 g off n cap : Nat) (cur : List Value) (a : Option Addr) (qs : List (Int × Int)) (y : Int × Int) (h18 : Holds w (blk b18 151 [.pointer (some ⟨g, off, none⟩)])) (h20 : Holds w (blk b20 3 [.int .i64 n])) (hg : Holds w (blk g 142 cur))
    (hc : cur[off + 2]? = some (.slice a qs.length cap)) (hq : Holds w (rd lockR a cap qs)) (hn : qs[n]? = some y) :
    Calls Try.prog 85 (#[] ++ [Value.agg (encLock h).toArray].toArray ++ #[.pointer (some ⟨b18, 0, none⟩), .pointer (some ⟨b20, 0, none⟩)]) w (Ret fun v w' => Pure w w' ∧ v = .bool (decide (h.1 = y.1))) := by
  show Calls Try.prog 85 #[.agg #[.int .i64 h.1, .int .i64 h.2], .pointer (some ⟨b18, 0, none⟩), .pointer (some ⟨b20, 0, none⟩)] w _
  refine calls_W (args := [_, _, _]) Try.func85 rfl Try.ntmps85 rfl ?_
  obtain ⟨hlt, _⟩ := List.getElem?_eq_some_iff.1 hn
  obtain ⟨gq, oq, rfl⟩ := hq.addr (by omega)
  have H := St.start [blk b18 151 [.pointer (some ⟨g, off, none⟩)], blk b20 3 [.int .i64 n], blk g 142 cur, rd lockR (some ⟨gq, oq, none⟩) cap qs] (w := w) (by simpa using ⟨h18, h20, hg, hq⟩)
  (repeat (first | refine W.seq ?_ | refine W.block ?_ | refine W.skip ?_ | refine W.exit ?_ | refine W.region ?_))
  refine WO.one rfl rfl rfl (OpW.box rfl rfl rfl H ?_); intro b w1 H1
  (repeat (first | refine WO.run tabOk rfl rfl ?_ | refine WO.nil ?_ | refine WO.skip rfl rfl rfl ?_ | refine WO.pu tabOk rfl rfl rfl rfl ?_ | refine W.seq ?_ | refine W.region ?_ | refine W.block ?_ | refine W.skip ?_ | refine W.exit ?_))
  have H1 := H1.drew
  refine W.regionD [1, 2, 5, 6, 9] (HA [blk b 145 [.int .i64 h.1, .int .i64 h.2], blk b18 151 [.pointer (some ⟨g, off, none⟩)], blk b20 3 [.int .i64 n], blk g 142 cur, rd lockR (some ⟨gq, oq, none⟩) cap qs]) [0, 1, 2, 3, 4, 5, 6, 7, 8, 9, 10, 11] rfl (by kernel_rfl) (fun _ _ _ h => h) ?_
  have hA := H1.ha (L := [blk b 145 [.int .i64 h.1, .int .i64 h.2], blk b18 151 [.pointer (some ⟨g, off, none⟩)], blk b20 3 [.int .i64 n], blk g 142 cur, rd lockR (some ⟨gq, oq, none⟩) cap qs]) (by simp)
  (repeat (first | refine WD.run tabOk rfl rfl ?_ | refine WD.hv rfl rfl rfl rfl rfl hA (HeldV.load1 tabOk rfl rfl rfl rfl (by (repeat (first | exact .head _ | refine .tail _ ?_))) rfl) ?_ | refine WD.hv rfl rfl rfl rfl rfl hA (HeldV.loadA tabOk rfl rfl rfl rfl (by (repeat (first | exact .head _ | refine .tail _ ?_))) rfl rfl) ?_ | refine WD.pu tabOk rfl rfl rfl rfl rfl rfl ?_))
  refine WD.hv rfl rfl rfl rfl rfl hA (HeldV.loadB tabOk rfl rfl rfl rfl (.tail _ (.tail _ (.tail _ (.head _)))) hc) ?_
  (repeat (first | refine WD.run tabOk rfl rfl ?_ | refine WD.hv rfl rfl rfl rfl rfl hA (HeldV.load1 tabOk rfl rfl rfl rfl (by (repeat (first | exact .head _ | refine .tail _ ?_))) rfl) ?_ | refine WD.hv rfl rfl rfl rfl rfl hA (HeldV.loadA tabOk rfl rfl rfl rfl (by (repeat (first | exact .head _ | refine .tail _ ?_))) rfl rfl) ?_ | refine WD.pu tabOk rfl rfl rfl rfl rfl rfl ?_))
  refine WD.pv rfl rfl rfl rfl rfl (PureV.idxN tabOk rfl rfl rfl rfl rfl rfl hlt) ?_
  (repeat (first | refine WD.run tabOk rfl rfl ?_ | refine WD.hv rfl rfl rfl rfl rfl hA (HeldV.load1 tabOk rfl rfl rfl rfl (by (repeat (first | exact .head _ | refine .tail _ ?_))) rfl) ?_ | refine WD.hv rfl rfl rfl rfl rfl hA (HeldV.loadA tabOk rfl rfl rfl rfl (by (repeat (first | exact .head _ | refine .tail _ ?_))) rfl rfl) ?_ | refine WD.pu tabOk rfl rfl rfl rfl rfl rfl ?_))
  refine WD.hv rfl rfl rfl rfl rfl hA (HeldV.elem1 (i := n) (j := 0) tabOk rfl rfl rfl rfl (.tail _ (.tail _ (.tail _ (.tail _ (.head _))))) hn rfl rfl) ?_
  (repeat (first | refine WD.run tabOk rfl rfl ?_ | refine WD.hv rfl rfl rfl rfl rfl hA (HeldV.load1 tabOk rfl rfl rfl rfl (by (repeat (first | exact .head _ | refine .tail _ ?_))) rfl) ?_ | refine WD.hv rfl rfl rfl rfl rfl hA (HeldV.loadA tabOk rfl rfl rfl rfl (by (repeat (first | exact .head _ | refine .tail _ ?_))) rfl rfl) ?_ | refine WD.pu tabOk rfl rfl rfl rfl rfl rfl ?_))
  (repeat (first | refine WD.run tabOk rfl rfl ?_ | refine WD.nil ?_))
  (repeat (first | refine WO.run tabOk rfl rfl ?_ | refine WO.nil ?_ | refine WO.skip rfl rfl rfl ?_ | refine WO.pu tabOk rfl rfl rfl rfl ?_ | refine W.seq ?_ | refine W.region ?_ | refine W.block ?_ | refine W.skip ?_ | refine W.exit ?_))
  exact W.ret (ret1 Try.results85 rfl ⟨_, rfl, H1.pure, rfl⟩)

theorem flat_take {α : Type} {enc : α → List Value} {sz : Nat} (hl : ∀ x, (enc x).length = sz) : ∀ (l : List α) (n : Nat), (l.flatMap enc).take (n * sz) = (l.take n).flatMap enc
  | [], n => by simp
  | x :: l, 0 => by simp
  | x :: l, n + 1 => by
    rw [List.flatMap_cons, List.take_succ_cons, List.flatMap_cons, show (n + 1) * sz = (enc x).length + n * sz by rw [hl, Nat.add_mul, Nat.one_mul, Nat.add_comm], take_app, flat_take hl l n]
theorem flat_drop {α : Type} {enc : α → List Value} {sz : Nat} (hl : ∀ x, (enc x).length = sz) : ∀ (l : List α) (n : Nat), (l.flatMap enc).drop (n * sz) = (l.drop n).flatMap enc
  | [], n => by simp
  | x :: l, 0 => by simp
  | x :: l, n + 1 => by
    rw [List.flatMap_cons, List.drop_succ_cons, show (n + 1) * sz = (enc x).length + n * sz by rw [hl, Nat.add_mul, Nat.one_mul, Nat.add_comm], drop_app, flat_drop hl l n]
theorem takeWhile_len {α : Type} {p : α → Bool} : ∀ {l : List α} {n : Nat}, n ≤ l.length → (∀ j x, j < n → l[j]? = some x → p x = true) → (∀ x, l[n]? = some x → p x = false) → (l.takeWhile p).length = n
  | [], n, h, _, _ => by simp at h; simp [h]
  | x :: l, 0, _, _, h2 => by have := h2 x rfl; simp [this]
  | x :: l, n + 1, h, h1, h2 => by
    have hx := h1 0 x (by omega) rfl
    rw [List.takeWhile_cons, hx]
    simp only [if_true, List.length_cons]
    rw [takeWhile_len (by simp at h; exact h) (fun j y hj hy => h1 (j + 1) y (by omega) (by simpa using hy)) (fun y hy => h2 y (by simpa using hy))]

def AskPost (w w' : World) (t : List Item) (tx item mode : Int) (v : Value) : Prop :=
  ∃ tv ok e, v = .tuple #[tv, .bool ok, .int .i64 e] ∧ ((e ≠ 0 ∧ ¬ AskOk t tx item mode ∧ tv = .slice none 0 0 ∧ ok = false ∧ Pure w w') ∨
    (e = 0 ∧ AskOk t tx item mode ∧ ok = (askStep tx item mode t).2 ∧ St (at0 w) w' [row 142 itemO tv (askStep tx item mode t).1] []))

theorem ask_ok (w : World) (a : Option Addr) (c : Nat) (t : List Item) (tx item mode : Int) (hH : Holds w (rd itemS a c t)) :
    Calls Try.prog 52 #[.slice a t.length c, .int .i64 tx, .int .i64 item, .int .i64 mode] w (Ret fun v w' => AskPost w w' t tx item mode v) := by
  refine calls_W (args := [_, _, _, _]) Try.func52 rfl Try.ntmps52 rfl ?_
  have bad : ∀ {w' : World} {e : Int}, Pure w w' → e ≠ 0 → ¬ AskOk t tx item mode → AskPost w w' t tx item mode (.tuple #[.slice none 0 0, .bool false, .int .i64 e]) := fun hp he hb => ⟨_, _, _, rfl, .inl ⟨he, hb, rfl, rfl, hp⟩⟩
  have H0 := St.start [] (w := w) (by simp)
  (repeat (first | refine W.seq ?_ | refine W.block ?_ | refine W.skip ?_ | refine W.exit ?_ | refine W.region ?_))
  refine WO.one rfl rfl rfl (OpW.box rfl rfl rfl H0 ?_); intro b5 w1 H1
  (repeat (first | refine WO.run tabOk rfl rfl ?_ | refine WO.nil ?_ | refine WO.skip rfl rfl rfl ?_ | refine WO.pu tabOk rfl rfl rfl rfl ?_ | refine W.seq ?_ | refine W.region ?_ | refine W.block ?_ | refine W.skip ?_ | refine W.exit ?_))
  refine WO.one rfl rfl rfl (OpW.call rfl Try.call74 rfl (Calls.ret (check_ok _ a c t (hH.pure H1.pure)) ?_))
  rintro _ w2 ⟨hp2, e, rfl, he⟩
  have H2 := H1.after hp2
  (repeat (first | refine WO.run tabOk rfl rfl ?_ | refine WO.nil ?_ | refine WO.skip rfl rfl rfl ?_ | refine WO.pu tabOk rfl rfl rfl rfl ?_ | refine W.seq ?_ | refine W.region ?_ | refine W.block ?_ | refine W.skip ?_ | refine W.exit ?_))
  refine W.cond rfl (fun h1 => ?_) (fun h1 => ?_)
  · (repeat (first | refine WO.run tabOk rfl rfl ?_ | refine WO.nil ?_ | refine WO.skip rfl rfl rfl ?_ | refine WO.pu tabOk rfl rfl rfl rfl ?_ | refine W.seq ?_ | refine W.region ?_ | refine W.block ?_ | refine W.skip ?_ | refine W.exit ?_))
    simp at h1
    exact W.ret (ret3 Try.results52 rfl rfl rfl ⟨_, rfl, bad H2.pure h1 fun h => h1 (he.2 h.valid)⟩)
  simp at h1
  have hv := he.1 h1
  subst h1
  clear he
  (repeat (first | refine WO.run tabOk rfl rfl ?_ | refine WO.nil ?_ | refine WO.skip rfl rfl rfl ?_ | refine WO.pu tabOk rfl rfl rfl rfl ?_ | refine W.seq ?_ | refine W.region ?_ | refine W.block ?_ | refine W.skip ?_ | refine W.exit ?_ | refine WO.one rfl rfl rfl (OpW.load1 tabOk rfl rfl rfl rfl H2 (by (repeat (first | exact .head _ | refine .tail _ ?_))) rfl ?_)))
  refine WO.caseG rfl rfl (fun g1 => ?_) (fun g1 => ?_)
  · (repeat (first | refine WO.run tabOk rfl rfl ?_ | refine WO.nil ?_ | refine WO.skip rfl rfl rfl ?_ | refine WO.pu tabOk rfl rfl rfl rfl ?_ | refine W.seq ?_ | refine W.region ?_ | refine W.block ?_ | refine W.skip ?_ | refine W.exit ?_))
    refine W.cond_t rfl ?_
    (repeat (first | refine WO.run tabOk rfl rfl ?_ | refine WO.nil ?_ | refine WO.skip rfl rfl rfl ?_ | refine WO.pu tabOk rfl rfl rfl rfl ?_ | refine W.seq ?_ | refine W.region ?_ | refine W.block ?_ | refine W.skip ?_ | refine W.exit ?_))
    simp at g1
    exact W.ret (ret3 Try.results52 rfl rfl rfl ⟨_, rfl, bad H2.pure (by decide) fun h => (by have := h.txOk; omega)⟩)
  (repeat (first | refine WO.run tabOk rfl rfl ?_ | refine WO.nil ?_ | refine WO.skip rfl rfl rfl ?_ | refine WO.pu tabOk rfl rfl rfl rfl ?_ | refine W.seq ?_ | refine W.region ?_ | refine W.block ?_ | refine W.skip ?_ | refine W.exit ?_ | refine WO.one rfl rfl rfl (OpW.load1 tabOk rfl rfl rfl rfl H2 (by (repeat (first | exact .head _ | refine .tail _ ?_))) rfl ?_)))
  simp at g1
  refine WO.caseG rfl rfl (fun g2 => ?_) (fun g2 => ?_)
  · (repeat (first | refine WO.run tabOk rfl rfl ?_ | refine WO.nil ?_ | refine WO.skip rfl rfl rfl ?_ | refine WO.pu tabOk rfl rfl rfl rfl ?_ | refine W.seq ?_ | refine W.region ?_ | refine W.block ?_ | refine W.skip ?_ | refine W.exit ?_))
    refine W.cond_t rfl ?_
    (repeat (first | refine WO.run tabOk rfl rfl ?_ | refine WO.nil ?_ | refine WO.skip rfl rfl rfl ?_ | refine WO.pu tabOk rfl rfl rfl rfl ?_ | refine W.seq ?_ | refine W.region ?_ | refine W.block ?_ | refine W.skip ?_ | refine W.exit ?_))
    simp [pickV] at g2
    exact W.ret (ret3 Try.results52 rfl rfl rfl ⟨_, rfl, bad H2.pure (by decide) fun h => (by have := h.txOk; omega)⟩)
  (repeat (first | refine WO.run tabOk rfl rfl ?_ | refine WO.nil ?_ | refine WO.skip rfl rfl rfl ?_ | refine WO.pu tabOk rfl rfl rfl rfl ?_ | refine W.seq ?_ | refine W.region ?_ | refine W.block ?_ | refine W.skip ?_ | refine W.exit ?_ | refine WO.one rfl rfl rfl (OpW.load1 tabOk rfl rfl rfl rfl H2 (by (repeat (first | exact .head _ | refine .tail _ ?_))) rfl ?_)))
  simp [pickV] at g2
  refine WO.caseG rfl rfl (fun g3 => ?_) (fun g3 => ?_)
  · (repeat (first | refine WO.run tabOk rfl rfl ?_ | refine WO.nil ?_ | refine WO.skip rfl rfl rfl ?_ | refine WO.pu tabOk rfl rfl rfl rfl ?_ | refine W.seq ?_ | refine W.region ?_ | refine W.block ?_ | refine W.skip ?_ | refine W.exit ?_))
    refine W.cond_t rfl ?_
    (repeat (first | refine WO.run tabOk rfl rfl ?_ | refine WO.nil ?_ | refine WO.skip rfl rfl rfl ?_ | refine WO.pu tabOk rfl rfl rfl rfl ?_ | refine W.seq ?_ | refine W.region ?_ | refine W.block ?_ | refine W.skip ?_ | refine W.exit ?_))
    simp [pickV] at g3
    exact W.ret (ret3 Try.results52 rfl rfl rfl ⟨_, rfl, bad H2.pure (by decide) fun h => (by have := h.itemOk; omega)⟩)
  (repeat (first | refine WO.run tabOk rfl rfl ?_ | refine WO.nil ?_ | refine WO.skip rfl rfl rfl ?_ | refine WO.pu tabOk rfl rfl rfl rfl ?_ | refine W.seq ?_ | refine W.region ?_ | refine W.block ?_ | refine W.skip ?_ | refine W.exit ?_))
  simp [pickV] at g3
  refine WO.caseG rfl rfl (fun g4 => ?_) (fun g4 => ?_)
  · (repeat (first | refine WO.run tabOk rfl rfl ?_ | refine WO.nil ?_ | refine WO.skip rfl rfl rfl ?_ | refine WO.pu tabOk rfl rfl rfl rfl ?_ | refine W.seq ?_ | refine W.region ?_ | refine W.block ?_ | refine W.skip ?_ | refine W.exit ?_))
    refine W.cond_t rfl ?_
    (repeat (first | refine WO.run tabOk rfl rfl ?_ | refine WO.nil ?_ | refine WO.skip rfl rfl rfl ?_ | refine WO.pu tabOk rfl rfl rfl rfl ?_ | refine W.seq ?_ | refine W.region ?_ | refine W.block ?_ | refine W.skip ?_ | refine W.exit ?_))
    simp [pickV] at g4
    exact W.ret (ret3 Try.results52 rfl rfl rfl ⟨_, rfl, bad H2.pure (by decide) fun h => (by have := h.itemOk; omega)⟩)
  (repeat (first | refine WO.run tabOk rfl rfl ?_ | refine WO.nil ?_ | refine WO.skip rfl rfl rfl ?_ | refine WO.pu tabOk rfl rfl rfl rfl ?_ | refine W.seq ?_ | refine W.region ?_ | refine W.block ?_ | refine W.skip ?_ | refine W.exit ?_))
  simp [pickV] at g4
  refine WO.one rfl rfl rfl (OpW.call rfl Try.call75 rfl (Calls.ret (isMode_ok _ _) ?_))
  rintro _ _ ⟨rfl, rfl⟩
  (repeat (first | refine WO.run tabOk rfl rfl ?_ | refine WO.nil ?_ | refine WO.skip rfl rfl rfl ?_ | refine WO.pu tabOk rfl rfl rfl rfl ?_ | refine W.seq ?_ | refine W.region ?_ | refine W.block ?_ | refine W.skip ?_ | refine W.exit ?_))
  refine W.cond rfl (fun g5 => ?_) (fun g5 => ?_)
  · (repeat (first | refine WO.run tabOk rfl rfl ?_ | refine WO.nil ?_ | refine WO.skip rfl rfl rfl ?_ | refine WO.pu tabOk rfl rfl rfl rfl ?_ | refine W.seq ?_ | refine W.region ?_ | refine W.block ?_ | refine W.skip ?_ | refine W.exit ?_))
    simp [pickV] at g5
    exact W.ret (ret3 Try.results52 rfl rfl rfl ⟨_, rfl, bad H2.pure (by decide) fun h => (by have := h.modeOk; rw [g5] at this; cases this)⟩)
  simp [pickV] at g5
  (repeat (first | refine WO.run tabOk rfl rfl ?_ | refine WO.nil ?_ | refine WO.skip rfl rfl rfl ?_ | refine WO.pu tabOk rfl rfl rfl rfl ?_ | refine W.seq ?_ | refine W.region ?_ | refine W.block ?_ | refine W.skip ?_ | refine W.exit ?_))
  refine W.loopS [0, 2, 3, 5, 8, 9, 10, 45, 46, 47] (fun i : Nat => [(0, .slice a t.length c), (2, .int .i64 item), (3, .int .i64 mode), (5, .pointer (some ⟨b5, 0, none⟩)), (8, .slice none 0 0), (9, .bool false), (10, .int .i64 0), (45, .slice a t.length c), (46, .int .i64 t.length), (47, .int .i64 i)])
    (fun i w' => i ≤ t.length ∧ (∀ j x, j < i → t[j]? = some x → ∀ q ∈ x.2.2, q.1 ≠ tx) ∧ St (at0 w) w' [blk b5 3 [.int .i64 tx]] []) (fun i => t.length - i) 0 rfl ⟨Nat.zero_le _, fun j x hj => (by omega), H2⟩ ?_
  clear H2 hp2
  rintro i w3 ⟨hi, hno, H⟩
  have hlen := hv.len
  (repeat (first | refine WO.run tabOk rfl rfl ?_ | refine WO.nil ?_ | refine WO.skip rfl rfl rfl ?_ | refine WO.pu tabOk rfl rfl rfl rfl ?_ | refine W.seq ?_ | refine W.region ?_ | refine W.block ?_ | refine W.skip ?_ | refine W.exit ?_))
  refine W.cond rfl (fun hlt => ?_) (fun hge => ?_)
  · have hlt : i < t.length := by simpa using hlt
    obtain ⟨b, o, rfl⟩ := hH.addr (by omega)
    (repeat (first | refine WO.run tabOk rfl rfl ?_ | refine WO.nil ?_ | refine WO.skip rfl rfl rfl ?_ | refine WO.pu tabOk rfl rfl rfl rfl ?_ | refine W.seq ?_ | refine W.region ?_ | refine W.block ?_ | refine W.skip ?_ | refine W.exit ?_))
    refine WO.pv rfl rfl rfl (PureV.idxN tabOk rfl rfl rfl rfl rfl rfl (by omega)) ?_
    have hx := List.getElem?_eq_getElem hlt
    generalize t[i] = x at hx
    have hm : x ∈ t := List.mem_of_getElem? hx
    obtain ⟨a1, c1, a2, c2, hcs, hh, hq⟩ := item_elem hH hx
    refine WO.one rfl rfl rfl (OpW.loadcs tabOk rfl rfl rfl rfl rfl (hcs.pure H.pure) ?_)
    refine WO.one rfl rfl rfl (OpW.alloc rfl zero142 rfl H ?_); intro b13 w4 H4
    refine WO.act rfl rfl (OpW.storeA (i := 0) tabOk rfl rfl rfl rfl H4 rfl rfl rfl rfl rfl ?_); intro w5 H5
    (repeat (first | refine WO.run tabOk rfl rfl ?_ | refine WO.nil ?_ | refine WO.skip rfl rfl rfl ?_ | refine WO.pu tabOk rfl rfl rfl rfl ?_ | refine W.seq ?_ | refine W.region ?_ | refine W.block ?_ | refine W.skip ?_ | refine W.exit ?_ | refine WO.one rfl rfl rfl (OpW.load1 tabOk rfl rfl rfl rfl H5 (by (repeat (first | exact .head _ | refine .tail _ ?_))) rfl ?_)))
    have h5 : Holds w5 (blk b5 3 [.int .i64 tx]) := H5.holds (by simp)
    refine WO.one rfl rfl rfl (OpW.call rfl Try.call76 rfl (Calls.ret (containsLock_ok w5 a2 c2 x.2.2 (hq.pure H5.pure) 77 #[.pointer (some ⟨b5, 0, none⟩)] _ Try.call77
      (fun x hx w' hp => sameTx_ok 77 (.inl rfl) w' x tx b5 (h5.pure hp))) ?_))
    rintro _ w6 ⟨hp6, rfl⟩
    (repeat (first | refine WO.run tabOk rfl rfl ?_ | refine WO.nil ?_ | refine WO.skip rfl rfl rfl ?_ | refine WO.pu tabOk rfl rfl rfl rfl ?_ | refine W.seq ?_ | refine W.region ?_ | refine W.block ?_ | refine W.skip ?_ | refine W.exit ?_))
    refine W.cond rfl (fun h6 => ?_) (fun h6 => ?_)
    · (repeat (first | refine WO.run tabOk rfl rfl ?_ | refine WO.nil ?_ | refine WO.skip rfl rfl rfl ?_ | refine WO.pu tabOk rfl rfl rfl rfl ?_ | refine W.seq ?_ | refine W.region ?_ | refine W.block ?_ | refine W.skip ?_ | refine W.exit ?_))
      refine W.ret (ret3 Try.results52 rfl rfl rfl ⟨_, rfl, bad (H5.pure.trans hp6) (by decide) fun h => ?_⟩)
      obtain ⟨q, hq1, hq2⟩ := List.any_eq_true.1 h6
      exact h.free x hm q hq1 (by simpa using hq2)
    · (repeat (first | refine WO.run tabOk rfl rfl ?_ | refine WO.nil ?_ | refine WO.skip rfl rfl rfl ?_ | refine WO.pu tabOk rfl rfl rfl rfl ?_ | refine W.seq ?_ | refine W.region ?_ | refine W.block ?_ | refine W.skip ?_ | refine W.exit ?_))
      refine WO.pv rfl rfl rfl (PureV.addN rfl rfl rfl (by omega)) ?_
      (repeat (first | refine WO.run tabOk rfl rfl ?_ | refine WO.nil ?_ | refine WO.skip rfl rfl rfl ?_ | refine WO.pu tabOk rfl rfl rfl rfl ?_ | refine W.seq ?_ | refine W.region ?_ | refine W.block ?_ | refine W.skip ?_ | refine W.exit ?_))
      refine ⟨i + 1, rfl, ⟨by omega, ?_, (H5.drop).after hp6⟩, by omega⟩
      intro j y hj hy q hqm
      rcases Nat.lt_succ_iff_lt_or_eq.1 hj with h | rfl
      · exact hno j y h hy q hqm
      · rw [hx] at hy; cases hy
        have := List.any_eq_false.1 h6 q hqm
        simpa using this
  simp at hge
  have hok : AskOk t tx item mode := ⟨hv, ⟨g1, g2⟩, ⟨by omega, by omega⟩, g5, fun x hx => by
    obtain ⟨j, hj, rfl⟩ := List.mem_iff_getElem.1 hx
    exact hno j _ (by omega) (List.getElem?_eq_getElem hj)⟩
  clear hge hno hi
  (repeat (first | refine WO.run tabOk rfl rfl ?_ | refine WO.nil ?_ | refine WO.skip rfl rfl rfl ?_ | refine WO.pu tabOk rfl rfl rfl rfl ?_ | refine W.seq ?_ | refine W.region ?_ | refine W.block ?_ | refine W.skip ?_ | refine W.exit ?_))
  refine WO.one rfl rfl rfl (OpW.call rfl Try.call78 rfl (Calls.ret (copied_ok _ a c t (hH.pure H.pure) (valid_short hv)) ?_))
  intro tv w4 K4
  have H4 := H.take K4
  obtain ⟨ta, tc, rfl, hrd⟩ := row_rd (H4.holds (A := row 142 itemO tv t) (by simp))
  (repeat (first | refine WO.run tabOk rfl rfl ?_ | refine WO.nil ?_ | refine WO.skip rfl rfl rfl ?_ | refine WO.pu tabOk rfl rfl rfl rfl ?_ | refine W.seq ?_ | refine W.region ?_ | refine W.block ?_ | refine W.skip ?_ | refine W.exit ?_ | refine WO.one rfl rfl rfl (OpW.load1 tabOk rfl rfl rfl rfl H4 (by (repeat (first | exact .head _ | refine .tail _ ?_))) rfl ?_)))
  refine WO.pv rfl rfl rfl (PureV.build tabOk rfl rfl rfl zero145 rfl) ?_
  refine WO.one rfl rfl rfl (OpW.alloc rfl zero145 rfl H4 ?_); intro b15 w5 H5
  refine WO.act rfl rfl (OpW.storeA (i := 0) tabOk rfl rfl rfl rfl H5 rfl rfl rfl rfl rfl ?_); intro w6 H6
  (repeat (first | refine WO.run tabOk rfl rfl ?_ | refine WO.nil ?_ | refine WO.skip rfl rfl rfl ?_ | refine WO.pu tabOk rfl rfl rfl rfl ?_ | refine W.seq ?_ | refine W.region ?_ | refine W.block ?_ | refine W.skip ?_ | refine W.exit ?_))
  have hrd := hrd.weaken itemO_le
  refine WO.one rfl rfl rfl (OpW.call rfl Try.call79 rfl (Calls.ret (search_ok _ ta tc t item ?_ hv.len (fun x hx => ⟨(hv.ok x hx).lo, (hv.ok x hx).hi⟩) hv.inc (by omega) (by omega)) ?_))
  · obtain ⟨ta', tc', e, hrd⟩ := row_rd (H6.holds (A := row 142 itemO (.slice ta t.length tc) t) (by simp))
    simp only [Value.slice.injEq] at e
    obtain ⟨rfl, _, rfl⟩ := e
    exact hrd.weaken itemO_le
  rintro _ w7 ⟨hp7, k, f, rfl, hpl⟩
  have H7 := H6.after hp7
  clear H4 H5 H6 H K4 hrd
  (repeat (first | refine WO.run tabOk rfl rfl ?_ | refine WO.nil ?_ | refine WO.skip rfl rfl rfl ?_ | refine WO.pu tabOk rfl rfl rfl rfl ?_ | refine W.seq ?_ | refine W.region ?_ | refine W.block ?_ | refine W.skip ?_ | refine W.exit ?_))
  refine W.cond rfl (fun hf => ?_) (fun hf => ?_)
  · simp at hf
    subst hf
    have hk := hpl.le
    (repeat (first | refine WO.run tabOk rfl rfl ?_ | refine WO.nil ?_ | refine WO.skip rfl rfl rfl ?_ | refine WO.pu tabOk rfl rfl rfl rfl ?_ | refine W.seq ?_ | refine W.region ?_ | refine W.block ?_ | refine W.skip ?_ | refine W.exit ?_ | refine WO.one rfl rfl rfl (OpW.load1 tabOk rfl rfl rfl rfl H7 (by (repeat (first | exact .head _ | refine .tail _ ?_))) rfl ?_)))
    refine WO.one rfl rfl rfl (OpW.loadA tabOk rfl rfl rfl rfl H7 (by (repeat (first | exact .head _ | refine .tail _ ?_))) rfl rfl ?_)
    refine WO.one rfl rfl rfl (OpW.buildSlice tabOk rfl rfl rfl rfl zero145 rfl rfl rfl H7 ?_)
    intro b8 w8 H8
    refine WO.pv rfl rfl rfl (PureV.build tabOk rfl rfl rfl zero142 rfl) ?_
    refine WO.one rfl rfl rfl (OpW.buildSlice tabOk rfl rfl rfl rfl zero142 rfl rfl rfl H8 ?_)
    intro b9 w9 H9
    obtain ⟨cs, H10⟩ := (H9.to (i := 3) rfl).open_row
    have hcl := H10.raw_len.1
    have H11 := (H10.to (i := 2) rfl).close_raw (sz := 3) (n := 1) (o := 0) (cap := 1) (cs := [.int .i64 item, .slice (some ⟨b8, 0, none⟩) 1 1, .slice none 0 0]) (Nat.le_refl _) (by simp [maxLen]) (by simp) (by simp) (by intro u hu; simp at hu; rcases hu with rfl | rfl | rfl <;> rfl)
    have H12 := H11.to (i := 1) rfl
    refine WO.one rfl rfl rfl (OpW.call rfl Try.call81 rfl (Calls.ret (insertItem_ok _ _ _ _ _ _ _ _ k _ _ H12 hk (by omega) (by omega)) ?_))
    intro v' w10 H13
    (repeat (first | refine WO.run tabOk rfl rfl ?_ | refine WO.nil ?_ | refine WO.skip rfl rfl rfl ?_ | refine WO.pu tabOk rfl rfl rfl rfl ?_ | refine W.seq ?_ | refine W.region ?_ | refine W.block ?_ | refine W.skip ?_ | refine W.exit ?_))
    refine W.ret (ret3 Try.results52 rfl rfl rfl ⟨_, rfl, v', true, 0, rfl, .inr ⟨rfl, hok, ?_, ?_⟩⟩)
    · rw [place_new hpl]
    rw [place_new hpl]
    have et : hang itemO t cs = hang itemO (t.take k ++ t.drop k) cs := by rw [List.take_append_drop]
    have hkl : (t.take k).length = k := by rw [List.length_take]; omega
    have H14 := H13.to (i := 2) rfl
    rw [et] at H14
    have H15 := H14.hang_cut
    rw [hkl] at H15
    -- hang, hang, raw, raw vv, b8, b15, b5
    have H16 := (((H15.to (i := 4) rfl).close_raw (sz := 2) (n := 1) (o := 0) (cap := 1) (cs := [(tx, mode)].flatMap encLock) (Nat.le_refl _) (by simp [maxLen]) (by simp) (by simp [encLock]) (by intro u hu; simp [encLock] at hu; rcases hu with rfl | rfl <;> rfl)))
    have H17 := St.flat_close (enc := encLock) (sz := 2) (xs := [(tx, mode)]) (hl := fun _ => rfl) (h1 := fun x v hv => by simp [encLock] at hv; rcases hv with rfl | rfl <;> rfl) H16
    have H18 := ((((H17.add_nil 145 lockR).to (i := 1) rfl).item_in (i := item)).hang_one)
    have H19 := ((((H18.to (i := 1) rfl).hang_join).bring [0, 1] rfl).hang_join)
    have H20 := H19.to (i := 1) rfl
    have e2 : t.length + 1 = (t.take k ++ [(item, [(tx, mode)], [])] ++ t.drop k).length := by simp; omega
    rw [e2] at H20
    exact (St.close_row (r := itemO) H20).first
  simp at hf
  subst hf
  obtain ⟨x, hx, hxi⟩ := hpl.found.1 rfl
  obtain ⟨hstep, _⟩ := place_hit (tx := tx) (mode := mode) hpl hx
  have hm : x ∈ t := List.mem_of_getElem? hx
  have hk := (List.getElem?_eq_some_iff.1 hx).1
  obtain ⟨hl1, hl2, hmode⟩ := valid_lens hv hm
  obtain ⟨g, o, cap, cur, cs, v1, v2, e, hO, H8⟩ := open_item (H7.to (i := 1) rfl) hx
  simp only [Value.slice.injEq] at e
  obtain ⟨rfl, _, rfl⟩ := e
  clear H7
  obtain ⟨k0, k1, k2, kl⟩ := cells3 hO.here
  (repeat (first | refine WO.run tabOk rfl rfl ?_ | refine WO.nil ?_ | refine WO.skip rfl rfl rfl ?_ | refine WO.pu tabOk rfl rfl rfl rfl ?_ | refine W.seq ?_ | refine W.region ?_ | refine W.block ?_ | refine W.skip ?_ | refine W.exit ?_))
  refine WO.pv rfl rfl rfl (PureV.idxN tabOk rfl rfl rfl rfl rfl rfl (by omega)) ?_
  refine WO.one rfl rfl rfl (OpW.alloc rfl zero151 rfl H8 ?_); intro b18 w9 H9
  refine WO.act rfl rfl (OpW.storeA (i := 0) tabOk rfl rfl rfl rfl H9 rfl rfl rfl rfl rfl ?_); intro w10 H10
  clear H8 H9
  (repeat (first | refine WO.run tabOk rfl rfl ?_ | refine WO.nil ?_ | refine WO.skip rfl rfl rfl ?_ | refine WO.pu tabOk rfl rfl rfl rfl ?_ | refine W.seq ?_ | refine W.region ?_ | refine W.block ?_ | refine W.skip ?_ | refine W.exit ?_ | refine WO.one rfl rfl rfl (OpW.load1 tabOk rfl rfl rfl rfl H10 (by (repeat (first | exact .head _ | refine .tail _ ?_))) rfl ?_)))
  refine WO.one rfl rfl rfl (OpW.loadB (e := 142) (l := cur) tabOk rfl rfl rfl rfl H10 (by simp) k1 ?_)
  (repeat (first | refine WO.run tabOk rfl rfl ?_ | refine WO.nil ?_ | refine WO.skip rfl rfl rfl ?_ | refine WO.pu tabOk rfl rfl rfl rfl ?_ | refine W.seq ?_ | refine W.region ?_ | refine W.block ?_ | refine W.skip ?_ | refine W.exit ?_))
  obtain ⟨a1, c1, rfl, hrd⟩ := row_rd (H10.holds (A := row 145 lockR v1 x.2.1) (by simp))
  have h5 : Holds w10 (blk b5 3 [.int .i64 tx]) := H10.holds (by simp)
  refine WO.one rfl rfl rfl (OpW.call rfl Try.call76 rfl (Calls.ret (containsLock_ok w10 a1 c1 x.2.1 hrd 82 #[.pointer (some ⟨b5, 0, none⟩)] _ Try.call82
      (fun x hx w' hp => sameTx_ok 82 (.inr rfl) w' x tx b5 (h5.pure hp))) ?_))
  rintro _ w11 ⟨hp11, rfl⟩
  have H11 := (H10.after hp11).drew
  have hrd := (hrd.pure hp11).pure (Pure.drew w11)
  clear H10 h5
  obtain ⟨a2, c2, rfl, hrq⟩ := row_rd (H11.holds (A := row 145 lockR v2 x.2.2) (by simp))
  (repeat (first | refine WO.run tabOk rfl rfl ?_ | refine WO.nil ?_ | refine WO.skip rfl rfl rfl ?_ | refine WO.pu tabOk rfl rfl rfl rfl ?_ | refine W.seq ?_ | refine W.region ?_ | refine W.block ?_ | refine W.skip ?_ | refine W.exit ?_))
  clear bad hpl hrq
  refine W.mono (Q := fun e r w' => e = .normal ∧ Env.keep r [14, 15, 18, 19, 101] = [(14, .slice (some ⟨g, o, none⟩) t.length tc), (15, .pointer (some ⟨b15, 0, none⟩)), (18, .pointer (some ⟨b18, 0, none⟩)), (19, .bool (hasF x.2.1 tx)), (101, .bool (canF x.2.1 tx mode && (hasF x.2.1 tx || decide (x.2.2.length = 0))))] ∧
    St (at0 w) w' (blk b18 151 [.pointer (some ⟨g, o + k * 3, none⟩)] :: blk g 142 cur :: row 145 lockR (.slice a1 x.2.1.length c1) x.2.1 :: row 145 lockR (.slice a2 x.2.2.length c2) x.2.2 :: hang itemO (t.take k) (cs.take (k * 3)) :: hang itemO (t.drop (k + 1)) (cs.drop (k * 3 + 3)) :: [blk b15 145 [.int .i64 tx, .int .i64 mode]]) []) ?_ ?_
  · have hA := H11.ha (L := [blk b18 151 [.pointer (some ⟨g, o + k * 3, none⟩)], blk g 142 cur, blk b15 145 [.int .i64 tx, .int .i64 mode]]) (by simp)
    have hhere := hO.here
    refine W.regionD [0, 2, 3, 8, 11] (HA [blk b18 151 [.pointer (some ⟨g, o + k * 3, none⟩)], blk g 142 cur, blk b15 145 [.int .i64 tx, .int .i64 mode]]) [0, 1, 2, 3, 4, 5, 6, 7, 8, 9, 10, 11, 12, 13, 14, 15] rfl (by kernel_rfl) (fun _ _ _ h => nomatch h.1) ?_
    (repeat (first | refine WD.run tabOk rfl rfl ?_ | refine WD.hv rfl rfl rfl rfl rfl hA (HeldV.load1 tabOk rfl rfl rfl rfl (by (repeat (first | exact .head _ | refine .tail _ ?_))) rfl) ?_ | refine WD.hv rfl rfl rfl rfl rfl hA (HeldV.loadA tabOk rfl rfl rfl rfl (by (repeat (first | exact .head _ | refine .tail _ ?_))) rfl rfl) ?_ | refine WD.pu tabOk rfl rfl rfl rfl rfl rfl ?_))
    refine WD.hv rfl rfl rfl rfl rfl hA (HeldV.loadBA (cs := [.int .i64 x.1, .slice a1 x.2.1.length c1, .slice a2 x.2.2.length c2]) tabOk rfl rfl rfl rfl (.tail _ (.head _)) rfl hhere) ?_
    (repeat (first | refine WD.run tabOk rfl rfl ?_ | refine WD.hv rfl rfl rfl rfl rfl hA (HeldV.load1 tabOk rfl rfl rfl rfl (by (repeat (first | exact .head _ | refine .tail _ ?_))) rfl) ?_ | refine WD.hv rfl rfl rfl rfl rfl hA (HeldV.loadA tabOk rfl rfl rfl rfl (by (repeat (first | exact .head _ | refine .tail _ ?_))) rfl rfl) ?_ | refine WD.pu tabOk rfl rfl rfl rfl rfl rfl ?_))
    refine WD.oneS rfl rfl rfl rfl rfl (OpW.call rfl Try.call83 rfl (Calls.ret (can_ok _ x.1 a1 c1 x.2.1 _ rfl tx mode hrd hmode) ?_))
    rintro _ w12 ⟨hp12, rfl⟩
    have H12 := H11.after hp12
    have hA := H12.ha (L := [blk b18 151 [.pointer (some ⟨g, o + k * 3, none⟩)], blk g 142 cur, blk b15 145 [.int .i64 tx, .int .i64 mode]]) (by simp)
    refine ⟨hA, ?_⟩
    have H13 := ((((H12.bring [7] rfl).drop)))
    (repeat (first | refine WD.run tabOk rfl rfl ?_ | refine WD.hv rfl rfl rfl rfl rfl hA (HeldV.load1 tabOk rfl rfl rfl rfl (by (repeat (first | exact .head _ | refine .tail _ ?_))) rfl) ?_ | refine WD.hv rfl rfl rfl rfl rfl hA (HeldV.loadA tabOk rfl rfl rfl rfl (by (repeat (first | exact .head _ | refine .tail _ ?_))) rfl rfl) ?_ | refine WD.pu tabOk rfl rfl rfl rfl rfl rfl ?_))
    refine WD.caseG rfl rfl rfl (fun hcan => ?_) (fun hcan => ?_)
    · (repeat (first | refine WD.run tabOk rfl rfl ?_ | refine WD.hv rfl rfl rfl rfl rfl hA (HeldV.load1 tabOk rfl rfl rfl rfl (by (repeat (first | exact .head _ | refine .tail _ ?_))) rfl) ?_ | refine WD.hv rfl rfl rfl rfl rfl hA (HeldV.loadA tabOk rfl rfl rfl rfl (by (repeat (first | exact .head _ | refine .tail _ ?_))) rfl rfl) ?_ | refine WD.pu tabOk rfl rfl rfl rfl rfl rfl ?_))
      refine WD.caseG rfl rfl rfl (fun hhas => ?_) (fun hhas => ?_)
      · change hasF x.2.1 tx = true at hhas
        (repeat (first | refine WD.skip rfl rfl rfl rfl rfl ?_ | refine WD.skipS rfl rfl rfl rfl ‹HA _ _› ?_))
        (repeat (first | refine WD.run tabOk rfl rfl ?_ | refine WD.hv rfl rfl rfl rfl rfl hA (HeldV.load1 tabOk rfl rfl rfl rfl (by (repeat (first | exact .head _ | refine .tail _ ?_))) rfl) ?_ | refine WD.hv rfl rfl rfl rfl rfl hA (HeldV.loadA tabOk rfl rfl rfl rfl (by (repeat (first | exact .head _ | refine .tail _ ?_))) rfl rfl) ?_ | refine WD.pu tabOk rfl rfl rfl rfl rfl rfl ?_))
        (repeat (first | refine WD.run tabOk rfl rfl ?_ | refine WD.nil ?_))
        refine ⟨rfl, ?_, H13⟩
        show [(14, _), (15, _), (18, _), (19, Value.bool (hasF x.2.1 tx)), (101, _)] = _
        simp [hcan, hhas, pickV, undef]
      · change hasF x.2.1 tx = false at hhas
        (repeat (first | refine WD.run tabOk rfl rfl ?_ | refine WD.hv rfl rfl rfl rfl rfl hA (HeldV.load1 tabOk rfl rfl rfl rfl (by (repeat (first | exact .head _ | refine .tail _ ?_))) rfl) ?_ | refine WD.hv rfl rfl rfl rfl rfl hA (HeldV.loadA tabOk rfl rfl rfl rfl (by (repeat (first | exact .head _ | refine .tail _ ?_))) rfl rfl) ?_ | refine WD.pu tabOk rfl rfl rfl rfl rfl rfl ?_))
        refine WD.hv rfl rfl rfl rfl rfl hA (HeldV.loadB tabOk rfl rfl rfl rfl (.tail _ (.head _)) k2) ?_
        (repeat (first | refine WD.run tabOk rfl rfl ?_ | refine WD.hv rfl rfl rfl rfl rfl hA (HeldV.load1 tabOk rfl rfl rfl rfl (by (repeat (first | exact .head _ | refine .tail _ ?_))) rfl) ?_ | refine WD.hv rfl rfl rfl rfl rfl hA (HeldV.loadA tabOk rfl rfl rfl rfl (by (repeat (first | exact .head _ | refine .tail _ ?_))) rfl rfl) ?_ | refine WD.pu tabOk rfl rfl rfl rfl rfl rfl ?_))
        (repeat (first | refine WD.run tabOk rfl rfl ?_ | refine WD.nil ?_))
        refine ⟨rfl, ?_, H13⟩
        show [(14, _), (15, _), (18, _), (19, Value.bool (hasF x.2.1 tx)), (101, _)] = _
        simp [hcan, hhas, pickV]
    · (repeat (first | refine WD.skip rfl rfl rfl rfl rfl ?_ | refine WD.skipS rfl rfl rfl rfl ‹HA _ _› ?_))
      (repeat (first | refine WD.run tabOk rfl rfl ?_ | refine WD.hv rfl rfl rfl rfl rfl hA (HeldV.load1 tabOk rfl rfl rfl rfl (by (repeat (first | exact .head _ | refine .tail _ ?_))) rfl) ?_ | refine WD.hv rfl rfl rfl rfl rfl hA (HeldV.loadA tabOk rfl rfl rfl rfl (by (repeat (first | exact .head _ | refine .tail _ ?_))) rfl rfl) ?_ | refine WD.pu tabOk rfl rfl rfl rfl rfl rfl ?_))
      (repeat (first | refine WD.run tabOk rfl rfl ?_ | refine WD.nil ?_))
      refine ⟨rfl, ?_, H13⟩
      show [(14, _), (15, _), (18, _), (19, Value.bool (hasF x.2.1 tx)), (101, _)] = _
      simp [hcan, pickV, undef]
  rintro _ r w12 ⟨rfl, hr, H12⟩
  clear H11 hrd
  show W _ _ _ _ _ _
  refine W.keep [14, 15, 18, 19, 101] ?_
  rw [hr]
  clear hr r
  have hhere := hO.here
  (repeat (first | refine WO.run tabOk rfl rfl ?_ | refine WO.nil ?_ | refine WO.skip rfl rfl rfl ?_ | refine WO.pu tabOk rfl rfl rfl rfl ?_ | refine W.seq ?_ | refine W.region ?_ | refine W.block ?_ | refine W.skip ?_ | refine W.exit ?_))
  refine W.cond rfl (fun hgo => ?_) (fun hgo => ?_)
  ·
    (repeat (first | refine WO.run tabOk rfl rfl ?_ | refine WO.nil ?_ | refine WO.skip rfl rfl rfl ?_ | refine WO.pu tabOk rfl rfl rfl rfl ?_ | refine W.seq ?_ | refine W.region ?_ | refine W.block ?_ | refine W.skip ?_ | refine W.exit ?_ | refine WO.one rfl rfl rfl (OpW.load1 tabOk rfl rfl rfl rfl H12 (by (repeat (first | exact .head _ | refine .tail _ ?_))) rfl ?_)))
    refine WO.one rfl rfl rfl (OpW.loadA tabOk rfl rfl rfl rfl H12 (by (repeat (first | exact .head _ | refine .tail _ ?_))) rfl rfl ?_)
    have Hg := H12.bring [1, 2] rfl
    refine WO.one rfl rfl rfl (OpW.call rfl Try.call84 rfl (Calls.ret (give_ok _ _ _ _ g (o + k * 3) cur x.1 _ _ x.2.1 tx mode Hg hhere rfl (by omega)) ?_))
    rintro _ w13 ⟨u1, H13⟩
    (repeat (first | refine WO.run tabOk rfl rfl ?_ | refine WO.nil ?_ | refine WO.skip rfl rfl rfl ?_ | refine WO.pu tabOk rfl rfl rfl rfl ?_ | refine W.seq ?_ | refine W.region ?_ | refine W.block ?_ | refine W.skip ?_ | refine W.exit ?_))
    have ha : askItem x tx mode = ((x.1, giveF x.2.1 tx mode, x.2.2), true) := by rw [askItem, if_pos hgo]
    refine W.ret (ret3 Try.results52 rfl rfl rfl ⟨_, rfl, _, true, 0, rfl, .inr ⟨rfl, hok, ?_, ?_⟩⟩)
    · rw [hstep, ha]
    have hw1 := hO.win1 u1
    have H14 := close_item (q := x.2.2) (h := giveF x.2.1 tx mode) hO (H13.bring [0, 1, 3, 4, 5] rfl) hw1.2 hw1.1
    rw [hstep, ha]
    exact H14.first

  (repeat (first | refine WO.run tabOk rfl rfl ?_ | refine WO.nil ?_ | refine WO.skip rfl rfl rfl ?_ | refine WO.pu tabOk rfl rfl rfl rfl ?_ | refine W.seq ?_ | refine W.region ?_ | refine W.block ?_ | refine W.skip ?_ | refine W.exit ?_))
  have H12 := H12.drew
  have hA := H12.ha (L := [blk b18 151 [.pointer (some ⟨g, o + k * 3, none⟩)], blk g 142 cur, blk b15 145 [.int .i64 tx, .int .i64 mode]]) (by simp)
  refine W.regionD [0, 1, 4, 5] (HA [blk b18 151 [.pointer (some ⟨g, o + k * 3, none⟩)], blk g 142 cur, blk b15 145 [.int .i64 tx, .int .i64 mode]]) [0, 1, 2, 3, 4, 5, 6, 7, 8, 9, 10] rfl (by kernel_rfl) (fun _ _ _ h => h) ?_
  (repeat (first | refine WD.run tabOk rfl rfl ?_ | refine WD.hv rfl rfl rfl rfl rfl hA (HeldV.load1 tabOk rfl rfl rfl rfl (by (repeat (first | exact .head _ | refine .tail _ ?_))) rfl) ?_ | refine WD.hv rfl rfl rfl rfl rfl hA (HeldV.loadA tabOk rfl rfl rfl rfl (by (repeat (first | exact .head _ | refine .tail _ ?_))) rfl rfl) ?_ | refine WD.pu tabOk rfl rfl rfl rfl rfl rfl ?_))
  refine WD.hv rfl rfl rfl rfl rfl hA (HeldV.loadB tabOk rfl rfl rfl rfl (.tail _ (.head _)) k2) ?_
  (repeat (first | refine WD.run tabOk rfl rfl ?_ | refine WD.hv rfl rfl rfl rfl rfl hA (HeldV.load1 tabOk rfl rfl rfl rfl (by (repeat (first | exact .head _ | refine .tail _ ?_))) rfl) ?_ | refine WD.hv rfl rfl rfl rfl rfl hA (HeldV.loadA tabOk rfl rfl rfl rfl (by (repeat (first | exact .head _ | refine .tail _ ?_))) rfl rfl) ?_ | refine WD.pu tabOk rfl rfl rfl rfl rfl rfl ?_))
  refine WD.oneS rfl rfl rfl rfl rfl (OpW.buildSlice tabOk rfl rfl rfl rfl zero145 rfl rfl rfl H12 ?_)
  intro b13 w13 H13
  refine ⟨H13.ha (by simp), ?_⟩
  have hsh := shows_blk (sz := 2) (m := 1) (e := 145) (l := [.int .i64 tx, .int .i64 mode]) H13 (b := b13) (by simp) rfl (by intro u hu; simp at hu; rcases hu with rfl | rfl <;> rfl)
  have H14 := (H13.to (i := 4) rfl).flat_open
  refine WD.oneS rfl rfl rfl rfl rfl (OpW.append tabOk rfl rfl rfl zero145 rfl rfl rfl rfl H14 hsh (by omega) (by simp only [maxLen]; omega) ?_)
  intro v2' w14 H15 _
  refine ⟨H15.ha (by simp), ?_⟩
  (repeat (first | refine WD.run tabOk rfl rfl ?_ | refine WD.nil ?_))
  obtain ⟨av', capv', rfl, _⟩ := H15.raw_len.2.2
  refine WD.act rfl rfl rfl rfl (by kernel_rfl) (OpW.storeB (i := 3) tabOk rfl rfl rfl rfl H15 rfl (by intro u hu; simp [cellsL] at hu; subst hu; rfl) rfl (by simp [cellsL]; omega) ?_)
  intro w15 H16
  have e10 : x.2.2.flatMap encLock ++ [.int .i64 tx, .int .i64 mode] = (x.2.2 ++ [(tx, mode)]).flatMap encLock := by simp [encLock]
  have H17 := H16.to (i := 1) rfl
  rw [e10, show x.2.2.length + 1 = (x.2.2 ++ [(tx, mode)]).length by simp] at H17
  have H18 := St.flat_close (enc := encLock) (sz := 2) (hl := fun _ => rfl) (h1 := fun x v hv => by simp [encLock] at hv; rcases hv with rfl | rfl <;> rfl) H17
  change St (at0 w) w15 (row 145 lockR (.slice av' (x.2.2 ++ [(tx, mode)]).length capv') (x.2.2 ++ [(tx, mode)]) :: blk g 142 (spliceL cur (o + k * 3 + 2) [.slice av' (x.2.2 ++ [(tx, mode)]).length capv']) :: _) [] at H18
  have hw2 := hO.win2 (.slice av' (x.2.2 ++ [(tx, mode)]).length capv')
  have hc1 : (spliceL cur (o + k * 3 + 2) [.slice av' (x.2.2 ++ [(tx, mode)]).length capv'])[o + k * 3 + 1]? = some (.slice a1 x.2.1.length c1) := by
    rw [splice_get (by simp; omega), if_pos (by omega)]; exact k1
  have hc2 : (spliceL cur (o + k * 3 + 2) [.slice av' (x.2.2 ++ [(tx, mode)]).length capv'])[o + k * 3 + 2]? = some (.slice av' (x.2.2 ++ [(tx, mode)]).length capv') := by
    rw [splice_get (by simp; omega), if_neg (by omega), if_pos (by simp)]; simp
  generalize spliceL cur (o + k * 3 + 2) [.slice av' (x.2.2 ++ [(tx, mode)]).length capv'] = cur2 at H18 hw2 hc1 hc2
  clear H12 H13 H14 H15 H16 H17 hA hsh
  (repeat (first | refine WD.run tabOk rfl rfl ?_ | refine WD.nil ?_))
  (repeat (first | refine WO.run tabOk rfl rfl ?_ | refine WO.nil ?_ | refine WO.skip rfl rfl rfl ?_ | refine WO.pu tabOk rfl rfl rfl rfl ?_ | refine W.seq ?_ | refine W.region ?_ | refine W.block ?_ | refine W.skip ?_ | refine W.exit ?_))
  refine W.cond rfl (fun hhas => ?_) (fun hhas => ?_)
  · (repeat (first | refine WO.run tabOk rfl rfl ?_ | refine WO.nil ?_ | refine WO.skip rfl rfl rfl ?_ | refine WO.pu tabOk rfl rfl rfl rfl ?_ | refine W.seq ?_ | refine W.region ?_ | refine W.block ?_ | refine W.skip ?_ | refine W.exit ?_))
    obtain ⟨av2, cv2, eQ, hrQ⟩ := row_rd (H18.holds (A := row 145 lockR (.slice av' (x.2.2 ++ [(tx, mode)]).length capv') (x.2.2 ++ [(tx, mode)])) (by simp))
    simp only [Value.slice.injEq] at eQ
    obtain ⟨rfl, _, rfl⟩ := eQ
    obtain ⟨gq, oq, rfl⟩ := hrQ.addr (by simp)
    clear hrQ
    have hQl : (x.2.2 ++ [(tx, mode)]).length = x.2.2.length + 1 := by simp
    have hQt : (x.2.2 ++ [(tx, mode)]).take x.2.2.length = x.2.2 := by simp
    have hQg : ∀ j, j < x.2.2.length → (x.2.2 ++ [(tx, mode)])[j]? = x.2.2[j]? := fun j hj => List.getElem?_append_left hj
    generalize hQ : x.2.2 ++ [(tx, mode)] = Q at *
    refine WO.one rfl rfl rfl (OpW.alloc rfl zero3 rfl H18 ?_); intro b20 w16 H19
    refine WO.act rfl rfl (OpW.storeA (i := 0) tabOk rfl rfl rfl rfl H19 rfl rfl rfl rfl rfl ?_); intro w17 H20
    (repeat (first | refine WO.run tabOk rfl rfl ?_ | refine WO.nil ?_ | refine WO.skip rfl rfl rfl ?_ | refine WO.pu tabOk rfl rfl rfl rfl ?_ | refine W.seq ?_ | refine W.region ?_ | refine W.block ?_ | refine W.skip ?_ | refine W.exit ?_))
    clear H18 H19
    refine W.loopS [14, 15, 18, 20] (fun n : Nat => [(14, .slice (some ⟨g, o, none⟩) t.length tc), (15, .pointer (some ⟨b15, 0, none⟩)), (18, .pointer (some ⟨b18, 0, none⟩)), (20, .pointer (some ⟨b20, 0, none⟩))])
      (fun n w' => n ≤ x.2.2.length ∧ (∀ j q, j < n → x.2.2[j]? = some q → hasF x.2.1 q.1 = true) ∧ St (at0 w) w' (blk b20 3 [.int .i64 n] :: row 145 lockR (.slice (some ⟨gq, oq, none⟩) Q.length capv') Q :: blk g 142 cur2 :: blk b13 145 [.int .i64 tx, .int .i64 mode] :: blk b18 151 [.pointer (some ⟨g, o + k * 3, none⟩)] :: row 145 lockR (.slice a1 x.2.1.length c1) x.2.1 :: hang itemO (t.take k) (cs.take (k * 3)) :: hang itemO (t.drop (k + 1)) (cs.drop (k * 3 + 3)) :: [blk b15 145 [.int .i64 tx, .int .i64 mode]]) []) (fun n => x.2.2.length - n) 0 rfl
      ⟨Nat.zero_le _, fun j q hj => (by omega), H20⟩ ?_
    clear H20
    rintro n w18 ⟨hn, hpre, H⟩
    refine W.seq ?_
    refine W.seq ?_
    refine W.mono (Q := fun e r w' => e = .normal ∧ Env.keep r [14, 15, 18, 20, 132] = [(14, .slice (some ⟨g, o, none⟩) t.length tc), (15, .pointer (some ⟨b15, 0, none⟩)), (18, .pointer (some ⟨b18, 0, none⟩)), (20, .pointer (some ⟨b20, 0, none⟩)), (132, .bool (match x.2.2[n]? with | some y => hasF x.2.1 y.1 | none => false))] ∧
      St (at0 w) w' (blk b20 3 [.int .i64 n] :: row 145 lockR (.slice (some ⟨gq, oq, none⟩) Q.length capv') Q :: blk g 142 cur2 :: blk b13 145 [.int .i64 tx, .int .i64 mode] :: blk b18 151 [.pointer (some ⟨g, o + k * 3, none⟩)] :: row 145 lockR (.slice a1 x.2.1.length c1) x.2.1 :: hang itemO (t.take k) (cs.take (k * 3)) :: hang itemO (t.drop (k + 1)) (cs.drop (k * 3 + 3)) :: [blk b15 145 [.int .i64 tx, .int .i64 mode]]) []) ?_ ?_
    · have H := H.drew
      have hA := H.ha (L := [blk b20 3 [.int .i64 n], blk b18 151 [.pointer (some ⟨g, o + k * 3, none⟩)], blk g 142 cur2]) (by simp)
      refine W.regionD [0, 1, 4, 9, 12] (HA [blk b20 3 [.int .i64 n], blk b18 151 [.pointer (some ⟨g, o + k * 3, none⟩)], blk g 142 cur2]) [0, 1, 2, 3, 4, 5, 6, 7, 8, 9, 10, 11, 12, 13, 14, 15] rfl (by kernel_rfl) (fun _ _ _ h => nomatch h.1) ?_
      (repeat (first | refine WD.run tabOk rfl rfl ?_ | refine WD.hv rfl rfl rfl rfl rfl hA (HeldV.load1 tabOk rfl rfl rfl rfl (by (repeat (first | exact .head _ | refine .tail _ ?_))) rfl) ?_ | refine WD.hv rfl rfl rfl rfl rfl hA (HeldV.loadA tabOk rfl rfl rfl rfl (by (repeat (first | exact .head _ | refine .tail _ ?_))) rfl rfl) ?_ | refine WD.pu tabOk rfl rfl rfl rfl rfl rfl ?_))
      refine WD.hv rfl rfl rfl rfl rfl hA (HeldV.loadB tabOk rfl rfl rfl rfl (.tail _ (.tail _ (.head _))) hc2) ?_
      (repeat (first | refine WD.run tabOk rfl rfl ?_ | refine WD.hv rfl rfl rfl rfl rfl hA (HeldV.load1 tabOk rfl rfl rfl rfl (by (repeat (first | exact .head _ | refine .tail _ ?_))) rfl) ?_ | refine WD.hv rfl rfl rfl rfl rfl hA (HeldV.loadA tabOk rfl rfl rfl rfl (by (repeat (first | exact .head _ | refine .tail _ ?_))) rfl rfl) ?_ | refine WD.pu tabOk rfl rfl rfl rfl rfl rfl ?_))
      refine WD.pv rfl rfl rfl rfl rfl (PureV.subN rfl rfl rfl (by omega) (by omega)) ?_
      (repeat (first | refine WD.run tabOk rfl rfl ?_ | refine WD.hv rfl rfl rfl rfl rfl hA (HeldV.load1 tabOk rfl rfl rfl rfl (by (repeat (first | exact .head _ | refine .tail _ ?_))) rfl) ?_ | refine WD.hv rfl rfl rfl rfl rfl hA (HeldV.loadA tabOk rfl rfl rfl rfl (by (repeat (first | exact .head _ | refine .tail _ ?_))) rfl rfl) ?_ | refine WD.pu tabOk rfl rfl rfl rfl rfl rfl ?_))
      refine WD.caseG rfl rfl rfl (fun hlt => ?_) (fun hlt => ?_)
      · have hlt : n < x.2.2.length := by simp at hlt; omega
        have hy := List.getElem?_eq_getElem hlt
        generalize x.2.2[n] = y at hy
        (repeat (first | refine WD.run tabOk rfl rfl ?_ | refine WD.hv rfl rfl rfl rfl rfl hA (HeldV.load1 tabOk rfl rfl rfl rfl (by (repeat (first | exact .head _ | refine .tail _ ?_))) rfl) ?_ | refine WD.hv rfl rfl rfl rfl rfl hA (HeldV.loadA tabOk rfl rfl rfl rfl (by (repeat (first | exact .head _ | refine .tail _ ?_))) rfl rfl) ?_ | refine WD.pu tabOk rfl rfl rfl rfl rfl rfl ?_))
        refine WD.hv rfl rfl rfl rfl rfl hA (HeldV.loadB tabOk rfl rfl rfl rfl (.tail _ (.tail _ (.head _))) hc1) ?_
        (repeat (first | refine WD.run tabOk rfl rfl ?_ | refine WD.hv rfl rfl rfl rfl rfl hA (HeldV.load1 tabOk rfl rfl rfl rfl (by (repeat (first | exact .head _ | refine .tail _ ?_))) rfl) ?_ | refine WD.hv rfl rfl rfl rfl rfl hA (HeldV.loadA tabOk rfl rfl rfl rfl (by (repeat (first | exact .head _ | refine .tail _ ?_))) rfl rfl) ?_ | refine WD.pu tabOk rfl rfl rfl rfl rfl rfl ?_))
        obtain ⟨a1', c1', e1, hrh⟩ := row_rd (H.holds (A := row 145 lockR (.slice a1 x.2.1.length c1) x.2.1) (by simp))
        obtain ⟨aq', cq', e2, hrq⟩ := row_rd (H.holds (A := row 145 lockR (.slice (some ⟨gq, oq, none⟩) Q.length capv') Q) (by simp))
        simp only [Value.slice.injEq] at e1 e2
        obtain ⟨rfl, _, rfl⟩ := e1
        obtain ⟨rfl, _, rfl⟩ := e2
        have h18 : Holds w18.drew (blk b18 151 [.pointer (some ⟨g, o + k * 3, none⟩)]) := H.holds (by simp)
        have h20 : Holds w18.drew (blk b20 3 [.int .i64 n]) := H.holds (by simp)
        have hgc : Holds w18.drew (blk g 142 cur2) := H.holds (by simp)
        refine WD.oneS rfl rfl rfl rfl rfl (OpW.call rfl Try.call76 rfl (Calls.ret (containsLock_ok _ a1 c1 x.2.1 hrh 85 #[.pointer (some ⟨b18, 0, none⟩), .pointer (some ⟨b20, 0, none⟩)] _ Try.call85
          (fun z hz w' hp => queueTx_ok w' z b18 b20 g (o + k * 3) n capv' cur2 _ Q y (h18.pure hp) (h20.pure hp) (hgc.pure hp) hc2 (hrq.pure hp) (by rw [hQg n hlt]; exact hy))) ?_))
        rintro _ w19 ⟨hp19, rfl⟩
        have H := H.after hp19
        refine ⟨H.ha (by simp), ?_⟩
        (repeat (first | refine WD.run tabOk rfl rfl ?_ | refine WD.nil ?_))
        refine ⟨rfl, ?_, H⟩
        show [(14, _), (15, _), (18, _), (20, _), (132, _)] = _
        simp [hy, pickV, hasF]
      · have hlt : ¬ n < x.2.2.length := by simp at hlt; omega
        (repeat (first | refine WD.skip rfl rfl rfl rfl rfl ?_ | refine WD.skipS rfl rfl rfl rfl ‹HA _ _› ?_))
        (repeat (first | refine WD.run tabOk rfl rfl ?_ | refine WD.hv rfl rfl rfl rfl rfl hA (HeldV.load1 tabOk rfl rfl rfl rfl (by (repeat (first | exact .head _ | refine .tail _ ?_))) rfl) ?_ | refine WD.hv rfl rfl rfl rfl rfl hA (HeldV.loadA tabOk rfl rfl rfl rfl (by (repeat (first | exact .head _ | refine .tail _ ?_))) rfl rfl) ?_ | refine WD.pu tabOk rfl rfl rfl rfl rfl rfl ?_))
        (repeat (first | refine WD.run tabOk rfl rfl ?_ | refine WD.nil ?_))
        refine ⟨rfl, ?_, H⟩
        show [(14, _), (15, _), (18, _), (20, _), (132, _)] = _
        rw [List.getElem?_eq_none (by omega)]
        simp [pickV, undef]
    rintro _ r w19 ⟨rfl, hr, H⟩
    show W _ _ _ _ _ _
    refine W.keep [14, 15, 18, 20, 132] ?_
    rw [hr]
    clear hr r
    (repeat (first | refine WO.run tabOk rfl rfl ?_ | refine WO.nil ?_ | refine WO.skip rfl rfl rfl ?_ | refine WO.pu tabOk rfl rfl rfl rfl ?_ | refine W.seq ?_ | refine W.region ?_ | refine W.block ?_ | refine W.skip ?_ | refine W.exit ?_))
    refine W.cond rfl (fun hgo => ?_) (fun hgo => ?_)
    · (repeat (first | refine WO.run tabOk rfl rfl ?_ | refine WO.nil ?_ | refine WO.skip rfl rfl rfl ?_ | refine WO.pu tabOk rfl rfl rfl rfl ?_ | refine W.seq ?_ | refine W.region ?_ | refine W.block ?_ | refine W.skip ?_ | refine W.exit ?_ | refine WO.one rfl rfl rfl (OpW.load1 tabOk rfl rfl rfl rfl H (by (repeat (first | exact .head _ | refine .tail _ ?_))) rfl ?_)))
      refine WO.pv rfl rfl rfl (PureV.addN rfl rfl rfl (by omega)) ?_
      have hlt : n < x.2.2.length := by
        rcases Nat.lt_or_ge n x.2.2.length with h | h
        · exact h
        · rw [List.getElem?_eq_none h] at hgo; cases hgo
      refine WO.act rfl rfl (OpW.storeA (i := 0) tabOk rfl rfl rfl rfl H rfl rfl rfl rfl rfl ?_); intro w20 H'
      (repeat (first | refine WO.run tabOk rfl rfl ?_ | refine WO.nil ?_ | refine WO.skip rfl rfl rfl ?_ | refine WO.pu tabOk rfl rfl rfl rfl ?_ | refine W.seq ?_ | refine W.region ?_ | refine W.block ?_ | refine W.skip ?_ | refine W.exit ?_))
      refine ⟨n + 1, rfl, ⟨by omega, fun j q hj hq => ?_, H'⟩, by omega⟩
      rcases Nat.lt_succ_iff_lt_or_eq.1 hj with h | rfl
      · exact hpre j q h hq
      · rw [hq] at hgo; exact hgo
    · have hna : aheadF x = n := takeWhile_len hn hpre (fun y hy => by rw [hy] at hgo; exact hgo)
      (repeat (first | refine WO.run tabOk rfl rfl ?_ | refine WO.nil ?_ | refine WO.skip rfl rfl rfl ?_ | refine WO.pu tabOk rfl rfl rfl rfl ?_ | refine W.seq ?_ | refine W.region ?_ | refine W.block ?_ | refine W.skip ?_ | refine W.exit ?_))
      have H := H.drew
      have hA := H.ha (L := [blk b20 3 [.int .i64 n], blk b18 151 [.pointer (some ⟨g, o + k * 3, none⟩)], blk g 142 cur2, blk b15 145 [.int .i64 tx, .int .i64 mode]]) (by simp)
      refine W.regionD [0, 1, 4, 5, 8, 12, 13] (HA [blk b20 3 [.int .i64 n], blk b18 151 [.pointer (some ⟨g, o + k * 3, none⟩)], blk g 142 cur2, blk b15 145 [.int .i64 tx, .int .i64 mode]]) [0, 1, 2, 3, 4, 5, 6, 7, 8, 9, 10, 11, 12, 13, 14, 15, 16, 17, 18] rfl (by kernel_rfl) (fun _ _ _ h => h) ?_
      (repeat (first | refine WD.run tabOk rfl rfl ?_ | refine WD.hv rfl rfl rfl rfl rfl hA (HeldV.load1 tabOk rfl rfl rfl rfl (by (repeat (first | exact .head _ | refine .tail _ ?_))) rfl) ?_ | refine WD.hv rfl rfl rfl rfl rfl hA (HeldV.loadA tabOk rfl rfl rfl rfl (by (repeat (first | exact .head _ | refine .tail _ ?_))) rfl rfl) ?_ | refine WD.pu tabOk rfl rfl rfl rfl rfl rfl ?_))
      refine WD.hv rfl rfl rfl rfl rfl hA (HeldV.loadB tabOk rfl rfl rfl rfl (.tail _ (.tail _ (.head _))) hc2) ?_
      (repeat (first | refine WD.run tabOk rfl rfl ?_ | refine WD.hv rfl rfl rfl rfl rfl hA (HeldV.load1 tabOk rfl rfl rfl rfl (by (repeat (first | exact .head _ | refine .tail _ ?_))) rfl) ?_ | refine WD.hv rfl rfl rfl rfl rfl hA (HeldV.loadA tabOk rfl rfl rfl rfl (by (repeat (first | exact .head _ | refine .tail _ ?_))) rfl rfl) ?_ | refine WD.pu tabOk rfl rfl rfl rfl rfl rfl ?_))
      refine WD.hv rfl rfl rfl rfl rfl hA (HeldV.loadB tabOk rfl rfl rfl rfl (.tail _ (.tail _ (.head _))) hc2) ?_
      (repeat (first | refine WD.run tabOk rfl rfl ?_ | refine WD.hv rfl rfl rfl rfl rfl hA (HeldV.load1 tabOk rfl rfl rfl rfl (by (repeat (first | exact .head _ | refine .tail _ ?_))) rfl) ?_ | refine WD.hv rfl rfl rfl rfl rfl hA (HeldV.loadA tabOk rfl rfl rfl rfl (by (repeat (first | exact .head _ | refine .tail _ ?_))) rfl rfl) ?_ | refine WD.pu tabOk rfl rfl rfl rfl rfl rfl ?_))
      refine WD.pv rfl rfl rfl rfl rfl (PureV.subN rfl rfl rfl (by omega) (by omega)) ?_
      have hcapQ := (H.to (i := 1) rfl).flat_open.raw_len.2.2
      obtain ⟨aq', cq', e2, hcq, hcm⟩ := hcapQ
      simp only [Value.slice.injEq] at e2
      obtain ⟨rfl, _, rfl⟩ := e2
      refine WD.pv rfl rfl rfl rfl rfl (PureV.slcTo tabOk rfl rfl rfl rfl rfl rfl (by omega)) ?_
      (repeat (first | refine WD.run tabOk rfl rfl ?_ | refine WD.hv rfl rfl rfl rfl rfl hA (HeldV.load1 tabOk rfl rfl rfl rfl (by (repeat (first | exact .head _ | refine .tail _ ?_))) rfl) ?_ | refine WD.hv rfl rfl rfl rfl rfl hA (HeldV.loadA tabOk rfl rfl rfl rfl (by (repeat (first | exact .head _ | refine .tail _ ?_))) rfl rfl) ?_ | refine WD.pu tabOk rfl rfl rfl rfl rfl rfl ?_))
      refine WD.oneS rfl rfl rfl rfl rfl (OpW.buildSlice tabOk rfl rfl rfl rfl zero145 rfl rfl rfl H ?_)
      intro b21 w21 H21
      refine ⟨H21.ha (by simp), ?_⟩
      have hQ1 : Q.length - 1 = x.2.2.length := by omega
      have H22 := ((H21.to (i := 2) rfl).flat_open).raw_cut (m := Q.length - 1) (by omega) (fun h => by cases h)
      rw [flat_take (enc := encLock) (sz := 2) (fun _ => rfl), hQ1, hQt, ← hQ1] at H22
      have H23 := (H22.to (i := 1) rfl).close_raw (sz := 2) (n := 1) (o := 0) (cap := 1) (cs := [(tx, mode)].flatMap encLock) (Nat.le_refl _) (by simp [maxLen]) (by simp) (by simp [encLock]) (by intro u hu; simp [encLock] at hu; rcases hu with rfl | rfl <;> rfl)
      refine WD.oneS rfl rfl rfl rfl rfl (OpW.call rfl Try.call86 rfl (Calls.ret (insertLock_ok _ _ _ _ _ _ _ _ n _ _ (H23.to (i := 1) rfl) (by omega) (by omega) (by omega)) ?_))
      intro v3 w22 H24
      refine ⟨H24.ha (by simp), ?_⟩
      (repeat (first | refine WD.run tabOk rfl rfl ?_ | refine WD.nil ?_))
      obtain ⟨a3, c3, rfl, _⟩ := H24.raw_len.2.2
      refine WD.act rfl rfl rfl rfl (by kernel_rfl) (OpW.storeB (i := 3) tabOk rfl rfl rfl rfl H24 rfl (by intro u hu; simp [cellsL] at hu; subst hu; rfl) rfl (by simp [cellsL]; omega) ?_)
      intro w23 H25
      (repeat (first | refine WD.run tabOk rfl rfl ?_ | refine WD.nil ?_))
      (repeat (first | refine WO.run tabOk rfl rfl ?_ | refine WO.nil ?_ | refine WO.skip rfl rfl rfl ?_ | refine WO.pu tabOk rfl rfl rfl rfl ?_ | refine W.seq ?_ | refine W.region ?_ | refine W.block ?_ | refine W.skip ?_ | refine W.exit ?_))
      have ha : askItem x tx mode = ((x.1, x.2.1, x.2.2.take n ++ [(tx, mode)] ++ x.2.2.drop n), false) := by rw [askItem, if_neg (by simp_all), if_pos hhas, hna]
      refine W.ret (ret3 Try.results52 rfl rfl rfl ⟨_, rfl, _, false, 0, rfl, .inr ⟨rfl, hok, ?_, ?_⟩⟩)
      · rw [hstep, ha]
      rw [hstep, ha]
      have H26 := H25.to (i := 1) rfl
      rw [flat_take (enc := encLock) (sz := 2) (fun _ => rfl), flat_drop (enc := encLock) (sz := 2) (fun _ => rfl), ← List.flatMap_append, ← List.flatMap_append] at H26
      have e4 : Q.length - 1 + 1 = (x.2.2.take n ++ [(tx, mode)] ++ x.2.2.drop n).length := by simp; omega
      rw [e4] at H26
      have H27 := St.flat_close (enc := encLock) (sz := 2) (hl := fun _ => rfl) (h1 := fun x v hv => by simp [encLock] at hv; rcases hv with rfl | rfl <;> rfl) H26
      have hof := hO.fit
      have hol := hO.le
      have hw3 := window_splice (k := k * 3 + 2) (xs := [.slice a3 (x.2.2.take n ++ [(tx, mode)] ++ x.2.2.drop n).length c3]) hw2.1 (by rw [hw2.2]; omega) (by simp; omega)
      rw [splice3d (by rw [List.length_take, hO.len]; omega)] at hw3
      have H28 := close_item (q := x.2.2.take n ++ [(tx, mode)] ++ x.2.2.drop n) (h := x.2.1) hO (H27.bring [1, 6, 0, 7, 8] rfl) (by rw [spliceL_len _ _ _ (by rw [hw2.2]; simp [cellsL]; omega), hw2.2]) hw3
      exact H28.first
  · (repeat (first | refine WO.run tabOk rfl rfl ?_ | refine WO.nil ?_ | refine WO.skip rfl rfl rfl ?_ | refine WO.pu tabOk rfl rfl rfl rfl ?_ | refine W.seq ?_ | refine W.region ?_ | refine W.block ?_ | refine W.skip ?_ | refine W.exit ?_))
    have ha : askItem x tx mode = ((x.1, x.2.1, x.2.2 ++ [(tx, mode)]), false) := by rw [askItem, if_neg (by rw [hgo]; simp), if_neg (by rw [hhas]; simp)]
    refine W.ret (ret3 Try.results52 rfl rfl rfl ⟨_, rfl, _, false, 0, rfl, .inr ⟨rfl, hok, ?_, ?_⟩⟩)
    · rw [hstep, ha]
    have H19 := close_item (q := x.2.2 ++ [(tx, mode)]) (h := x.2.1) hO (H18.bring [1, 4, 0, 5, 6] rfl) hw2.2 hw2.1
    rw [hstep, ha]
    exact H19.first
end Go.Proofs.Ytpenbdpgpamcbaa
