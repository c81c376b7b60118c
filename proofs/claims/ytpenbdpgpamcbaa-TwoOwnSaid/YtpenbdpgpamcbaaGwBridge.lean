/- From the reading that a row hands over to what the walks know of memory; and a law's row closed. Conditions: each fact's own premises. -/
import Derived.Test.YtpenbdpgpamcbaaGwZero
import Derived.WideKeyArgs
import Derived.WideShapes
import Derived.Deep.Slices
import Derived.ChangeArms
set_option linter.unusedVariables false
set_option linter.unusedSimpArgs false
namespace Go.Proofs.Ytpenbdpgpamcbaa.Gw
open Go Go.ChangeShapes Go.WideShapes

/-- Whatever is read at this type is a datum that the reader tells. -/
structure Brd (P : Program) (w : World) (t : TypeId) {α : Type} (r : Rdr α) : Prop where
  pos : 0 < r.sz
  cells : P.cellsOf t = r.sz
  rd : ∀ (H : Type) (enc : TypeId × Value → H) (fuel : Nat) (cs : List Value) (x : DataW H × List MemPlace), DataW.trod enc P w 0 (fun _ => true) true fuel t cs = some x → ∃ y, Seen r w (fun b => b < w.heap.size) y cs

section
variable {P : Program} {w : World}
theorem Seen.flat {α : Type} {sz : Nat} {enc : α → List Value} {hl : ∀ x, (enc x).length = sz} {h1 : ∀ x, ∀ v ∈ enc x, v.oneCell' = true} {S : Nat → Prop} (x : α) : Seen (Rdr.flat sz enc hl h1) w S x (enc x) := ⟨fun _ => False, ⟨fun _ h => h, rfl⟩, fun _ h => h.elim⟩
theorem brd_int {t : TypeId} (ht : P.underlying t = some (.int .i64)) (hc : P.cellsOf t = 1) : Brd P w t i64 := ⟨Nat.one_pos, hc, fun H enc fuel cs x h => by
  cases fuel with
  | zero => simp [DataW.trod] at h
  | succ n =>
    unfold DataW.trod at h
    rw [ht] at h
    match cs, h with
    | [.int k' m], h =>
      simp only at h
      split at h
      · rename_i hk
        obtain ⟨rfl, _⟩ := hk
        exact ⟨m, Seen.flat m⟩
      · cases h⟩
theorem brd_str {t : TypeId} (ht : P.underlying t = some .string) (hc : P.cellsOf t = 1) : Brd P w t strR := ⟨Nat.one_pos, hc, fun H enc fuel cs x h => by
  cases fuel with
  | zero => simp [DataW.trod] at h
  | succ n =>
    unfold DataW.trod at h
    rw [ht] at h
    match cs, h with
    | [.string s], h => exact ⟨s, Seen.flat s⟩⟩
theorem brd_bool {t : TypeId} (ht : P.underlying t = some .bool) (hc : P.cellsOf t = 1) : Brd P w t boolR := ⟨Nat.one_pos, hc, fun H enc fuel cs x h => by
  cases fuel with
  | zero => simp [DataW.trod] at h
  | succ n =>
    unfold DataW.trod at h
    rw [ht] at h
    match cs, h with
    | [.bool s], h => exact ⟨s, Seen.flat s⟩⟩

theorem cell_in {w : World} {a : Addr} {v : Value} (h : w.cell? a = some v) : a.spot = none ∧ ∃ cur e fr, w.heap[a.block]? = some (.cells cur e fr) ∧ cur[a.off]? = some v := by
  unfold World.cell? at h
  split at h
  · rename_i cur e fr hh
    split at h
    · cases h
    · rename_i hs
      exact ⟨by simpa using hs, cur, e, fr, hh, h⟩
  · cases h
theorem addr_add_off (a : Addr) (n : Nat) : (a.add n).block = a.block ∧ (a.add n).off = a.off + n := by
  unfold Addr.add; split
  · subst_vars; simp
  · simp

/-- A slice that came in, read whole. -/
theorem slice_read {α : Type} {r : Rdr α} {T e : TypeId} (hT : P.underlying T = some (.slice e)) (hb : Brd P w e r) {H : Type} {enc : TypeId × Value → H} {fuel : Nat} {cs : List Value} {x : DataW H × List MemPlace}
    (h : DataW.trod enc P w 0 (fun _ => true) true fuel T cs = some x) : ∃ a cap xs, cs = [.slice a (List.length xs) cap] ∧ ReadR r w (fun b => b < w.heap.size) a cap xs ∧ (a = none → cap = 0) := by
  rcases Go.Deep.open_slice hT h with ⟨rfl, _⟩ | ⟨a, len, cap, m, n, D, Pl, rfl, _, hl, hm, hmm, _, hel⟩
  · exact ⟨none, 0, [], rfl, ⟨Nat.le_refl _, Nat.zero_le _, fun _ h => h, fun h => absurd rfl h⟩, fun _ => rfl⟩
  have hmc : m = cap := by simpa using hmm
  subst hmc
  rw [hb.cells] at hel
  have hpos := hb.pos
  have each : ∀ i, i < len → ∃ y cs', Seen r w (fun b => b < w.heap.size) y cs' ∧ ∀ j, j < r.sz → w.cell? ((a.add (i * r.sz)).add j) = cs'[j]? := fun i hi => by
    obtain ⟨cs', h1, h2⟩ := hel i (by omega)
    obtain ⟨y, hy⟩ := hb.rd H enc _ _ _ h2
    exact ⟨y, cs', hy, (World.cells?_some h1).2.2⟩
  rcases Nat.eq_zero_or_pos len with h0 | hlen
  · subst h0
    exact ⟨some a, m, [], rfl, ⟨Nat.zero_le _, hm, fun _ h => h, fun h => absurd rfl h⟩, fun h => by cases h⟩
  -- the block
  obtain ⟨y0, c0, hy0, hc0⟩ := each 0 hlen
  have hl0 := hy0.len
  have h00 := hc0 0 hpos
  rw [List.getElem?_eq_getElem (by omega)] at h00
  obtain ⟨hsp, cur, et, fr, hheap, _⟩ := cell_in h00
  have hblk : ((a.add (0 * r.sz)).add 0).block = a.block := by rw [(addr_add_off _ _).1, (addr_add_off _ _).1]
  rw [hblk] at hheap
  have hspa : a.spot = none := by
    rw [Nat.zero_mul] at hsp
    simpa [Addr.add] using hsp
  obtain ⟨ab, ao, asp⟩ := a
  simp only at hspa hheap
  subst hspa
  have at_ : ∀ i j, i < len → j < r.sz → ∀ cs' : List Value, (∀ j, j < r.sz → w.cell? (((⟨ab, ao, none⟩ : Addr).add (i * r.sz)).add j) = cs'[j]?) → cur[ao + i * r.sz + j]? = cs'[j]? := fun i j hi hj cs' h => by
    have := h j hj
    rw [Addr.add_lit, Addr.add_lit, cell_of_row w ab _ cur et fr hheap] at this
    exact this
  have key : ∀ k, k ≤ len → ∃ xs : List α, xs.length = k ∧ ao + k * r.sz ≤ max cur.size ao ∧ SeenL r w (fun b => b < w.heap.size) xs ((cur.toList.drop ao).take (k * r.sz)) := by
    intro k
    induction k with
    | zero => intro _; exact ⟨[], rfl, by omega, by simp [SeenL]⟩
    | succ k ih =>
      intro hk
      obtain ⟨xs, hxl, hfit, hs⟩ := ih (by omega)
      obtain ⟨y, c', hy, hc'⟩ := each k (by omega)
      have hl' := hy.len
      have hin : ∀ j, j < r.sz → cur[ao + k * r.sz + j]? = c'[j]? := fun j hj => at_ k j (by omega) hj c' hc'
      have hlast : ao + k * r.sz + (r.sz - 1) < cur.size := by
        have := hin (r.sz - 1) (by omega)
        rw [List.getElem?_eq_getElem (by omega)] at this
        exact (Array.getElem?_eq_some_iff.1 this).1
      have hmul : (k + 1) * r.sz = k * r.sz + r.sz := by rw [Nat.add_mul, Nat.one_mul]
      refine ⟨xs ++ [y], by simp [hxl], by omega, ?_⟩
      have e1 : (cur.toList.drop ao).take ((k + 1) * r.sz) = (cur.toList.drop ao).take (k * r.sz) ++ c' := by
        rw [hmul, List.take_add]
        congr 1
        rw [List.drop_drop]
        apply List.ext_getElem?
        intro j
        rw [List.getElem?_take]
        split
        · rename_i hj
          rw [List.getElem?_drop, Array.getElem?_toList]
          exact hin j hj
        · rw [List.getElem?_eq_none (by omega)]
      rw [e1]
      have app : ∀ {xs : List α} {cs ds : List Value} {y : α}, SeenL r w (fun b => b < w.heap.size) xs cs → Seen r w (fun b => b < w.heap.size) y ds → SeenL r w (fun b => b < w.heap.size) (xs ++ [y]) (cs ++ ds) := by
        intro xs
        induction xs with
        | nil => intro cs ds y h1 h2; simp only [SeenL] at h1; subst h1; exact ⟨ds, [], by simp, h2, rfl⟩
        | cons z xs ih =>
          intro cs ds y ⟨c1, c2, h, k1, k2⟩ h2
          exact ⟨c1, c2 ++ ds, by rw [h, List.append_assoc], k1, ih k2 h2⟩
      exact app hs hy
  obtain ⟨xs, hxl, hfit, hs⟩ := key len (Nat.le_refl _)
  subst hxl
  have hao : ao < cur.size := by
    have := at_ 0 0 hlen hpos c0 hc0
    rw [List.getElem?_eq_getElem (by omega)] at this
    have := (Array.getElem?_eq_some_iff.1 this).1
    omega
  refine ⟨some ⟨ab, ao, none⟩, m, xs, rfl, ⟨hl, hm, fun _ h => h, fun _ => ⟨ab, ao, cur, et, fr, rfl, (Array.getElem?_eq_some_iff.1 hheap).1, hheap, by omega, hs⟩⟩, fun h => by cases h⟩
/-- Slices within. -/
theorem brd_slice {α : Type} {r : Rdr α} {T e : TypeId} (hT : P.underlying T = some (.slice e)) (hc : P.cellsOf T = 1) (hb : Brd P w e r) : Brd P w T (Rdr.rd r) := ⟨Nat.one_pos, hc, fun H enc fuel cs x h => by
  obtain ⟨a, cap, xs, rfl, hR, _⟩ := slice_read hT hb h
  exact ⟨xs, _, ⟨a, cap, rfl, hR⟩, fun _ h => h⟩⟩
/-- An argument that is a slice. -/
theorem arg_slice {α : Type} {r : Rdr α} {T e : TypeId} {base : Nat} {H : Type} {enc : TypeId × Value → H} {v : Value} {d : DataW H} {p : List MemPlace} {rc : Reach} (hT : P.underlying T = some (.slice e)) (hb : Brd P w e r) (hok : Value.okWide P w rc base T v)
    (h : DataW.Trod enc P w 0 (fun _ => true) true T v d p) : ∃ a cap xs, v = .slice a (List.length xs) cap ∧ Holds w (rd r a cap xs) ∧ (a = none → cap = 0) := by
  obtain ⟨a, len, cap, rfl⟩ := okWide_slice hT hok
  obtain ⟨fuel, hf⟩ := h
  obtain ⟨a', cap', xs, e, hR, h0⟩ := slice_read hT hb hf
  simp only [Value.cells, List.cons.injEq, and_true] at e
  exact ⟨a', cap', xs, e, ⟨_, hR⟩, h0⟩
theorem arg_int {T : TypeId} {base : Nat} {H : Type} {enc : TypeId × Value → H} {v : Value} {d : DataW H} {p : List MemPlace} {rc : Reach} (hT : P.underlying T = some (.int .i64)) (hok : Value.okWide P w rc base T v)
    (h : DataW.Trod enc P w 0 (fun _ => true) true T v d p) : ∃ n, v = .int .i64 n ∧ -9223372036854775808 ≤ n ∧ n ≤ 9223372036854775807 := by
  obtain ⟨n, rfl, _, _, hw⟩ := open_int hT hok h
  refine ⟨n, rfl, ?_⟩
  simp only [Lit.wf, Bool.and_eq_true, decide_eq_true_eq] at hw
  simpa [IntKind.min, IntKind.max, IntKind.signed, IntKind.bits] using hw

/-- Structs: a reader out of the fields' readers, each of one cell or more. -/
theorem brd_struct {α : Type} {r : Rdr α} {t : TypeId} {fs : Array Field} (ht : P.underlying t = some (.struct fs)) (hpos : 0 < r.sz) (hc : P.cellsOf t = r.sz)
    (hR : ∀ cs : List Value, cs.length = r.sz → (∀ (i : Nat) (f : Field), fs[i]? = some f → ∃ (H : Type) (enc : TypeId × Value → H) (n : Nat) (x : DataW H × List MemPlace), DataW.trod enc P w 0 (fun _ => true) true n f.type ((cs.drop f.offset).take (P.cellsOf f.type)) = some x) → ∃ y, Seen r w (fun b => b < w.heap.size) y cs) : Brd P w t r := ⟨hpos, hc, fun H enc fuel cs x h => by
  obtain ⟨xs, n, _, _, hl, hlen, hf⟩ := DataW.trod_struct ht h
  refine hR cs (hl.trans hc) fun i f hi => ?_
  have := hf i f hi
  have hi' := (Array.getElem?_eq_some_iff.1 hi).1
  rw [List.getElem?_eq_getElem (by omega)] at this
  exact ⟨H, enc, n, _, this⟩⟩
theorem Brd.at {α : Type} {r : Rdr α} {t : TypeId} (hb : Brd P w t r) {cs : List Value} (h : ∃ (H : Type) (enc : TypeId × Value → H) (n : Nat) (x : DataW H × List MemPlace), DataW.trod enc P w 0 (fun _ => true) true n t cs = some x) : ∃ y, Seen r w (fun b => b < w.heap.size) y cs := by
  obtain ⟨H, enc, n, x, h⟩ := h
  exact hb.rd H enc n cs x h
theorem Brd.field {α : Type} {r : Rdr α} {t : TypeId} {fs : Array Field} {cs : List Value} (hb : Brd P w t r)
    (hf : ∀ (i : Nat) (f : Field), fs[i]? = some f → ∃ (H : Type) (enc : TypeId × Value → H) (n : Nat) (x : DataW H × List MemPlace), DataW.trod enc P w 0 (fun _ => true) true n f.type ((cs.drop f.offset).take (P.cellsOf f.type)) = some x)
    (i : Nat) {f : Field} (hi : fs[i]? = some f) (ht : f.type = t) {o : Nat} (ho : f.offset = o) : ∃ y, Seen r w (fun b => b < w.heap.size) y ((cs.drop o).take r.sz) := by
  have h := hf i f hi
  rw [ht, ho, hb.cells] at h
  exact hb.at h
end

/-! ### A law's row -/
theorem Pure.sameAt {W W' : World} (h : Pure W W') {p : MemPlace} (hp : p.block < W.heap.size) : W.sameAt W' p := by
  have := h.same _ hp
  cases p with
  | cell b o => simp only [World.sameAt, World.cell?, MemPlace.block] at this ⊢; rw [this]
  | map b => simp only [World.sameAt, MemPlace.block] at this ⊢; rw [this]
theorem trodAll_stays {P : Program} {H : Type} {enc : TypeId × Value → H} (hl : laidOutB P = true) {W W' : World} {sp : Nat → Bool} : ∀ {ts : List TypeId} {vs : List Value} {ds : List (DataW H)} {ps : List MemPlace},
    (ts.all fun t => P.readableRec t && decide (t < P.types.size)) = true → DataW.TrodAll enc P W 0 (fun _ => true) true ts vs ds ps → (∀ p ∈ ps, W.sameAt W' p) → (∀ p ∈ ps, sp p.block = true) → DataW.TrodAll enc P W' 0 sp true ts vs ds ps
  | [], [], [], _, _, h, _, _ => h
  | t :: ts, v :: vs, d :: ds, ps, ht, ⟨p, q, h1, h2, e⟩, hw, hs => by
    simp only [List.all_cons, Bool.and_eq_true, decide_eq_true_eq] at ht
    subst e
    exact ⟨p, q, Go.WideElems.Trod_stays hl ht.1.1 ht.1.2 h1 (fun x hx => hw x (by simp [hx])) (fun x hx => hs x (by simp [hx])), trodAll_stays hl ht.2 h2 (fun x hx => hw x (by simp [hx])) (fun x hx => hs x (by simp [hx])), rfl⟩
theorem Pure.kept {W W' : World} (h : Pure W W') (may : MemPlace → Prop) : W.keptBut W' may := by
  refine ⟨h.like.os, h.like.output, fun i hi => ?_⟩
  rw [h.same i hi]
  cases hh : W.heap[i]? with
  | none => exact rfl
  | some o => cases o <;> simp

theorem law_post {P : Program} {H : Type} {enc : TypeId × Value → H} {f : Func} {s : ChangeSpec} {W W' : World} {args : Array Value} {ds gs : List (DataW H)} {before : List MemPlace} {tb : TypeId} {fresh handsOn : Bool}
    (hl : laidOutB P = true) (hts : (f.params.toList.all fun t => P.readableRec t && decide (t < P.types.size)) = true) (hv : s.vars = []) (hr : f.resultTypes = #[tb]) (hb : P.underlying tb = some .bool)
    (hW : DataW.Whole enc P f.params.toList s.vars false W args.toList ds gs before) (hp : Pure W W') (hfn : s.fn H (ds ++ gs) = { results := [.lit (.bool true)], args := ds }) :
    s.post enc P f false fresh handsOn false W args (.bool true) W' := by
  obtain ⟨p, q, h1, h2, rfl, hz, hn⟩ := id hW
  have hlt : ∀ x ∈ p ++ q, x.block < W.heap.size := fun x hx => hW.lt x hx
  rw [hv] at h2
  have hq : q = [] ∧ gs = [] := by
    cases gs with
    | nil => exact ⟨h2, rfl⟩
    | cons g gs => exact h2.elim
  obtain ⟨rfl, rfl⟩ := hq
  refine ⟨ds, [], p ++ [], [], p, [], hW, ?_, ?_, ?_, hp.kept _, fun h => by cases h⟩
  · rw [hfn, hr]
    refine ⟨[], [], ⟨1, ?_⟩, rfl, rfl⟩
    simp [Value.resultList, DataW.trod, hb, Value.cells]
  · rw [hfn]
    exact trodAll_stays hl hts h1 (fun x hx => hp.sameAt (hlt x (by simp [hx]))) (fun x hx => by simpa using hlt x (by simp [hx]))
  · rw [hfn, hv]; rfl
end Go.Proofs.Ytpenbdpgpamcbaa.Gw
