/- The bridge with bounds: what is read is no greater than the bulk of its reading. Conditions: each fact's own premises. -/
import Derived.Test.YtpenbdpgpamcbaaGwFork
import Derived.Test.YtpenbdpgpamcbaaRows
set_option linter.unusedVariables false
set_option linter.unusedSimpArgs false
namespace Go.Proofs.Ytpenbdpgpamcbaa.Gw
open Go Go.ChangeShapes Go.WideShapes

theorem bulk_one {H : Type} (d : DataW H) : 1 ≤ Rows.uptoBulk d := by
  cases d with
  | lit l => cases l <;> simp [Rows.uptoBulk]
  | nil => simp [Rows.uptoBulk]
  | ptr d => simp [Rows.uptoBulk]
  | slice elems spare => simp [Rows.uptoBulk]
  | agg parts => simp [Rows.uptoBulk]
  | iface t d => simp [Rows.uptoBulk]
  | map entries => simp [Rows.uptoBulk]
  | held h => simp [Rows.uptoBulk]
theorem bulk_append {H : Type} (l r : List (DataW H)) : Rows.uptoBulkAll (l ++ r) = Rows.uptoBulkAll l + Rows.uptoBulkAll r := by
  induction l with
  | nil => simp [Rows.uptoBulkAll]
  | cons x l ih => simp only [List.cons_append, Rows.uptoBulkAll, ih]; omega
theorem sum_len {α : Type} {μ : α → Nat} (h : ∀ x, 1 ≤ μ x) : ∀ (xs : List α), xs.length ≤ (xs.map μ).sum
  | [] => by simp
  | x :: xs => by have := h x; have := sum_len h xs; simp; omega
theorem sum_mem {α : Type} {μ : α → Nat} : ∀ {xs : List α} {x : α}, x ∈ xs → μ x ≤ (xs.map μ).sum
  | y :: xs, x, h => by
    rcases List.mem_cons.1 h with rfl | h
    · simp
    · have := sum_mem (μ := μ) h; simp; omega

structure BrdM (P : Program) (w : World) (t : TypeId) {α : Type} (r : Rdr α) (μ : α → Nat) : Prop where
  pos : 0 < r.sz
  cells : P.cellsOf t = r.sz
  rd : ∀ (H : Type) (enc : TypeId × Value → H) (fuel : Nat) (cs : List Value) (x : DataW H × List MemPlace), DataW.trod enc P w 0 (fun _ => true) true fuel t cs = some x → ∃ y, Seen r w (fun b => b < w.heap.size) y cs ∧ μ y ≤ Rows.uptoBulk x.1

section
variable {P : Program} {w : World}
theorem Brd.m {α : Type} {t : TypeId} {r : Rdr α} (h : Brd P w t r) : BrdM P w t r fun _ => 1 := ⟨h.pos, h.cells, fun H enc fuel cs x hx => by
  obtain ⟨y, hy⟩ := h.rd H enc fuel cs x hx
  exact ⟨y, hy, bulk_one _⟩⟩
theorem brdM_str {t : TypeId} (ht : P.underlying t = some .string) (hc : P.cellsOf t = 1) : BrdM P w t strR fun s => s.size + 1 := ⟨Nat.one_pos, hc, fun H enc fuel cs x h => by
  cases fuel with
  | zero => simp [DataW.trod] at h
  | succ n =>
    unfold DataW.trod at h
    rw [ht] at h
    match cs, h with
    | [.string s], h =>
      simp only at h
      split at h
      · simp only [Option.some.injEq] at h
        subst h
        refine ⟨s, Seen.flat s, ?_⟩
        simp [Rows.uptoBulk]
      · cases h⟩

theorem slice_readM {α : Type} {r : Rdr α} {μ : α → Nat} {T e : TypeId} (hT : P.underlying T = some (.slice e)) (hb : BrdM P w e r μ) {H : Type} {enc : TypeId × Value → H} {fuel : Nat} {cs : List Value} {x : DataW H × List MemPlace}
    (h : DataW.trod enc P w 0 (fun _ => true) true fuel T cs = some x) : ∃ a cap xs, cs = [.slice a (List.length xs) cap] ∧ ReadR r w (fun b => b < w.heap.size) a cap xs ∧ (a = none → cap = 0) ∧ (xs.map μ).sum + 1 ≤ Rows.uptoBulk x.1 := by
  rcases Go.Deep.open_slice hT h with ⟨rfl, rfl⟩ | ⟨a, len, cap, m, n, D, Pl, rfl, _, hl, hm, hmm, rfl, hel⟩
  · exact ⟨none, 0, [], rfl, ⟨Nat.le_refl _, Nat.zero_le _, fun _ h => h, fun h => absurd rfl h⟩, fun _ => rfl, by simp [Rows.uptoBulk]⟩
  have hmc : m = cap := by simpa using hmm
  subst hmc
  rw [hb.cells] at hel
  have hpos := hb.pos
  have hbulk : Rows.uptoBulkAll ((List.range len).map D) + 1 ≤ Rows.uptoBulk (DataW.slice ((List.range len).map D) ((List.range (m - len)).map fun j => D (len + j))) := by
    simp only [Rows.uptoBulk]; omega
  have each : ∀ i, i < len → ∃ y cs', Seen r w (fun b => b < w.heap.size) y cs' ∧ (∀ j, j < r.sz → w.cell? ((a.add (i * r.sz)).add j) = cs'[j]?) ∧ μ y ≤ Rows.uptoBulk (D i) := fun i hi => by
    obtain ⟨cs', h1, h2⟩ := hel i (by omega)
    obtain ⟨y, hy, hμ⟩ := hb.rd H enc _ _ _ h2
    exact ⟨y, cs', hy, (World.cells?_some h1).2.2, hμ⟩
  rcases Nat.eq_zero_or_pos len with h0 | hlen
  · subst h0
    exact ⟨some a, m, [], rfl, ⟨Nat.zero_le _, hm, fun _ h => h, fun h => absurd rfl h⟩, (fun h => by cases h), by simp at hbulk ⊢; omega⟩
  obtain ⟨y0, c0, hy0, hc0, _⟩ := each 0 hlen
  have hl0 := hy0.len
  have h00 := hc0 0 hpos
  rw [List.getElem?_eq_getElem (by omega)] at h00
  obtain ⟨hsp, cur, et, fr, hheap, _⟩ := cell_in h00
  have hblk : ((a.add (0 * r.sz)).add 0).block = a.block := by rw [(addr_add_off _ _).1, (addr_add_off _ _).1]
  rw [hblk] at hheap
  have hspa : a.spot = none := by
    rw [Nat.zero_mul] at hsp
    simpa [Addr.add] using hsp
  obtain ⟨ab, ao, asp⟩ := a
  simp only at hspa hheap
  subst hspa
  have at_ : ∀ i j, i < len → j < r.sz → ∀ cs' : List Value, (∀ j, j < r.sz → w.cell? (((⟨ab, ao, none⟩ : Addr).add (i * r.sz)).add j) = cs'[j]?) → cur[ao + i * r.sz + j]? = cs'[j]? := fun i j hi hj cs' h => by
    have := h j hj
    rw [Addr.add_lit, Addr.add_lit, cell_of_row w ab _ cur et fr hheap] at this
    exact this
  have key : ∀ k, k ≤ len → ∃ xs : List α, xs.length = k ∧ ao + k * r.sz ≤ max cur.size ao ∧ SeenL r w (fun b => b < w.heap.size) xs ((cur.toList.drop ao).take (k * r.sz)) ∧ (xs.map μ).sum ≤ Rows.uptoBulkAll ((List.range k).map D) := by
    intro k
    induction k with
    | zero => intro _; exact ⟨[], rfl, by omega, by simp [SeenL], by simp⟩
    | succ k ih =>
      intro hk
      obtain ⟨xs, hxl, hfit, hs, hsum⟩ := ih (by omega)
      obtain ⟨y, c', hy, hc', hμ⟩ := each k (by omega)
      have hl' := hy.len
      have hin : ∀ j, j < r.sz → cur[ao + k * r.sz + j]? = c'[j]? := fun j hj => at_ k j (by omega) hj c' hc'
      have hlast : ao + k * r.sz + (r.sz - 1) < cur.size := by
        have := hin (r.sz - 1) (by omega)
        rw [List.getElem?_eq_getElem (by omega)] at this
        exact (Array.getElem?_eq_some_iff.1 this).1
      have hmul : (k + 1) * r.sz = k * r.sz + r.sz := by rw [Nat.add_mul, Nat.one_mul]
      refine ⟨xs ++ [y], by simp [hxl], by omega, ?_, ?_⟩
      · have e1 : (cur.toList.drop ao).take ((k + 1) * r.sz) = (cur.toList.drop ao).take (k * r.sz) ++ c' := by
          rw [hmul, List.take_add]
          congr 1
          rw [List.drop_drop]
          apply List.ext_getElem?
          intro j
          rw [List.getElem?_take]
          split
          · rename_i hj
            rw [List.getElem?_drop, Array.getElem?_toList]
            exact hin j hj
          · rw [List.getElem?_eq_none (by omega)]
        rw [e1]
        have app : ∀ {xs : List α} {cs ds : List Value} {y : α}, SeenL r w (fun b => b < w.heap.size) xs cs → Seen r w (fun b => b < w.heap.size) y ds → SeenL r w (fun b => b < w.heap.size) (xs ++ [y]) (cs ++ ds) := by
          intro xs
          induction xs with
          | nil => intro cs ds y h1 h2; simp only [SeenL] at h1; subst h1; exact ⟨ds, [], by simp, h2, rfl⟩
          | cons z xs ih =>
            intro cs ds y ⟨c1, c2, h, k1, k2⟩ h2
            exact ⟨c1, c2 ++ ds, by rw [h, List.append_assoc], k1, ih k2 h2⟩
        exact app hs hy
      · rw [List.range_succ, List.map_append, List.map_append, bulk_append, List.sum_append]
        simp [Rows.uptoBulkAll]
        omega
  obtain ⟨xs, hxl, hfit, hs, hsum⟩ := key len (Nat.le_refl _)
  subst hxl
  have hao : ao < cur.size := by
    have := at_ 0 0 hlen hpos c0 hc0
    rw [List.getElem?_eq_getElem (by omega)] at this
    have := (Array.getElem?_eq_some_iff.1 this).1
    omega
  refine ⟨some ⟨ab, ao, none⟩, m, xs, rfl, ⟨hl, hm, fun _ h => h, fun _ => ⟨ab, ao, cur, et, fr, rfl, (Array.getElem?_eq_some_iff.1 hheap).1, hheap, by omega, hs⟩⟩, (fun h => by cases h), by show _ ≤ Rows.uptoBulk (DataW.slice _ _); omega⟩
theorem brdM_slice {α : Type} {r : Rdr α} {μ : α → Nat} {T e : TypeId} (hT : P.underlying T = some (.slice e)) (hc : P.cellsOf T = 1) (hb : BrdM P w e r μ) : BrdM P w T (Rdr.rd r) fun xs => (xs.map μ).sum + 1 := ⟨Nat.one_pos, hc, fun H enc fuel cs x h => by
  obtain ⟨a, cap, xs, rfl, hR, _, hμ⟩ := slice_readM hT hb h
  exact ⟨xs, ⟨_, ⟨a, cap, rfl, hR⟩, fun _ h => h⟩, hμ⟩⟩
theorem arg_sliceM {α : Type} {r : Rdr α} {μ : α → Nat} {T e : TypeId} {base : Nat} {H : Type} {enc : TypeId × Value → H} {v : Value} {d : DataW H} {p : List MemPlace} {rc : Reach} (hT : P.underlying T = some (.slice e)) (hb : BrdM P w e r μ) (hok : Value.okWide P w rc base T v)
    (h : DataW.Trod enc P w 0 (fun _ => true) true T v d p) : ∃ a cap xs, v = .slice a (List.length xs) cap ∧ Holds w (rd r a cap xs) ∧ (a = none → cap = 0) ∧ (xs.map μ).sum + 1 ≤ Rows.uptoBulk d := by
  obtain ⟨a, len, cap, rfl⟩ := okWide_slice hT hok
  obtain ⟨fuel, hf⟩ := h
  obtain ⟨a', cap', xs, e, hR, h0, hμ⟩ := slice_readM hT hb hf
  simp only [Value.cells, List.cons.injEq, and_true] at e
  exact ⟨a', cap', xs, e, ⟨_, hR⟩, h0, hμ⟩
/-- Structs, with their parts. -/
theorem brdM_struct {α : Type} {r : Rdr α} {μ : α → Nat} {t : TypeId} {fs : Array Field} (ht : P.underlying t = some (.struct fs)) (hpos : 0 < r.sz) (hc : P.cellsOf t = r.sz)
    (hR : ∀ cs : List Value, cs.length = r.sz → ∀ (H : Type) (enc : TypeId × Value → H) (n : Nat) (xs : List (DataW H × List MemPlace)), xs.length = fs.size → (∀ (i : Nat) (f : Field), fs[i]? = some f → DataW.trod enc P w 0 (fun _ => true) true n f.type ((cs.drop f.offset).take (P.cellsOf f.type)) = xs[i]?) →
      ∃ y, Seen r w (fun b => b < w.heap.size) y cs ∧ μ y ≤ Rows.uptoBulkAll (xs.map (·.1)) + 1) : BrdM P w t r μ := ⟨hpos, hc, fun H enc fuel cs x h => by
  obtain ⟨xs, n, _, rfl, hl, hlen, hf⟩ := DataW.trod_struct ht h
  obtain ⟨y, h1, h2⟩ := hR cs (hl.trans hc) H enc n xs hlen hf
  exact ⟨y, h1, by simp only [Rows.uptoBulk]; omega⟩⟩
end
end Go.Proofs.Ytpenbdpgpamcbaa.Gw
