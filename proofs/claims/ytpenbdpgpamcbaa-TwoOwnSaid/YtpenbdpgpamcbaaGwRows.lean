/- Rows: lists and makes, append, copy, cuts, elements read and written. Conditions: each rule's own premises. -/
import Derived.Test.YtpenbdpgpamcbaaGwRules
set_option linter.unusedVariables false
set_option linter.unusedSimpArgs false
namespace Go.Proofs.Ytpenbdpgpamcbaa.Gw
open Go

/-- These cells lie at an address. -/
def CellsAt (w : World) (a : Addr) (cs : List Value) : Prop := ∀ j v, cs[j]? = some v → w.cell? (a.add j) = some v
/-- These cells, m elements, are what a slice value shows. -/
def Shows (w : World) (sz : Nat) (a : Option Addr) (m : Nat) (cs : List Value) : Prop := cs.length = m * sz ∧ (∀ u ∈ cs, u.oneCell' = true) ∧ (m = 0 ∨ ∃ b, a = some b ∧ CellsAt w b cs)

theorem CellsAt.sub {w : World} {b o : Nat} {cs : List Value} (h : CellsAt w ⟨b, o, none⟩ cs) (k m : Nat) : CellsAt w ⟨b, o + k, none⟩ ((cs.drop k).take m) := by
  intro j v hj
  rw [List.getElem?_take] at hj
  split at hj
  · rw [List.getElem?_drop] at hj
    have := h (k + j) v hj
    rw [Addr.add_lit] at this ⊢
    rw [Nat.add_assoc]; exact this
  · cases hj
theorem cellsAt_list {w : World} {b e off : Nat} {l cs : List Value} (h : w.heap[b]? = some (.cells l.toArray e (0, 0))) (hc : (l.drop off).take cs.length = cs) : CellsAt w ⟨b, off, none⟩ cs := by
  intro j v hj
  rw [Addr.add_lit, cell_list h]
  rw [← hc, List.getElem?_take] at hj
  split at hj
  · simpa using hj
  · cases hj

section
variable {P : Program} {T : List TI} {r : Env} {o : Oper} {w : World} {K : Value → World → Prop} {c : Ctx} {Own Ro : List Asn}

/-! ### A list written out -/
def seqL (sz : Nat) : Nat → List (Nat × Value) → Option (List Value)
  | _, [] => some []
  | k, (i, v) :: rest => match Nat.beq i k with
    | false => none
    | true => match Nat.beq (cellsL v).length sz with
      | false => none
      | true => match seqL sz (k + 1) rest with
        | some l => some (cellsL v ++ l)
        | none => none
theorem seqL_len {sz : Nat} : ∀ (ps : List (Nat × Value)) (k : Nat) (l : List Value), seqL sz k ps = some l → l.length = ps.length * sz
  | [], k, l, h => by simp [seqL] at h; simp [← h]
  | (i, v) :: rest, k, l, h => by
    unfold seqL at h
    split at h
    · cases h
    split at h
    · cases h
    rename_i hs
    split at h
    · rename_i l' hl'
      simp at h
      rw [← h, List.length_append, seqL_len rest _ _ hl', Nat.eq_of_beq_eq_true hs, List.length_cons, Nat.add_mul, Nat.one_mul, Nat.add_comm]
    · cases h
theorem fill_seq {sz : Nat} : ∀ (ps : List (Nat × Value)) (k : Nat) (l : List Value) (cs : Array Value), seqL sz k ps = some l → (k + ps.length) * sz ≤ cs.size →
    Instr.fill (fun i => some (i * sz, sz)) cs ps = some (cs.toList.take (k * sz) ++ l ++ cs.toList.drop (k * sz + l.length)).toArray
  | [], k, l, cs, h, hs => by simp [seqL] at h; subst h; simp [Instr.fill]
  | (i, v) :: rest, k, l, cs, h, hs => by
    unfold seqL at h
    split at h
    · cases h
    rename_i hi
    split at h
    · cases h
    rename_i hz
    split at h
    · rename_i l' hl'
      simp at h
      subst h
      have hi' := Nat.eq_of_beq_eq_true hi
      have hz' := Nat.eq_of_beq_eq_true hz
      subst hi'
      have hsz : v.cells.size = (cellsL v).length := by rw [← cellsL_eq]; simp
      have hfit : i * sz + (cellsL v).length ≤ cs.size := by
        have : (i + 1) * sz ≤ (i + ((i, v) :: rest).length) * sz := Nat.mul_le_mul_right _ (by simp)
        rw [Nat.add_mul, Nat.one_mul] at this
        omega
      unfold Instr.fill
      simp only
      rw [if_neg (by simp [hsz, hz']; omega)]
      have hf := fold_splice (cellsL v) (i * sz) 0 cs (by simpa using hfit)
      have e2 : v.cells.zipIdx.foldl (fun cs (x : Value × Nat) => cs.setIfInBounds (i * sz + x.2) x.1) cs = (spliceL cs.toList (i * sz) (cellsL v)).toArray := by
        apply Array.ext'
        rw [← Array.foldl_toList, Array.toList_zipIdx, cellsL_eq, hf]
        simp [spliceL]
      have hlen : (spliceL cs.toList (i * sz) (cellsL v)).length = cs.size := by simp [spliceL]; omega
      have ih := fill_seq rest (i + 1) l' (spliceL cs.toList (i * sz) (cellsL v)).toArray hl' (by
        have h2 : (i + 1 + rest.length) * sz ≤ cs.size := by simpa [Nat.add_assoc, Nat.add_comm 1] using hs
        simpa [hlen] using h2)
      have hgoal : Instr.fill (fun i => some (i * sz, sz)) (v.cells.zipIdx.foldl (fun cs (x : Value × Nat) => cs.setIfInBounds (i * sz + x.2) x.1) cs) rest = some (cs.toList.take (i * sz) ++ (cellsL v ++ l') ++ cs.toList.drop (i * sz + (cellsL v ++ l').length)).toArray := by
        rw [e2, ih]
        have e : (i + 1) * sz = i * sz + (cellsL v).length := by rw [Nat.add_mul, Nat.one_mul, hz']
        congr 2
        rw [e]
        simp only [spliceL, List.toList_toArray]
        have htk : (cs.toList.take (i * sz)).length = i * sz := by simp; omega
        have h1 : (List.take (i * sz) cs.toList ++ cellsL v ++ List.drop (i * sz + (cellsL v).length) cs.toList).take (i * sz + (cellsL v).length) = List.take (i * sz) cs.toList ++ cellsL v := by
          rw [List.take_append_of_le_length (by simp; omega), List.take_of_length_le (by simp; omega)]
        have h2 : (List.take (i * sz) cs.toList ++ cellsL v ++ List.drop (i * sz + (cellsL v).length) cs.toList).drop (i * sz + (cellsL v).length + l'.length) = cs.toList.drop (i * sz + (cellsL v ++ l').length) := by
          have hl2 : (List.take (i * sz) cs.toList ++ cellsL v).length = i * sz + (cellsL v).length := by rw [List.length_append, htk]
          rw [← hl2, drop_app, List.drop_drop, hl2]
          congr 1
          simp [Nat.add_assoc]
        rw [h1, h2]
        simp [List.append_assoc]
      exact hgoal
    · cases h

theorem OpW.buildSlice (hT : TabOk P T) {t e len : Nat} {parts : Array (Nat × Operand)} {ti te : TI} {z : Value} {sz by_ : Nat} {l : List Value} (ho : o.op = .buildSlice t len parts) (ht : nth T t = some ti) (hk : ti.k = .sl e) (he : nth T e = some te)
    (hz : (P.info? e).map (fun i => (i.zero, i.size, i.bytes)) = some (some z, sz, by_)) (hp : Nat.beq parts.size len = true) (hsm : Nat.ble (len * te.size) 16777216 = true)
    (hv : evP (Env.ev r) parts.toList (fun ps => match seqL te.size 0 ps with | some l => laid l (fun l => some (.tuple l.toArray)) | none => none) = some (.tuple l.toArray)) (H : St c w Own Ro)
    (hK : ∀ b w', St c w' (blk b e l :: Own) Ro → K (.slice (some ⟨b, 0, none⟩) len len) w') : OpW P o r w K := by
  intro ev hev
  have hu := kOf_sl ((hT.k ht).trans hk)
  obtain ⟨i, hi, hzz⟩ := Option.map_eq_some_iff.1 hz
  simp only [Prod.mk.injEq] at hzz
  obtain ⟨j, hj, hs, _⟩ := hT.size he
  have hij : i = j := by rw [hi] at hj; exact Option.some.inj hj
  subst hij
  have h2 := evP_some hev _ _ _ hv
  cases hf : seqL te.size 0 (parts.toList.map fun p => (p.1, ev p.2)) with
  | none => rw [hf] at h2; cases h2
  | some l2 =>
    rw [hf] at h2
    simp only [laid_eq] at h2
    simp at h2
    subst h2
    have hsm' : ¬ (len * te.size > 2 ^ 24) := by have : len * te.size ≤ 16777216 := by simpa [Nat.ble_eq] using hsm
                                                 omega
    have hlen := seqL_len _ _ _ hf
    have hpl : (parts.toList.map fun p => (p.1, ev p.2)).length = len := by simpa using Nat.eq_of_beq_eq_true hp
    rw [hpl] at hlen
    have hpp : (parts.map fun (i, x) => (i, ev x)).toList = parts.toList.map fun p => (p.1, ev p.2) := by simp
    have hfill : ∀ zz : Array Value, zz.size = len * te.size → Instr.fill (fun i => some (i * te.size, te.size)) zz (parts.map fun (i, x) => (i, ev x)).toList = some l2.toArray := by
      intro zz hzz
      rw [hpp, fill_seq _ 0 l2 zz hf (by rw [hpl, Nat.zero_add]; omega)]
      rw [show 0 * te.size + l2.length = zz.toList.length by simp [hlen, hzz]]
      simp
    have hb : (Instr.buildSlice t len (parts.map fun (i, x) => (i, ev x))).run P w = .ok (.slice (some ⟨w.heap.size, 0, none⟩) len len) (w.alloc (.cells l2.toArray e)) := by
      simp only [Instr.buildSlice, Sem.run_bind, run_underlying hu, Result.andThen_ok, sizeOf, typeInfo, run_program, hi, Sem.run_pure, hs]
      rw [if_neg hsm']
      by_cases h0 : len * te.size = 0
      · have : l2 = [] := List.eq_nil_of_length_eq_zero (by omega)
        subst this
        simp only [h0, if_true, Sem.run_pure, Result.andThen_ok, Sem.run_bind]
        rw [hfill _ (by simp [h0])]
        simp [newRow]
      · simp only [h0, if_false, zeroValue, typeInfo, Sem.run_bind, run_program, Result.andThen_ok, hi, hzz.1, Sem.run_pure]
        rw [hfill _ (by simp)]
        simp [newRow]
    have : (execOp ev o).run P w = .ok (.value (.slice (some ⟨w.heap.size, 0, none⟩) len len)) (w.alloc (.cells l2.toArray e)) := by simp [execOp, ho, hb]
    rw [this]
    exact hK _ _ (H.alloc e l2)

/-! ### make -/
theorem OpW.make (hT : TabOk P T) {t e : Nat} {x y : Operand} {ti te : TI} {z : Value} {sz by_ : Nat} {k k' : IntKind} {n m : Nat} (ho : o.op = .makeSlice t x y) (ht : nth T t = some ti) (hk : ti.k = .sl e) (he : nth T e = some te)
    (hz : (P.info? e).map (fun i => (i.zero, i.size, i.bytes)) = some (some z, sz, by_)) (hx : Env.ev r x = some (.int k n)) (hy : Env.ev r y = some (.int k' m)) (hnm : n ≤ m) (hb : by_ * m ≤ 281474976710656) (hm : m ≤ maxLen) (H : St c w Own Ro)
    (hK : ∀ b w', St c w' (blk b e (madeCells z.cells (m * sz)).toList :: Own) Ro → K (.slice (some ⟨b, 0, none⟩) n m) w') : OpW P o r w K := by
  intro ev hev
  have hu := kOf_sl ((hT.k ht).trans hk)
  obtain ⟨i, hi, hzz⟩ := Option.map_eq_some_iff.1 hz
  simp only [Prod.mk.injEq] at hzz
  have hm' : (m : Int) ≤ 9223372036854775807 := by simp only [maxLen] at hm; omega
  have hr := run_make (P := P) w t e i z hu hi hzz.1 k k' n m (by omega) (by omega) (by
    rw [hzz.2.2]
    have : ((by_ * m : Nat) : Int) ≤ 281474976710656 := by omega
    rwa [Int.natCast_mul] at this) hm'
  have : (execOp ev o).run P w = .ok (.value (.slice (some ⟨w.heap.size, 0, none⟩) n m)) (w.alloc (.cells (madeCells z.cells (m * sz)) e)) := by
    simp [execOp, ho, hev _ _ hx, hev _ _ hy, hr, hzz.2.1]
  rw [this]
  have h := H.alloc e (madeCells z.cells (m * sz)).toList
  exact hK _ _ (by simpa using h)

/-! ### append -/
theorem run_append_raw (hT : TabOk P T) {t ty e sz : Nat} {ti : TI} {z : Value} {by_ : Nat} (ht : nth T t = some ti) (hk : ti.k = .sl e) (hz : (P.info? e).map (fun i => (i.zero, i.size, i.bytes)) = some (some z, sz, by_)) (hzs : z.cells.size = sz) (hsz : 0 < sz)
    {v : Value} {n m cap2 : Nat} {cs news : List Value} {a : Option Addr} (H : St c w (raw e sz v n cs :: Own) Ro) (hs : Shows w sz a m news) (hb : (n + m) * by_ ≤ 140737488355328) (hm : n + m ≤ maxLen) :
    ∃ v' w', (Builtin.append_ #[t, t] ty #[v, .slice a m cap2]).run P w = .ok v' w' ∧ St c w' (raw e sz v' (n + m) (cs ++ news) :: Own) Ro ∧ (m = 0 → v' = v) := by
  have hu := kOf_sl ((hT.k ht).trans hk)
  obtain ⟨i, hi, hzz⟩ := Option.map_eq_some_iff.1 hz
  simp only [Prod.mk.injEq] at hzz
  obtain ⟨hz0, hz1, hz2⟩ := hzz
  have hm63 : ((n + m : Nat) : Int) ≤ 9223372036854775807 := by simp only [maxLen] at hm; omega
  obtain ⟨hl, h1, hat⟩ := hs
  by_cases h0 : m = 0
  · subst h0
    have hnews : news = [] := List.eq_nil_of_length_eq_zero (by simpa using hl)
    subst hnews
    obtain ⟨_, _, a0, cap0, rfl, hcap, _⟩ := H.raw_len
    refine ⟨_, w, ?_, by simpa using H, fun _ => rfl⟩
    cases a0 <;> cases a <;> simp [Builtin.append_, run_underlying hu, sizeOf, typeInfo, hi, Builtin.lenOf, hcap, Builtin.firstCells, loadCells, loadCellsFrom, storeCells]
  · obtain ⟨b, rfl, hcells⟩ := hat.resolve_left h0
    have grow : ∀ (old : Nat), old < n + m → ∀ (H : St c w Own Ro) (_ : cs.length = n * sz) (_ : ∀ u ∈ cs, u.oneCell' = true),
        St c (w.drew.alloc (.cells (cs.toArray ++ news.toArray ++ Builtin.zeroCells z.cells (grownCap w (n + m) old e - (n + m))) e)) (raw e sz (.slice (some ⟨w.heap.size, 0, none⟩) (n + m) (grownCap w (n + m) old e)) (n + m) (cs ++ news) :: Own) Ro := by
      intro old ho H hcl hc1
      have h := H.drew.alloc e (cs ++ news ++ (Builtin.zeroCells z.cells (grownCap w (n + m) old e - (n + m))).toList)
      have hge := grownCap_ge w (n + m) old e
      have hcm := grownCap_le_maxLen w (n + m) old e hm
      have hlen : (cs ++ news).length = (n + m) * sz := by rw [List.length_append, hcl, hl, Nat.add_mul]
      have h' := h.close_raw (sz := sz) (n := n + m) (o := 0) (cap := grownCap w (n + m) old e) (cs := cs ++ news) hge hcm ?_ ?_ ?_
      · have ea : (cs.toArray ++ news.toArray ++ Builtin.zeroCells z.cells (grownCap w (n + m) old e - (n + m))) = (cs ++ news ++ (Builtin.zeroCells z.cells (grownCap w (n + m) old e - (n + m))).toList).toArray := by apply Array.ext'; simp
        rw [ea]; exact h'
      · simp only [List.length_append, Array.length_toList, size_zeroCells, hzs, hcl, hl]
        rw [← Nat.add_mul, ← Nat.add_mul]
        rw [Nat.zero_add]
        exact Nat.mul_le_mul_right _ (by omega)
      · rw [List.drop_zero, ← hlen, List.take_left]
      · intro u hu; exact (List.mem_append.1 hu).elim (hc1 u) (h1 u)
    obtain ⟨hcl, hc1, _⟩ := H.raw_len
    rcases H.open_raw with ⟨rfl, rfl, rfl, H0⟩ | ⟨g, o', cap, cur, rfl, H1, hcur, hnc, hcm, hfit⟩
    · have hr := run_append_nil (P := P) w t ty e i z hu hi hz0 b m cap2 news (by rw [hz1]; exact hl) hcells (by omega) (by simpa using hm63) (by rw [hz2]; simp at hb; omega)
      have hg := grow 0 (by omega) H0 (by simp) (by simp)
      rw [Nat.zero_add] at hg ⊢
      exact ⟨_, _, hr, by simpa using hg, fun h => absurd h h0⟩
    · have hgb := H1.blk_heap (b := g) (e := e) (l := cur) (by simp)
      by_cases hroom : n + m ≤ cap
      · have hf := run_firstCells_some (P := P) w i.size m b m cap2 news (by rw [hz1]; exact hl) hcells
        have hfit2 : o' + n * sz + news.length ≤ cur.length := by
          rw [hl, Nat.add_assoc, ← Nat.add_mul]
          exact Nat.le_trans (Nat.add_le_add_left (Nat.mul_le_mul_right _ hroom) _) hfit
        have hst := run_storeCells_at P g (o' + n * sz) e news 0 cur.toArray w hgb (by simpa using hfit2) h1
        refine ⟨.slice (some ⟨g, o', none⟩) (n + m) cap, w.setRow g (cur.take (o' + n * sz) ++ news ++ cur.drop (o' + n * sz + news.length)).toArray, ?_, ?_, fun h => absurd h h0⟩
        · simp only [List.toList_toArray, Nat.add_zero] at hst
          rw [hz1] at hf
          simp [Builtin.append_, run_underlying hu, sizeOf, typeInfo, hi, Builtin.lenOf, hroom, hf, Addr.add_lit, hz1, hst]
        · have h2 := H1.blk_set (cur.take (o' + n * sz) ++ news ++ cur.drop (o' + n * sz + news.length))
          refine h2.close_raw hroom hcm ?_ ?_ ?_
          · simp only [List.length_append, List.length_take, List.length_drop]; omega
          · have e1 : (cur.take (o' + n * sz) ++ news ++ cur.drop (o' + n * sz + news.length)).drop o' = cs ++ news ++ cur.drop (o' + n * sz + news.length) := by
              rw [List.append_assoc, List.append_assoc, List.drop_append_of_le_length (by simp; omega)]
              congr 1
              rw [List.drop_take, show o' + n * sz - o' = n * sz by omega, hcur]
            rw [e1, Nat.add_mul, ← hcl, ← hl, ← List.length_append, List.take_left]
          · intro u hu; exact (List.mem_append.1 hu).elim (hc1 u) (h1 u)
      · have holds : CellsAt w ⟨g, o', none⟩ cs := cellsAt_list hgb (by rw [hcl]; exact hcur)
        have hr := run_append_grow (P := P) w t ty e i z hu hi hz0 ⟨g, o', none⟩ n cap cs (by rw [hz1]; exact hcl) holds b m cap2 news (by rw [hz1]; exact hl) hcells (by omega) hm63 (growslice_fits (by omega) (by rw [hz2]; exact hb))
        have hg := grow cap (by omega) H1.drop hcl hc1
        exact ⟨_, _, hr, hg, fun h => absurd h h0⟩

/-- append(v, x...), x a slice of the same element type that shows 'news'. -/
theorem OpW.append (hT : TabOk P T) {t e sz : Nat} {s x : Operand} {ti : TI} {z : Value} {by_ : Nat} {v : Value} {n m cap2 : Nat} {cs news : List Value} {a : Option Addr} (ho : o.op = .call ⟨.builtin .append, #[s, x], #[t, t]⟩)
    (ht : nth T t = some ti) (hk : ti.k = .sl e) (hz : (P.info? e).map (fun i => (i.zero, i.size, i.bytes)) = some (some z, sz, by_)) (hzs : Nat.beq (cellsL z).length sz = true) (hsz : Nat.blt 0 sz = true)
    (hv : Env.ev r s = some v) (hx : Env.ev r x = some (.slice a m cap2)) (H : St c w (raw e sz v n cs :: Own) Ro) (hs : Shows w sz a m news) (hb : (n + m) * by_ ≤ 140737488355328) (hm : n + m ≤ maxLen)
    (hK : ∀ v' w', St c w' (raw e sz v' (n + m) (cs ++ news) :: Own) Ro → (m = 0 → v' = v) → K v' w') : OpW P o r w K := by
  intro ev hev
  have hzs' : z.cells.size = sz := by rw [← Nat.eq_of_beq_eq_true hzs, ← cellsL_eq]; simp
  obtain ⟨v', w', hr, hH, hv'⟩ := run_append_raw hT (ty := o.type) (cap2 := cap2) ht hk hz hzs' (by simpa [Nat.blt_eq] using hsz) H hs hb hm
  have : (execOp ev o).run P w = .ok (.value v') w' := by simp [execOp, ho, resolve, invoke, builtin, hev _ _ hv, hev _ _ hx, hr]
  rw [this]
  exact hK _ _ hH hv'
/-- The same, x being of another slice type. -/
theorem OpW.append2 (hT : TabOk P T) {t e sz : Nat} {s x : Operand} {t2 e2 : Nat} {ti ti2 : TI} {z : Value} {by_ : Nat} {v : Value} {n m cap2 : Nat} {cs news : List Value} {a : Option Addr} (ho : o.op = .call ⟨.builtin .append, #[s, x], #[t, t2]⟩)
    (ht : nth T t = some ti) (hk : ti.k = .sl e) (ht2 : nth T t2 = some ti2) (hk2 : ti2.k = .sl e2) (hz : (P.info? e).map (fun i => (i.zero, i.size, i.bytes)) = some (some z, sz, by_)) (hzs : Nat.beq (cellsL z).length sz = true) (hsz : Nat.blt 0 sz = true)
    (hv : Env.ev r s = some v) (hx : Env.ev r x = some (.slice a m cap2)) (H : St c w (raw e sz v n cs :: Own) Ro) (hs : Shows w sz a m news) (hb : (n + m) * by_ ≤ 140737488355328) (hm : n + m ≤ maxLen)
    (hK : ∀ v' w', St c w' (raw e sz v' (n + m) (cs ++ news) :: Own) Ro → (m = 0 → v' = v) → K v' w') : OpW P o r w K := by
  intro ev hev
  have hzs' : z.cells.size = sz := by rw [← Nat.eq_of_beq_eq_true hzs, ← cellsL_eq]; simp
  obtain ⟨v', w', hr, hH, hv'⟩ := run_append_raw hT (ty := o.type) (cap2 := cap2) ht hk hz hzs' (by simpa [Nat.blt_eq] using hsz) H hs hb hm
  have h12 : (Builtin.append_ #[t, t2] o.type #[v, .slice a m cap2]).run P w = (Builtin.append_ #[t, t] o.type #[v, .slice a m cap2]).run P w := by
    have u1 := kOf_sl ((hT.k ht).trans hk)
    have u2 := kOf_sl ((hT.k ht2).trans hk2)
    obtain ⟨a0, cap0, rfl⟩ : ∃ a0 cap0, v = .slice a0 n cap0 := by obtain ⟨_, _, a0, cap0, h, _⟩ := H.raw_len; exact ⟨a0, cap0, h⟩
    simp [Builtin.append_, run_underlying u1, run_underlying u2]
  have : (execOp ev o).run P w = .ok (.value v') w' := by
    rw [← h12] at hr
    simp [execOp, ho, resolve, invoke, builtin, hev _ _ hv, hev _ _ hx, hr]
  rw [this]
  exact hK _ _ hH hv'
end
end Go.Proofs.Ytpenbdpgpamcbaa.Gw
