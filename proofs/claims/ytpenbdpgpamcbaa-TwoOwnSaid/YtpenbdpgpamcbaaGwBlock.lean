/- Work inside a block that is owned: places that are computed, copy, clear, cuts, append of a make; shifts. Conditions: each rule's own premises. -/
import Derived.Test.YtpenbdpgpamcbaaGwDrawn
import Derived.Lib.AppendZerosOnto
import Derived.Lib.Overlaps
set_option linter.unusedVariables false
set_option linter.unusedSimpArgs false
namespace Go.Proofs.Ytpenbdpgpamcbaa.Gw
open Go

section
variable {P : Program} {T : List TI} {r : Env} {o : Oper} {w : World} {K : Value → World → Prop} {c : Ctx} {Own Ro : List Asn}

theorem spliceL_len (l : List Value) (off : Nat) (cs : List Value) (h : off + cs.length ≤ l.length) : (spliceL l off cs).length = l.length := by simp [spliceL]; omega
theorem oneL_of : ∀ {l : List Value}, (∀ u ∈ l, u.oneCell' = true) → oneL l = true
  | [], _ => rfl
  | v :: l, h => by unfold oneL; rw [h v (by simp)]; exact oneL_of fun u hu => h u (by simp [hu])

/-! ### Elements that are held -/
section
variable {α : Type} {sz : Nat} {enc : α → List Value} {hl : ∀ x, (enc x).length = sz} {h1 : ∀ x, ∀ v ∈ enc x, v.oneCell' = true} {L : List Asn}
theorem HeldV.elemA (hT : TabOk P T) {t b o' i cap : Nat} {x : Operand} {ti : TI} {xs : List α} {y : α} (ho : o.op = .load t x) {off : Nat} (hx : Env.ev r x = some (.pointer (some ⟨b, off, none⟩))) (ht : nth T t = some ti) (hs : aggK ti.k = true)
    (hm : rd (Rdr.flat sz enc hl h1) (some ⟨b, o', none⟩) cap xs ∈ L) (hi : xs[i]? = some y) (hsz : ti.size = sz) (hoff : off = o' + i * sz) : HeldV P (HA L) r o (.agg (enc y).toArray) :=
  HeldV.load ho fun w' hw => OpW.elemA hT ho hx ht hs (hw _ hm) hi hsz hoff ⟨rfl, rfl⟩
theorem HeldV.elem1 (hT : TabOk P T) {t b o' i j cap : Nat} {x : Operand} {ti : TI} {xs : List α} {y : α} {v : Value} (ho : o.op = .load t x) {off : Nat} (hx : Env.ev r x = some (.pointer (some ⟨b, off, none⟩))) (ht : nth T t = some ti) (hs : scalK ti.k = true)
    (hm : rd (Rdr.flat sz enc hl h1) (some ⟨b, o', none⟩) cap xs ∈ L) (hi : xs[i]? = some y) (hoff : off = o' + i * sz + j) (hv : (enc y)[j]? = some v) : HeldV P (HA L) r o v :=
  HeldV.load ho fun w' hw => OpW.elem1 hT ho hx ht hs (hw _ hm) hi hoff hv ⟨rfl, rfl⟩
end

theorem HeldV.loadB {L : List Asn} (hT : TabOk P T) {t b off e : Nat} {x : Operand} {ti : TI} {v : Value} {l : List Value} (ho : o.op = .load t x) (hx : Env.ev r x = some (.pointer (some ⟨b, off, none⟩))) (ht : nth T t = some ti) (hs : scalK ti.k = true)
    (hm : blk b e l ∈ L) (hv : l[off]? = some v) : HeldV P (HA L) r o v :=
  HeldV.load ho fun w' hw => OpW.loadc hT ho hx ht hs (by rw [cell_list (hw.blk hm)]; exact hv) ⟨rfl, rfl⟩
theorem HeldV.loadBA {L : List Asn} (hT : TabOk P T) {t b off e : Nat} {x : Operand} {ti : TI} {l cs : List Value} (ho : o.op = .load t x) (hx : Env.ev r x = some (.pointer (some ⟨b, off, none⟩))) (ht : nth T t = some ti) (hs : aggK ti.k = true)
    (hm : blk b e l ∈ L) (hl : cs.length = ti.size) (hv : (l.drop off).take cs.length = cs) : HeldV P (HA L) r o (.agg cs.toArray) :=
  HeldV.load ho fun w' hw => OpW.loadcs hT ho hx ht hs hl (cellsAt_list (hw.blk hm) hv) ⟨rfl, rfl⟩

/-! ### Loads and stores at computed places -/
theorem OpW.loadB (hT : TabOk P T) {t b off e : Nat} {x : Operand} {ti : TI} {v : Value} {l : List Value} (ho : o.op = .load t x) (hx : Env.ev r x = some (.pointer (some ⟨b, off, none⟩))) (ht : nth T t = some ti) (hs : scalK ti.k = true)
    (H : St c w Own Ro) (hm : blk b e l ∈ Own ++ Ro) (hv : l[off]? = some v) (hK : K v w) : OpW P o r w K :=
  OpW.loadc hT ho hx ht hs (by rw [cell_list (H.blk_heap hm)]; exact hv) hK
theorem blk_cells {b off e : Nat} {l cs : List Value} (H : St c w Own Ro) (hm : blk b e l ∈ Own ++ Ro) (hv : (l.drop off).take cs.length = cs) : CellsAt w ⟨b, off, none⟩ cs := by
  have := H.blk_heap hm
  exact cellsAt_list this hv
theorem OpW.loadBA (hT : TabOk P T) {t b off e : Nat} {x : Operand} {ti : TI} {l cs : List Value} (ho : o.op = .load t x) (hx : Env.ev r x = some (.pointer (some ⟨b, off, none⟩))) (ht : nth T t = some ti) (hs : aggK ti.k = true)
    (H : St c w Own Ro) (hm : blk b e l ∈ Own ++ Ro) (hl : cs.length = ti.size) (hv : (l.drop off).take cs.length = cs) (hK : K (.agg cs.toArray) w) : OpW P o r w K :=
  OpW.loadcs hT ho hx ht hs hl (blk_cells H hm hv) hK
/-- A store at a place of a block that is owned. -/
theorem OpW.storeB (hT : TabOk P T) {t b off e i : Nat} {x y : Operand} {ti : TI} {v : Value} {l : List Value} (ho : o.op = .store t x y) (hx : Env.ev r x = some (.pointer (some ⟨b, off, none⟩))) (hy : Env.ev r y = some v) (ht : nth T t = some ti)
    {Own' : List Asn} (H : St c w Own Ro) (hi : takeK Own i = some (blk b e l, Own')) (h1 : ∀ u ∈ cellsL v, u.oneCell' = true) (hs : (cellsL v).length = ti.size) (hl : off + (cellsL v).length ≤ l.length)
    (hK : ∀ w', St c w' (blk b e (spliceL l off (cellsL v)) :: Own') Ro → K undef w') : OpW P o r w K := by
  intro ev hev
  have H1 := H.to hi
  have hb := H1.blk_heap (b := b) (e := e) (l := l) (by simp)
  obtain ⟨j, hj, hsz, _⟩ := hT.size ht
  have hst := run_storeCells_at P b off e (cellsL v) 0 l.toArray w hb (by simp; omega) h1
  have hcl : v.cells.toList = cellsL v := cellsL_eq v
  have hcs : v.cells.size = (cellsL v).length := by rw [← hcl]; simp
  have : (execOp ev o).run P w = .ok .skip (w.setRow b (spliceL l off (cellsL v)).toArray) := by
    have hst' : (storeCells ⟨b, off, none⟩ (cellsL v)).run P w = .ok () (w.setRow b (spliceL l off (cellsL v)).toArray) := by
      rw [hst]; simp [spliceL]
    simp [execOp, ho, hev _ _ hx, hev _ _ hy, Instr.storeAt, Instr.sureAddr, storeVar, sizeOf, typeInfo, hj, hsz, hcl, hcs, hs, hst']
  rw [this]
  exact hK _ (H1.blk_set _)

/-! ### copy -/
theorem run_copy (hT : TabOk P T) {t e nd capd ns caps m : Nat} {ti te : TI} (ht : nth T t = some ti) (hk : ti.k = .sl e) (he : nth T e = some te) {g o' : Nat} {ge : Nat} {cur news : List Value} {a : Option Addr} {ty : TypeId} {t2 : TypeId}
    (hm : m = min ns nd) (H : St c w (blk g ge cur :: Own) Ro) (hs : Shows w te.size a m news) (hfit : o' + m * te.size ≤ cur.length) :
    ∃ w', (Builtin.copy_ #[t, t2] ty #[.slice (some ⟨g, o', none⟩) nd capd, .slice a ns caps]).run P w = .ok (.int .i64 m) w' ∧ St c w' (blk g ge (spliceL cur o' news) :: Own) Ro := by
  have hu := kOf_sl ((hT.k ht).trans hk)
  obtain ⟨i, hi, hsz, _⟩ := hT.size he
  obtain ⟨hl, h1, hat⟩ := hs
  have hgb := H.blk_heap (b := g) (e := ge) (l := cur) (by simp)
  have hst := run_storeCells_at P g o' ge news 0 cur.toArray w hgb (by simp; omega) h1
  refine ⟨w.setRow g (spliceL cur o' news).toArray, ?_, H.blk_set _⟩
  have hst' : (storeCells ⟨g, o', none⟩ news).run P w = .ok () (w.setRow g (spliceL cur o' news).toArray) := by rw [hst]; simp [spliceL]
  rcases hat with h0 | ⟨b, rfl, hcells⟩
  · have hn : news = [] := List.eq_nil_of_length_eq_zero (by rw [hl, h0]; simp)
    subst hn
    have hm0 : Nat.min ns nd = 0 := by rw [← h0, hm]
    have hf : (Builtin.firstCells i.size 0 (.slice a ns caps)).run P w = .ok #[] w := by
      cases a with
      | none => simp [Builtin.firstCells]
      | some b => exact run_firstCells_some (P := P) w i.size 0 b ns caps [] (by simp) (fun j v h => by simp at h)
    simp only [List.toArray] at hf
    simp [Builtin.copy_, run_underlying hu, Builtin.lenOf, hm0, sizeOf, typeInfo, hi, hf, goInt, h0, hst']
  · have hf := run_firstCells_some (P := P) w i.size m b ns caps news (by rw [hsz]; exact hl) hcells
    have hm' : Nat.min ns nd = m := hm.symm
    simp [Builtin.copy_, run_underlying hu, Builtin.lenOf, hm', sizeOf, typeInfo, hi, hf, goInt, hst']
theorem OpW.copy (hT : TabOk P T) {t e t2 nd capd ns caps m i : Nat} {x y : Operand} {ti : TI} {ek : TK} {es eb : Nat} (ho : o.op = .call ⟨.builtin .copy, #[x, y], #[t, t2]⟩) (ht : nth T t = some ti) (hk : ti.k = .sl e) (he : nth T e = some ⟨ek, es, eb⟩) {g o' : Nat} {ge : Nat} {cur news : List Value} {a : Option Addr}
    (hx : Env.ev r x = some (.slice (some ⟨g, o', none⟩) nd capd)) (hy : Env.ev r y = some (.slice a ns caps))
    (hm : m = min ns nd) {Own' : List Asn} (H : St c w Own Ro) (hi : takeK Own i = some (blk g ge cur, Own')) (hs : Shows w es a m news) (hfit : o' + m * es ≤ cur.length)
    (hK : ∀ w', St c w' (blk g ge (spliceL cur o' news) :: Own') Ro → K (.int .i64 m) w') : OpW P o r w K := by
  intro ev hev
  obtain ⟨w', hr, H'⟩ := run_copy hT (ty := o.type) (t2 := t2) (capd := capd) (caps := caps) ht hk he hm (H.to hi) hs hfit
  have : (execOp ev o).run P w = .ok (.value (.int .i64 m)) w' := by simp [execOp, ho, resolve, invoke, builtin, hev _ _ hx, hev _ _ hy, hr]
  rw [this]
  exact hK _ H'
/-- Nothing is copied. -/
theorem OpW.copy0 (hT : TabOk P T) {t e t2 nd capd ns caps : Nat} {x y : Operand} {ti te : TI} (ho : o.op = .call ⟨.builtin .copy, #[x, y], #[t, t2]⟩) (ht : nth T t = some ti) (hk : ti.k = .sl e) (he : nth T e = some te) {b a : Option Addr}
    (hx : Env.ev r x = some (.slice b nd capd)) (hy : Env.ev r y = some (.slice a ns caps)) (hm : min ns nd = 0) (hK : K (.int .i64 0) w) : OpW P o r w K := by
  intro ev hev
  have hu := kOf_sl ((hT.k ht).trans hk)
  obtain ⟨i, hi, hsz, _⟩ := hT.size he
  have hm' : Nat.min ns nd = 0 := hm
  have hf : (Builtin.firstCells i.size 0 (.slice a ns caps)).run P w = .ok #[] w := by
    cases a with
    | none => simp [Builtin.firstCells]
    | some b => exact run_firstCells_some (P := P) w i.size 0 b ns caps [] (by simp) (fun j v h => by simp at h)
  have : (execOp ev o).run P w = .ok (.value (.int .i64 0)) w := by
    cases b <;> simp [execOp, ho, resolve, invoke, builtin, hev _ _ hx, hev _ _ hy, Builtin.copy_, run_underlying hu, Builtin.lenOf, hm', sizeOf, typeInfo, hi, hf, goInt, storeCells]
  rw [this]
  exact hK

/-! ### clear -/
theorem OpW.clear (hT : TabOk P T) {t e n cap i sz by_ : Nat} {x : Operand} {ti : TI} {z : Value} (ho : o.op = .call ⟨.builtin .clear, #[x], #[t]⟩) (ht : nth T t = some ti) (hk : ti.k = .sl e) (hz : (P.info? e).map (fun i => (i.zero, i.size, i.bytes)) = some (some z, sz, by_)) (hzs : Nat.beq (cellsL z).length sz = true) (hz1 : oneL (cellsL z) = true)
    {g o' ge : Nat} {cur : List Value} (hx : Env.ev r x = some (.slice (some ⟨g, o', none⟩) n cap)) {Own' : List Asn} (H : St c w Own Ro) (hi : takeK Own i = some (blk g ge cur, Own')) (hfit : o' + n * sz ≤ cur.length)
    (hK : ∀ zs w', zs.length = n * sz → St c w' (blk g ge (spliceL cur o' zs) :: Own') Ro → K (.tuple #[]) w') : OpW P o r w K := by
  intro ev hev
  have hu := kOf_sl ((hT.k ht).trans hk)
  have H1 := H.to hi
  have hgb := H1.blk_heap (b := g) (e := ge) (l := cur) (by simp)
  obtain ⟨inf, hinf, hzz⟩ := Option.map_eq_some_iff.1 hz
  simp only [Prod.mk.injEq] at hzz
  have hzs' : z.cells.size = sz := by rw [← Nat.eq_of_beq_eq_true hzs, ← cellsL_eq]; simp
  let zs := (Builtin.zeroCells z.cells n).toList
  have hzl : zs.length = n * sz := by simp [zs, size_zeroCells, hzs']
  have hone : ∀ u ∈ zs, u.oneCell' = true := by
    intro u hu
    have h1 := oneL_spec hz1
    simp only [zs, Builtin.zeroCells, Array.toList_map, List.mem_map, Array.toList_range, List.mem_range] at hu
    obtain ⟨k, hk, rfl⟩ := hu
    have hpos : 0 < z.cells.size := by
      rcases Nat.eq_zero_or_pos z.cells.size with h | h
      · rw [h] at hk; simp at hk
      · exact h
    have hlt := Nat.mod_lt k hpos
    refine h1 _ ?_
    rw [← cellsL_eq, getElem!_pos z.cells (k % z.cells.size) hlt]
    simp
  have hst := run_storeCells_at P g o' ge zs 0 cur.toArray w hgb (by simp; omega) hone
  have hst' : (storeCells ⟨g, o', none⟩ zs).run P w = .ok () (w.setRow g (spliceL cur o' zs).toArray) := by rw [hst]; simp [spliceL]
  by_cases h0 : n = 0
  · subst h0
    have hzn : zs = [] := List.eq_nil_of_length_eq_zero (by rw [hzl]; simp)
    have : (execOp ev o).run P w = .ok (.value (.tuple #[])) w := by
      simp [execOp, ho, resolve, invoke, builtin, hev _ _ hx, Builtin.clear_, run_underlying hu]
    rw [this]
    refine hK [] w (by simp) ?_
    simpa [spliceL] using H1
  · obtain ⟨k, rfl⟩ := Nat.exists_eq_succ_of_ne_zero h0
    have : (execOp ev o).run P w = .ok (.value (.tuple #[])) (w.setRow g (spliceL cur o' zs).toArray) := by
      simp only [zs] at hst'
      simp [execOp, ho, resolve, invoke, builtin, hev _ _ hx, Builtin.clear_, run_underlying hu, zeroValue, typeInfo, hinf, hzz.1, hst', zs]
    rw [this]
    exact hK _ _ hzl (H1.blk_set _)
/-- clear of a nil slice, or of an empty one. -/
theorem OpW.clear0 (hT : TabOk P T) {t e cap : Nat} {x : Operand} {ti : TI} (ho : o.op = .call ⟨.builtin .clear, #[x], #[t]⟩) (ht : nth T t = some ti) (hk : ti.k = .sl e) {a : Option Addr} (hx : Env.ev r x = some (.slice a 0 cap)) (hK : K (.tuple #[]) w) : OpW P o r w K := by
  intro ev hev
  have hu := kOf_sl ((hT.k ht).trans hk)
  have : (execOp ev o).run P w = .ok (.value (.tuple #[])) w := by
    cases a <;> simp [execOp, ho, resolve, invoke, builtin, hev _ _ hx, Builtin.clear_, run_underlying hu]
  rw [this]
  exact hK

/-! ### append of a make, with no room -/
theorem OpW.appendZ (hT : TabOk P T) {t tn e n cap k sz by_ : Nat} {s x : Operand} {ti tni : TI} {z : Value} {kn : IntKind} {cs : List Value} {b : Addr} (ho : o.op = .call ⟨.builtin .append, #[s, x], #[t, tn]⟩) (ht : nth T t = some ti) (hk : ti.k = .sl e) (htn : nth T tn = some tni) (hkn : tni.k = .int kn)
    (hz : (P.info? e).map (fun i => (i.zero, i.size, i.bytes)) = some (some z, sz, by_)) (hzs : Nat.beq (cellsL z).length sz = true) (hz1 : oneL (cellsL z) = true) (hsz : Nat.blt 0 sz = true)
    (hs : Env.ev r s = some (.slice (some b) n cap)) (hx : Env.ev r x = some (.int .i64 k)) (h0 : 0 < k) (hg : cap < n + k) (H : St c w Own Ro) (hc : CellsAt w b cs) (hl : cs.length = n * sz) (hcap : cap ≤ maxLen) (hb : (n + k) * by_ ≤ 140737488355328) (hm : n + k ≤ maxLen)
    (hK : ∀ g cap' zs w', n + k ≤ cap' → cap' ≤ maxLen → zs.length = cap' * sz - n * sz → (∀ u ∈ zs, u.oneCell' = true) → St c w' (blk g e (cs ++ zs) :: Own) Ro → K (.slice (some ⟨g, 0, none⟩) (n + k) cap') w') : OpW P o r w K := by
  intro ev hev
  have hu := kOf_sl ((hT.k ht).trans hk)
  have hun : P.underlying tn = some (.int kn) := kOf_int ((hT.k htn).trans hkn)
  obtain ⟨i, hi, hzz⟩ := Option.map_eq_some_iff.1 hz
  simp only [Prod.mk.injEq] at hzz
  obtain ⟨hz0, hzi, hzb⟩ := hzz
  have hzs' : z.cells.size = sz := by rw [← Nat.eq_of_beq_eq_true hzs, ← cellsL_eq]; simp
  have hsz' : 0 < sz := by simpa [Nat.blt_eq] using hsz
  have hf := run_firstCells_some (P := P) w.drew i.size n b n cap cs (by rw [hzi]; exact hl) (fun j v hj => by simpa using hc j v hj)
  have hbk : k * by_ ≤ (n + k) * by_ := Nat.mul_le_mul_right _ (by omega)
  have hr := Lib.run_append_grow_zeros (P := P) w t tn o.type e i z .i64 kn hu hun hi hz0 (some b) n cap cs hf k h0 (by omega) hg (by simp only [maxLen] at hm; omega) (by rw [hzb]; omega) (growslice_fits (by omega) (by rw [hzb]; exact hb))
  have hge := grownCap_ge w (n + k) cap e
  have hcm := grownCap_le_maxLen w (n + k) cap e hm
  have : (execOp ev o).run P w = .ok (.value (.slice (some ⟨w.heap.size, 0, none⟩) (n + k) (grownCap w (n + k) cap e))) (w.drew.alloc (.cells (cs.toArray ++ Builtin.zeroCells z.cells k ++ Builtin.zeroCells z.cells (grownCap w (n + k) cap e - (n + k))) e)) := by
    simp [execOp, ho, resolve, invoke, builtin, hev _ _ hs, hev _ _ hx, hr]
  rw [this]
  have hz1' := oneL_spec hz1
  have hone : ∀ m, ∀ u ∈ (Builtin.zeroCells z.cells m).toList, u.oneCell' = true := by
    intro m u hu
    simp only [Builtin.zeroCells, Array.toList_map, List.mem_map, Array.toList_range, List.mem_range] at hu
    obtain ⟨k, hk, rfl⟩ := hu
    have hpos : 0 < z.cells.size := by rw [hzs']; exact hsz'
    have hlt := Nat.mod_lt k hpos
    refine hz1' _ ?_
    rw [← cellsL_eq, getElem!_pos z.cells (k % z.cells.size) hlt]
    simp
  have h := H.drew.alloc e (cs ++ ((Builtin.zeroCells z.cells k).toList ++ (Builtin.zeroCells z.cells (grownCap w (n + k) cap e - (n + k))).toList))
  refine hK w.heap.size _ ((Builtin.zeroCells z.cells k).toList ++ (Builtin.zeroCells z.cells (grownCap w (n + k) cap e - (n + k))).toList) _ hge hcm ?_ (fun u hu => (List.mem_append.1 hu).elim (hone _ u) (hone _ u)) ?_
  · simp only [List.length_append, Array.length_toList, size_zeroCells, hzs']
    rw [← Nat.add_mul, ← Nat.sub_mul]
    congr 1; omega
  · have ea : (cs.toArray ++ Builtin.zeroCells z.cells k ++ Builtin.zeroCells z.cells (grownCap w (n + k) cap e - (n + k))) = (cs ++ ((Builtin.zeroCells z.cells k).toList ++ (Builtin.zeroCells z.cells (grownCap w (n + k) cap e - (n + k))).toList)).toArray := by apply Array.ext'; simp
    rw [ea]
    exact h

/-- Cuts. -/
theorem PureV.slcFrom (hT : TabOk P T) {t e len cap i n' : Nat} {x y : Operand} {a : Option Addr} {k : IntKind} {ti : TI} {ek : TK} {es eb : Nat} (ho : o.op = .slice t x (some y) none none) (hx : Env.ev r x = some (.slice a len cap)) (hy : Env.ev r y = some (.int k (i : Int)))
    (ht : nth T t = some ti) (hk : ti.k = .sl e) (he : nth T e = some ⟨ek, es, eb⟩) (h1 : i ≤ len) (h2 : len ≤ cap) (hn : len - i = n') : PureV P r o (.slice (cutA a cap i es) n' (cap - i)) := by
  have := PureV.slc (P := P) (r := r) (o := o) hT (lo := some y) (hi := none) (l := i) (h := len) ho hx ht hk he ⟨k, hy⟩ rfl (by omega) (by omega) (by omega)
  simp only [Int.toNat_natCast] at this
  rw [hn] at this
  exact this
theorem PureV.slcTo (hT : TabOk P T) {t e len cap n : Nat} {x y : Operand} {a : Option Addr} {k : IntKind} {ti : TI} {ek : TK} {es eb : Nat} (ho : o.op = .slice t x none (some y) none) (hx : Env.ev r x = some (.slice a len cap)) (hy : Env.ev r y = some (.int k (n : Int)))
    (ht : nth T t = some ti) (hk : ti.k = .sl e) (he : nth T e = some ⟨ek, es, eb⟩) (h2 : n ≤ cap) : PureV P r o (.slice a n cap) := by
  have := PureV.slc (P := P) (r := r) (o := o) hT (lo := none) (hi := some y) (l := 0) (h := n) ho hx ht hk he rfl ⟨k, hy⟩ (by omega) (by omega) (by omega)
  simp only [Int.toNat_natCast, Int.toNat_zero, Nat.zero_mul, Nat.sub_zero] at this
  have e2 : (if cap = 0 then a else a.map (·.add 0)) = a := by
    split
    · rfl
    · cases a <;> simp [Addr.add_zero']
  rw [e2] at this
  exact this
/-- A place of an array. -/
theorem PureV.idxAN (hT : TabOk P T) {t e len : Nat} {x y : Operand} {b off : Nat} {k : IntKind} {i : Int} {ti : TI} {ek : TK} {es eb : Nat} (ho : o.op = .indexAddr t x y) (hx : Env.ev r x = some (.pointer (some ⟨b, off, none⟩))) (hy : Env.ev r y = some (.int k i))
    (ht : nth T t = some ti) (hk : ti.k = .ar len e) (he : nth T e = some ⟨ek, es, eb⟩) (h0 : 0 ≤ i) (h1 : i < len) : PureV P r o (.pointer (some ⟨b, off + i.toNat * es, none⟩)) :=
  PureV.idxA hT ho hx hy ht hk he h0 h1

/-! ### Shifts, conversions -/
theorem wrapU64_in {n : Int} (h0 : 0 ≤ n) (h1 : n < 18446744073709551616) : IntKind.u64.wrap n = n := by
  have e : IntKind.u64.wrap n = n % 18446744073709551616 := rfl
  rw [e]; omega
theorem PureV.convI (hT : TabOk P T) {s d : Nat} {x : Operand} {k ks kd : IntKind} {a : Int} {si di : TI} (ho : o.op = .convert s d x) (hx : Env.ev r x = some (.int k a)) (hs : nth T s = some si) (hks : si.k = .int ks) (hd : nth T d = some di) (hkd : di.k = .int kd) (h : kd.wrap a = a) : PureV P r o (.int kd a) := fun ev hev w => by
  have h1 : P.underlying s = some (.int ks) := kOf_int ((hT.k hs).trans hks)
  have h2 : P.underlying d = some (.int kd) := kOf_int ((hT.k hd).trans hkd)
  simp [execOp, ho, hev _ _ hx, convert, run_underlying h1, run_underlying h2, Conv.intToInt, h]
theorem PureV.shrU {x y : Operand} {xt yt : TypeId} {k' : IntKind} {a b : Int} (hx : Env.ev r x = some (.int .u64 a)) (hy : Env.ev r y = some (.int k' b)) (ho : o.op = .binOp .shr xt x y yt) (h0 : 0 ≤ b) (h1 : b < 64) : PureV P r o (.int .u64 (a / 2 ^ b.toNat)) := fun ev hev w => by
  have h : ¬ (b < 0) := by omega
  have hm : min b.toNat IntKind.u64.bits = b.toNat := by
    have : IntKind.u64.bits = 64 := rfl
    omega
  simp [execOp, ho, hev _ _ hx, hev _ _ hy, go_sem, Op.shift, h, hm]
theorem PureV.shr {x y : Operand} {xt yt : TypeId} {a b : Int} (hx : Env.ev r x = some (.int .i64 a)) (hy : Env.ev r y = some (.int .i64 b)) (ho : o.op = .binOp .shr xt x y yt) (h0 : 0 ≤ b) (h1 : b < 64) : PureV P r o (.int .i64 (a / 2 ^ b.toNat)) := fun ev hev w => by
  have h : ¬ (b < 0) := by omega
  have hm : min b.toNat IntKind.i64.bits = b.toNat := by
    have : IntKind.i64.bits = 64 := rfl
    omega
  simp [execOp, ho, hev _ _ hx, hev _ _ hy, go_sem, Op.shift, h, hm]
end
end Go.Proofs.Ytpenbdpgpamcbaa.Gw
