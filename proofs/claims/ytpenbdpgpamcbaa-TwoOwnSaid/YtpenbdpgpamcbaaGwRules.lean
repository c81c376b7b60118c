/- The operations that touch memory, told by parts. Conditions: each rule's own premises. -/
import Derived.Test.YtpenbdpgpamcbaaGwData
set_option linter.unusedVariables false
set_option linter.unusedSimpArgs false
namespace Go.Proofs.Ytpenbdpgpamcbaa.Gw
open Go

def scalK : TK → Bool | .bool | .int _ | .str | .ptr _ | .sl _ | .map .. => true | _ => false
def aggK : TK → Bool | .st _ | .ar .. => true | _ => false
def cellsL : Value → List Value | .agg cs => cs.toList | v => [v]
theorem cellsL_eq (v : Value) : v.cells.toList = cellsL v := by cases v <;> simp [Value.cells, cellsL]

theorem kOf_scal {P : Program} {t : Nat} (h : scalK (kOf P t) = true) : ∃ d, P.underlying t = some d ∧ aggD d = false := by
  unfold kOf at h
  cases hd : P.underlying t with
  | none => rw [hd] at h; simp [scalK] at h
  | some d =>
    refine ⟨d, rfl, ?_⟩
    cases d <;> first | rfl | (rw [hd] at h; simp only at h; split at h <;> simp [scalK] at h) | (rw [hd] at h; simp [scalK] at h)
theorem kOf_agg {P : Program} {t : Nat} (h : aggK (kOf P t) = true) : ∃ d, P.underlying t = some d ∧ aggD d = true := by
  unfold kOf at h
  cases hd : P.underlying t with
  | none => rw [hd] at h; simp [aggK] at h
  | some d => refine ⟨d, rfl, ?_⟩; cases d <;> first | rfl | (rw [hd] at h; simp [aggK] at h)
theorem run_isAgg {P : Program} {t : Nat} {d : TypeDesc} {b : Bool} (h : P.underlying t = some d) (hb : aggD d = b) (w : World) : (isAgg t).run P w = .ok b w := by
  subst hb
  simp only [isAgg, Sem.run_bind, run_underlying h, Result.andThen_ok]
  cases d <;> rfl

section
variable {P : Program} {T : List TI} {r : Env} {o : Oper} {w : World} {K : Value → World → Prop} {c : Ctx} {Own Ro : List Asn}

theorem PureV.opw {v : Value} (h : PureV P r o v) (hk : K v w) : OpW P o r w K := h.op hk

/-! ### New variables -/
theorem OpW.alloc {e : Nat} {z : Value} {sz by_ : Nat} (ho : o.op = .alloc e) (hz : (P.info? e).map (fun i => (i.zero, i.size, i.bytes)) = some (some z, sz, by_)) {l : List Value} (hl : laid (cellsL z) (fun l => some (.tuple l.toArray)) = some (.tuple l.toArray)) (H : St c w Own Ro)
    (hK : ∀ b w', St c w' (blk b e l :: Own) Ro → K (.pointer (some ⟨b, 0, none⟩)) w') : OpW P o r w K := by
  intro ev hev
  rw [laid_eq] at hl
  simp at hl
  subst hl
  obtain ⟨i, hi, hzz⟩ := Option.map_eq_some_iff.1 hz
  simp only [Prod.mk.injEq] at hzz
  have : (execOp ev o).run P w = .ok (.value (.pointer (some ⟨w.heap.size, 0, none⟩))) (w.alloc (.cells (cellsL z).toArray e)) := by
    simp [execOp, ho, Instr.alloc, zeroValue, typeInfo, hi, hzz.1, newVar, newRow, ← cellsL_eq]
  rw [this]
  exact hK _ _ (H.alloc e _)
theorem OpW.box {e : Nat} {x : Operand} {v : Value} {l : List Value} (ho : o.op = .box e x) (hx : Env.ev r x = some v) (hl : laid (cellsL v) (fun l => some (.tuple l.toArray)) = some (.tuple l.toArray)) (H : St c w Own Ro)
    (hK : ∀ b w', St c w' (blk b e l :: Own) Ro → K (.pointer (some ⟨b, 0, none⟩)) w') : OpW P o r w K := by
  intro ev hev
  rw [laid_eq] at hl
  simp at hl
  have : (execOp ev o).run P w = .ok (.value (.pointer (some ⟨w.heap.size, 0, none⟩))) (w.alloc (.cells l.toArray e)) := by
    simp [execOp, ho, Instr.box, hev _ _ hx, newVar, newRow, ← hl, ← cellsL_eq]
  rw [this]
  exact hK _ _ (H.alloc e _)

/-! ### Loads -/
theorem run_load_cell {P : Program} (hT : TabOk P T) {t : Nat} {ti : TI} {a : Addr} {v : Value} (ht : nth T t = some ti) (hs : scalK ti.k = true) (hc : w.cell? a = some v) : (loadVar t a).run P w = .ok v w := by
  obtain ⟨d, hd, hb⟩ := kOf_scal (P := P) (t := t) (by rw [hT.k ht]; exact hs)
  simp [loadVar, run_isAgg hd hb, hc]
theorem run_load_cells {P : Program} (hT : TabOk P T) {t : Nat} {ti : TI} {a : Addr} {cs : List Value} (ht : nth T t = some ti) (hs : aggK ti.k = true) (hl : cs.length = ti.size) (hc : ∀ j v, cs[j]? = some v → w.cell? (a.add j) = some v) : (loadVar t a).run P w = .ok (.agg cs.toArray) w := by
  obtain ⟨d, hd, hb⟩ := kOf_agg (P := P) (t := t) (by rw [hT.k ht]; exact hs)
  obtain ⟨i, hi, hsz, _⟩ := hT.size ht
  have := run_loadCells_list (P := P) w a cs hc
  simp [loadVar, run_isAgg hd hb, sizeOf, typeInfo, hi, hsz, ← hl, this]
theorem cell_list {w : World} {b e off : Nat} {l : List Value} {fr : Nat × Nat} (h : w.heap[b]? = some (.cells l.toArray e fr)) : w.cell? ⟨b, off, none⟩ = l[off]? := by
  rw [cell_of_row w b off _ e fr h]; simp

/-- A load whose cell is known. -/
theorem OpW.loadc (hT : TabOk P T) {t : Nat} {x : Operand} {a : Addr} {ti : TI} {v : Value} (ho : o.op = .load t x) (hx : Env.ev r x = some (.pointer (some a))) (ht : nth T t = some ti) (hs : scalK ti.k = true)
    (hc : w.cell? a = some v) (hK : K v w) : OpW P o r w K := fun ev hev => by
  have : (execOp ev o).run P w = .ok (.value v) w := by simp [execOp, ho, hev _ _ hx, Instr.loadAt, Instr.sureAddr, run_load_cell hT ht hs hc]
  rw [this]; exact hK
theorem OpW.loadcs (hT : TabOk P T) {t : Nat} {x : Operand} {a : Addr} {ti : TI} {cs : List Value} (ho : o.op = .load t x) (hx : Env.ev r x = some (.pointer (some a))) (ht : nth T t = some ti) (hs : aggK ti.k = true) (hl : cs.length = ti.size)
    (hc : ∀ j v, cs[j]? = some v → w.cell? (a.add j) = some v) (hK : K (.agg cs.toArray) w) : OpW P o r w K := fun ev hev => by
  have : (execOp ev o).run P w = .ok (.value (.agg cs.toArray)) w := by simp [execOp, ho, hev _ _ hx, Instr.loadAt, Instr.sureAddr, run_load_cells hT ht hs hl hc]
  rw [this]; exact hK
/-- Out of a block whose content is known. -/
theorem OpW.load1 (hT : TabOk P T) {t b off e : Nat} {x : Operand} {ti : TI} {v : Value} {l : List Value} (ho : o.op = .load t x) (hx : Env.ev r x = some (.pointer (some ⟨b, off, none⟩))) (ht : nth T t = some ti) (hs : scalK ti.k = true)
    (H : St c w Own Ro) (hm : blk b e l ∈ Own ++ Ro) (hv : nth l off = some v) (hK : K v w) : OpW P o r w K :=
  OpW.loadc hT ho hx ht hs (by rw [cell_list (H.blk_heap hm), ← nth_getElem?]; exact hv) hK
theorem OpW.loadA (hT : TabOk P T) {t b off e : Nat} {x : Operand} {ti : TI} {l l' : List Value} (ho : o.op = .load t x) (hx : Env.ev r x = some (.pointer (some ⟨b, off, none⟩))) (ht : nth T t = some ti) (hs : aggK ti.k = true)
    (H : St c w Own Ro) (hm : blk b e l ∈ Own ++ Ro) (hv : laid ((l.drop off).take ti.size) (fun l => some (.tuple l.toArray)) = some (.tuple l'.toArray)) (hlen : Nat.beq l'.length ti.size = true) (hK : K (.agg l'.toArray) w) : OpW P o r w K := by
  rw [laid_eq] at hv
  simp at hv
  refine OpW.loadcs hT ho hx ht hs (Nat.eq_of_beq_eq_true hlen) (fun j v hj => ?_) hK
  rw [Addr.add_lit, cell_list (H.blk_heap hm)]
  rw [← hv, List.getElem?_take] at hj
  split at hj
  · simpa using hj
  · cases hj

/-! ### Stores -/
def oneL : List Value → Bool
  | [] => true
  | v :: l => match v.oneCell' with | true => oneL l | false => false
theorem oneL_spec : ∀ {l : List Value}, oneL l = true → ∀ u ∈ l, u.oneCell' = true
  | [], _, u, hu => nomatch hu
  | v :: l, h, u, hu => by
    unfold oneL at h
    split at h
    · rename_i hv
      rcases List.mem_cons.1 hu with rfl | hu
      · exact hv
      · exact oneL_spec h u hu
    · cases h
def setK : List Value → Nat → Value → (List Value → Option Value) → Option Value
  | [], _, _, _ => none
  | _ :: l, 0, v, k => k (v :: l)
  | a :: l, n + 1, v, k => setK l n v fun l' => k (a :: l')
theorem setK_eq : ∀ (l : List Value) (i : Nat) (v : Value) (k : List Value → Option Value) (u : Value), setK l i v k = some u → i < l.length ∧ k (l.set i v) = some u
  | [], i, v, k, u, h => by cases h
  | a :: l, 0, v, k, u, h => ⟨by simp, h⟩
  | a :: l, i + 1, v, k, u, h => by have := setK_eq l i v _ u h; exact ⟨by simp; exact this.1, by simpa using this.2⟩

theorem setCell_setRow (w : World) (b off e : Nat) (l : List Value) (v : Value) (h : w.heap[b]? = some (.cells l.toArray e (0, 0))) : w.setCell ⟨b, off, none⟩ v = w.setRow b (l.set off v).toArray := by
  rw [setCell_eq_setRow w b off _ e (0, 0) v h]; simp
/-- A store of one cell into a block that is owned. -/
theorem OpW.store1 (hT : TabOk P T) {t b off e i : Nat} {x y : Operand} {ti : TI} {v : Value} {l l' : List Value} (ho : o.op = .store t x y) (hx : Env.ev r x = some (.pointer (some ⟨b, off, none⟩))) (hy : Env.ev r y = some v) (ht : nth T t = some ti) (hs : Nat.beq ti.size 1 = true)
    {Own' : List Asn} (H : St c w Own Ro) (hi : takeK Own i = some (blk b e l, Own')) (h1 : v.oneCell' = true) (hv : setK l off v (fun l => some (.tuple l.toArray)) = some (.tuple l'.toArray)) (hK : ∀ w', St c w' (blk b e l' :: Own') Ro → K undef w') : OpW P o r w K := by
  intro ev hev
  have H1 := H.to hi
  have hb := H1.blk_heap (b := b) (e := e) (l := l) (by simp)
  obtain ⟨hlt, hl'⟩ := setK_eq _ _ _ _ _ hv
  simp at hl'
  obtain ⟨j, hj, hsz, _⟩ := hT.size ht
  have hc : w.cell? ⟨b, off, none⟩ = some l[off] := by rw [cell_list hb]; simp [hlt]
  have hf : w.frozen? ⟨b, off, none⟩ = false := by simp [World.frozen?, hb]
  have hcl : v.cells = #[v] := by cases v <;> first | rfl | (simp [Value.oneCell'] at h1)
  have : (execOp ev o).run P w = .ok .skip (w.setRow b l'.toArray) := by
    simp [execOp, ho, hev _ _ hx, hev _ _ hy, Instr.storeAt, Instr.sureAddr, storeVar, sizeOf, typeInfo, hj, hsz, Nat.eq_of_beq_eq_true hs, hcl, storeCells, run_store P w _ v _ h1, Addr.add_zero', hc, hf, setCell_setRow w b off e l v hb, hl']
  rw [this]
  exact hK _ (H1.blk_set l')
/-- A whole variable is written. -/
theorem OpW.storeA (hT : TabOk P T) {t b e i : Nat} {x y : Operand} {ti : TI} {v : Value} {l l' : List Value} (ho : o.op = .store t x y) (hx : Env.ev r x = some (.pointer (some ⟨b, 0, none⟩))) (hy : Env.ev r y = some v) (ht : nth T t = some ti)
    {Own' : List Asn} (H : St c w Own Ro) (hi : takeK Own i = some (blk b e l, Own')) (hv : laid (cellsL v) (fun l => some (.tuple l.toArray)) = some (.tuple l'.toArray)) (h1 : oneL l' = true) (hs : Nat.beq ti.size l'.length = true) (hl : Nat.beq l.length l'.length = true)
    (hK : ∀ w', St c w' (blk b e l' :: Own') Ro → K undef w') : OpW P o r w K := by
  intro ev hev
  have h1 := oneL_spec h1
  have H1 := H.to hi
  have hb := H1.blk_heap (b := b) (e := e) (l := l) (by simp)
  rw [laid_eq] at hv
  simp at hv
  obtain ⟨j, hj, hsz, _⟩ := hT.size ht
  have hs' := Nat.eq_of_beq_eq_true hs
  have hl2 := Nat.eq_of_beq_eq_true hl
  have hst := run_storeCells_at P b 0 e l' 0 l.toArray w hb (by simp; omega) h1
  have hcl : v.cells.toList = l' := by rw [cellsL_eq]; exact hv
  have hcs : v.cells.size = l'.length := by rw [← hcl]; simp
  have : (execOp ev o).run P w = .ok .skip (w.setRow b l'.toArray) := by
    have hst' : (storeCells ⟨b, 0, none⟩ l').run P w = .ok () (w.setRow b l'.toArray) := by
      rw [hst]
      simp
      rw [List.drop_of_length_le (by omega)]
      simp
    simp [execOp, ho, hev _ _ hx, hev _ _ hy, Instr.storeAt, Instr.sureAddr, storeVar, sizeOf, typeInfo, hj, hsz, hcl, hcs, hs', hst']
  rw [this]
  exact hK _ (H1.blk_set l')

/-! ### Calls -/
theorem OpW.call {f : FuncId} {args : Array Operand} {ts : Array TypeId} {vs : List Value} (ho : o.op = .call ⟨.value (.func f), args, ts⟩) (hcall : ∀ (a : Array Value) (w : World), (callFunc f a).run P w = .ok (.enter f a) w)
    (hv : evL (Env.ev r) args.toList (fun l => some (.tuple l.toArray)) = some (.tuple vs.toArray)) (h : Calls P f vs.toArray w (Ret K)) : OpW P o r w K := by
  intro ev hev
  have h2 := evL_some hev _ _ _ hv
  simp at h2
  have hargs : args.map ev = vs.toArray := by rw [← h2]; apply Array.ext'; simp
  have : (execOp ev o).run P w = .ok (.enter f vs.toArray) w := by
    have hfn : ev (.func f) = .func (.func f) #[] #[] := hev (.func f) _ rfl
    simp [execOp, ho, resolve, hfn, Deferred.ofValue, invoke, hcall, hargs]
  rw [this]
  exact h
/-- A call of a function value. -/
theorem OpW.callv {f : FuncId} {x : Operand} {first cap : Array Value} {args : Array Operand} {ts : Array TypeId} {vs : List Value} (ho : o.op = .call ⟨.value x, args, ts⟩) (hx : Env.ev r x = some (.func (.func f) first cap)) (hcall : ∀ (a : Array Value) (w : World), (callFunc f a).run P w = .ok (.enter f a) w)
    (hv : evL (Env.ev r) args.toList (fun l => some (.tuple l.toArray)) = some (.tuple vs.toArray)) (h : Calls P f (first ++ vs.toArray ++ cap) w (Ret K)) : OpW P o r w K := by
  intro ev hev
  have h2 := evL_some hev _ _ _ hv
  simp at h2
  have hargs : args.map ev = vs.toArray := by rw [← h2]; apply Array.ext'; simp
  have : (execOp ev o).run P w = .ok (.enter f (first ++ vs.toArray ++ cap)) w := by
    simp [execOp, ho, resolve, hev _ _ hx, Deferred.ofValue, invoke, hcall, hargs]
  rw [this]
  exact h

/-! ### Values of structs and lists -/
def placeL (fs : List (Nat × Nat × Bool)) (i : Nat) : Option (Nat × Nat) := match nth fs i with | some (a, b, _) => some (a, b) | none => none
def spliceL (l : List Value) (off : Nat) (cs : List Value) : List Value := l.take off ++ cs ++ l.drop (off + cs.length)
def fillL (place : Nat → Option (Nat × Nat)) : List Value → List (Nat × Value) → Option (List Value)
  | l, [] => some l
  | l, (i, v) :: rest => match place i with
    | none => none
    | some (off, size) => match Nat.beq (cellsL v).length size with
      | false => none
      | true => match Nat.ble (off + (cellsL v).length) l.length with
        | false => none
        | true => fillL place (spliceL l off (cellsL v)) rest
theorem fold_splice : ∀ (vs : List Value) (off k : Nat) (cs : Array Value), off + k + vs.length ≤ cs.size →
    ((vs.zipIdx k).foldl (fun cs (x : Value × Nat) => cs.setIfInBounds (off + x.2) x.1) cs).toList = cs.toList.take (off + k) ++ vs ++ cs.toList.drop (off + k + vs.length)
  | [], off, k, cs, h => by simp
  | v :: vs, off, k, cs, h => by
    have hlt : off + k < cs.size := by simp at h; omega
    rw [List.zipIdx_cons, List.foldl_cons, fold_splice vs off (k + 1) _ (by simp at h ⊢; omega)]
    simp only [Array.toList_setIfInBounds]
    have e := list_seg_step cs.toList (off + k) v vs (by simp at h ⊢; omega)
    simpa [Nat.add_assoc] using e
theorem fill_eq (place : Nat → Option (Nat × Nat)) : ∀ (parts : List (Nat × Value)) (cs : Array Value) (l' : List Value), fillL place cs.toList parts = some l' → Instr.fill place cs parts = some l'.toArray
  | [], cs, l', h => by simp [fillL] at h; simp [Instr.fill, ← h]
  | (i, v) :: rest, cs, l', h => by
    unfold fillL at h
    unfold Instr.fill
    cases hp : place i with
    | none => rw [hp] at h; cases h
    | some os =>
      obtain ⟨off, size⟩ := os
      rw [hp] at h
      simp only at h ⊢
      split at h
      · cases h
      rename_i hb
      split at h
      · cases h
      rename_i hl
      have hsz : v.cells.size = (cellsL v).length := by rw [← cellsL_eq]; simp
      have hb' := Nat.eq_of_beq_eq_true hb
      have hl' : off + (cellsL v).length ≤ cs.size := by simpa [Nat.ble_eq] using hl
      have hcond : (decide (v.cells.size ≠ size) || decide (off + v.cells.size > cs.size)) = false := by simp [hsz, hb']; omega
      rw [if_neg (by simp [hsz, hb']; omega)]
      have hf := fold_splice (cellsL v) off 0 cs (by simpa using hl')
      have e2 : v.cells.zipIdx.foldl (fun cs (x : Value × Nat) => cs.setIfInBounds (off + x.2) x.1) cs = (spliceL cs.toList off (cellsL v)).toArray := by
        apply Array.ext'
        rw [← Array.foldl_toList, Array.toList_zipIdx, cellsL_eq, hf]
        simp [spliceL]
      have := fill_eq place rest (spliceL cs.toList off (cellsL v)).toArray l' (by simpa using h)
      rw [← this]
      congr 1

def evP (ev : Operand → Option Value) : List (Nat × Operand) → (List (Nat × Value) → Option Value) → Option Value
  | [], k => k []
  | (i, x) :: l, k => match ev x with
    | some v => evP ev l fun l' => k ((i, v) :: l')
    | none => none
theorem evP_some {ev : Operand → Option Value} {ev' : Operand → Value} (h : ∀ x v, ev x = some v → ev' x = v) : ∀ (l : List (Nat × Operand)) (k : List (Nat × Value) → Option Value) (u : Value), evP ev l k = some u → k (l.map fun p => (p.1, ev' p.2)) = some u
  | [], k, u, hu => hu
  | (i, x) :: l, k, u, hu => by
    simp only [evP] at hu
    cases hx : ev x with
    | none => rw [hx] at hu; cases hu
    | some v => rw [hx] at hu; have := evP_some h l _ u hu; rw [← h x v hx] at this; exact this

/-- A struct's value. -/
theorem PureV.build (hT : TabOk P T) {t sz by_ : Nat} {parts : Array (Nat × Operand)} {ti : TI} {fs : List (Nat × Nat × Bool)} {z : Value} {l : List Value} (ho : o.op = .build t parts) (ht : nth T t = some ti) (hk : ti.k = .st fs)
    (hz : (P.info? t).map (fun i => (i.zero, i.size, i.bytes)) = some (some z, sz, by_))
    (hv : evP (Env.ev r) parts.toList (fun ps => match fillL (placeL fs) (cellsL z) ps with | some l => laid l (fun l => some (.tuple l.toArray)) | none => none) = some (.tuple l.toArray)) : PureV P r o (.agg l.toArray) := fun ev hev w => by
  obtain ⟨gs, hu, hm, hall⟩ := kOf_st ((hT.k ht).trans hk)
  obtain ⟨i, hi, hzz⟩ := Option.map_eq_some_iff.1 hz
  simp only [Prod.mk.injEq] at hzz
  have h2 := evP_some hev _ _ _ hv
  cases hf : fillL (placeL fs) (cellsL z) (parts.toList.map fun p => (p.1, ev p.2)) with
  | none => rw [hf] at h2; cases h2
  | some l2 =>
    rw [hf] at h2
    simp only [laid_eq] at h2
    simp at h2
    subst h2
    have hp : (parts.map fun (i, x) => (i, ev x)).toList = parts.toList.map fun p => (p.1, ev p.2) := by simp
    have hsz : ∀ (l : List Field), (∀ f ∈ l, ∃ i, P.info? f.type = some i) → (l.mapM fun f => do pure (f.offset, ← sizeOf f.type) : Sem (List (Nat × Nat))).run P w = .ok (l.map fun f => (f.offset, sizeT P f.type)) w := by
      intro l
      induction l with
      | nil => intro _; rfl
      | cons f l ih =>
        intro h
        obtain ⟨i, hi⟩ := h f (by simp)
        have ih' := ih fun f hf => h f (by simp [hf])
        simp [List.mapM_cons, sizeOf, typeInfo, hi, sizeT] at ih' ⊢
        rw [ih']
        rfl
    have hinfo : ∀ f ∈ gs.toList, ∃ i, P.info? f.type = some i := fun f hf => by
      have := hall f hf
      unfold Program.underlying at this
      cases hh : P.info? f.type with
      | none => rw [hh] at this; simp at this
      | some i => exact ⟨i, rfl⟩
    have hmap : (gs.mapM fun f => do pure (f.offset, ← sizeOf f.type) : Sem (Array (Nat × Nat))).run P w = .ok (gs.toList.map fun f => (f.offset, sizeT P f.type)).toArray w := by
      rw [Array.mapM_eq_mapM_toList, Sem.run_map, hsz gs.toList hinfo]
      rfl
    have hplace : (fun i => ((gs.toList.map fun f => (f.offset, sizeT P f.type)).toArray)[i]?) = placeL fs := by
      funext i
      rw [placeL, nth_getElem?, ← hm, List.getElem?_toArray, List.getElem?_map, List.getElem?_map]
      cases gs.toList[i]? <;> rfl
    have hfill := fill_eq (placeL fs) _ z.cells l2 (by rw [cellsL_eq]; exact hf)
    have hfill' : Instr.fill (fun i => ((gs.toList.map fun f => (f.offset, sizeT P f.type)).toArray)[i]?) z.cells (parts.map fun (i, x) => (i, ev x)).toList = some l2.toArray := by rw [hp, hplace]; exact hfill
    have hb : (Instr.build t (parts.map fun (i, x) => (i, ev x))).run P w = .ok (.agg l2.toArray) w := by
      simp only [Instr.build, zeroValue, typeInfo, Sem.run_bind, run_program, Result.andThen_ok, hi, hzz.1, Sem.run_pure, run_underlying hu, hmap]
      rw [hfill']
      rfl
    simp [execOp, ho, hb]
end
end Go.Proofs.Ytpenbdpgpamcbaa.Gw
