/- Drawn regions: the rules of the walk, as for regions in the order of their text. Conditions: each rule's own premises. -/
import Derived.Test.YtpenbdpgpamcbaaGwMore
set_option linter.unusedVariables false
set_option linter.unusedSimpArgs false
namespace Go.Proofs.Ytpenbdpgpamcbaa.Gw
open Go

/-- All of these hold. -/
def HA (L : List Asn) (w : World) : Prop := ∀ A ∈ L, Holds w A
theorem HA.nil (w : World) : HA [] w := fun A h => nomatch h
theorem HA.cons {A : Asn} {L : List Asn} {w : World} (h : Holds w A) (hL : HA L w) : HA (A :: L) w := fun B hB => by
  rcases List.mem_cons.1 hB with rfl | hB
  · exact h
  · exact hL B hB
theorem St.ha {c : Ctx} {w : World} {Own Ro L : List Asn} (h : St c w Own Ro) (hs : ∀ A ∈ L, A ∈ Own ++ Ro) : HA L w := fun A hA => h.holds (hs A hA)

/-- A value that is the same in all worlds where S holds. -/
def HeldV (P : Program) (S : World → Prop) (r : Env) (o : Oper) (v : Value) : Prop := ∀ ev : Operand → Value, (∀ x u, Env.ev r x = some u → ev x = u) → ∀ w', S w' → (execOp ev o).run P w' = .ok (.value v) w'
theorem HeldV.of {P : Program} {S : World → Prop} {r : Env} {o : Oper} {v : Value} (h : ∀ w', S w' → OpW P o r w' fun u w'' => u = v ∧ w'' = w') (hd : ∀ ev : Operand → Value, ∀ w', (execOp ev o).run P w' ≠ .ok .skip w') (he : ∀ ev : Operand → Value, ∀ w' f a w'', (execOp ev o).run P w' ≠ .ok (.enter f a) w'') : HeldV P S r o v := by
  intro ev hev w' hS
  have := h w' hS ev hev
  revert this
  cases hr : (execOp ev o).run P w' with
  | ok x w'' =>
    cases x <;> intro h <;> simp only [RunK] at h
    case value u => rw [h.1, h.2]
    case skip => exact absurd (by rw [hr, h.2]) (hd ev w')
    case enter f a => exact absurd hr (he ev w' f a w'')
  | halt e w'' => intro h; exact h.elim

section
variable {P : Program} {n : Nat} {ops : Array Oper} {held : List Nat} {S : World → Prop} {Q : Env → World → Prop} {l : List Nat} {r : Env} {w : World} {i : Nat} {o : Oper} {T : List TI}

theorem WD.nil (h : Q r w) : WD P n ops held S Q [] r w := ⟨r, Env.sub.refl r, h⟩
/-- An operation that turns the world or hangs on it: nothing more is to be held. -/
theorem WD.one {d : Nat} (ho : ops[i]? = some o) (hd : o.dst = some d) (hn : Nat.blt d n = true) (hg : guardE ops o r = some true) (hc : clsOf held ops i = 2) (hnd : needs held ops i = false)
    (h : OpW P o r w fun v w' => WD P n ops held S Q l ((d, v) :: r) w') : WD P n ops held S Q (i :: l) r w :=
  ⟨r, Env.sub.refl r, o, ho, by simp [dstOk, hd, hn], true, hg, (fun h => nomatch h), fun _ => by rw [hc]; exact h.mono fun v w' hv => ⟨fun h => (by rw [hnd] at h; cases h), by rw [hd]; exact hv⟩⟩
theorem WD.oneS {d : Nat} (ho : ops[i]? = some o) (hd : o.dst = some d) (hn : Nat.blt d n = true) (hg : guardE ops o r = some true) (hc : clsOf held ops i = 2)
    (h : OpW P o r w fun v w' => S w' ∧ WD P n ops held S Q l ((d, v) :: r) w') : WD P n ops held S Q (i :: l) r w :=
  ⟨r, Env.sub.refl r, o, ho, by simp [dstOk, hd, hn], true, hg, (fun h => nomatch h), fun _ => by rw [hc]; exact h.mono fun v w' hv => ⟨fun _ => hv.1, by rw [hd]; exact hv.2⟩⟩
theorem WD.act (ho : ops[i]? = some o) (hd : o.dst = none) (hg : guardE ops o r = some true) (hc : clsOf held ops i = 2) (hnd : needs held ops i = false)
    (h : OpW P o r w fun v w' => WD P n ops held S Q l r w') : WD P n ops held S Q (i :: l) r w :=
  ⟨r, Env.sub.refl r, o, ho, by simp [dstOk, hd], true, hg, (fun h => nomatch h), fun _ => by rw [hc]; exact h.mono fun v w' hv => ⟨fun h => (by rw [hnd] at h; cases h), by rw [hd]; exact hv⟩⟩
theorem WD.actS (ho : ops[i]? = some o) (hd : o.dst = none) (hg : guardE ops o r = some true) (hc : clsOf held ops i = 2)
    (h : OpW P o r w fun v w' => S w' ∧ WD P n ops held S Q l r w') : WD P n ops held S Q (i :: l) r w :=
  ⟨r, Env.sub.refl r, o, ho, by simp [dstOk, hd], true, hg, (fun h => nomatch h), fun _ => by rw [hc]; exact h.mono fun v w' hv => ⟨fun _ => hv.1, by rw [hd]; exact hv.2⟩⟩
/-- A value that is held. -/
theorem WD.hv {d : Nat} {v : Value} (ho : ops[i]? = some o) (hd : o.dst = some d) (hn : Nat.blt d n = true) (hg : guardE ops o r = some true) (hc : clsOf held ops i = 1) (hS : S w) (hv : HeldV P S r o v)
    (h : WD P n ops held S Q l ((d, v) :: r) w) : WD P n ops held S Q (i :: l) r w :=
  ⟨r, Env.sub.refl r, o, ho, by simp [dstOk, hd, hn], true, hg, (fun h => nomatch h), fun _ => by rw [hc]; exact ⟨v, hS, hv, by rw [hd]; exact h⟩⟩
theorem WD.pv {d : Nat} {v : Value} (ho : ops[i]? = some o) (hd : o.dst = some d) (hn : Nat.blt d n = true) (hg : guardE ops o r = some true) (hc : clsOf held ops i = 0) (hv : PureV P r o v)
    (h : WD P n ops held S Q l ((d, v) :: r) w) : WD P n ops held S Q (i :: l) r w :=
  ⟨r, Env.sub.refl r, o, ho, by simp [dstOk, hd, hn], true, hg, (fun h => nomatch h), fun _ => by rw [hc]; exact ⟨v, hv, by rw [hd]; exact h⟩⟩
theorem WD.pu (hT : TabOk P T) {d : Nat} {v : Value} (ho : ops[i]? = some o) (hd : o.dst = some d) (hn : Nat.blt d n = true) (hg : guardE ops o r = some true) (hc : clsOf held ops i = 0) (hv : pureOp T (Env.ev r) o.op = some v)
    (h : WD P n ops held S Q l ((d, v) :: r) w) : WD P n ops held S Q (i :: l) r w := WD.pv ho hd hn hg hc (PureV.of hT hv) h
/-- Left out by its guard. -/
theorem WD.skip {d : Nat} (ho : ops[i]? = some o) (hd : o.dst = some d) (hn : Nat.blt d n = true) (hg : guardE ops o r = some false) (hS : (match clsOf held ops i with | 2 => needs held ops i | _ => false) = false)
    (h : WD P n ops held S Q l ((d, undef) :: r) w) : WD P n ops held S Q (i :: l) r w :=
  ⟨r, Env.sub.refl r, o, ho, by simp [dstOk, hd, hn], false, hg, fun _ => ⟨fun hc hn => (by rw [hc] at hS; simp only at hS; rw [hn] at hS; cases hS), by rw [hd]; exact h⟩, (fun h => nomatch h)⟩
theorem WD.skipS {d : Nat} (ho : ops[i]? = some o) (hd : o.dst = some d) (hn : Nat.blt d n = true) (hg : guardE ops o r = some false) (hS : S w)
    (h : WD P n ops held S Q l ((d, undef) :: r) w) : WD P n ops held S Q (i :: l) r w :=
  ⟨r, Env.sub.refl r, o, ho, by simp [dstOk, hd, hn], false, hg, fun _ => ⟨fun _ _ => hS, by rw [hd]; exact h⟩, (fun h => nomatch h)⟩
theorem WD.caseG {d : Nat} {b : Bool} (ho : ops[i]? = some o) (hs : guardSlot ops o = some d) (hb : Env.get r d = some (.bool b)) (h1 : b = true → WD P n ops held S Q (i :: l) ((d, .bool true) :: r) w) (h2 : b = false → WD P n ops held S Q (i :: l) ((d, .bool false) :: r) w) : WD P n ops held S Q (i :: l) r w := by
  cases hb' : b with
  | true => exact (h1 hb').less (Env.shadow hb (by rw [hb']))
  | false => exact (h2 hb').less (Env.shadow hb (by rw [hb']))
theorem WD.tell {d : Nat} {v u : Value} (hd : Env.get r d = some v) (hu : v = u) (h : WD P n ops held S Q l ((d, u) :: r) w) : WD P n ops held S Q l r w := h.less (Env.shadow hd hu)

/-- Pure operations, as many as come. -/
def runPureD (T : List TI) (n : Nat) (held : List Nat) (ops : Array Oper) : List Nat → Env → List Nat × Env
  | [], r => ([], r)
  | i :: rest, r => match clsOf held ops i with
    | 0 => match ops[i]? with
      | some o => match stepPure T n o r with
        | some r' => runPureD T n held ops rest r'
        | none => (i :: rest, r)
      | none => (i :: rest, r)
    | _ => (i :: rest, r)
theorem WD.pures (hT : TabOk P T) : ∀ (l : List Nat) (r : Env) {l' : List Nat} {r' : Env}, runPureD T n held ops l r = (l', r') → WD P n ops held S Q l' r' w → WD P n ops held S Q l r w
  | [], r, l', r', h, hk => by simp [runPureD] at h; obtain ⟨rfl, rfl⟩ := h; exact hk
  | i :: rest, r, l', r', h, hk => by
    unfold runPureD at h
    split at h
    · rename_i hc
      split at h
      · rename_i o ho
        split at h
        · rename_i r1 hs
          obtain ⟨hg, hd, v, hv, rfl⟩ := stepPure_spec hT hs
          exact ⟨r, Env.sub.refl r, o, ho, hd, true, by simp [guardE, hg], (fun h => nomatch h), fun _ => by rw [hc]; exact ⟨v, hv, WD.pures hT rest _ h hk⟩⟩
        · simp at h; obtain ⟨rfl, rfl⟩ := h; exact hk
      · simp at h; obtain ⟨rfl, rfl⟩ := h; exact hk
    · simp at h; obtain ⟨rfl, rfl⟩ := h; exact hk
theorem WD.run (hT : TabOk P T) {l' : List Nat} {r' : Env} (h : runPureD T n held ops l r = (l', r')) (hlt : Nat.blt l'.length l.length = true) (hk : WD P n ops held S Q l' r' w) : WD P n ops held S Q l r w := WD.pures hT l r h hk
end

/-! ### Loads that are held -/
section
variable {P : Program} {T : List TI} {r : Env} {o : Oper} {L : List Asn}
theorem HeldV.load {S : World → Prop} {t : Nat} {x : Operand} {v : Value} (ho : o.op = .load t x) (h : ∀ w', S w' → OpW P o r w' fun u w'' => u = v ∧ w'' = w') : HeldV P S r o v := by
  refine HeldV.of h (fun ev w' => ?_) (fun ev w' f a w'' => ?_)
  · simp only [execOp, ho, Sem.run_bind]
    cases (Instr.loadAt t (ev x)).run P w' <;> simp [Result.andThen, Sem.run_pure]
  · simp only [execOp, ho, Sem.run_bind]
    cases (Instr.loadAt t (ev x)).run P w' <;> simp [Result.andThen, Sem.run_pure]
theorem HA.blk {w : World} {b e : Nat} {l : List Value} (h : HA L w) (hm : blk b e l ∈ L) : w.heap[b]? = some (.cells l.toArray e (0, 0)) := by obtain ⟨S, hS⟩ := h _ hm; exact hS.2
theorem HeldV.load1 (hT : TabOk P T) {t b off e : Nat} {x : Operand} {ti : TI} {v : Value} {l : List Value} (ho : o.op = .load t x) (hx : Env.ev r x = some (.pointer (some ⟨b, off, none⟩))) (ht : nth T t = some ti) (hs : scalK ti.k = true)
    (hm : blk b e l ∈ L) (hv : nth l off = some v) : HeldV P (HA L) r o v :=
  HeldV.load ho fun w' hw => OpW.loadc hT ho hx ht hs (by rw [cell_list (hw.blk hm), ← nth_getElem?]; exact hv) ⟨rfl, rfl⟩
theorem HeldV.loadA (hT : TabOk P T) {t b off e : Nat} {x : Operand} {ti : TI} {l l' : List Value} (ho : o.op = .load t x) (hx : Env.ev r x = some (.pointer (some ⟨b, off, none⟩))) (ht : nth T t = some ti) (hs : aggK ti.k = true)
    (hm : blk b e l ∈ L) (hv : laid ((l.drop off).take ti.size) (fun l => some (.tuple l.toArray)) = some (.tuple l'.toArray)) (hlen : Nat.beq l'.length ti.size = true) : HeldV P (HA L) r o (.agg l'.toArray) := by
  rw [laid_eq] at hv
  simp at hv
  refine HeldV.load ho fun w' hw => OpW.loadcs hT ho hx ht hs (Nat.eq_of_beq_eq_true hlen) (fun j v hj => ?_) ⟨rfl, rfl⟩
  rw [Addr.add_lit, cell_list (hw.blk hm)]
  rw [← hv, List.getElem?_take] at hj
  split at hj
  · simpa using hj
  · cases hj
end
end Go.Proofs.Ytpenbdpgpamcbaa.Gw
