/- More rules: remainders, struct equality, append of a make to a nil slice, slices of slices. Conditions: each rule's own premises. -/
import Derived.Test.YtpenbdpgpamcbaaGwSplice
import Derived.Laws.StructEq
set_option linter.unusedVariables false
set_option linter.unusedSimpArgs false
namespace Go.Proofs.Ytpenbdpgpamcbaa.Gw
open Go

section
variable {P : Program} {T : List TI} {r : Env} {o : Oper} {w : World} {K : Value → World → Prop} {c : Ctx} {Own Ro : List Asn}

/-- A remainder, whatever the sign. -/
theorem PureV.remZ {x y : Operand} {xt yt : TypeId} {a b : Int} (hx : Env.ev r x = some (.int .i64 a)) (hy : Env.ev r y = some (.int .i64 b)) (ho : o.op = .binOp .rem xt x y yt) (hb : b ≠ 0) : PureV P r o (.int .i64 (a.tmod b)) := fun ev hev w => by
  simp [execOp, ho, hev _ _ hx, hev _ _ hy, go_sem, Op.intDiv, hb]
/-- Structs compared. -/
theorem PureV.eqA {x y : Operand} {t yt : TypeId} {xs ys : Array Value} {b : Bool} (ho : o.op = .binOp .eql t x y yt) (hx : Env.ev r x = some (.agg xs)) (hy : Env.ev r y = some (.agg ys)) (hg : P.eqGuardType P.depth t = false)
    (h : ∀ w : World, (Op.equalIn 10000 t (.agg xs) (.agg ys)).run P w = .ok b w) : PureV P r o (.bool b) := fun ev hev w => by
  simp only [execOp, ho, hev _ _ hx, hev _ _ hy, Sem.run_bind, run_eqGuard_agg w _ t _ _ xs ys hg, Result.andThen_ok, run_eql_struct, h w, Sem.run_pure]
theorem PureV.neA {x y : Operand} {t yt : TypeId} {xs ys : Array Value} {b : Bool} (ho : o.op = .binOp .neq t x y yt) (hx : Env.ev r x = some (.agg xs)) (hy : Env.ev r y = some (.agg ys)) (hg : P.eqGuardType P.depth t = false)
    (h : ∀ w : World, (Op.equalIn 10000 t (.agg xs) (.agg ys)).run P w = .ok b w) : PureV P r o (.bool (!b)) := fun ev hev w => by
  simp only [execOp, ho, hev _ _ hx, hev _ _ hy, Sem.run_bind, run_eqGuard_agg w _ t _ _ xs ys hg, Result.andThen_ok, run_neq_struct, h w, Sem.run_pure]

/-- append of a make, to a nil slice. -/
theorem OpW.appendZN (hT : TabOk P T) {t tn e k sz by_ : Nat} {s x : Operand} {ti tni : TI} {z : Value} {kn : IntKind} (ho : o.op = .call ⟨.builtin .append, #[s, x], #[t, tn]⟩) (ht : nth T t = some ti) (hk : ti.k = .sl e) (htn : nth T tn = some tni) (hkn : tni.k = .int kn)
    (hz : (P.info? e).map (fun i => (i.zero, i.size, i.bytes)) = some (some z, sz, by_)) (hzs : Nat.beq (cellsL z).length sz = true) (hsz : Nat.blt 0 sz = true)
    (hs : Env.ev r s = some (.slice none 0 0)) (hx : Env.ev r x = some (.int .i64 k)) (h0 : 0 < k) (H : St c w Own Ro) (hb : k * by_ ≤ 140737488355328) (hm : k ≤ maxLen)
    (hK : ∀ g cap' zs w', k ≤ cap' → cap' ≤ maxLen → zs.length = cap' * sz → St c w' (blk g e zs :: Own) Ro → K (.slice (some ⟨g, 0, none⟩) k cap') w') : OpW P o r w K := by
  intro ev hev
  have hu := kOf_sl ((hT.k ht).trans hk)
  have hun : P.underlying tn = some (.int kn) := kOf_int ((hT.k htn).trans hkn)
  obtain ⟨i, hi, hzz⟩ := Option.map_eq_some_iff.1 hz
  simp only [Prod.mk.injEq] at hzz
  obtain ⟨hz0, hzi, hzb⟩ := hzz
  have hzs' : z.cells.size = sz := by rw [← Nat.eq_of_beq_eq_true hzs, ← cellsL_eq]; simp
  have hsz' : 0 < sz := by simpa [Nat.blt_eq] using hsz
  have hf : (Builtin.firstCells i.size 0 (.slice none 0 0)).run P w.drew = .ok #[] w.drew := by simp [Builtin.firstCells]
  have hr := Lib.run_append_grow_zeros (P := P) w t tn o.type e i z .i64 kn hu hun hi hz0 none 0 0 [] hf k h0 (by omega) (by omega) (by simp only [maxLen] at hm; omega) (by rw [hzb]; omega) (growslice_fits (by omega) (by rw [hzb]; simpa using hb))
  have hge := grownCap_ge w (0 + k) 0 e
  have hcm := grownCap_le_maxLen w (0 + k) 0 e (by simpa using hm)
  have : (execOp ev o).run P w = .ok (.value (.slice (some ⟨w.heap.size, 0, none⟩) (0 + k) (grownCap w (0 + k) 0 e))) (w.drew.alloc (.cells (#[] ++ Builtin.zeroCells z.cells k ++ Builtin.zeroCells z.cells (grownCap w (0 + k) 0 e - (0 + k))) e)) := by
    simp [execOp, ho, resolve, invoke, builtin, hev _ _ hs, hev _ _ hx] at hr ⊢
    simp [hr]
  rw [this]
  have h := H.drew.alloc e ((Builtin.zeroCells z.cells k).toList ++ (Builtin.zeroCells z.cells (grownCap w (0 + k) 0 e - (0 + k))).toList)
  rw [Nat.zero_add] at hge hcm h ⊢
  refine hK w.heap.size _ ((Builtin.zeroCells z.cells k).toList ++ (Builtin.zeroCells z.cells (grownCap w k 0 e - k)).toList) _ hge hcm ?_ ?_
  · simp only [List.length_append, Array.length_toList, size_zeroCells, hzs']
    rw [← Nat.add_mul]
    congr 1; omega
  · have ea : (#[] ++ Builtin.zeroCells z.cells k ++ Builtin.zeroCells z.cells (grownCap w k 0 e - k)) = ((Builtin.zeroCells z.cells k).toList ++ (Builtin.zeroCells z.cells (grownCap w k 0 e - k)).toList).toArray := by apply Array.ext'; simp
    rw [ea]
    exact h
end

/-! ### Slices of slices that are read -/
theorem Holds.sub {α : Type} {r : Rdr α} {w : World} {b o cap i : Nat} {xs : List (List α)} {x : List α} (h : Holds w (rd (Rdr.rd r) (some ⟨b, o, none⟩) cap xs)) (hi : xs[i]? = some x) :
    ∃ a1 c1, CellsAt w ⟨b, o + i * 1, none⟩ [.slice a1 x.length c1] ∧ Holds w (rd r a1 c1 x) := by
  obtain ⟨S, cs, ⟨S', ⟨a1, c1, h1, h2⟩, hs⟩, hc, hd⟩ := h.elem hi
  subst h1
  exact ⟨a1, c1, hc, ⟨_, h2⟩⟩
theorem Holds.cell {w : World} {b o : Nat} {v : Value} {l : List Value} (h : CellsAt w ⟨b, o, none⟩ (v :: l)) : w.cell? ⟨b, o, none⟩ = some v := by
  have := h 0 v rfl
  rwa [Addr.add_zero'] at this
theorem Holds.pair2 {α : Type} {r : Rdr α} {w : World} {b e : Nat} {h q : List α} {a1 a2 : Option Addr} {c1 c2 : Nat} (hb : Holds w (blk b e [.slice a1 h.length c1, .slice a2 q.length c2])) (h1 : Holds w (rd r a1 c1 h)) (h2 : Holds w (rd r a2 c2 q)) :
    Holds w (rd (Rdr.rd r) (some ⟨b, 0, none⟩) 2 [h, q]) := by
  obtain ⟨S, hS1, hS2⟩ := hb
  obtain ⟨S1, k1⟩ := h1
  obtain ⟨S2, k2⟩ := h2
  refine ⟨fun k => k = b ∨ S1 k ∨ S2 k, Nat.le_refl 2, by simp [maxLen], fun k hk => ?_, fun _ => ⟨b, 0, _, e, (0, 0), rfl, .inl rfl, hS2, Nat.le_refl _, ?_⟩⟩
  · rcases hk with rfl | hk | hk
    · exact (Array.getElem?_eq_some_iff.1 hS2).1
    · exact k1.dom k hk
    · exact k2.dom k hk
  · refine ⟨[_], [_], rfl, ⟨S1, ⟨a1, c1, rfl, k1⟩, fun k hk => .inr (.inl hk)⟩, [_], [], rfl, ⟨S2, ⟨a2, c2, rfl, k2⟩, fun k hk => .inr (.inr hk)⟩, rfl⟩
end Go.Proofs.Ytpenbdpgpamcbaa.Gw
