/- Cuts with bounds, append where there is room. Conditions: each rule's own premises. -/
import Derived.Test.YtpenbdpgpamcbaaGwBulk
set_option linter.unusedVariables false
set_option linter.unusedSimpArgs false
namespace Go.Proofs.Ytpenbdpgpamcbaa.Gw
open Go

section
variable {P : Program} {T : List TI} {r : Env} {o : Oper} {w : World} {K : Value → World → Prop} {c : Ctx} {Own Ro : List Asn}

/-- x[l:h:m] that is in bounds. -/
theorem PureV.slc3 (hT : TabOk P T) {t e len cap : Nat} {x y z u : Operand} {a : Option Addr} {k1 k2 k3 : IntKind} {l h m : Int} {ti te : TI} (ho : o.op = .slice t x (some y) (some z) (some u)) (hx : Env.ev r x = some (.slice a len cap))
    (hy : Env.ev r y = some (.int k1 l)) (hz : Env.ev r z = some (.int k2 h)) (hu : Env.ev r u = some (.int k3 m)) (ht : nth T t = some ti) (hk : ti.k = .sl e) (he : nth T e = some te)
    (h0 : 0 ≤ l) (h1 : l ≤ h) (h2 : h ≤ m) (h3 : m ≤ cap) : PureV P r o (.slice (if m.toNat = l.toNat then a else a.map (·.add (l.toNat * te.size))) (h.toNat - l.toNat) (m.toNat - l.toNat)) := fun ev hev w => by
  have hun := kOf_sl ((hT.k ht).trans hk)
  obtain ⟨j, hj, hs, _⟩ := hT.size he
  have hb : ∀ (k : IntKind) (i : Int) (y : Nat) (code : BoundsCode), 0 ≤ i → i ≤ y → (Instr.sliceBound (.int k i) y code).run P w = .ok i.toNat w := fun k i y code h0 h1 => run_sliceBound w k i y code h0 h1
  have e3 := hb k3 m cap .slice3Acap (by omega) h3
  have e2 := hb k2 h m.toNat .slice3B (by omega) (by omega)
  have e1 := hb k1 l h.toNat .slice3C h0 (by omega)
  simp [execOp, ho, hev _ _ hx, hev _ _ hy, hev _ _ hz, hev _ _ hu, Instr.sliceAt, Instr.slice, Instr.sliceBounds, run_underlying hun, sizeOf, typeInfo, hj, hs, e1, e2, e3]
/-- x[l:h]. -/
theorem PureV.slcMid (hT : TabOk P T) {t e len cap : Nat} {x y z : Operand} {a : Option Addr} {k1 k2 : IntKind} {l h : Nat} {ti te : TI} (ho : o.op = .slice t x (some y) (some z) none) (hx : Env.ev r x = some (.slice a len cap))
    (hy : Env.ev r y = some (.int k1 (l : Int))) (hz : Env.ev r z = some (.int k2 (h : Int))) (ht : nth T t = some ti) (hk : ti.k = .sl e) (he : nth T e = some te) (h1 : l ≤ h) (h2 : h ≤ cap) : PureV P r o (.slice (cutA a cap l te.size) (h - l) (cap - l)) := by
  have := PureV.slc (P := P) (r := r) (o := o) hT (lo := some y) (hi := some z) (l := l) (h := h) ho hx ht hk he ⟨k1, hy⟩ ⟨k2, hz⟩ (by omega) (by omega) (by omega)
  simpa only [Int.toNat_natCast] using this

/-- append where there is room: the slice stays where it is. -/
theorem run_append_in (hT : TabOk P T) {t ty e sz : Nat} {ti : TI} {z : Value} {by_ : Nat} (ht : nth T t = some ti) (hk : ti.k = .sl e) (hz : (P.info? e).map (fun i => (i.zero, i.size, i.bytes)) = some (some z, sz, by_))
    {n m cap cap2 : Nat} {cs news : List Value} {a0 a : Option Addr} (H : St c w (raw e sz (.slice a0 n cap) n cs :: Own) Ro) (hs : Shows w sz a m news) (hroom : n + m ≤ cap) :
    ∃ w', (Builtin.append_ #[t, t] ty #[.slice a0 n cap, .slice a m cap2]).run P w = .ok (.slice a0 (n + m) cap) w' ∧ St c w' (raw e sz (.slice a0 (n + m) cap) (n + m) (cs ++ news) :: Own) Ro := by
  have hu := kOf_sl ((hT.k ht).trans hk)
  obtain ⟨i, hi, hzz⟩ := Option.map_eq_some_iff.1 hz
  simp only [Prod.mk.injEq] at hzz
  obtain ⟨hz0, hz1, hz2⟩ := hzz
  obtain ⟨hl, h1, hat⟩ := hs
  by_cases h0 : m = 0
  · subst h0
    have hnews : news = [] := List.eq_nil_of_length_eq_zero (by simpa using hl)
    subst hnews
    obtain ⟨_, _, a1, cap0, he, hcap, _⟩ := H.raw_len
    simp only [Value.slice.injEq] at he
    obtain ⟨rfl, _, rfl⟩ := he
    refine ⟨w, ?_, by simpa using H⟩
    cases a0 <;> cases a <;> simp [Builtin.append_, run_underlying hu, sizeOf, typeInfo, hi, Builtin.lenOf, hcap, Builtin.firstCells, loadCells, loadCellsFrom, storeCells]
  · obtain ⟨b, rfl, hcells⟩ := hat.resolve_left h0
    obtain ⟨hcl, hc1, _⟩ := H.raw_len
    rcases H.open_raw with ⟨e1, rfl, rfl, H0⟩ | ⟨g, o', cap', cur, e1, H1, hcur, hnc, hcm, hfit⟩
    · simp only [Value.slice.injEq] at e1
      omega
    simp only [Value.slice.injEq] at e1
    obtain ⟨rfl, _, rfl⟩ := e1
    have hgb := H1.blk_heap (b := g) (e := e) (l := cur) (by simp)
    have hf := run_firstCells_some (P := P) w i.size m b m cap2 news (by rw [hz1]; exact hl) hcells
    have hfit2 : o' + n * sz + news.length ≤ cur.length := by
      rw [hl, Nat.add_assoc, ← Nat.add_mul]
      exact Nat.le_trans (Nat.add_le_add_left (Nat.mul_le_mul_right _ hroom) _) hfit
    have hst := run_storeCells_at P g (o' + n * sz) e news 0 cur.toArray w hgb (by simpa using hfit2) h1
    refine ⟨w.setRow g (cur.take (o' + n * sz) ++ news ++ cur.drop (o' + n * sz + news.length)).toArray, ?_, ?_⟩
    · simp only [List.toList_toArray, Nat.add_zero] at hst
      rw [hz1] at hf
      simp [Builtin.append_, run_underlying hu, sizeOf, typeInfo, hi, Builtin.lenOf, hroom, hf, Addr.add_lit, hz1, hst]
    · have h2 := H1.blk_set (cur.take (o' + n * sz) ++ news ++ cur.drop (o' + n * sz + news.length))
      refine h2.close_raw hroom hcm ?_ ?_ ?_
      · simp only [List.length_append, List.length_take, List.length_drop]; omega
      · have e1 : (cur.take (o' + n * sz) ++ news ++ cur.drop (o' + n * sz + news.length)).drop o' = cs ++ news ++ cur.drop (o' + n * sz + news.length) := by
          rw [List.append_assoc, List.append_assoc, List.drop_append_of_le_length (by simp; omega)]
          congr 1
          rw [List.drop_take, show o' + n * sz - o' = n * sz by omega, hcur]
        rw [e1, Nat.add_mul, ← hcl, ← hl, ← List.length_append, List.take_left]
      · intro u hu; exact (List.mem_append.1 hu).elim (hc1 u) (h1 u)
theorem OpW.appendIn (hT : TabOk P T) {t e sz : Nat} {s x : Operand} {ti : TI} {z : Value} {by_ : Nat} {n m cap cap2 : Nat} {cs news : List Value} {a0 a : Option Addr} (ho : o.op = .call ⟨.builtin .append, #[s, x], #[t, t]⟩)
    (ht : nth T t = some ti) (hk : ti.k = .sl e) (hz : (P.info? e).map (fun i => (i.zero, i.size, i.bytes)) = some (some z, sz, by_))
    (hv : Env.ev r s = some (.slice a0 n cap)) (hx : Env.ev r x = some (.slice a m cap2)) (H : St c w (raw e sz (.slice a0 n cap) n cs :: Own) Ro) (hs : Shows w sz a m news) (hroom : n + m ≤ cap)
    (hK : ∀ w', St c w' (raw e sz (.slice a0 (n + m) cap) (n + m) (cs ++ news) :: Own) Ro → K (.slice a0 (n + m) cap) w') : OpW P o r w K := by
  intro ev hev
  obtain ⟨w', hr, hH⟩ := run_append_in hT (ty := o.type) (cap2 := cap2) ht hk hz H hs hroom
  have : (execOp ev o).run P w = .ok (.value (.slice a0 (n + m) cap)) w' := by simp [execOp, ho, resolve, invoke, builtin, hev _ _ hv, hev _ _ hx, hr]
  rw [this]
  exact hK _ hH
end
/-- A row's end, as it shows. -/
theorem raw_tail_shows {c : Ctx} {w : World} {Own Ro : List Asn} {e sz n cap j : Nat} {a : Option Addr} {cs : List Value} (H : St c w Own Ro) (hm : raw e sz (.slice a n cap) n cs ∈ Own ++ Ro) (hj : j ≤ n) : Shows w sz (cutA a cap j sz) (n - j) (cs.drop (j * sz)) := by
  obtain ⟨S, hS⟩ := H.has hm
  have hl := hS.len
  have hmul : (n - j) * sz = n * sz - j * sz := Nat.sub_mul _ _ _
  refine ⟨by rw [List.length_drop, hl, hmul], fun u hu => hS.one u (List.mem_of_mem_drop hu), ?_⟩
  rcases hS.at_ with ⟨h1, h2, h3⟩ | ⟨g, o, cap', cur, h1, h2, h3, h4, h5, h6, h7⟩
  · exact .inl (by omega)
  · simp only [Value.slice.injEq] at h1
    obtain ⟨rfl, _, rfl⟩ := h1
    by_cases h0 : n - j = 0
    · exact .inl h0
    · refine .inr ⟨⟨g, o + j * sz, none⟩, ?_, ?_⟩
      · rw [cutA, if_neg (by omega)]; simp [Addr.add_lit]
      · have hc : CellsAt w ⟨g, o, none⟩ cs := by
          refine cellsAt_list (l := cur.toList) (by simpa using h2) ?_
          rw [hl]; exact h6
        have := hc.sub (j * sz) (cs.length - j * sz)
        rwa [List.take_of_length_le (by rw [List.length_drop]; exact Nat.le_refl _)] at this
end Go.Proofs.Ytpenbdpgpamcbaa.Gw
