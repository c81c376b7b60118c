/- Cells moved within a block; blocks apart; slices.overlaps at blocks apart. Conditions: each fact's own premises. -/
import Derived.Test.YtpenbdpgpamcbaaGwHang
set_option linter.unusedVariables false
set_option linter.unusedSimpArgs false
namespace Go.Proofs.Ytpenbdpgpamcbaa.Gw
open Go

theorem St.blk_ne {c : Ctx} {w : World} {Own Ro : List Asn} {a b e f : Nat} {l m : List Value} (h : St c w (blk a e l :: blk b f m :: Own) Ro) : a ≠ b := by
  obtain ⟨O, ⟨S, O', ⟨g1, _⟩, ⟨S2, O2, ⟨k1, _⟩, k2, k3, k4⟩, g3, g4⟩, h2, h3⟩ := h.sep
  intro e
  exact g4 a ((g1 a).2 rfl) ((k3 a).2 (.inl ((k1 a).2 e)))

/-- A beginning of a row, as a row. -/
theorem St.raw_cut {c : Ctx} {w : World} {Own Ro : List Asn} {e sz n m cap : Nat} {a : Option Addr} {cs : List Value} (h : St c w (raw e sz (.slice a n cap) n cs :: Own) Ro) (hm : m ≤ n) (hn : a = none → m = 0 ∧ cap = 0) : St c w (raw e sz (.slice a m cap) m (cs.take (m * sz)) :: Own) Ro := by
  refine h.conv fun S hS => ⟨S, ?_, fun _ h => h⟩
  have hl := hS.len
  have hmm := Nat.mul_le_mul_right sz hm
  refine ⟨by rw [List.length_take, hl]; omega, fun u hu => hS.one u (List.mem_of_mem_take hu), ?_⟩
  rcases hS.at_ with ⟨h1, h2, h3⟩ | ⟨g, o, cap', cur, h1, h2, h3, h4, h5, h6, h7⟩
  · simp only [Value.slice.injEq] at h1
    obtain ⟨rfl, rfl, rfl⟩ := h1
    obtain rfl : m = 0 := by omega
    exact .inl ⟨rfl, rfl, h3⟩
  · simp only [Value.slice.injEq] at h1
    obtain ⟨rfl, _, rfl⟩ := h1
    refine .inr ⟨g, o, cap, cur, rfl, h2, by omega, h4, h5, ?_, h7⟩
    rw [← h6, List.take_take, Nat.min_eq_left hmm]

/-- A row without its first element. -/
theorem St.raw_tail {c : Ctx} {w : World} {Own Ro : List Asn} {e sz n cap : Nat} {a : Option Addr} {cs : List Value} (h : St c w (raw e sz (.slice a (n + 1) cap) (n + 1) cs :: Own) Ro) : St c w (raw e sz (.slice (cutA a cap 1 sz) n (cap - 1)) n (cs.drop sz) :: Own) Ro := by
  refine h.conv fun S hS => ⟨S, ?_, fun _ h => h⟩
  have hl := hS.len
  rw [Nat.add_mul, Nat.one_mul] at hl
  refine ⟨by rw [List.length_drop, hl]; omega, fun u hu => hS.one u (List.mem_of_mem_drop hu), ?_⟩
  rcases hS.at_ with ⟨h1, h2, h3⟩ | ⟨g, o, cap', cur, h1, h2, h3, h4, h5, h6, h7⟩
  · omega
  · simp only [Value.slice.injEq] at h1
    obtain ⟨rfl, _, rfl⟩ := h1
    rw [Nat.add_mul, Nat.one_mul] at h6
    have hsub : (cap - 1) * sz + sz = cap * sz := by rw [← Nat.succ_mul, Nat.succ_eq_add_one, Nat.sub_add_cancel (by omega)]
    by_cases h0 : cap = 1
    · subst h0
      obtain rfl : n = 0 := by omega
      rw [Nat.one_mul] at h5
      rw [Nat.zero_mul] at hl
      refine .inr ⟨g, o, 0, cur, by simp [cutA], h2, Nat.le_refl _, Nat.zero_le _, by rw [Nat.zero_mul]; omega, ?_, h7⟩
      rw [show cs.drop sz = [] from List.drop_of_length_le (by omega)]; simp
    · refine .inr ⟨g, o + 1 * sz, cap - 1, cur, ?_, h2, by omega, by omega, by omega, ?_, h7⟩
      · simp [cutA, h0, Addr.add_lit]
      · rw [← h6, List.drop_take, List.drop_drop]
        simp

theorem splice_get {l xs : List Value} {off : Nat} (h : off + xs.length ≤ l.length) (j : Nat) : (spliceL l off xs)[j]? = if j < off then l[j]? else if j < off + xs.length then xs[j - off]? else l[j]? := by
  unfold spliceL
  rw [List.append_assoc, List.getElem?_append, List.length_take, Nat.min_eq_left (by omega)]
  split
  · rw [List.getElem?_take, if_pos ‹_›]
  · rw [List.getElem?_append]
    split
    · rw [if_pos (by omega)]
    · rw [if_neg (by omega), List.getElem?_drop]
      congr 1; omega
theorem window_get {cur cs : List Value} {o C : Nat} (h : (cur.drop o).take C = cs) {j : Nat} (hj : j < C) : cs[j]? = cur[o + j]? := by
  rw [← h, List.getElem?_take, if_pos hj, List.getElem?_drop]
theorem window_eq {cur cs : List Value} {o C : Nat} (hl : cs.length = C) (hc : o + C ≤ cur.length) (h : ∀ j, j < C → cur[o + j]? = cs[j]?) : (cur.drop o).take C = cs := by
  apply List.ext_getElem?
  intro j
  rw [List.getElem?_take]
  split
  · rw [List.getElem?_drop]; exact h j ‹_›
  · rw [List.getElem?_eq_none (by omega)]
/-- Cells written within a window. -/
theorem window_splice {cur cs xs : List Value} {o C k : Nat} (h : (cur.drop o).take C = cs) (hc : o + C ≤ cur.length) (hk : k + xs.length ≤ C) : ((spliceL cur (o + k) xs).drop o).take C = spliceL cs k xs := by
  have hl : cs.length = C := by rw [← h, List.length_take, List.length_drop]; omega
  have l1 := spliceL_len cur (o + k) xs (by omega)
  have l2 := spliceL_len cs k xs (by omega)
  refine window_eq (by omega) (by omega) fun j hj => ?_
  rw [splice_get (by omega), splice_get (by omega)]
  by_cases h1 : j < k
  · rw [if_pos (show o + j < o + k by omega), if_pos h1, window_get h hj]
  · rw [if_neg (show ¬ o + j < o + k by omega), if_neg h1]
    by_cases h2 : j < k + xs.length
    · rw [if_pos (show o + j < o + k + xs.length by omega), if_pos h2]; congr 1; omega
    · rw [if_neg (show ¬ o + j < o + k + xs.length by omega), if_neg h2, window_get h hj]
theorem splice_same {l : List Value} {k : Nat} {v : Value} (h : l[k]? = some v) : spliceL l k [v] = l := by
  have hlt := (List.getElem?_eq_some_iff.1 h).1
  apply List.ext_getElem?
  intro j
  rw [splice_get (by simp; omega)]
  by_cases h1 : j < k
  · rw [if_pos h1]
  · rw [if_neg h1]
    by_cases h2 : j < k + [v].length
    · rw [if_pos h2]
      have : j = k := by simp at h2; omega
      subst this; simp [h]
    · rw [if_neg h2]
/-- Insertion in place. -/
theorem insert_cells {cur cs vs : List Value} {o A B C : Nat} (hcs : (cur.drop o).take C = cs) (hcl : cs.length = C) (hA : A ≤ C) (hfit : o + (C + B) ≤ cur.length) (hvs : vs.length = B) :
    ((spliceL (spliceL cur (o + (A + B)) (cs.drop A)) (o + A) vs).drop o).take (C + B) = cs.take A ++ vs ++ cs.drop A ∧ (spliceL (spliceL cur (o + (A + B)) (cs.drop A)) (o + A) vs).length = cur.length := by
  have hd : (cs.drop A).length = C - A := by simp [hcl]
  have l1 := spliceL_len cur (o + (A + B)) (cs.drop A) (by omega)
  have l2 := spliceL_len (spliceL cur (o + (A + B)) (cs.drop A)) (o + A) vs (by omega)
  refine ⟨window_eq (by simp [hcl, hvs]; omega) (by omega) fun j hj => ?_, by omega⟩
  rw [splice_get (by omega), splice_get (by omega)]
  rw [List.append_assoc, List.getElem?_append, List.length_take, Nat.min_eq_left (by omega), List.getElem?_append]
  by_cases h1 : j < A
  · rw [if_pos (show o + j < o + A by omega), if_pos (show o + j < o + (A + B) by omega), if_pos h1, List.getElem?_take, if_pos h1]
    exact (window_get hcs (by omega)).symm
  · rw [if_neg (show ¬ o + j < o + A by omega), if_neg h1]
    by_cases h2 : j < A + B
    · rw [if_pos (show o + j < o + A + vs.length by omega), if_pos (show j - A < vs.length by omega)]; congr 1; omega
    · rw [if_neg (show ¬ o + j < o + A + vs.length by omega), if_neg (show ¬ o + j < o + (A + B) by omega), if_pos (show o + j < o + (A + B) + (cs.drop A).length by omega), if_neg (show ¬ j - A < vs.length by omega)]; congr 1; omega
/-- Insertion into a new row. -/
theorem insert_new {cs vs zs : List Value} {A B C : Nat} (hcl : cs.length = C) (hA : A ≤ C) (hz : C + B ≤ A + zs.length) (hvs : vs.length = B) :
    ((spliceL (spliceL (cs.take A ++ zs) A vs) (A + B) (cs.drop A)).drop 0).take (C + B) = cs.take A ++ vs ++ cs.drop A ∧ (spliceL (spliceL (cs.take A ++ zs) A vs) (A + B) (cs.drop A)).length = A + zs.length := by
  have hd : (cs.drop A).length = C - A := by simp [hcl]
  have ht : (cs.take A).length = A := by rw [List.length_take]; omega
  have l0 : (cs.take A ++ zs).length = A + zs.length := by rw [List.length_append, ht]
  have l1 := spliceL_len (cs.take A ++ zs) A vs (by omega)
  have l2 := spliceL_len (spliceL (cs.take A ++ zs) A vs) (A + B) (cs.drop A) (by omega)
  refine ⟨window_eq (by simp [hcl, hvs]; omega) (by omega) fun j hj => ?_, by omega⟩
  rw [splice_get (by omega), splice_get (by omega), Nat.zero_add]
  rw [List.append_assoc]
  by_cases h1 : j < A
  · rw [if_pos (show j < A + B by omega), if_pos h1, List.getElem?_append_left (by omega), List.getElem?_append_left (by omega)]
  · rw [List.getElem?_append_right (l₁ := cs.take A) (l₂ := vs ++ cs.drop A) (by omega), ht]
    by_cases h2 : j < A + B
    · rw [if_pos h2, if_neg h1, if_pos (show j < A + vs.length by omega), List.getElem?_append_left (by omega)]
    · rw [if_neg h2, if_pos (show j < A + B + (cs.drop A).length by omega), List.getElem?_append_right (by omega)]; congr 1; omega

section
variable {P : Program} {T : List TI} {r : Env} {o : Oper} {w : World} {K : Value → World → Prop} {c : Ctx} {Own Ro : List Asn}
theorem OpW.overlaps (hT : TabOk P T) {f tS tR e : Nat} {fn : Func} {args : Array Operand} {ts : Array TypeId} {ti te : TI} {b ob la ca g og lb cb e1 e2 : Nat} {l1 l2 : List Value} (ho : o.op = .call ⟨.value (.func f), args, ts⟩) (hf : P.funcs[f]? = some fn) (hname : (fn.name == "runtime.NumGoroutine") = false)
    (hb : fn.body.isNone = true) (hn : Extern.findNext fn = none) (he : Extern.find fn = some (Extern.SlicesOverlaps.overlaps #[tS, tS] #[tR])) (ht : nth T tS = some ti) (hk : ti.k = .sl e) (hte : nth T e = some te)
    (hv : evL (Env.ev r) args.toList (fun l => some (.tuple l.toArray)) = some (.tuple #[.slice (some ⟨b, ob, none⟩) la ca, .slice (some ⟨g, og, none⟩) lb cb])) (H : St c w Own Ro) (h1 : blk b e1 l1 ∈ Own ++ Ro) (h2 : blk g e2 l2 ∈ Own ++ Ro) (hne : b ≠ g) (hl : l2.length ≠ 0) (hK : K (.bool false) w) : OpW P o r w K := by
  intro ev hev
  have hu := kOf_sl ((hT.k ht).trans hk)
  obtain ⟨i, hi, hsz, _⟩ := hT.size hte
  have q1 := H.blk_heap h1
  have q2 := H.blk_heap h2
  have hh := evL_some hev _ _ _ hv
  simp at hh
  have hargs : args.map ev = #[.slice (some ⟨b, ob, none⟩) la ca, .slice (some ⟨g, og, none⟩) lb cb] := by rw [← hh]; apply Array.ext'; simp
  have hfn : ev (.func f) = .func (.func f) #[] #[] := hev (.func f) _ rfl
  have hr := run_callFunc_extern hf hname hb hn he #[.slice (some ⟨b, ob, none⟩) la ca, .slice (some ⟨g, og, none⟩) lb cb] w
  rw [Lib.run_overlaps_apart w tS tR e hu i.size (fun w => by simp [sizeOf, typeInfo, hi]) ⟨b, ob, none⟩ ⟨g, og, none⟩ la ca lb cb hne e1 e2 l1.length l2.length (by simp [World.shape?, q1]) (by simp [World.shape?, q2]) hl
    (by simp [World.frozen?, q1]) (by simp [World.frozen?, q1])] at hr
  have : (execOp ev o).run P w = .ok (.value (.bool false)) w := by
    simp [execOp, ho, resolve, hfn, Deferred.ofValue, invoke, hargs, hr, Result.andThen]
  rw [this]
  exact hK
end
end Go.Proofs.Ytpenbdpgpamcbaa.Gw
