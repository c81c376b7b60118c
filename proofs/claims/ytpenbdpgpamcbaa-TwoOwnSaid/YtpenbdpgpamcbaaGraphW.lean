/- graph: ways by edges; lists compared. Conditions: each fact's own premises. -/
import Derived.Test.YtpenbdpgpamcbaaGraphB
set_option linter.unusedVariables false
set_option linter.unusedSimpArgs false
set_option maxRecDepth 20000
namespace Go.Proofs.Ytpenbdpgpamcbaa
open Go Gw
attribute [local irreducible] W WO WD

/-! ### Ways by edges -/
inductive RchE (E : List (Int × Int)) : Nat → Nat → Prop where
  | refl (a : Nat) : RchE E a a
  | step {a b c : Nat} : ((a : Int), (b : Int)) ∈ E → RchE E b c → RchE E a c
theorem NextOk.rch {n : Nat} {E : List (Int × Int)} {to : List (List Nat)} (h : NextOk n E to) {a b : Nat} : Rch to a b ↔ RchE E a b := by
  constructor
  · intro k
    induction k with
    | refl a => exact .refl a
    | step e _ ih => exact .step ((h.ed _ _).1 e) ih
  · intro k
    induction k with
    | refl a => exact .refl a
    | step e _ ih => exact .step ((h.ed _ _).2 e) ih
/-- A way by one edge or more. -/
def PlusE (E : List (Int × Int)) (a b : Nat) : Prop := ∃ c : Nat, ((a : Int), (c : Int)) ∈ E ∧ RchE E c b
theorem RchE.trans {E : List (Int × Int)} {a b c : Nat} (h : RchE E a b) (k : RchE E b c) : RchE E a c := by
  induction h with
  | refl a => exact k
  | step e _ ih => exact .step e (ih k)
theorem PlusE.next {E : List (Int × Int)} {a b c : Nat} (h : PlusE E a b) (k : ((b : Int), (c : Int)) ∈ E) : PlusE E a c := by
  obtain ⟨d, h1, h2⟩ := h
  exact ⟨d, h1, h2.trans (.step k (.refl c))⟩
theorem RchE.plus {E : List (Int × Int)} {a b : Nat} (h : RchE E a b) (hne : a ≠ b) : PlusE E a b := by
  cases h with
  | refl => exact absurd rfl hne
  | step e k => exact ⟨_, e, k⟩
theorem PlusE.rch {E : List (Int × Int)} {a b : Nat} (h : PlusE E a b) : RchE E a b := by obtain ⟨c, h1, h2⟩ := h; exact .step h1 h2
theorem RchE.closed {E : List (Int × Int)} {S : Nat → Prop} (hS : ∀ a b : Nat, S a → ((a : Int), (b : Int)) ∈ E → S b) {a b : Nat} (h : RchE E a b) (ha : S a) : S b := by
  induction h with
  | refl a => exact ha
  | step e _ ih => exact ih (hS _ _ ha e)

theorem equalN_ok (w : World) (a1 a2 : Option Addr) (c1 c2 : Nat) (xs ys : List Nat) (h1 : Holds w (rd natR a1 c1 xs)) (h2 : Holds w (rd natR a2 c2 ys)) :
    Calls Try.prog 9 #[.slice a1 xs.length c1, .slice a2 ys.length c2] w (Ret fun v w' => Pure w w' ∧ v = .bool (decide (xs = ys))) := by
  refine calls_W (args := [_, _]) Try.func9 rfl Try.ntmps9 rfl ?_
  (repeat (first | refine WO.run tabOk rfl rfl ?_ | refine WO.nil ?_ | refine WO.skip rfl rfl rfl ?_ | refine WO.pu tabOk rfl rfl rfl rfl ?_ | refine W.seq ?_ | refine W.region ?_ | refine W.block ?_ | refine W.skip ?_ | refine W.exit ?_))
  refine W.cond rfl (fun hl => ?_) (fun hl => ?_)
  · (repeat (first | refine WO.run tabOk rfl rfl ?_ | refine WO.nil ?_ | refine WO.skip rfl rfl rfl ?_ | refine WO.pu tabOk rfl rfl rfl rfl ?_ | refine W.seq ?_ | refine W.region ?_ | refine W.block ?_ | refine W.skip ?_ | refine W.exit ?_))
    refine W.ret (ret1 Try.results9 rfl ⟨_, rfl, Pure.refl w, ?_⟩)
    simp at hl
    have : xs ≠ ys := fun e => hl (by rw [e])
    simp [this]
  have hl : xs.length = ys.length := by simp at hl; omega
  (repeat (first | refine WO.run tabOk rfl rfl ?_ | refine WO.nil ?_ | refine WO.skip rfl rfl rfl ?_ | refine WO.pu tabOk rfl rfl rfl rfl ?_ | refine W.seq ?_ | refine W.region ?_ | refine W.block ?_ | refine W.skip ?_ | refine W.exit ?_))
  refine W.loopS [0, 1, 12, 13] (fun i : Nat => [(0, .slice a1 xs.length c1), (1, .slice a2 ys.length c2), (12, .int .i64 xs.length), (13, .int .i64 i)])
    (fun i w' => i ≤ xs.length ∧ (∀ j, j < i → xs[j]? = ys[j]?) ∧ Pure w w') (fun i => xs.length - i) 0 rfl ⟨Nat.zero_le _, fun j hj => (by omega), Pure.refl w⟩ ?_
  rintro i w1 ⟨hi, hno, hp⟩
  have hle := h1.le
  simp only [maxLen] at hle
  (repeat (first | refine WO.run tabOk rfl rfl ?_ | refine WO.nil ?_ | refine WO.skip rfl rfl rfl ?_ | refine WO.pu tabOk rfl rfl rfl rfl ?_ | refine W.seq ?_ | refine W.region ?_ | refine W.block ?_ | refine W.skip ?_ | refine W.exit ?_))
  refine W.cond rfl (fun hlt => ?_) (fun hge => ?_)
  · have hlt : i < xs.length := by simpa using hlt
    obtain ⟨b1, o1, rfl⟩ := h1.addr (by omega)
    obtain ⟨b2, o2, rfl⟩ := h2.addr (by omega)
    (repeat (first | refine WO.run tabOk rfl rfl ?_ | refine WO.nil ?_ | refine WO.skip rfl rfl rfl ?_ | refine WO.pu tabOk rfl rfl rfl rfl ?_ | refine W.seq ?_ | refine W.region ?_ | refine W.block ?_ | refine W.skip ?_ | refine W.exit ?_))
    refine W.regionD [3, 7] (HA [rd natR (some ⟨b1, o1, none⟩) c1 xs, rd natR (some ⟨b2, o2, none⟩) c2 ys]) [0, 1, 2, 3, 4, 5, 6, 7, 8] rfl (by kernel_rfl) (fun _ _ _ h => h) ?_
    have hp1 := hp.trans (Pure.drew w1)
    have hA : HA [rd natR (some ⟨b1, o1, none⟩) c1 xs, rd natR (some ⟨b2, o2, none⟩) c2 ys] w1.drew := HA.cons (h1.pure hp1) (HA.cons (h2.pure hp1) (HA.nil _))
    have hx := List.getElem?_eq_getElem hlt
    have hy := List.getElem?_eq_getElem (l := ys) (i := i) (by omega)
    generalize xs[i] = x at hx
    generalize ys[i] = y at hy
    (repeat (first | refine WD.run tabOk rfl rfl ?_ | refine WD.hv rfl rfl rfl rfl rfl hA (HeldV.load1 tabOk rfl rfl rfl rfl (by (repeat (first | exact .head _ | refine .tail _ ?_))) rfl) ?_ | refine WD.hv rfl rfl rfl rfl rfl hA (HeldV.loadA tabOk rfl rfl rfl rfl (by (repeat (first | exact .head _ | refine .tail _ ?_))) rfl rfl) ?_ | refine WD.pu tabOk rfl rfl rfl rfl rfl rfl ?_))
    refine WD.pv rfl rfl rfl rfl rfl (PureV.idxN tabOk rfl rfl rfl rfl rfl rfl (by omega)) ?_
    (repeat (first | refine WD.run tabOk rfl rfl ?_ | refine WD.hv rfl rfl rfl rfl rfl hA (HeldV.load1 tabOk rfl rfl rfl rfl (by (repeat (first | exact .head _ | refine .tail _ ?_))) rfl) ?_ | refine WD.hv rfl rfl rfl rfl rfl hA (HeldV.loadA tabOk rfl rfl rfl rfl (by (repeat (first | exact .head _ | refine .tail _ ?_))) rfl rfl) ?_ | refine WD.pu tabOk rfl rfl rfl rfl rfl rfl ?_))
    refine WD.hv rfl rfl rfl rfl rfl hA (HeldV.elem1 (j := 0) (i := i) tabOk rfl rfl rfl rfl (.head _) hx rfl rfl) ?_
    (repeat (first | refine WD.run tabOk rfl rfl ?_ | refine WD.hv rfl rfl rfl rfl rfl hA (HeldV.load1 tabOk rfl rfl rfl rfl (by (repeat (first | exact .head _ | refine .tail _ ?_))) rfl) ?_ | refine WD.hv rfl rfl rfl rfl rfl hA (HeldV.loadA tabOk rfl rfl rfl rfl (by (repeat (first | exact .head _ | refine .tail _ ?_))) rfl rfl) ?_ | refine WD.pu tabOk rfl rfl rfl rfl rfl rfl ?_))
    refine WD.pv rfl rfl rfl rfl rfl (PureV.idxN tabOk rfl rfl rfl rfl rfl rfl (by omega)) ?_
    (repeat (first | refine WD.run tabOk rfl rfl ?_ | refine WD.hv rfl rfl rfl rfl rfl hA (HeldV.load1 tabOk rfl rfl rfl rfl (by (repeat (first | exact .head _ | refine .tail _ ?_))) rfl) ?_ | refine WD.hv rfl rfl rfl rfl rfl hA (HeldV.loadA tabOk rfl rfl rfl rfl (by (repeat (first | exact .head _ | refine .tail _ ?_))) rfl rfl) ?_ | refine WD.pu tabOk rfl rfl rfl rfl rfl rfl ?_))
    refine WD.hv rfl rfl rfl rfl rfl hA (HeldV.elem1 (j := 0) (i := i) tabOk rfl rfl rfl rfl (.tail _ (.head _)) hy rfl rfl) ?_
    (repeat (first | refine WD.run tabOk rfl rfl ?_ | refine WD.hv rfl rfl rfl rfl rfl hA (HeldV.load1 tabOk rfl rfl rfl rfl (by (repeat (first | exact .head _ | refine .tail _ ?_))) rfl) ?_ | refine WD.hv rfl rfl rfl rfl rfl hA (HeldV.loadA tabOk rfl rfl rfl rfl (by (repeat (first | exact .head _ | refine .tail _ ?_))) rfl rfl) ?_ | refine WD.pu tabOk rfl rfl rfl rfl rfl rfl ?_))
    skip
    (repeat (first | refine WD.run tabOk rfl rfl ?_ | refine WD.nil ?_))
    refine W.cond rfl (fun he => ?_) (fun he => ?_)
    · (repeat (first | refine WO.run tabOk rfl rfl ?_ | refine WO.nil ?_ | refine WO.skip rfl rfl rfl ?_ | refine WO.pu tabOk rfl rfl rfl rfl ?_ | refine W.seq ?_ | refine W.region ?_ | refine W.block ?_ | refine W.skip ?_ | refine W.exit ?_))
      refine W.ret (ret1 Try.results9 rfl ⟨_, rfl, hp1, ?_⟩)
      have : xs ≠ ys := fun e => by
        subst e
        rw [hx] at hy; cases hy
        simp at he
      simp [this]
    · (repeat (first | refine WO.run tabOk rfl rfl ?_ | refine WO.nil ?_ | refine WO.skip rfl rfl rfl ?_ | refine WO.pu tabOk rfl rfl rfl rfl ?_ | refine W.seq ?_ | refine W.region ?_ | refine W.block ?_ | refine W.skip ?_ | refine W.exit ?_))
      refine WO.pv rfl rfl rfl (PureV.addN rfl rfl rfl (by omega)) ?_
      (repeat (first | refine WO.run tabOk rfl rfl ?_ | refine WO.nil ?_ | refine WO.skip rfl rfl rfl ?_ | refine WO.pu tabOk rfl rfl rfl rfl ?_ | refine W.seq ?_ | refine W.region ?_ | refine W.block ?_ | refine W.skip ?_ | refine W.exit ?_))
      refine ⟨i + 1, rfl, ⟨by omega, ?_, hp1⟩, by omega⟩
      intro j hj
      rcases Nat.lt_succ_iff_lt_or_eq.1 hj with h | rfl
      · exact hno j h
      · rw [hx, hy]
        simp at he
        first | rw [he] | exact congrArg some (by omega)
  · simp at hge
    (repeat (first | refine WO.run tabOk rfl rfl ?_ | refine WO.nil ?_ | refine WO.skip rfl rfl rfl ?_ | refine WO.pu tabOk rfl rfl rfl rfl ?_ | refine W.seq ?_ | refine W.region ?_ | refine W.block ?_ | refine W.skip ?_ | refine W.exit ?_))
    refine W.ret (ret1 Try.results9 rfl ⟨_, rfl, hp, ?_⟩)
    have : xs = ys := List.ext_getElem? fun j => by
      rcases Nat.lt_or_ge j i with h | h
      · exact hno j h
      · rw [List.getElem?_eq_none (by omega), List.getElem?_eq_none (by omega)]
    simp [this]


theorem flat_blk {α : Type} {sz : Nat} {enc : α → List Value} {hl : ∀ x, (enc x).length = sz} {h1 : ∀ x, ∀ v ∈ enc x, v.oneCell' = true} {w : World} {b e : Nat} {l : List α} (h : Holds w (blk b e (l.flatMap enc))) (hlen : l.length ≤ 1000) : Holds w (rd (Rdr.flat sz enc hl h1) (some ⟨b, 0, none⟩) l.length l) := by
  have hf : (l.flatMap enc).length = l.length * sz := flatMap_len hl l
  obtain ⟨S, hS⟩ := h
  have H0 : St ⟨w, S⟩ w [blk b e (l.flatMap enc)] [] := ⟨Like.refl w, fun _ _ _ => rfl, S, ⟨S, fun _ => False, hS, fun _ h => h, fun b => by simp, fun _ _ h => h⟩, fun b hb => .inr hb, fun A hA => nomatch hA⟩
  have H1 := H0.close_raw (sz := sz) (n := l.length) (o := 0) (cap := l.length) (cs := l.flatMap enc) (Nat.le_refl _) (by simp only [maxLen]; omega) (by omega) (by rw [List.drop_zero, ← hf, List.take_length]) (by
    intro u hu
    obtain ⟨d, _, hd⟩ := List.mem_flatMap.1 hu
    exact h1 d u hd)
  have H2 : St ⟨w, S⟩ w (row e (Rdr.flat sz enc hl h1) _ l :: _) _ := H1.flat_close
  obtain ⟨a, cap, e, hh⟩ := row_rd (H2.holds (A := row e (Rdr.flat sz enc hl h1) (.slice (some ⟨b, 0, none⟩) l.length l.length) l) (by simp))
  simp only [Value.slice.injEq] at e
  obtain ⟨rfl, _, rfl⟩ := e
  exact hh

end Go.Proofs.Ytpenbdpgpamcbaa
