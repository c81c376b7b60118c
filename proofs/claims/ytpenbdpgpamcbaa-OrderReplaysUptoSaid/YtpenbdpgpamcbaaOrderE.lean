/- order: Serial. Conditions: each fact's own premises. -/
import Derived.Test.YtpenbdpgpamcbaaOrderD
set_option linter.unusedVariables false
set_option linter.unusedSimpArgs false
set_option maxRecDepth 20000
namespace Go.Proofs.Ytpenbdpgpamcbaa
open Go Gw
attribute [local irreducible] W WO WD

theorem idxFN_ok (w : World) (a : Option Addr) (c : Nat) (xs : List Nat) (hH : Holds w (rd natR a c xs)) (fid : Nat) (caps : Array Value) (p : Nat → Bool) (hcall : ∀ (a : Array Value) (w : World), (callFunc fid a).run Try.prog w = .ok (.enter fid a) w)
    (hf : ∀ x ∈ xs, ∀ w', Pure w w' → Calls Try.prog fid (#[] ++ [.int .i64 (x : Int)].toArray ++ caps) w' (Ret fun v w'' => Pure w' w'' ∧ v = .bool (p x))) :
    Calls Try.prog 43 #[.slice a xs.length c, .func (.func fid) #[] caps] w (Ret fun v w' => Pure w w' ∧ v = .int .i64 (idxF p xs)) := by
  refine calls_W (args := [_, _]) Try.func43 rfl Try.ntmps43 rfl ?_
  (repeat (first | refine WO.run tabOk rfl rfl ?_ | refine WO.nil ?_ | refine WO.skip rfl rfl rfl ?_ | refine WO.pu tabOk rfl rfl rfl rfl ?_ | refine W.seq ?_ | refine W.region ?_ | refine W.block ?_ | refine W.skip ?_ | refine W.exit ?_))
  refine W.loopS [0, 1, 6, 7, 8] (fun i : Nat => [(0, .slice a xs.length c), (1, .func (.func fid) #[] caps), (6, .slice a xs.length c), (7, .int .i64 xs.length), (8, .int .i64 i)])
    (fun i w' => i ≤ xs.length ∧ (∀ j, j < i → ∀ x, xs[j]? = some x → p x = false) ∧ Pure w w') (fun i => xs.length - i) 0 rfl ⟨Nat.zero_le _, fun j hj => (by omega), Pure.refl w⟩ ?_
  rintro i w1 ⟨hi, hno, hp⟩
  have hH1 := hH.pure hp
  (repeat (first | refine WO.run tabOk rfl rfl ?_ | refine WO.nil ?_ | refine WO.skip rfl rfl rfl ?_ | refine WO.pu tabOk rfl rfl rfl rfl ?_ | refine W.seq ?_ | refine W.region ?_ | refine W.block ?_ | refine W.skip ?_ | refine W.exit ?_))
  refine W.cond rfl (fun hlt => ?_) (fun hge => ?_)
  · have hlt : i < xs.length := by simpa using hlt
    obtain ⟨b, o, rfl⟩ := hH1.addr (by omega)
    (repeat (first | refine WO.run tabOk rfl rfl ?_ | refine WO.nil ?_ | refine WO.skip rfl rfl rfl ?_ | refine WO.pu tabOk rfl rfl rfl rfl ?_ | refine W.seq ?_ | refine W.region ?_ | refine W.block ?_ | refine W.skip ?_ | refine W.exit ?_))
    refine WO.pv rfl rfl rfl (PureV.idxN tabOk rfl rfl rfl rfl rfl rfl (by omega)) ?_
    have hx := List.getElem?_eq_getElem hlt
    have hm : xs[i] ∈ xs := List.getElem_mem hlt
    refine WO.one rfl rfl rfl (OpW.elem1 (i := i) (j := 0) tabOk rfl rfl rfl rfl hH1 hx rfl rfl ?_)
    generalize xs[i] = x at hx hm
    refine WO.one rfl rfl rfl (OpW.callv (first := #[]) (cap := caps) rfl rfl hcall rfl (Calls.ret (hf x hm _ hp) ?_))
    rintro _ w2 ⟨hp2, rfl⟩
    (repeat (first | refine WO.run tabOk rfl rfl ?_ | refine WO.nil ?_ | refine WO.skip rfl rfl rfl ?_ | refine WO.pu tabOk rfl rfl rfl rfl ?_ | refine W.seq ?_ | refine W.region ?_ | refine W.block ?_ | refine W.skip ?_ | refine W.exit ?_))
    refine W.cond rfl (fun he => ?_) (fun hne => ?_)
    · (repeat (first | refine WO.run tabOk rfl rfl ?_ | refine WO.nil ?_ | refine WO.skip rfl rfl rfl ?_ | refine WO.pu tabOk rfl rfl rfl rfl ?_ | refine W.seq ?_ | refine W.region ?_ | refine W.block ?_ | refine W.skip ?_ | refine W.exit ?_))
      refine W.ret (ret1 Try.results43 rfl ⟨_, rfl, hp.trans hp2, ?_⟩)
      rw [idxF_hit hno hx he]
    · (repeat (first | refine WO.run tabOk rfl rfl ?_ | refine WO.nil ?_ | refine WO.skip rfl rfl rfl ?_ | refine WO.pu tabOk rfl rfl rfl rfl ?_ | refine W.seq ?_ | refine W.region ?_ | refine W.block ?_ | refine W.skip ?_ | refine W.exit ?_))
      have hle := hH1.le
      simp only [maxLen] at hle
      refine WO.pv rfl rfl rfl (PureV.addN rfl rfl rfl (by omega)) ?_
      (repeat (first | refine WO.run tabOk rfl rfl ?_ | refine WO.nil ?_ | refine WO.skip rfl rfl rfl ?_ | refine WO.pu tabOk rfl rfl rfl rfl ?_ | refine W.seq ?_ | refine W.region ?_ | refine W.block ?_ | refine W.skip ?_ | refine W.exit ?_))
      refine ⟨i + 1, rfl, ⟨by omega, ?_, hp.trans hp2⟩, by omega⟩
      intro j hj y hy
      rcases Nat.lt_succ_iff_lt_or_eq.1 hj with h | rfl
      · exact hno j h y hy
      · rw [hx] at hy; cases hy; exact hne
  · (repeat (first | refine WO.run tabOk rfl rfl ?_ | refine WO.nil ?_ | refine WO.skip rfl rfl rfl ?_ | refine WO.pu tabOk rfl rfl rfl rfl ?_ | refine W.seq ?_ | refine W.region ?_ | refine W.block ?_ | refine W.skip ?_ | refine W.exit ?_))
    simp at hge
    refine W.ret (ret1 Try.results43 rfl ⟨_, rfl, hp, ?_⟩)
    rw [idxF_miss]
    intro x hx
    obtain ⟨j, hj, hx'⟩ := List.mem_iff_getElem.1 hx
    exact hno j (by omega) x (by rw [List.getElem?_eq_getElem hj, hx'])

theorem delFN_ok (c : Ctx) (w : World) (Own Ro : List Asn) (v : Value) (xs : List Nat) (H : St c w (row 3 natR v xs :: Own) Ro) (fid : Nat) (caps : Array Value) (p : Nat → Bool) (hcall : ∀ (a : Array Value) (w : World), (callFunc fid a).run Try.prog w = .ok (.enter fid a) w)
    (hf : ∀ x w' A, St c w' (A :: Own) Ro → Calls Try.prog fid (#[] ++ [.int .i64 (x : Int)].toArray ++ caps) w' (Ret fun v w'' => Pure w' w'' ∧ v = .bool (p x))) :
    Calls Try.prog 24 #[v, .func (.func fid) #[] caps] w (Ret fun v' w' => St c w' (row 3 natR v' (xs.filter fun x => !p x) :: Own) Ro) := by
  refine calls_W (args := [_, _]) Try.func24 rfl Try.ntmps24 rfl ?_
  obtain ⟨a, cap, rfl, hrd⟩ := row_rd (H.holds (A := row 3 natR v xs) (by simp))
  (repeat (first | refine WO.run tabOk rfl rfl ?_ | refine WO.nil ?_ | refine WO.skip rfl rfl rfl ?_ | refine WO.pu tabOk rfl rfl rfl rfl ?_ | refine W.seq ?_ | refine W.region ?_ | refine W.block ?_ | refine W.skip ?_ | refine W.exit ?_))
  refine WO.one rfl rfl rfl (OpW.call rfl Try.call43 rfl (Calls.ret (idxFN_ok w a cap xs hrd fid caps p hcall fun x hx w' hp => hf x w' _ (H.after hp)) ?_))
  rintro _ w1 ⟨hp1, rfl⟩
  have H1 := H.after hp1
  have hrd := hrd.pure hp1
  have hle := hrd.le
  simp only [maxLen] at hle
  clear H hp1
  (repeat (first | refine WO.run tabOk rfl rfl ?_ | refine WO.nil ?_ | refine WO.skip rfl rfl rfl ?_ | refine WO.pu tabOk rfl rfl rfl rfl ?_ | refine W.seq ?_ | refine W.region ?_ | refine W.block ?_ | refine W.skip ?_ | refine W.exit ?_))
  refine W.cond rfl (fun h0 => ?_) (fun h0 => ?_)
  · (repeat (first | refine WO.run tabOk rfl rfl ?_ | refine WO.nil ?_ | refine WO.skip rfl rfl rfl ?_ | refine WO.pu tabOk rfl rfl rfl rfl ?_ | refine W.seq ?_ | refine W.region ?_ | refine W.block ?_ | refine W.skip ?_ | refine W.exit ?_))
    refine W.ret (ret1 Try.results24 rfl ⟨_, rfl, ?_⟩)
    have hf : xs.filter (fun x => !p x) = xs := by
      rcases idxF_cases p xs with ⟨_, hall⟩ | ⟨i, x, h, _⟩
      · exact List.filter_eq_self.2 fun x hx => by rw [hall x hx]; rfl
      · rw [h] at h0; simp at h0
    rw [hf]; exact H1
  rcases idxF_cases p xs with ⟨h, _⟩ | ⟨i0, x0, hi0, hx0, hpx0, hno⟩
  · rw [h] at h0; simp at h0
  rw [hi0]
  clear h0
  have hlt0 := (List.getElem?_eq_some_iff.1 hx0).1
  have H2 := H1.flat_open
  rcases H2.open_raw with ⟨_, h, _⟩ | ⟨g, o, cap', cur0, e1, H3, hcur, hnc, hcm, hfit⟩
  · omega
  simp only [Value.slice.injEq] at e1
  obtain ⟨rfl, _, rfl⟩ := e1
  clear H1 H2 hrd
  have hcm' := hcm
  simp only [maxLen] at hcm'
  (repeat (first | refine WO.run tabOk rfl rfl ?_ | refine WO.nil ?_ | refine WO.skip rfl rfl rfl ?_ | refine WO.pu tabOk rfl rfl rfl rfl ?_ | refine W.seq ?_ | refine W.region ?_ | refine W.block ?_ | refine W.skip ?_ | refine W.exit ?_))
  refine WO.pv rfl rfl rfl (PureV.addN rfl rfl rfl (by omega)) ?_
  (repeat (first | refine WO.run tabOk rfl rfl ?_ | refine WO.nil ?_ | refine WO.skip rfl rfl rfl ?_ | refine WO.pu tabOk rfl rfl rfl rfl ?_ | refine W.seq ?_ | refine W.region ?_ | refine W.block ?_ | refine W.skip ?_ | refine W.exit ?_))
  refine W.loopS [0, 1, 5, 6] (fun s : Nat × Nat × List Value => [(0, .slice (some ⟨g, o, none⟩) xs.length cap), (1, .func (.func fid) #[] caps), (5, .int .i64 s.1), (6, .int .i64 s.2.1)])
    (fun s w' => s.1 < s.2.1 ∧ s.2.1 ≤ xs.length ∧ s.2.2.length = cur0.length ∧ St c w' (blk g 3 s.2.2 :: Own) Ro ∧ ∃ ys : List Nat, ys.length = xs.length ∧ (s.2.2.drop o).take (xs.length * 1) = ys.flatMap encN ∧ ys.take s.1 = (xs.take s.2.1).filter (fun x => !p x) ∧ ∀ k, s.2.1 ≤ k → ys[k]? = xs[k]?) (fun s => xs.length - s.2.1)
    (i0, i0 + 1, cur0) rfl ⟨by simp only; omega, by simp only; omega, rfl, H3, xs, rfl, hcur, ?_, fun k _ => rfl⟩ ?_
  · simp only
    rw [List.take_add_one, hx0, List.filter_append]
    have e1 : (xs.take i0).filter (fun x => !p x) = xs.take i0 := List.filter_eq_self.2 fun x hx => by
      obtain ⟨j, hj, e⟩ := List.mem_iff_getElem.1 hx
      simp at hj
      have := hno j (by omega) x (by rw [← e, List.getElem_take, List.getElem?_eq_getElem (by omega)])
      rw [this]; rfl
    rw [e1]; simp [hpx0]
  clear H3 hcur
  rintro ⟨i, j, cur⟩ w3 ⟨hij, hj, hcl, H, ys, hyl, hwin, hpre, hsuf⟩
  simp only at hij hj hcl H hwin hpre hsuf
  (repeat (first | refine WO.run tabOk rfl rfl ?_ | refine WO.nil ?_ | refine WO.skip rfl rfl rfl ?_ | refine WO.pu tabOk rfl rfl rfl rfl ?_ | refine W.seq ?_ | refine W.region ?_ | refine W.block ?_ | refine W.skip ?_ | refine W.exit ?_))
  refine W.cond rfl (fun hlt => ?_) (fun hge => ?_)
  · have hlt : j < xs.length := by simpa using hlt
    (repeat (first | refine WO.run tabOk rfl rfl ?_ | refine WO.nil ?_ | refine WO.skip rfl rfl rfl ?_ | refine WO.pu tabOk rfl rfl rfl rfl ?_ | refine W.seq ?_ | refine W.region ?_ | refine W.block ?_ | refine W.skip ?_ | refine W.exit ?_))
    refine WO.pv rfl rfl rfl (PureV.idxN tabOk rfl rfl rfl rfl rfl rfl (by omega)) ?_
    have hx := List.getElem?_eq_getElem hlt
    generalize xs[j] = x at hx
    have hyx : ys[j]? = some x := by rw [hsuf j (Nat.le_refl _), hx]
    have hcell : (cur.drop (o + j * 1)).take 1 = encN x := by
      have h1 := flatMap_at (enc := encN) (sz := 1) (fun _ => rfl) ys j x hyx
      rw [← hwin, List.drop_take, List.drop_drop, List.take_take, Nat.min_eq_left (by omega)] at h1
      exact h1
    have hc1 : cur[o + j * 1]? = some (.int .i64 (x : Int)) := by
      have h2 : ((cur.drop (o + j * 1)).take 1)[0]? = some (.int .i64 (x : Int)) := by rw [hcell]; rfl
      rw [List.getElem?_take, if_pos (by decide), List.getElem?_drop, Nat.add_zero] at h2
      exact h2
    refine WO.one rfl rfl rfl (OpW.loadB tabOk rfl rfl rfl rfl H (.head _) hc1 ?_)
    (repeat (first | refine WO.run tabOk rfl rfl ?_ | refine WO.nil ?_ | refine WO.skip rfl rfl rfl ?_ | refine WO.pu tabOk rfl rfl rfl rfl ?_ | refine W.seq ?_ | refine W.region ?_ | refine W.block ?_ | refine W.skip ?_ | refine W.exit ?_))
    refine WO.one rfl rfl rfl (OpW.callv (first := #[]) (cap := caps) rfl rfl hcall rfl (Calls.ret (hf x _ _ H) ?_))
    rintro _ w6 ⟨hp6, rfl⟩
    have H6 := H.after hp6
    (repeat (first | refine WO.run tabOk rfl rfl ?_ | refine WO.nil ?_ | refine WO.skip rfl rfl rfl ?_ | refine WO.pu tabOk rfl rfl rfl rfl ?_ | refine W.seq ?_ | refine W.region ?_ | refine W.block ?_ | refine W.skip ?_ | refine W.exit ?_))
    refine W.cond rfl (fun he => ?_) (fun he => ?_)
    · (repeat (first | refine WO.run tabOk rfl rfl ?_ | refine WO.nil ?_ | refine WO.skip rfl rfl rfl ?_ | refine WO.pu tabOk rfl rfl rfl rfl ?_ | refine W.seq ?_ | refine W.region ?_ | refine W.block ?_ | refine W.skip ?_ | refine W.exit ?_))
      refine WO.pv rfl rfl rfl (PureV.idxN tabOk rfl rfl rfl rfl rfl rfl (by omega)) ?_
      refine WO.act rfl rfl (OpW.storeB (i := 0) (v := .int .i64 (x : Int)) tabOk rfl rfl rfl rfl H6 rfl (by intro u hu; simp [cellsL, encN] at hu; subst hu; rfl) rfl (by simp [cellsL]; omega) ?_)
      intro w7 H7
      (repeat (first | refine WO.run tabOk rfl rfl ?_ | refine WO.nil ?_ | refine WO.skip rfl rfl rfl ?_ | refine WO.pu tabOk rfl rfl rfl rfl ?_ | refine W.seq ?_ | refine W.region ?_ | refine W.block ?_ | refine W.skip ?_ | refine W.exit ?_))
      refine WO.pv rfl rfl rfl (PureV.addN (n := i) rfl rfl rfl (by omega)) ?_
      (repeat (first | refine WO.run tabOk rfl rfl ?_ | refine WO.nil ?_ | refine WO.skip rfl rfl rfl ?_ | refine WO.pu tabOk rfl rfl rfl rfl ?_ | refine W.seq ?_ | refine W.region ?_ | refine W.block ?_ | refine W.skip ?_ | refine W.exit ?_))
      refine WO.pv rfl rfl rfl (PureV.addN (n := j) rfl rfl rfl (by omega)) ?_
      (repeat (first | refine WO.run tabOk rfl rfl ?_ | refine WO.nil ?_ | refine WO.skip rfl rfl rfl ?_ | refine WO.pu tabOk rfl rfl rfl rfl ?_ | refine W.seq ?_ | refine W.region ?_ | refine W.block ?_ | refine W.skip ?_ | refine W.exit ?_))
      refine ⟨(i + 1, j + 1, spliceL cur (o + i * 1) (encN x)), rfl, ⟨by simp only; omega, by simp only; omega, by simp only; rw [spliceL_len _ _ _ (by simp [encN]; omega)]; exact hcl, H7, ys.set i x, by simp [hyl], ?_, ?_, ?_⟩, by simp only; omega⟩
      · simp only
        rw [window_splice hwin (by omega) (by simp [encN]; omega)]
        exact flat_setA (enc := encN) (sz := 1) (fun _ => rfl) (by omega)
      · simp only
        rw [take_snoc hx, List.filter_append, ← hpre]
        simp at he
        rw [List.take_add_one, List.getElem?_set_self (by omega), List.take_set_of_le (Nat.le_refl _)]
        simp [he]
      · intro k hk
        simp only at hk
        rw [List.getElem?_set_ne (by omega), hsuf k (by omega)]
    · (repeat (first | refine WO.run tabOk rfl rfl ?_ | refine WO.nil ?_ | refine WO.skip rfl rfl rfl ?_ | refine WO.pu tabOk rfl rfl rfl rfl ?_ | refine W.seq ?_ | refine W.region ?_ | refine W.block ?_ | refine W.skip ?_ | refine W.exit ?_))
      refine WO.pv rfl rfl rfl (PureV.addN (n := j) rfl rfl rfl (by omega)) ?_
      (repeat (first | refine WO.run tabOk rfl rfl ?_ | refine WO.nil ?_ | refine WO.skip rfl rfl rfl ?_ | refine WO.pu tabOk rfl rfl rfl rfl ?_ | refine W.seq ?_ | refine W.region ?_ | refine W.block ?_ | refine W.skip ?_ | refine W.exit ?_))
      refine ⟨(i, j + 1, cur), rfl, ⟨by simp only; omega, by simp only; omega, hcl, H6, ys, hyl, hwin, ?_, fun k hk => hsuf k (by simp only at hk; omega)⟩, by simp only; omega⟩
      simp only
      rw [take_snoc hx, List.filter_append, ← hpre]
      simp at he
      simp [he]
  · simp at hge
    obtain rfl : j = xs.length := by omega
    (repeat (first | refine WO.run tabOk rfl rfl ?_ | refine WO.nil ?_ | refine WO.skip rfl rfl rfl ?_ | refine WO.pu tabOk rfl rfl rfl rfl ?_ | refine W.seq ?_ | refine W.region ?_ | refine W.block ?_ | refine W.skip ?_ | refine W.exit ?_))
    refine WO.pv rfl rfl rfl (PureV.slcFrom tabOk rfl rfl rfl rfl rfl rfl (show i ≤ xs.length by omega) hnc rfl) ?_
    rw [cutA, if_neg (show ¬ cap = i by omega)]
    simp only [Option.map_some, Addr.add_lit]
    refine WO.act rfl rfl (OpW.clear (i := 0) tabOk rfl rfl rfl zero3 rfl rfl rfl H rfl (by omega) ?_)
    intro zs w5 hzl H5
    (repeat (first | refine WO.run tabOk rfl rfl ?_ | refine WO.nil ?_ | refine WO.skip rfl rfl rfl ?_ | refine WO.pu tabOk rfl rfl rfl rfl ?_ | refine W.seq ?_ | refine W.region ?_ | refine W.block ?_ | refine W.skip ?_ | refine W.exit ?_))
    refine WO.pv rfl rfl rfl (PureV.slcTo tabOk rfl rfl rfl rfl rfl rfl (show i ≤ cap by omega)) ?_
    (repeat (first | refine WO.run tabOk rfl rfl ?_ | refine WO.nil ?_ | refine WO.skip rfl rfl rfl ?_ | refine WO.pu tabOk rfl rfl rfl rfl ?_ | refine W.seq ?_ | refine W.region ?_ | refine W.block ?_ | refine W.skip ?_ | refine W.exit ?_))
    refine W.ret (ret1 Try.results24 rfl ⟨_, rfl, ?_⟩)
    rw [List.take_length] at hpre
    rw [← hpre]
    have hl : (ys.take i).length = i := by rw [List.length_take]; omega
    have H6 := H5.close_raw (sz := 1) (n := i) (o := o) (cap := cap) (cs := (ys.take i).flatMap encN) (by omega) hcm (by rw [spliceL_len _ _ _ (by omega)]; omega) ?_ ?_
    · have H7 := St.flat_close (enc := encN) (sz := 1) (xs := ys.take i) (hl := fun _ => rfl) (h1 := fun x v hv => by simp [encN] at hv; subst hv; rfl) (by rw [hl]; exact H6)
      exact H7
    · rw [← flat_take (enc := encN) (sz := 1) (fun _ => rfl), ← hwin, List.take_take, Nat.min_eq_left (by omega)]
      apply List.ext_getElem?
      intro k
      rw [List.getElem?_take, List.getElem?_take, List.getElem?_drop, List.getElem?_drop]
      split
      · rw [splice_get (by omega), if_pos (by omega)]
      · rfl
    · intro u hu
      obtain ⟨y, _, hy⟩ := List.mem_flatMap.1 hu
      simp [encN] at hy; subst hy; rfl


theorem isTale2_ok (w : World) (x : Tale) (v : Value) (hv : v.oneCell' = true) (b : Nat) (k : Int) (hb : Holds w (blk b 3 [.int .i64 k])) :
    Calls Try.prog 27 (#[] ++ [Value.agg [.int .i64 x.1, v].toArray].toArray ++ #[.pointer (some ⟨b, 0, none⟩)]) w (Ret fun v w' => Pure w w' ∧ v = .bool (decide (x.1 = k))) := by
  show Calls Try.prog 27 #[.agg #[.int .i64 x.1, v], .pointer (some ⟨b, 0, none⟩)] w _
  refine calls_W (args := [_, _]) Try.func27 rfl Try.ntmps27 rfl ?_
  have H := St.start [blk b 3 [.int .i64 k]] (w := w) (by simpa using hb)
  (repeat (first | refine W.seq ?_ | refine W.block ?_ | refine W.skip ?_ | refine W.exit ?_ | refine W.region ?_))
  refine WO.one rfl rfl rfl (OpW.box rfl rfl rfl H ?_); intro bx w1 H1
  (repeat (first | refine WO.run tabOk rfl rfl ?_ | refine WO.nil ?_ | refine WO.skip rfl rfl rfl ?_ | refine WO.pu tabOk rfl rfl rfl rfl ?_ | refine W.seq ?_ | refine W.region ?_ | refine W.block ?_ | refine W.skip ?_ | refine W.exit ?_ | refine WO.one rfl rfl rfl (OpW.load1 tabOk rfl rfl rfl rfl H1 (by (first | exact .head _ | exact .tail _ (.head _) | exact .tail _ (.tail _ (.head _)) | exact .tail _ (.tail _ (.tail _ (.head _))) | exact .tail _ (.tail _ (.tail _ (.tail _ (.head _)))) | exact .tail _ (.tail _ (.tail _ (.tail _ (.tail _ (.head _))))) | exact .tail _ (.tail _ (.tail _ (.tail _ (.tail _ (.tail _ (.head _)))))) | exact .tail _ (.tail _ (.tail _ (.tail _ (.tail _ (.tail _ (.tail _ (.head _))))))) | exact .tail _ (.tail _ (.tail _ (.tail _ (.tail _ (.tail _ (.tail _ (.tail _ (.head _)))))))) | exact .tail _ (.tail _ (.tail _ (.tail _ (.tail _ (.tail _ (.tail _ (.tail _ (.tail _ (.head _))))))))) | exact .tail _ (.tail _ (.tail _ (.tail _ (.tail _ (.tail _ (.tail _ (.tail _ (.tail _ (.tail _ (.head _)))))))))) | exact .tail _ (.tail _ (.tail _ (.tail _ (.tail _ (.tail _ (.tail _ (.tail _ (.tail _ (.tail _ (.tail _ (.head _))))))))))) | exact .tail _ (.tail _ (.tail _ (.tail _ (.tail _ (.tail _ (.tail _ (.tail _ (.tail _ (.tail _ (.tail _ (.tail _ (.head _)))))))))))) | exact .tail _ (.tail _ (.tail _ (.tail _ (.tail _ (.tail _ (.tail _ (.tail _ (.tail _ (.tail _ (.tail _ (.tail _ (.tail _ (.head _))))))))))))) | exact .tail _ (.tail _ (.tail _ (.tail _ (.tail _ (.tail _ (.tail _ (.tail _ (.tail _ (.tail _ (.tail _ (.tail _ (.tail _ (.tail _ (.head _)))))))))))))) | exact .tail _ (.tail _ (.tail _ (.tail _ (.tail _ (.tail _ (.tail _ (.tail _ (.tail _ (.tail _ (.tail _ (.tail _ (.tail _ (.tail _ (.tail _ (.head _))))))))))))))))) rfl ?_)))
  exact W.ret (ret1 Try.results27 rfl ⟨_, rfl, H1.pure, rfl⟩)

theorem ser1_ok (w : World) (k : Nat) (T : List Tale) (V : List (List Int)) (ta va : Option Addr) (tc vc b : Nat) (hH : StoryR w T V ta va tc vc) (hb : Holds w (blk b 25 (storyV T V ta va tc vc))) :
    Calls Try.prog 25 (#[] ++ [Value.int .i64 (k : Int)].toArray ++ #[.pointer (some ⟨b, 0, none⟩)]) w (Ret fun v w' => Pure w w' ∧ v = .bool (!(T.any fun t => decide (t.1 = (k : Int))))) := by
  show Calls Try.prog 25 #[.int .i64 (k : Int), .pointer (some ⟨b, 0, none⟩)] w _
  refine calls_W (args := [_, _]) Try.func25 rfl Try.ntmps25 rfl ?_
  have H := St.start [blk b 25 (storyV T V ta va tc vc)] (w := w) (by simpa using hb)
  (repeat (first | refine W.seq ?_ | refine W.block ?_ | refine W.skip ?_ | refine W.exit ?_ | refine W.region ?_))
  refine WO.one rfl rfl rfl (OpW.box rfl rfl rfl H ?_); intro bx w1 H1
  (repeat (first | refine WO.run tabOk rfl rfl ?_ | refine WO.nil ?_ | refine WO.skip rfl rfl rfl ?_ | refine WO.pu tabOk rfl rfl rfl rfl ?_ | refine W.seq ?_ | refine W.region ?_ | refine W.block ?_ | refine W.skip ?_ | refine W.exit ?_ | refine WO.one rfl rfl rfl (OpW.load1 tabOk rfl rfl rfl rfl H1 (by (first | exact .head _ | exact .tail _ (.head _) | exact .tail _ (.tail _ (.head _)) | exact .tail _ (.tail _ (.tail _ (.head _))) | exact .tail _ (.tail _ (.tail _ (.tail _ (.head _)))) | exact .tail _ (.tail _ (.tail _ (.tail _ (.tail _ (.head _))))) | exact .tail _ (.tail _ (.tail _ (.tail _ (.tail _ (.tail _ (.head _)))))) | exact .tail _ (.tail _ (.tail _ (.tail _ (.tail _ (.tail _ (.tail _ (.head _))))))) | exact .tail _ (.tail _ (.tail _ (.tail _ (.tail _ (.tail _ (.tail _ (.tail _ (.head _)))))))) | exact .tail _ (.tail _ (.tail _ (.tail _ (.tail _ (.tail _ (.tail _ (.tail _ (.tail _ (.head _))))))))) | exact .tail _ (.tail _ (.tail _ (.tail _ (.tail _ (.tail _ (.tail _ (.tail _ (.tail _ (.tail _ (.head _)))))))))) | exact .tail _ (.tail _ (.tail _ (.tail _ (.tail _ (.tail _ (.tail _ (.tail _ (.tail _ (.tail _ (.tail _ (.head _))))))))))) | exact .tail _ (.tail _ (.tail _ (.tail _ (.tail _ (.tail _ (.tail _ (.tail _ (.tail _ (.tail _ (.tail _ (.tail _ (.head _)))))))))))) | exact .tail _ (.tail _ (.tail _ (.tail _ (.tail _ (.tail _ (.tail _ (.tail _ (.tail _ (.tail _ (.tail _ (.tail _ (.tail _ (.head _))))))))))))) | exact .tail _ (.tail _ (.tail _ (.tail _ (.tail _ (.tail _ (.tail _ (.tail _ (.tail _ (.tail _ (.tail _ (.tail _ (.tail _ (.tail _ (.head _)))))))))))))) | exact .tail _ (.tail _ (.tail _ (.tail _ (.tail _ (.tail _ (.tail _ (.tail _ (.tail _ (.tail _ (.tail _ (.tail _ (.tail _ (.tail _ (.tail _ (.head _))))))))))))))))) rfl ?_)))
  have hB : Holds w1 (blk bx 3 [.int .i64 (k : Int)]) := H1.holds (by simp)
  refine WO.one rfl rfl rfl (OpW.call rfl Try.call26 rfl (Calls.ret (hasFT_ok w1 ta tc T (hH.t.pure H1.pure) 27 #[.pointer (some ⟨bx, 0, none⟩)] (fun t => decide (t.1 = (k : Int))) Try.call27
    (fun t _ cs ⟨S, a', c', hcs', _⟩ w' hp => by subst hcs'; exact isTale2_ok w' t _ rfl bx k (hB.pure hp))) ?_))
  rintro _ w2 ⟨hp2, rfl⟩
  have H2 := H1.after hp2
  (repeat (first | refine WO.run tabOk rfl rfl ?_ | refine WO.nil ?_ | refine WO.skip rfl rfl rfl ?_ | refine WO.pu tabOk rfl rfl rfl rfl ?_ | refine W.seq ?_ | refine W.region ?_ | refine W.block ?_ | refine W.skip ?_ | refine W.exit ?_))
  exact W.ret (ret1 Try.results25 rfl ⟨_, rfl, H2.pure, rfl⟩)

def allE (D : List D3) : List (Int × Int) := D.map fun d => (d.1, d.2.1)
theorem mem_allE {D : List D3} {a b : Int} : (a, b) ∈ allE D ↔ ∃ k, (a, b, k) ∈ D := by
  simp only [allE, List.mem_map, Prod.mk.injEq]
  constructor
  · rintro ⟨⟨x, y, z⟩, h1, rfl, rfl⟩; exact ⟨z, h1⟩
  · rintro ⟨k, h⟩; exact ⟨_, h, rfl, rfl⟩
theorem allE_len (D : List D3) : (allE D).length = D.length := List.length_map _
theorem allE_snoc {D : List D3} {i : Nat} {x y z : Int} (h : D[i]? = some (x, y, z)) : allE (D.take (i + 1)) = allE (D.take i) ++ [(x, y)] := by
  simp only [allE]; rw [take_snoc h, List.map_append]; rfl

def SerialPost (w w' : World) (T : List Tale) (V : List (List Int)) (v : Value) : Prop :=
  ∃ ov e, v = .tuple #[ov, .int .i64 e] ∧ ((e ≠ 0 ∧ ¬ StoryOk T V ∧ ov = .slice none 0 0 ∧ Pure w w') ∨ (e = 11 ∧ StoryOk T V ∧ LoopK T V 3 ∧ ov = .slice none 0 0 ∧ Pure w w') ∨
    (e = 0 ∧ StoryOk T V ∧ ¬ LoopK T V 3 ∧ ∃ t, Ser T V t ∧ St (at0 w) w' [row 3 natR ov t] []))
theorem serial_ok (w : World) (T : List Tale) (V : List (List Int)) (ta va : Option Addr) (tc vc : Nat) (hH : StoryR w T V ta va tc vc) (hsm : readsN T ≤ 1048576) :
    Calls Try.prog 8 #[.agg #[.slice ta T.length tc, .slice va V.length vc]] w (Ret fun v w' => SerialPost w w' T V v) := by
  refine calls_W (args := [_]) Try.func8 rfl Try.ntmps8 rfl ?_
  have H := St.start [] (w := w) (by simp)
  (repeat (first | refine W.seq ?_ | refine W.block ?_ | refine W.skip ?_ | refine W.exit ?_ | refine W.region ?_))
  refine WO.one rfl rfl rfl (OpW.box rfl rfl rfl H ?_); intro b1 w1 H1
  clear H
  (repeat (first | refine WO.run tabOk rfl rfl ?_ | refine WO.nil ?_ | refine WO.skip rfl rfl rfl ?_ | refine WO.pu tabOk rfl rfl rfl rfl ?_ | refine W.seq ?_ | refine W.region ?_ | refine W.block ?_ | refine W.skip ?_ | refine W.exit ?_ | refine WO.one rfl rfl rfl (OpW.load1 tabOk rfl rfl rfl rfl H1 (by (first | exact .head _ | exact .tail _ (.head _) | exact .tail _ (.tail _ (.head _)) | exact .tail _ (.tail _ (.tail _ (.head _))) | exact .tail _ (.tail _ (.tail _ (.tail _ (.head _)))) | exact .tail _ (.tail _ (.tail _ (.tail _ (.tail _ (.head _))))) | exact .tail _ (.tail _ (.tail _ (.tail _ (.tail _ (.tail _ (.head _)))))) | exact .tail _ (.tail _ (.tail _ (.tail _ (.tail _ (.tail _ (.tail _ (.head _))))))) | exact .tail _ (.tail _ (.tail _ (.tail _ (.tail _ (.tail _ (.tail _ (.tail _ (.head _)))))))) | exact .tail _ (.tail _ (.tail _ (.tail _ (.tail _ (.tail _ (.tail _ (.tail _ (.tail _ (.head _))))))))) | exact .tail _ (.tail _ (.tail _ (.tail _ (.tail _ (.tail _ (.tail _ (.tail _ (.tail _ (.tail _ (.head _)))))))))) | exact .tail _ (.tail _ (.tail _ (.tail _ (.tail _ (.tail _ (.tail _ (.tail _ (.tail _ (.tail _ (.tail _ (.head _))))))))))) | exact .tail _ (.tail _ (.tail _ (.tail _ (.tail _ (.tail _ (.tail _ (.tail _ (.tail _ (.tail _ (.tail _ (.tail _ (.head _)))))))))))) | exact .tail _ (.tail _ (.tail _ (.tail _ (.tail _ (.tail _ (.tail _ (.tail _ (.tail _ (.tail _ (.tail _ (.tail _ (.tail _ (.head _))))))))))))) | exact .tail _ (.tail _ (.tail _ (.tail _ (.tail _ (.tail _ (.tail _ (.tail _ (.tail _ (.tail _ (.tail _ (.tail _ (.tail _ (.tail _ (.head _)))))))))))))) | exact .tail _ (.tail _ (.tail _ (.tail _ (.tail _ (.tail _ (.tail _ (.tail _ (.tail _ (.tail _ (.tail _ (.tail _ (.tail _ (.tail _ (.tail _ (.head _))))))))))))))))) rfl ?_)))
  refine WO.one rfl rfl rfl (OpW.loadA tabOk rfl rfl rfl rfl H1 (by (first | exact .head _ | exact .tail _ (.head _) | exact .tail _ (.tail _ (.head _)) | exact .tail _ (.tail _ (.tail _ (.head _))) | exact .tail _ (.tail _ (.tail _ (.tail _ (.head _)))) | exact .tail _ (.tail _ (.tail _ (.tail _ (.tail _ (.head _))))) | exact .tail _ (.tail _ (.tail _ (.tail _ (.tail _ (.tail _ (.head _)))))) | exact .tail _ (.tail _ (.tail _ (.tail _ (.tail _ (.tail _ (.tail _ (.head _))))))) | exact .tail _ (.tail _ (.tail _ (.tail _ (.tail _ (.tail _ (.tail _ (.tail _ (.head _)))))))) | exact .tail _ (.tail _ (.tail _ (.tail _ (.tail _ (.tail _ (.tail _ (.tail _ (.tail _ (.head _))))))))) | exact .tail _ (.tail _ (.tail _ (.tail _ (.tail _ (.tail _ (.tail _ (.tail _ (.tail _ (.tail _ (.head _)))))))))) | exact .tail _ (.tail _ (.tail _ (.tail _ (.tail _ (.tail _ (.tail _ (.tail _ (.tail _ (.tail _ (.tail _ (.head _))))))))))) | exact .tail _ (.tail _ (.tail _ (.tail _ (.tail _ (.tail _ (.tail _ (.tail _ (.tail _ (.tail _ (.tail _ (.tail _ (.head _)))))))))))) | exact .tail _ (.tail _ (.tail _ (.tail _ (.tail _ (.tail _ (.tail _ (.tail _ (.tail _ (.tail _ (.tail _ (.tail _ (.tail _ (.head _))))))))))))) | exact .tail _ (.tail _ (.tail _ (.tail _ (.tail _ (.tail _ (.tail _ (.tail _ (.tail _ (.tail _ (.tail _ (.tail _ (.tail _ (.tail _ (.head _)))))))))))))) | exact .tail _ (.tail _ (.tail _ (.tail _ (.tail _ (.tail _ (.tail _ (.tail _ (.tail _ (.tail _ (.tail _ (.tail _ (.tail _ (.tail _ (.tail _ (.head _))))))))))))))))) rfl rfl ?_)
  refine WO.one rfl rfl rfl (OpW.call rfl Try.call22 rfl (Calls.ret (deps_ok _ T V ta va tc vc (hH.pure H1.pure) hsm) ?_))
  rintro _ w3 ⟨dv, e, rfl, hpost⟩
  rcases hpost with ⟨he, hno, rfl, hp3⟩ | ⟨rfl, hS, D, hnd, hD, K⟩
  · have H3 := H1.after hp3
    (repeat (first | refine WO.run tabOk rfl rfl ?_ | refine WO.nil ?_ | refine WO.skip rfl rfl rfl ?_ | refine WO.pu tabOk rfl rfl rfl rfl ?_ | refine W.seq ?_ | refine W.region ?_ | refine W.block ?_ | refine W.skip ?_ | refine W.exit ?_))
    refine W.cond rfl (fun _ => ?_) (fun h => by simp at h; exact absurd h he)
    (repeat (first | refine WO.run tabOk rfl rfl ?_ | refine WO.nil ?_ | refine WO.skip rfl rfl rfl ?_ | refine WO.pu tabOk rfl rfl rfl rfl ?_ | refine W.seq ?_ | refine W.region ?_ | refine W.block ?_ | refine W.skip ?_ | refine W.exit ?_))
    exact W.ret (ret2 Try.results8 rfl rfl ⟨_, rfl, _, _, rfl, .inl ⟨he, hno, rfl, H3.pure⟩⟩)
  have H3 := H1.take K
  have hb : ∀ d ∈ D, 0 ≤ d.1 ∧ d.1 < 12 ∧ 0 ≤ d.2.1 ∧ d.2.1 < 12 ∧ 1 ≤ d.2.2 ∧ d.2.2 ≤ 3 := fun d hd => Dep.bound hS ((hD d).1 hd)
  have hl := nodup_small hnd hb
  have hG : GOk 12 (allE D) := ⟨by decide, by decide, by rw [allE_len]; omega, fun e he => by
    obtain ⟨d, hd, rfl⟩ := List.mem_map.1 he
    have := hb d hd; simp only; omega⟩
  have hE : ∀ a b : Int, (a, b) ∈ allE D ↔ ∃ k, Dep T V (a, b, k) := fun a b => by
    rw [mem_allE]
    exact ⟨fun ⟨k, h⟩ => ⟨k, (hD _).1 h⟩, fun ⟨k, h⟩ => ⟨k, (hD _).2 h⟩⟩
  have hloop : (∃ x, PlusE (allE D) x x) ↔ LoopK T V 3 := by
    constructor
    · refine fun h => ⟨_, fun e he => ?_, h⟩
      obtain ⟨a, b⟩ := e
      obtain ⟨k, hk⟩ := mem_allE.1 he
      exact ⟨k, (hb _ hk).2.2.2.2.2, (hD _).1 hk⟩
    · rintro ⟨E, hE', x, hx⟩
      exact ⟨x, hx.mono fun e he => by obtain ⟨a, b⟩ := e; obtain ⟨q, _, h⟩ := hE' _ he; exact (hE a b).2 ⟨q, h⟩⟩
  obtain ⟨da, dc, rfl, hr⟩ := row_rd (H3.holds (A := row 69 depR dv D) (by simp))
  clear K H1
  (repeat (first | refine WO.run tabOk rfl rfl ?_ | refine WO.nil ?_ | refine WO.skip rfl rfl rfl ?_ | refine WO.pu tabOk rfl rfl rfl rfl ?_ | refine W.seq ?_ | refine W.region ?_ | refine W.block ?_ | refine W.skip ?_ | refine W.exit ?_))
  refine W.cond_f rfl ?_
  (repeat (first | refine WO.run tabOk rfl rfl ?_ | refine WO.nil ?_ | refine WO.skip rfl rfl rfl ?_ | refine WO.pu tabOk rfl rfl rfl rfl ?_ | refine W.seq ?_ | refine W.region ?_ | refine W.block ?_ | refine W.skip ?_ | refine W.exit ?_))
  have H4 := H3.add_nil 71 edgeR
  refine W.loopS [1, 6, 18, 19, 20] (fun s : Nat × Value => [(1, .pointer (some ⟨b1, 0, none⟩)), (6, s.2), (18, .slice da D.length dc), (19, .int .i64 (D.length : Int)), (20, .int .i64 (s.1 : Int))])
    (fun s w' => s.1 ≤ D.length ∧ St (at0 w) w' [row 71 edgeR s.2 (allE (D.take s.1)), row 69 depR (.slice da D.length dc) D, blk b1 25 (storyV T V ta va tc vc)] []) (fun s => D.length - s.1) (0, .slice none 0 0) rfl ⟨Nat.zero_le _, H4⟩ ?_
  clear H4 H3 hr
  rintro ⟨i, v⟩ w4 ⟨hi, H⟩
  simp only at hi H
  obtain ⟨va', vc', rfl⟩ := rowForm H (v := v) (e := 71) (r := edgeR) (xs := allE (D.take i)) (by simp)
  (repeat (first | refine WO.run tabOk rfl rfl ?_ | refine WO.nil ?_ | refine WO.skip rfl rfl rfl ?_ | refine WO.pu tabOk rfl rfl rfl rfl ?_ | refine W.seq ?_ | refine W.region ?_ | refine W.block ?_ | refine W.skip ?_ | refine W.exit ?_))
  refine W.cond rfl (fun hlt => ?_) (fun hge => ?_)
  · have hlt : i < D.length := by simpa using hlt
    have hkl := allE_len (D.take i)
    rw [List.length_take] at hkl
    obtain ⟨_, _, e, hr⟩ := row_rd (H.holds (A := row 69 depR (.slice da D.length dc) D) (by simp))
    simp only [Value.slice.injEq, true_and] at e
    obtain ⟨rfl, rfl⟩ := e
    obtain ⟨b, o, rfl⟩ := hr.addr (by omega)
    have hx := List.getElem?_eq_getElem hlt
    generalize D[i] = d at hx
    obtain ⟨d1, d2, d3⟩ := d
    (repeat (first | refine WO.run tabOk rfl rfl ?_ | refine WO.nil ?_ | refine WO.skip rfl rfl rfl ?_ | refine WO.pu tabOk rfl rfl rfl rfl ?_ | refine W.seq ?_ | refine W.region ?_ | refine W.block ?_ | refine W.skip ?_ | refine W.exit ?_))
    refine WO.pv rfl rfl rfl (PureV.idxN tabOk rfl rfl rfl rfl rfl rfl (by omega)) ?_
    refine WO.one rfl rfl rfl (OpW.elemA (i := i) tabOk rfl rfl rfl rfl hr hx rfl rfl ?_)
    refine WO.one rfl rfl rfl (OpW.alloc rfl zero69 rfl H ?_); intro b7 w5 H5
    refine WO.act rfl rfl (OpW.storeA (i := 0) tabOk rfl rfl rfl rfl H5 rfl rfl rfl rfl rfl ?_); intro w6 H6
    (repeat (first | refine WO.run tabOk rfl rfl ?_ | refine WO.nil ?_ | refine WO.skip rfl rfl rfl ?_ | refine WO.pu tabOk rfl rfl rfl rfl ?_ | refine W.seq ?_ | refine W.region ?_ | refine W.block ?_ | refine W.skip ?_ | refine W.exit ?_ | refine WO.one rfl rfl rfl (OpW.load1 tabOk rfl rfl rfl rfl H6 (by (first | exact .head _ | exact .tail _ (.head _) | exact .tail _ (.tail _ (.head _)) | exact .tail _ (.tail _ (.tail _ (.head _))) | exact .tail _ (.tail _ (.tail _ (.tail _ (.head _)))) | exact .tail _ (.tail _ (.tail _ (.tail _ (.tail _ (.head _))))) | exact .tail _ (.tail _ (.tail _ (.tail _ (.tail _ (.tail _ (.head _)))))) | exact .tail _ (.tail _ (.tail _ (.tail _ (.tail _ (.tail _ (.tail _ (.head _))))))) | exact .tail _ (.tail _ (.tail _ (.tail _ (.tail _ (.tail _ (.tail _ (.tail _ (.head _)))))))) | exact .tail _ (.tail _ (.tail _ (.tail _ (.tail _ (.tail _ (.tail _ (.tail _ (.tail _ (.head _))))))))) | exact .tail _ (.tail _ (.tail _ (.tail _ (.tail _ (.tail _ (.tail _ (.tail _ (.tail _ (.tail _ (.head _)))))))))) | exact .tail _ (.tail _ (.tail _ (.tail _ (.tail _ (.tail _ (.tail _ (.tail _ (.tail _ (.tail _ (.tail _ (.head _))))))))))) | exact .tail _ (.tail _ (.tail _ (.tail _ (.tail _ (.tail _ (.tail _ (.tail _ (.tail _ (.tail _ (.tail _ (.tail _ (.head _)))))))))))) | exact .tail _ (.tail _ (.tail _ (.tail _ (.tail _ (.tail _ (.tail _ (.tail _ (.tail _ (.tail _ (.tail _ (.tail _ (.tail _ (.head _))))))))))))) | exact .tail _ (.tail _ (.tail _ (.tail _ (.tail _ (.tail _ (.tail _ (.tail _ (.tail _ (.tail _ (.tail _ (.tail _ (.tail _ (.tail _ (.head _)))))))))))))) | exact .tail _ (.tail _ (.tail _ (.tail _ (.tail _ (.tail _ (.tail _ (.tail _ (.tail _ (.tail _ (.tail _ (.tail _ (.tail _ (.tail _ (.tail _ (.head _))))))))))))))))) rfl ?_)))
    clear H H5 hr
    refine WO.pv rfl rfl rfl (PureV.build tabOk rfl rfl rfl zero71 (l := [.int .i64 d1, .int .i64 d2]) rfl) ?_
    refine WO.one rfl rfl rfl (OpW.buildSlice tabOk rfl rfl rfl rfl zero71 rfl rfl (l := [.int .i64 d1, .int .i64 d2]) rfl H6 ?_)
    intro b8 w8 H8
    have hsh := shows_blk (sz := 2) (m := 1) (e := 71) (l := [.int .i64 d1, .int .i64 d2]) H8 (b := b8) (by simp) rfl (by intro u hu; simp at hu; rcases hu with rfl | rfl <;> rfl)
    have H9 := (H8.to (i := 2) rfl).flat_open
    refine WO.one rfl rfl rfl (OpW.append tabOk rfl rfl rfl zero71 rfl rfl rfl rfl H9 hsh (by omega) (by simp only [maxLen]; omega) ?_)
    intro v' w10 H10 _
    have e1 : (allE (D.take i)).flatMap encE ++ [.int .i64 d1, .int .i64 d2] = (allE (D.take (i + 1))).flatMap encE := by rw [allE_snoc hx]; simp [encE]
    have e2 : (allE (D.take i)).length + 1 = (allE (D.take (i + 1))).length := by rw [allE_snoc hx]; simp
    rw [e1, e2] at H10
    have H11 : St (at0 w) w10 (row 71 edgeR v' (allE (D.take (i + 1))) :: _) [] := St.flat_close H10
    obtain ⟨ua, uc, rfl⟩ := rowForm H11 (v := v') (e := 71) (r := edgeR) (xs := allE (D.take (i + 1))) (by simp)
    (repeat (first | refine WO.run tabOk rfl rfl ?_ | refine WO.nil ?_ | refine WO.skip rfl rfl rfl ?_ | refine WO.pu tabOk rfl rfl rfl rfl ?_ | refine W.seq ?_ | refine W.region ?_ | refine W.block ?_ | refine W.skip ?_ | refine W.exit ?_))
    refine WO.pv rfl rfl rfl (PureV.addN (n := i) rfl rfl rfl (by omega)) ?_
    (repeat (first | refine WO.run tabOk rfl rfl ?_ | refine WO.nil ?_ | refine WO.skip rfl rfl rfl ?_ | refine WO.pu tabOk rfl rfl rfl rfl ?_ | refine W.seq ?_ | refine W.region ?_ | refine W.block ?_ | refine W.skip ?_ | refine W.exit ?_))
    exact ⟨(i + 1, _), rfl, ⟨by simp only; omega, (H11.bring [1, 2, 0] rfl).drop.drop.bring [0] rfl⟩, by simp only; omega⟩
  have hiD : i = D.length := by simp at hge; omega
  subst hiD
  rw [List.take_length] at H ⊢
  obtain ⟨_, _, e, hr⟩ := row_rd (H.holds (A := row 71 edgeR (.slice va' (allE D).length vc') (allE D)) (by simp))
  simp only [Value.slice.injEq, true_and] at e
  obtain ⟨rfl, rfl⟩ := e
  generalize allE D = E at *
  (repeat (first | refine WO.run tabOk rfl rfl ?_ | refine WO.nil ?_ | refine WO.skip rfl rfl rfl ?_ | refine WO.pu tabOk rfl rfl rfl rfl ?_ | refine W.seq ?_ | refine W.region ?_ | refine W.block ?_ | refine W.skip ?_ | refine W.exit ?_))
  have hc : Calls Try.prog 23 #[.int .i64 12, .slice va' E.length vc'] w4 (Ret fun v w' => OrderPost w4 w' 12 E v) := order_ok w4 12 va' vc' E hr
  refine WO.one rfl rfl rfl (OpW.call rfl Try.call23 rfl (Calls.ret hc ?_))
  rintro _ w5 ⟨ov, e, rfl, hpost⟩
  rcases hpost with ⟨_, hno, _⟩ | ⟨rfl, _, hlp, rfl, hp5⟩ | ⟨rfl, _, xs, hT, K⟩
  · exact absurd hG hno
  · (repeat (first | refine WO.run tabOk rfl rfl ?_ | refine WO.nil ?_ | refine WO.skip rfl rfl rfl ?_ | refine WO.pu tabOk rfl rfl rfl rfl ?_ | refine W.seq ?_ | refine W.region ?_ | refine W.block ?_ | refine W.skip ?_ | refine W.exit ?_))
    refine W.cond rfl (fun _ => ?_) (fun h => by simp at h)
    (repeat (first | refine WO.run tabOk rfl rfl ?_ | refine WO.nil ?_ | refine WO.skip rfl rfl rfl ?_ | refine WO.pu tabOk rfl rfl rfl rfl ?_ | refine W.seq ?_ | refine W.region ?_ | refine W.block ?_ | refine W.skip ?_ | refine W.exit ?_))
    exact W.ret (ret2 Try.results8 rfl rfl ⟨_, rfl, _, _, rfl, .inr (.inl ⟨rfl, hS, hloop.1 hlp, rfl, H.pure.trans hp5⟩)⟩)
  have H5 := H.take K
  obtain ⟨xa, xc, rfl⟩ := rowForm H5 (v := ov) (e := 3) (r := natR) (xs := xs) (by simp)
  clear K H hr hc
  (repeat (first | refine WO.run tabOk rfl rfl ?_ | refine WO.nil ?_ | refine WO.skip rfl rfl rfl ?_ | refine WO.pu tabOk rfl rfl rfl rfl ?_ | refine W.seq ?_ | refine W.region ?_ | refine W.block ?_ | refine W.skip ?_ | refine W.exit ?_))
  refine W.cond_f rfl ?_
  (repeat (first | refine WO.run tabOk rfl rfl ?_ | refine WO.nil ?_ | refine WO.skip rfl rfl rfl ?_ | refine WO.pu tabOk rfl rfl rfl rfl ?_ | refine W.seq ?_ | refine W.region ?_ | refine W.block ?_ | refine W.skip ?_ | refine W.exit ?_))
  refine WO.one rfl rfl rfl (OpW.call rfl Try.call24 rfl (Calls.ret (delFN_ok _ w5 _ _ _ xs H5 25 #[.pointer (some ⟨b1, 0, none⟩)] (fun k => !(T.any fun t => decide (t.1 = (k : Int)))) Try.call25
    (fun k w' A hA => ser1_ok w' k T V ta va tc vc b1 (hH.pure hA.pure) (hA.holds (by simp)))) ?_))
  intro v6 w6 H6
  (repeat (first | refine WO.run tabOk rfl rfl ?_ | refine WO.nil ?_ | refine WO.skip rfl rfl rfl ?_ | refine WO.pu tabOk rfl rfl rfl rfl ?_ | refine W.seq ?_ | refine W.region ?_ | refine W.block ?_ | refine W.skip ?_ | refine W.exit ?_))
  refine W.ret (ret2 Try.results8 rfl rfl ⟨_, rfl, _, _, rfl, .inr (.inr ⟨rfl, hS, fun h => ?_, _, Ser.of hS hE hT (fun k => T.any fun t => decide (t.1 = (k : Int))) fun a => ?_, ?_⟩)⟩)
  · obtain ⟨x, hx⟩ := hloop.2 h
    exact hT.noloop hx
  · simp
  · have e : (xs.filter fun x => !(fun k : Nat => !(T.any fun t => decide (t.1 = (k : Int)))) x) = xs.filter fun k : Nat => T.any fun t => decide (t.1 = (k : Int)) := List.filter_congr fun x _ => by simp
    rw [e] at H6
    exact H6.first
end Go.Proofs.Ytpenbdpgpamcbaa
