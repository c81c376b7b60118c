/- wait: Victims. Conditions: each fact's own premises. -/
import Derived.Test.YtpenbdpgpamcbaaGraphG
import Derived.Test.YtpenbdpgpamcbaaGraphE
import Derived.Test.YtpenbdpgpamcbaaGwDel
set_option linter.unusedVariables false
set_option linter.unusedSimpArgs false
set_option maxRecDepth 20000
namespace Go.Proofs.Ytpenbdpgpamcbaa
open Go Gw
attribute [local irreducible] W WO WD

theorem idxFE_ok (w : World) (a : Option Addr) (c : Nat) (xs : List (Int × Int)) (hH : Holds w (rd edgeR a c xs)) (fid : Nat) (caps : Array Value) (p : (Int × Int) → Bool) (hcall : ∀ (a : Array Value) (w : World), (callFunc fid a).run Try.prog w = .ok (.enter fid a) w)
    (hf : ∀ x ∈ xs, ∀ w', Pure w w' → Calls Try.prog fid (#[] ++ [Value.agg (encE x).toArray].toArray ++ caps) w' (Ret fun v w'' => Pure w' w'' ∧ v = .bool (p x))) :
    Calls Try.prog 141 #[.slice a xs.length c, .func (.func fid) #[] caps] w (Ret fun v w' => Pure w w' ∧ v = .int .i64 (idxF p xs)) := by
  refine calls_W (args := [_, _]) Try.func141 rfl Try.ntmps141 rfl ?_
  (repeat (first | refine WO.run tabOk rfl rfl ?_ | refine WO.nil ?_ | refine WO.skip rfl rfl rfl ?_ | refine WO.pu tabOk rfl rfl rfl rfl ?_ | refine W.seq ?_ | refine W.region ?_ | refine W.block ?_ | refine W.skip ?_ | refine W.exit ?_))
  refine W.loopS [0, 1, 6, 7, 8] (fun i : Nat => [(0, .slice a xs.length c), (1, .func (.func fid) #[] caps), (6, .slice a xs.length c), (7, .int .i64 xs.length), (8, .int .i64 i)])
    (fun i w' => i ≤ xs.length ∧ (∀ j, j < i → ∀ x, xs[j]? = some x → p x = false) ∧ Pure w w') (fun i => xs.length - i) 0 rfl ⟨Nat.zero_le _, fun j hj => (by omega), Pure.refl w⟩ ?_
  rintro i w1 ⟨hi, hno, hp⟩
  have hH1 := hH.pure hp
  (repeat (first | refine WO.run tabOk rfl rfl ?_ | refine WO.nil ?_ | refine WO.skip rfl rfl rfl ?_ | refine WO.pu tabOk rfl rfl rfl rfl ?_ | refine W.seq ?_ | refine W.region ?_ | refine W.block ?_ | refine W.skip ?_ | refine W.exit ?_))
  refine W.cond rfl (fun hlt => ?_) (fun hge => ?_)
  · have hlt : i < xs.length := by simpa using hlt
    obtain ⟨b, o, rfl⟩ := hH1.addr (by omega)
    (repeat (first | refine WO.run tabOk rfl rfl ?_ | refine WO.nil ?_ | refine WO.skip rfl rfl rfl ?_ | refine WO.pu tabOk rfl rfl rfl rfl ?_ | refine W.seq ?_ | refine W.region ?_ | refine W.block ?_ | refine W.skip ?_ | refine W.exit ?_))
    refine WO.pv rfl rfl rfl (PureV.idxN tabOk rfl rfl rfl rfl rfl rfl (by omega)) ?_
    have hx := List.getElem?_eq_getElem hlt
    have hm : xs[i] ∈ xs := List.getElem_mem hlt
    refine WO.one rfl rfl rfl (OpW.elemA (i := i) tabOk rfl rfl rfl rfl hH1 hx rfl rfl ?_)
    generalize xs[i] = x at hx hm
    refine WO.one rfl rfl rfl (OpW.callv (first := #[]) (cap := caps) rfl rfl hcall rfl (Calls.ret (hf x hm _ hp) ?_))
    rintro _ w2 ⟨hp2, rfl⟩
    (repeat (first | refine WO.run tabOk rfl rfl ?_ | refine WO.nil ?_ | refine WO.skip rfl rfl rfl ?_ | refine WO.pu tabOk rfl rfl rfl rfl ?_ | refine W.seq ?_ | refine W.region ?_ | refine W.block ?_ | refine W.skip ?_ | refine W.exit ?_))
    refine W.cond rfl (fun he => ?_) (fun hne => ?_)
    · (repeat (first | refine WO.run tabOk rfl rfl ?_ | refine WO.nil ?_ | refine WO.skip rfl rfl rfl ?_ | refine WO.pu tabOk rfl rfl rfl rfl ?_ | refine W.seq ?_ | refine W.region ?_ | refine W.block ?_ | refine W.skip ?_ | refine W.exit ?_))
      refine W.ret (ret1 Try.results141 rfl ⟨_, rfl, hp.trans hp2, ?_⟩)
      rw [idxF_hit hno hx he]
    · (repeat (first | refine WO.run tabOk rfl rfl ?_ | refine WO.nil ?_ | refine WO.skip rfl rfl rfl ?_ | refine WO.pu tabOk rfl rfl rfl rfl ?_ | refine W.seq ?_ | refine W.region ?_ | refine W.block ?_ | refine W.skip ?_ | refine W.exit ?_))
      have hle := hH1.le
      simp only [maxLen] at hle
      refine WO.pv rfl rfl rfl (PureV.addN rfl rfl rfl (by omega)) ?_
      (repeat (first | refine WO.run tabOk rfl rfl ?_ | refine WO.nil ?_ | refine WO.skip rfl rfl rfl ?_ | refine WO.pu tabOk rfl rfl rfl rfl ?_ | refine W.seq ?_ | refine W.region ?_ | refine W.block ?_ | refine W.skip ?_ | refine W.exit ?_))
      refine ⟨i + 1, rfl, ⟨by omega, ?_, hp.trans hp2⟩, by omega⟩
      intro j hj y hy
      rcases Nat.lt_succ_iff_lt_or_eq.1 hj with h | rfl
      · exact hno j h y hy
      · rw [hx] at hy; cases hy; exact hne
  · (repeat (first | refine WO.run tabOk rfl rfl ?_ | refine WO.nil ?_ | refine WO.skip rfl rfl rfl ?_ | refine WO.pu tabOk rfl rfl rfl rfl ?_ | refine W.seq ?_ | refine W.region ?_ | refine W.block ?_ | refine W.skip ?_ | refine W.exit ?_))
    simp at hge
    refine W.ret (ret1 Try.results141 rfl ⟨_, rfl, hp, ?_⟩)
    rw [idxF_miss]
    intro x hx
    obtain ⟨j, hj, hx'⟩ := List.mem_iff_getElem.1 hx
    exact hno j (by omega) x (by rw [List.getElem?_eq_getElem hj, hx'])

theorem hasFE_ok (w : World) (a : Option Addr) (c : Nat) (xs : List (Int × Int)) (hH : Holds w (rd edgeR a c xs)) (fid : Nat) (caps : Array Value) (p : (Int × Int) → Bool) (hcall : ∀ (a : Array Value) (w : World), (callFunc fid a).run Try.prog w = .ok (.enter fid a) w)
    (hf : ∀ x ∈ xs, ∀ w', Pure w w' → Calls Try.prog fid (#[] ++ [Value.agg (encE x).toArray].toArray ++ caps) w' (Ret fun v w'' => Pure w' w'' ∧ v = .bool (p x))) :
    Calls Try.prog 118 #[.slice a xs.length c, .func (.func fid) #[] caps] w (Ret fun v w' => Pure w w' ∧ v = .bool (xs.any p)) := by
  refine calls_W (args := [_, _]) Try.func118 rfl Try.ntmps118 rfl ?_
  (repeat (first | refine WO.run tabOk rfl rfl ?_ | refine WO.nil ?_ | refine WO.skip rfl rfl rfl ?_ | refine WO.pu tabOk rfl rfl rfl rfl ?_ | refine W.seq ?_ | refine W.region ?_ | refine W.block ?_ | refine W.skip ?_ | refine W.exit ?_))
  refine WO.one rfl rfl rfl (OpW.call rfl Try.call141 rfl (Calls.ret (idxFE_ok w a c xs hH fid caps p hcall hf) ?_))
  rintro _ w1 ⟨hp, rfl⟩
  (repeat (first | refine WO.run tabOk rfl rfl ?_ | refine WO.nil ?_ | refine WO.skip rfl rfl rfl ?_ | refine WO.pu tabOk rfl rfl rfl rfl ?_ | refine W.seq ?_ | refine W.region ?_ | refine W.block ?_ | refine W.skip ?_ | refine W.exit ?_))
  refine W.ret (ret1 Try.results118 rfl ⟨_, rfl, hp, ?_⟩)
  rw [idxF_any]

theorem delFE_ok (c : Ctx) (w : World) (Own Ro : List Asn) (v : Value) (xs : List (Int × Int)) (H : St c w (row 71 edgeR v xs :: Own) Ro) (fid : Nat) (caps : Array Value) (p : (Int × Int) → Bool) (hcall : ∀ (a : Array Value) (w : World), (callFunc fid a).run Try.prog w = .ok (.enter fid a) w)
    (hf : ∀ x w' A, St c w' (A :: Own) Ro → Calls Try.prog fid (#[] ++ [Value.agg (encE x).toArray].toArray ++ caps) w' (Ret fun v w'' => Pure w' w'' ∧ v = .bool (p x))) :
    Calls Try.prog 120 #[v, .func (.func fid) #[] caps] w (Ret fun v' w' => St c w' (row 71 edgeR v' (xs.filter fun x => !p x) :: Own) Ro) := by
  refine calls_W (args := [_, _]) Try.func120 rfl Try.ntmps120 rfl ?_
  obtain ⟨a, cap, rfl, hrd⟩ := row_rd (H.holds (A := row 71 edgeR v xs) (by simp))
  (repeat (first | refine WO.run tabOk rfl rfl ?_ | refine WO.nil ?_ | refine WO.skip rfl rfl rfl ?_ | refine WO.pu tabOk rfl rfl rfl rfl ?_ | refine W.seq ?_ | refine W.region ?_ | refine W.block ?_ | refine W.skip ?_ | refine W.exit ?_))
  refine WO.one rfl rfl rfl (OpW.call rfl Try.call141 rfl (Calls.ret (idxFE_ok w a cap xs hrd fid caps p hcall fun x hx w' hp => hf x w' _ (H.after hp)) ?_))
  rintro _ w1 ⟨hp1, rfl⟩
  have H1 := H.after hp1
  have hrd := hrd.pure hp1
  have hle := hrd.le
  simp only [maxLen] at hle
  clear H hp1
  (repeat (first | refine WO.run tabOk rfl rfl ?_ | refine WO.nil ?_ | refine WO.skip rfl rfl rfl ?_ | refine WO.pu tabOk rfl rfl rfl rfl ?_ | refine W.seq ?_ | refine W.region ?_ | refine W.block ?_ | refine W.skip ?_ | refine W.exit ?_))
  refine W.cond rfl (fun h0 => ?_) (fun h0 => ?_)
  · (repeat (first | refine WO.run tabOk rfl rfl ?_ | refine WO.nil ?_ | refine WO.skip rfl rfl rfl ?_ | refine WO.pu tabOk rfl rfl rfl rfl ?_ | refine W.seq ?_ | refine W.region ?_ | refine W.block ?_ | refine W.skip ?_ | refine W.exit ?_))
    refine W.ret (ret1 Try.results120 rfl ⟨_, rfl, ?_⟩)
    have hf : xs.filter (fun x => !p x) = xs := by
      rcases idxF_cases p xs with ⟨_, hall⟩ | ⟨i, x, h, _⟩
      · exact List.filter_eq_self.2 fun x hx => by rw [hall x hx]; rfl
      · rw [h] at h0; simp at h0
    rw [hf]; exact H1
  rcases idxF_cases p xs with ⟨h, _⟩ | ⟨i0, x0, hi0, hx0, hpx0, hno⟩
  · rw [h] at h0; simp at h0
  rw [hi0]
  clear h0
  have hlt0 := (List.getElem?_eq_some_iff.1 hx0).1
  have H2 := H1.flat_open
  rcases H2.open_raw with ⟨_, h, _⟩ | ⟨g, o, cap', cur0, e1, H3, hcur, hnc, hcm, hfit⟩
  · omega
  simp only [Value.slice.injEq] at e1
  obtain ⟨rfl, _, rfl⟩ := e1
  clear H1 H2 hrd
  have hcm' := hcm
  simp only [maxLen] at hcm'
  (repeat (first | refine WO.run tabOk rfl rfl ?_ | refine WO.nil ?_ | refine WO.skip rfl rfl rfl ?_ | refine WO.pu tabOk rfl rfl rfl rfl ?_ | refine W.seq ?_ | refine W.region ?_ | refine W.block ?_ | refine W.skip ?_ | refine W.exit ?_))
  refine WO.pv rfl rfl rfl (PureV.addN rfl rfl rfl (by omega)) ?_
  (repeat (first | refine WO.run tabOk rfl rfl ?_ | refine WO.nil ?_ | refine WO.skip rfl rfl rfl ?_ | refine WO.pu tabOk rfl rfl rfl rfl ?_ | refine W.seq ?_ | refine W.region ?_ | refine W.block ?_ | refine W.skip ?_ | refine W.exit ?_))
  refine W.loopS [0, 1, 5, 6] (fun s : Nat × Nat × List Value => [(0, .slice (some ⟨g, o, none⟩) xs.length cap), (1, .func (.func fid) #[] caps), (5, .int .i64 s.1), (6, .int .i64 s.2.1)])
    (fun s w' => s.1 < s.2.1 ∧ s.2.1 ≤ xs.length ∧ s.2.2.length = cur0.length ∧ St c w' (blk g 71 s.2.2 :: Own) Ro ∧ ∃ ys : List (Int × Int), ys.length = xs.length ∧ (s.2.2.drop o).take (xs.length * 2) = ys.flatMap encE ∧ ys.take s.1 = (xs.take s.2.1).filter (fun x => !p x) ∧ ∀ k, s.2.1 ≤ k → ys[k]? = xs[k]?) (fun s => xs.length - s.2.1)
    (i0, i0 + 1, cur0) rfl ⟨by simp only; omega, by simp only; omega, rfl, H3, xs, rfl, hcur, ?_, fun k _ => rfl⟩ ?_
  · simp only
    rw [List.take_add_one, hx0, List.filter_append]
    have e1 : (xs.take i0).filter (fun x => !p x) = xs.take i0 := List.filter_eq_self.2 fun x hx => by
      obtain ⟨j, hj, e⟩ := List.mem_iff_getElem.1 hx
      simp at hj
      have := hno j (by omega) x (by rw [← e, List.getElem_take, List.getElem?_eq_getElem (by omega)])
      rw [this]; rfl
    rw [e1]; simp [hpx0]
  clear H3 hcur
  rintro ⟨i, j, cur⟩ w3 ⟨hij, hj, hcl, H, ys, hyl, hwin, hpre, hsuf⟩
  simp only at hij hj hcl H hwin hpre hsuf
  (repeat (first | refine WO.run tabOk rfl rfl ?_ | refine WO.nil ?_ | refine WO.skip rfl rfl rfl ?_ | refine WO.pu tabOk rfl rfl rfl rfl ?_ | refine W.seq ?_ | refine W.region ?_ | refine W.block ?_ | refine W.skip ?_ | refine W.exit ?_))
  refine W.cond rfl (fun hlt => ?_) (fun hge => ?_)
  · have hlt : j < xs.length := by simpa using hlt
    (repeat (first | refine WO.run tabOk rfl rfl ?_ | refine WO.nil ?_ | refine WO.skip rfl rfl rfl ?_ | refine WO.pu tabOk rfl rfl rfl rfl ?_ | refine W.seq ?_ | refine W.region ?_ | refine W.block ?_ | refine W.skip ?_ | refine W.exit ?_))
    refine WO.pv rfl rfl rfl (PureV.idxN tabOk rfl rfl rfl rfl rfl rfl (by omega)) ?_
    have hx := List.getElem?_eq_getElem hlt
    generalize xs[j] = x at hx
    have hyx : ys[j]? = some x := by rw [hsuf j (Nat.le_refl _), hx]
    have hcell : (cur.drop (o + j * 2)).take 2 = encE x := by
      have h1 := flatMap_at (enc := encE) (sz := 2) (fun _ => rfl) ys j x hyx
      rw [← hwin, List.drop_take, List.drop_drop, List.take_take, Nat.min_eq_left (by omega)] at h1
      exact h1
    refine WO.one rfl rfl rfl (OpW.loadBA (cs := encE x) tabOk rfl rfl rfl rfl H (.head _) rfl hcell ?_)
    refine WO.one rfl rfl rfl (OpW.alloc rfl zero71 rfl H ?_); intro b7 w4 H4
    refine WO.act rfl rfl (OpW.storeA (i := 0) tabOk rfl rfl rfl rfl H4 rfl rfl rfl rfl rfl ?_); intro w5 H5
    (repeat (first | refine WO.run tabOk rfl rfl ?_ | refine WO.nil ?_ | refine WO.skip rfl rfl rfl ?_ | refine WO.pu tabOk rfl rfl rfl rfl ?_ | refine W.seq ?_ | refine W.region ?_ | refine W.block ?_ | refine W.skip ?_ | refine W.exit ?_))
    refine WO.one rfl rfl rfl (OpW.loadA tabOk rfl rfl rfl rfl H5 (by (repeat (first | exact .head _ | refine .tail _ ?_))) rfl rfl ?_)
    refine WO.one rfl rfl rfl (OpW.callv (first := #[]) (cap := caps) rfl rfl hcall rfl (Calls.ret (hf x _ _ ((H5.drop))) ?_))
    rintro _ w6 ⟨hp6, rfl⟩
    have H6 := H5.after hp6
    (repeat (first | refine WO.run tabOk rfl rfl ?_ | refine WO.nil ?_ | refine WO.skip rfl rfl rfl ?_ | refine WO.pu tabOk rfl rfl rfl rfl ?_ | refine W.seq ?_ | refine W.region ?_ | refine W.block ?_ | refine W.skip ?_ | refine W.exit ?_))
    refine W.cond rfl (fun he => ?_) (fun he => ?_)
    · (repeat (first | refine WO.run tabOk rfl rfl ?_ | refine WO.nil ?_ | refine WO.skip rfl rfl rfl ?_ | refine WO.pu tabOk rfl rfl rfl rfl ?_ | refine W.seq ?_ | refine W.region ?_ | refine W.block ?_ | refine W.skip ?_ | refine W.exit ?_))
      refine WO.one rfl rfl rfl (OpW.loadA tabOk rfl rfl rfl rfl H6 (by (repeat (first | exact .head _ | refine .tail _ ?_))) rfl rfl ?_)
      refine WO.pv rfl rfl rfl (PureV.idxN tabOk rfl rfl rfl rfl rfl rfl (by omega)) ?_
      refine WO.act rfl rfl (OpW.storeB (i := 1) tabOk rfl rfl rfl rfl H6 rfl (by intro u hu; simp [cellsL, encE] at hu; rcases hu with rfl | rfl <;> rfl) rfl (by simp [cellsL]; omega) ?_)
      intro w7 H7
      (repeat (first | refine WO.run tabOk rfl rfl ?_ | refine WO.nil ?_ | refine WO.skip rfl rfl rfl ?_ | refine WO.pu tabOk rfl rfl rfl rfl ?_ | refine W.seq ?_ | refine W.region ?_ | refine W.block ?_ | refine W.skip ?_ | refine W.exit ?_))
      refine WO.pv rfl rfl rfl (PureV.addN (n := i) rfl rfl rfl (by omega)) ?_
      (repeat (first | refine WO.run tabOk rfl rfl ?_ | refine WO.nil ?_ | refine WO.skip rfl rfl rfl ?_ | refine WO.pu tabOk rfl rfl rfl rfl ?_ | refine W.seq ?_ | refine W.region ?_ | refine W.block ?_ | refine W.skip ?_ | refine W.exit ?_))
      refine WO.pv rfl rfl rfl (PureV.addN (n := j) rfl rfl rfl (by omega)) ?_
      (repeat (first | refine WO.run tabOk rfl rfl ?_ | refine WO.nil ?_ | refine WO.skip rfl rfl rfl ?_ | refine WO.pu tabOk rfl rfl rfl rfl ?_ | refine W.seq ?_ | refine W.region ?_ | refine W.block ?_ | refine W.skip ?_ | refine W.exit ?_))
      refine ⟨(i + 1, j + 1, spliceL cur (o + i * 2) (encE x)), rfl, ⟨by simp only; omega, by simp only; omega, by simp only; rw [spliceL_len _ _ _ (by simp [encE]; omega)]; exact hcl, (H7.to (i := 1) rfl).drop, ys.set i x, by simp [hyl], ?_, ?_, ?_⟩, by simp only; omega⟩
      · simp only
        rw [window_splice hwin (by omega) (by simp [encE]; omega)]
        exact flat_setA (enc := encE) (sz := 2) (fun _ => rfl) (by omega)
      · simp only
        rw [take_snoc hx, List.filter_append, ← hpre]
        simp at he
        rw [List.take_add_one, List.getElem?_set_self (by omega), List.take_set_of_le (Nat.le_refl _)]
        simp [he]
      · intro k hk
        simp only at hk
        rw [List.getElem?_set_ne (by omega), hsuf k (by omega)]
    · (repeat (first | refine WO.run tabOk rfl rfl ?_ | refine WO.nil ?_ | refine WO.skip rfl rfl rfl ?_ | refine WO.pu tabOk rfl rfl rfl rfl ?_ | refine W.seq ?_ | refine W.region ?_ | refine W.block ?_ | refine W.skip ?_ | refine W.exit ?_))
      refine WO.pv rfl rfl rfl (PureV.addN (n := j) rfl rfl rfl (by omega)) ?_
      (repeat (first | refine WO.run tabOk rfl rfl ?_ | refine WO.nil ?_ | refine WO.skip rfl rfl rfl ?_ | refine WO.pu tabOk rfl rfl rfl rfl ?_ | refine W.seq ?_ | refine W.region ?_ | refine W.block ?_ | refine W.skip ?_ | refine W.exit ?_))
      refine ⟨(i, j + 1, cur), rfl, ⟨by simp only; omega, by simp only; omega, hcl, H6.drop, ys, hyl, hwin, ?_, fun k hk => hsuf k (by simp only at hk; omega)⟩, by simp only; omega⟩
      simp only
      rw [take_snoc hx, List.filter_append, ← hpre]
      simp at he
      simp [he]
  · simp at hge
    obtain rfl : j = xs.length := by omega
    (repeat (first | refine WO.run tabOk rfl rfl ?_ | refine WO.nil ?_ | refine WO.skip rfl rfl rfl ?_ | refine WO.pu tabOk rfl rfl rfl rfl ?_ | refine W.seq ?_ | refine W.region ?_ | refine W.block ?_ | refine W.skip ?_ | refine W.exit ?_))
    refine WO.pv rfl rfl rfl (PureV.slcFrom tabOk rfl rfl rfl rfl rfl rfl (show i ≤ xs.length by omega) hnc rfl) ?_
    rw [cutA, if_neg (show ¬ cap = i by omega)]
    simp only [Option.map_some, Addr.add_lit]
    refine WO.act rfl rfl (OpW.clear (i := 0) tabOk rfl rfl rfl zero71 rfl rfl rfl H rfl (by omega) ?_)
    intro zs w5 hzl H5
    (repeat (first | refine WO.run tabOk rfl rfl ?_ | refine WO.nil ?_ | refine WO.skip rfl rfl rfl ?_ | refine WO.pu tabOk rfl rfl rfl rfl ?_ | refine W.seq ?_ | refine W.region ?_ | refine W.block ?_ | refine W.skip ?_ | refine W.exit ?_))
    refine WO.pv rfl rfl rfl (PureV.slcTo tabOk rfl rfl rfl rfl rfl rfl (show i ≤ cap by omega)) ?_
    (repeat (first | refine WO.run tabOk rfl rfl ?_ | refine WO.nil ?_ | refine WO.skip rfl rfl rfl ?_ | refine WO.pu tabOk rfl rfl rfl rfl ?_ | refine W.seq ?_ | refine W.region ?_ | refine W.block ?_ | refine W.skip ?_ | refine W.exit ?_))
    refine W.ret (ret1 Try.results120 rfl ⟨_, rfl, ?_⟩)
    rw [List.take_length] at hpre
    rw [← hpre]
    have hl : (ys.take i).length = i := by rw [List.length_take]; omega
    have H6 := H5.close_raw (sz := 2) (n := i) (o := o) (cap := cap) (cs := (ys.take i).flatMap encE) (by omega) hcm (by rw [spliceL_len _ _ _ (by omega)]; omega) ?_ ?_
    · have H7 := St.flat_close (enc := encE) (sz := 2) (xs := ys.take i) (hl := fun _ => rfl) (h1 := fun x v hv => by simp [encE] at hv; rcases hv with rfl | rfl <;> rfl) (by rw [hl]; exact H6)
      exact H7
    · rw [← flat_take (enc := encE) (sz := 2) (fun _ => rfl), ← hwin, List.take_take, Nat.min_eq_left (by omega)]
      apply List.ext_getElem?
      intro k
      rw [List.getElem?_take, List.getElem?_take, List.getElem?_drop, List.getElem?_drop]
      split
      · rw [splice_get (by omega), if_pos (by omega)]
      · rfl
    · intro u hu
      obtain ⟨y, _, hy⟩ := List.mem_flatMap.1 hu
      simp [encE] at hy; rcases hy with rfl | rfl <;> rfl

theorem cloneE_ok (w : World) (a : Option Addr) (m c : Nat) (cs : List Value) (hs : Shows w 2 a m cs) (hlen : m ≤ 1073741824) :
    Calls Try.prog 116 #[.slice a m c] w (Ret fun v w' => St (at0 w) w' [raw 71 2 v m cs] []) := by
  refine calls_W (args := [_]) Try.func116 rfl Try.ntmps116 rfl ?_
  have H := St.start [] (w := w) (by simp)
  (repeat (first | refine WO.run tabOk rfl rfl ?_ | refine WO.nil ?_ | refine WO.skip rfl rfl rfl ?_ | refine WO.pu tabOk rfl rfl rfl rfl ?_ | refine W.seq ?_ | refine W.region ?_ | refine W.block ?_ | refine W.skip ?_ | refine W.exit ?_))
  refine W.cond rfl (fun hn => ?_) (fun hn => ?_)
  · (repeat (first | refine WO.run tabOk rfl rfl ?_ | refine WO.nil ?_ | refine WO.skip rfl rfl rfl ?_ | refine WO.pu tabOk rfl rfl rfl rfl ?_ | refine W.seq ?_ | refine W.region ?_ | refine W.block ?_ | refine W.skip ?_ | refine W.exit ?_))
    refine W.ret (ret1 Try.results116 rfl ⟨_, rfl, ?_⟩)
    have ha : a = none := by simpa using hn
    have hm : m = 0 := hs.2.2.resolve_right fun ⟨b, hb, _⟩ => by rw [ha] at hb; cases hb
    subst hm
    have : cs = [] := List.eq_nil_of_length_eq_zero (by simp [hs.1])
    subst this
    exact H.add_nil_raw _ _
  · (repeat (first | refine WO.run tabOk rfl rfl ?_ | refine WO.nil ?_ | refine WO.skip rfl rfl rfl ?_ | refine WO.pu tabOk rfl rfl rfl rfl ?_ | refine W.seq ?_ | refine W.region ?_ | refine W.block ?_ | refine W.skip ?_ | refine W.exit ?_))
    refine WO.one rfl rfl rfl (OpW.buildSlice tabOk rfl rfl rfl rfl zero71 rfl rfl rfl H ?_)
    intro b w1 H1
    have H2 := H1.close_raw (sz := 2) (n := 0) (o := 0) (cap := 0) (cs := []) (Nat.le_refl _) (Nat.zero_le _) (by simp) (by simp) (by simp)
    (repeat (first | refine WO.run tabOk rfl rfl ?_ | refine WO.nil ?_ | refine WO.skip rfl rfl rfl ?_ | refine WO.pu tabOk rfl rfl rfl rfl ?_ | refine W.seq ?_ | refine W.region ?_ | refine W.block ?_ | refine W.skip ?_ | refine W.exit ?_))
    refine WO.one rfl rfl rfl (OpW.append tabOk rfl rfl rfl zero71 rfl rfl rfl rfl H2 (hs.pure H1.pure) (by omega) (by simp only [maxLen]; omega) ?_)
    intro v w2 H3 _
    (repeat (first | refine WO.run tabOk rfl rfl ?_ | refine WO.nil ?_ | refine WO.skip rfl rfl rfl ?_ | refine WO.pu tabOk rfl rfl rfl rfl ?_ | refine W.seq ?_ | refine W.region ?_ | refine W.block ?_ | refine W.skip ?_ | refine W.exit ?_))
    refine W.ret (ret1 Try.results116 rfl ⟨_, rfl, ?_⟩)
    rwa [Nat.zero_add, List.nil_append] at H3


/-! ### Victims, one behind another -/
structure Worst (E : List (Int × Int)) (w : Nat) : Prop where
  on : PlusE E w w
  top : ∀ a, PlusE E a a → a ≤ w
def without (E : List (Int × Int)) (w : Nat) : List (Int × Int) := E.filter fun e => !(decide (e.1 = (w : Int)) || decide (e.2 = (w : Int)))
inductive Vic : List (Int × Int) → List Nat → Prop where
  | done {E : List (Int × Int)} : (∀ a, ¬ PlusE E a a) → Vic E []
  | more {E : List (Int × Int)} {w : Nat} {vs : List Nat} : Worst E w → Vic (without E w) vs → Vic E (w :: vs)
theorem without_sub (E : List (Int × Int)) (w : Nat) : (without E w).Sublist E := List.filter_sublist
theorem without_lt {E : List (Int × Int)} {w : Nat} (h : Worst E w) : (without E w).length < E.length := by
  obtain ⟨c, h1, _⟩ := h.on
  exact List.length_filter_lt_length_iff_exists.2 ⟨_, h1, by simp⟩
theorem GOk.sub {n : Int} {E F : List (Int × Int)} (h : GOk n E) (hs : F.Sublist E) : GOk n F := ⟨h.lo, h.hi, Nat.le_trans hs.length_le h.len, fun e he => h.ok e (hs.subset he)⟩
theorem Vic.rest {E : List (Int × Int)} {vs : List Nat} (h : Vic E vs) : ∀ a, ¬ PlusE (E.filter fun e => !(vs.any fun v => decide (e.1 = (v : Int)) || decide (e.2 = (v : Int)))) a a := by
  induction h with
  | @done E h =>
    have e : (E.filter fun e => !(([] : List Nat).any fun v => decide (e.1 = (v : Int)) || decide (e.2 = (v : Int)))) = E := List.filter_eq_self.2 fun x _ => by simp
    rw [e]; exact h
  | @more E w vs _ _ ih =>
    have e : (E.filter fun e => !((w :: vs).any fun v => decide (e.1 = (v : Int)) || decide (e.2 = (v : Int)))) = (without E w).filter fun e => !(vs.any fun v => decide (e.1 = (v : Int)) || decide (e.2 = (v : Int))) := by
      rw [without, List.filter_filter]
      refine List.filter_congr fun x _ => ?_
      simp only [List.any_cons, Bool.not_or, Bool.and_comm]
    rw [e]; exact ih
theorem Vic.nil_iff {E : List (Int × Int)} {vs : List Nat} (h : Vic E vs) : vs = [] ↔ ∀ a, ¬ PlusE E a a := by
  cases h with
  | done h => exact ⟨fun _ => h, fun _ => rfl⟩
  | more h _ => exact ⟨(fun h => nomatch h), fun hn => absurd h.on (hn _)⟩
theorem plus_nil {a b : Nat} (h : PlusE [] a b) : False := by obtain ⟨c, h1, _⟩ := h; cases h1
theorem ex_vic {vs : List Nat} (h : Vic [(0, 1), (1, 0)] vs) : vs = [1] := by
  have p11 : PlusE [(0, 1), (1, 0)] 1 1 := ⟨0, by simp, .step (b := 1) (by simp) (.refl 1)⟩
  have rch : ∀ {a b : Nat}, RchE [(0, 1), (1, 0)] a b → a ≤ 1 → b ≤ 1 := fun {a b} h ha => RchE.closed (S := fun x => x ≤ 1) (fun a b _ he => by simp at he; omega) h ha
  cases h with
  | done h => exact absurd p11 (h 1)
  | @more _ w vs h1 h2 =>
    have hw1 := h1.top 1 p11
    have hw : w = 1 := by
      obtain ⟨c, e1, e2⟩ := h1.on
      simp at e1
      omega
    subst hw
    have e : without [(0, 1), (1, 0)] 1 = [] := by simp [without]
    rw [e] at h2
    cases h2 with
    | done _ => rfl
    | more h _ => exact (plus_nil h.on).elim

/-- Within the look at the parts: what is the worst of the first i. -/
def NT (E : List (Int × Int)) (l : List Nat) : Prop := 1 < l.length ∨ ∃ a : Nat, l[0]? = some a ∧ ((a : Int), (a : Int)) ∈ E
structure WInv (E : List (Int × Int)) (p : List (List Nat)) (i : Nat) (w : Int) : Prop where
  all : ∀ j l, j < i → p[j]? = some l → NT E l → ∀ a ∈ l, (a : Int) ≤ w
  from_ : w = -1 ∨ ∃ l ∈ p, NT E l ∧ ∃ a : Nat, w = a ∧ a ∈ l
theorem WInv.start (E : List (Int × Int)) (p : List (List Nat)) : WInv E p 0 (-1) := ⟨fun j l hj => by omega, .inl rfl⟩
theorem WInv.skip {E : List (Int × Int)} {p : List (List Nat)} {i : Nat} {w : Int} {l : List Nat} (h : WInv E p i w) (hl : p[i]? = some l) (hn : ¬ NT E l) : WInv E p (i + 1) w := by
  refine ⟨fun j m hj hm hnt => ?_, h.from_⟩
  rcases Nat.lt_succ_iff_lt_or_eq.1 hj with hj | rfl
  · exact h.all j m hj hm hnt
  · rw [hl] at hm; cases hm; exact absurd hnt hn
theorem WInv.take {E : List (Int × Int)} {p : List (List Nat)} {i b : Nat} {w : Int} {l : List Nat} (h : WInv E p i w) (hl : p[i]? = some l) (hn : NT E l) (hb : b ∈ l) (hmax : ∀ a ∈ l, a ≤ b) : WInv E p (i + 1) (max w b) := by
  refine ⟨fun j m hj hm hnt a ha => ?_, ?_⟩
  · rcases Nat.lt_succ_iff_lt_or_eq.1 hj with hj | rfl
    · have := h.all j m hj hm hnt a ha; omega
    · rw [hl] at hm; cases hm; have := hmax a ha; omega
  · rcases Int.le_total w b with hwb | hwb
    · exact .inr ⟨l, List.mem_of_getElem? hl, hn, b, by omega, hb⟩
    · rw [Int.max_eq_left hwb]; exact h.from_
theorem NT.loop {n : Nat} {E : List (Int × Int)} {p : List (List Nat)} (h : PartsOk n E p) {l : List Nat} (hl : l ∈ p) (hn : NT E l) {a : Nat} (ha : a ∈ l) : PlusE E a a := by
  by_cases h2 : ∃ b ∈ l, b ≠ a
  · obtain ⟨b, hb, hne⟩ := h2
    obtain ⟨h3, h4⟩ := (h.scc l hl a ha b).1 hb
    obtain ⟨c, h5, h6⟩ := h3.plus (Ne.symm hne)
    exact ⟨c, h5, h6.trans h4⟩
  · have hall : ∀ b ∈ l, b = a := fun b hb => Classical.byContradiction fun e => h2 ⟨b, hb, e⟩
    rcases hn with h3 | ⟨b, hb, he⟩
    · -- two places hold the same
      have hnd := h.nodup hl
      have e1 := hall l[0] (List.getElem_mem _)
      have e2 := hall l[1] (List.getElem_mem _)
      have := (List.getElem_inj hnd).1 (e1.trans e2.symm)
      omega
    · have := hall b (List.mem_of_getElem? hb); subst this
      exact ⟨b, he, .refl b⟩
theorem NT.of_loop {n : Nat} {E : List (Int × Int)} {p : List (List Nat)} (hG : GOk n E) (h : PartsOk n E p) {a : Nat} (hp : PlusE E a a) : ∃ l ∈ p, NT E l ∧ a ∈ l := by
  obtain ⟨c, h1, h2⟩ := hp
  have han : a < n := by have := (hG.ok _ h1).2.1; simp at this; omega
  obtain ⟨l, hl, hal⟩ := List.mem_flatten.1 ((h.mem a).2 han)
  refine ⟨l, hl, ?_, hal⟩
  have hcl : c ∈ l := (h.scc l hl a hal c).2 ⟨.step h1 (.refl c), h2⟩
  rcases Nat.lt_or_ge 1 l.length with h3 | h3
  · exact .inl h3
  · right
    match l, hal, hcl, h3 with
    | [b], hal, hcl, _ =>
      simp at hal hcl
      subst hal; subst hcl
      exact ⟨_, rfl, h1⟩
theorem WInv.worst {n : Nat} {E : List (Int × Int)} {p : List (List Nat)} {w : Int} (hG : GOk n E) (h : PartsOk n E p) (hW : WInv E p p.length w) (h0 : 0 ≤ w) : Worst E w.toNat := by
  refine ⟨?_, fun a ha => ?_⟩
  · rcases hW.from_ with rfl | ⟨l, hl, hn, a, rfl, ha⟩
    · omega
    · exact hn.loop h hl ha
  · obtain ⟨l, hl, hn, hal⟩ := NT.of_loop hG h ha
    obtain ⟨j, hj, rfl⟩ := List.mem_iff_getElem.1 hl
    have := hW.all j _ hj (List.getElem?_eq_getElem hj) hn a hal; omega
theorem WInv.none {n : Nat} {E : List (Int × Int)} {p : List (List Nat)} {w : Int} (hG : GOk n E) (h : PartsOk n E p) (hW : WInv E p p.length w) (h0 : w < 0) : ∀ a, ¬ PlusE E a a := by
  intro a ha
  obtain ⟨l, hl, hn, hal⟩ := NT.of_loop hG h ha
  obtain ⟨j, hj, rfl⟩ := List.mem_iff_getElem.1 hl
  have := hW.all j _ hj (List.getElem?_eq_getElem hj) hn a hal; omega

theorem vic1_ok (w : World) (x : Int × Int) (b : Nat) (a : Option Addr) (c : Nat) (l : List Nat) (k : Nat) (hk : l[0]? = some k) (hb : Holds w (blk b 31 [.slice a l.length c])) (hl : Holds w (rd natR a c l)) :
    Calls Try.prog 119 (#[] ++ [Value.agg (encE x).toArray].toArray ++ #[.pointer (some ⟨b, 0, none⟩)]) w (Ret fun v w' => Pure w w' ∧ v = .bool (decide (x.1 = x.2) && decide (x.1 = (k : Int)))) := by
  show Calls Try.prog 119 #[.agg #[.int .i64 x.1, .int .i64 x.2], .pointer (some ⟨b, 0, none⟩)] w _
  refine calls_W (args := [_, _]) Try.func119 rfl Try.ntmps119 rfl ?_
  have H := St.start [blk b 31 [.slice a l.length c], rd natR a c l] (w := w) (by simpa using ⟨hb, hl⟩)
  obtain ⟨lb, lo, rfl⟩ := hl.addr (List.getElem?_eq_some_iff.1 hk).1
  (repeat (first | refine W.seq ?_ | refine W.block ?_ | refine W.skip ?_ | refine W.exit ?_ | refine W.region ?_))
  refine WO.one rfl rfl rfl (OpW.box rfl rfl rfl H ?_); intro bx w1 H1
  (repeat (first | refine WO.run tabOk rfl rfl ?_ | refine WO.nil ?_ | refine WO.skip rfl rfl rfl ?_ | refine WO.pu tabOk rfl rfl rfl rfl ?_ | refine W.seq ?_ | refine W.region ?_ | refine W.block ?_ | refine W.skip ?_ | refine W.exit ?_))
  refine W.regionD [1, 3, 7, 8, 10] (HA [blk bx 71 [.int .i64 x.1, .int .i64 x.2], blk b 31 [.slice (some ⟨lb, lo, none⟩) l.length c], rd natR (some ⟨lb, lo, none⟩) c l]) [0, 1, 2, 3, 4, 5, 6, 7, 8, 9, 10, 11, 12, 13] rfl (by kernel_rfl) (fun _ _ _ h => h) ?_
  have hA := H1.drew.ha (L := [blk bx 71 [.int .i64 x.1, .int .i64 x.2], blk b 31 [.slice (some ⟨lb, lo, none⟩) l.length c], rd natR (some ⟨lb, lo, none⟩) c l]) (by simp)
  (repeat (first | refine WD.run tabOk rfl rfl ?_ | refine WD.hv rfl rfl rfl rfl rfl hA (HeldV.load1 tabOk rfl rfl rfl rfl (by (repeat (first | exact .head _ | refine .tail _ ?_))) rfl) ?_ | refine WD.hv rfl rfl rfl rfl rfl hA (HeldV.loadA tabOk rfl rfl rfl rfl (by (repeat (first | exact .head _ | refine .tail _ ?_))) rfl rfl) ?_ | refine WD.pu tabOk rfl rfl rfl rfl rfl rfl ?_))
  refine WD.caseG rfl rfl rfl (fun hg => ?_) (fun hg => ?_)
  · (repeat (first | refine WD.run tabOk rfl rfl ?_ | refine WD.hv rfl rfl rfl rfl rfl hA (HeldV.load1 tabOk rfl rfl rfl rfl (by (repeat (first | exact .head _ | refine .tail _ ?_))) rfl) ?_ | refine WD.hv rfl rfl rfl rfl rfl hA (HeldV.loadA tabOk rfl rfl rfl rfl (by (repeat (first | exact .head _ | refine .tail _ ?_))) rfl rfl) ?_ | refine WD.pu tabOk rfl rfl rfl rfl rfl rfl ?_))
    refine WD.pv rfl rfl rfl rfl rfl (PureV.idxN (i := 0) tabOk rfl rfl rfl rfl rfl rfl (List.getElem?_eq_some_iff.1 hk).1) ?_
    (repeat (first | refine WD.run tabOk rfl rfl ?_ | refine WD.hv rfl rfl rfl rfl rfl hA (HeldV.load1 tabOk rfl rfl rfl rfl (by (repeat (first | exact .head _ | refine .tail _ ?_))) rfl) ?_ | refine WD.hv rfl rfl rfl rfl rfl hA (HeldV.loadA tabOk rfl rfl rfl rfl (by (repeat (first | exact .head _ | refine .tail _ ?_))) rfl rfl) ?_ | refine WD.pu tabOk rfl rfl rfl rfl rfl rfl ?_))
    refine WD.hv rfl rfl rfl rfl rfl hA (HeldV.elem1 (i := 0) (j := 0) tabOk rfl rfl rfl rfl (.tail _ (.tail _ (.head _))) hk rfl rfl) ?_
    (repeat (first | refine WD.run tabOk rfl rfl ?_ | refine WD.hv rfl rfl rfl rfl rfl hA (HeldV.load1 tabOk rfl rfl rfl rfl (by (repeat (first | exact .head _ | refine .tail _ ?_))) rfl) ?_ | refine WD.hv rfl rfl rfl rfl rfl hA (HeldV.loadA tabOk rfl rfl rfl rfl (by (repeat (first | exact .head _ | refine .tail _ ?_))) rfl rfl) ?_ | refine WD.pu tabOk rfl rfl rfl rfl rfl rfl ?_))
    (repeat (first | refine WD.run tabOk rfl rfl ?_ | refine WD.nil ?_))
    (repeat (first | refine WO.run tabOk rfl rfl ?_ | refine WO.nil ?_ | refine WO.skip rfl rfl rfl ?_ | refine WO.pu tabOk rfl rfl rfl rfl ?_ | refine W.seq ?_ | refine W.region ?_ | refine W.block ?_ | refine W.skip ?_ | refine W.exit ?_))
    refine W.ret (ret1 Try.results119 rfl ⟨_, rfl, H1.drew.pure, ?_⟩)
    simp at hg
    simp [pickV, hg]
  · (repeat (first | refine WD.skip rfl rfl rfl rfl rfl ?_ | refine WD.skipS rfl rfl rfl rfl ‹HA _ _› ?_))
    (repeat (first | refine WD.run tabOk rfl rfl ?_ | refine WD.nil ?_))
    (repeat (first | refine WO.run tabOk rfl rfl ?_ | refine WO.nil ?_ | refine WO.skip rfl rfl rfl ?_ | refine WO.pu tabOk rfl rfl rfl rfl ?_ | refine W.seq ?_ | refine W.region ?_ | refine W.block ?_ | refine W.skip ?_ | refine W.exit ?_))
    refine W.ret (ret1 Try.results119 rfl ⟨_, rfl, H1.drew.pure, ?_⟩)
    simp at hg
    simp [pickV, hg, undef]
theorem vic2_ok (w : World) (x : Int × Int) (b : Nat) (k : Int) (hb : Holds w (blk b 3 [.int .i64 k])) :
    Calls Try.prog 121 (#[] ++ [Value.agg (encE x).toArray].toArray ++ #[.pointer (some ⟨b, 0, none⟩)]) w (Ret fun v w' => Pure w w' ∧ v = .bool (decide (x.1 = k) || decide (x.2 = k))) := by
  show Calls Try.prog 121 #[.agg #[.int .i64 x.1, .int .i64 x.2], .pointer (some ⟨b, 0, none⟩)] w _
  refine calls_W (args := [_, _]) Try.func121 rfl Try.ntmps121 rfl ?_
  have H := St.start [blk b 3 [.int .i64 k]] (w := w) (by simpa using hb)
  (repeat (first | refine W.seq ?_ | refine W.block ?_ | refine W.skip ?_ | refine W.exit ?_ | refine W.region ?_))
  refine WO.one rfl rfl rfl (OpW.box rfl rfl rfl H ?_); intro bx w1 H1
  (repeat (first | refine WO.run tabOk rfl rfl ?_ | refine WO.nil ?_ | refine WO.skip rfl rfl rfl ?_ | refine WO.pu tabOk rfl rfl rfl rfl ?_ | refine W.seq ?_ | refine W.region ?_ | refine W.block ?_ | refine W.skip ?_ | refine W.exit ?_ | refine WO.one rfl rfl rfl (OpW.load1 tabOk rfl rfl rfl rfl H1 (by (repeat (first | exact .head _ | refine .tail _ ?_))) rfl ?_)))
  refine WO.caseG rfl rfl (fun hg => ?_) (fun hg => ?_)
  · (repeat (first | refine WO.run tabOk rfl rfl ?_ | refine WO.nil ?_ | refine WO.skip rfl rfl rfl ?_ | refine WO.pu tabOk rfl rfl rfl rfl ?_ | refine W.seq ?_ | refine W.region ?_ | refine W.block ?_ | refine W.skip ?_ | refine W.exit ?_ | refine WO.one rfl rfl rfl (OpW.load1 tabOk rfl rfl rfl rfl H1 (by (repeat (first | exact .head _ | refine .tail _ ?_))) rfl ?_)))
    refine W.ret (ret1 Try.results121 rfl ⟨_, rfl, H1.pure, ?_⟩)
    simp at hg
    simp [pickV, hg, undef]
  · (repeat (first | refine WO.run tabOk rfl rfl ?_ | refine WO.nil ?_ | refine WO.skip rfl rfl rfl ?_ | refine WO.pu tabOk rfl rfl rfl rfl ?_ | refine W.seq ?_ | refine W.region ?_ | refine W.block ?_ | refine W.skip ?_ | refine W.exit ?_ | refine WO.one rfl rfl rfl (OpW.load1 tabOk rfl rfl rfl rfl H1 (by (repeat (first | exact .head _ | refine .tail _ ?_))) rfl ?_)))
    refine W.ret (ret1 Try.results121 rfl ⟨_, rfl, H1.pure, ?_⟩)
    simp at hg
    simp [pickV, hg]
end Go.Proofs.Ytpenbdpgpamcbaa
