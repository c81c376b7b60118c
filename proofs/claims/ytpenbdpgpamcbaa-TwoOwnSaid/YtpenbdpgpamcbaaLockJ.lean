/- lock: DeleteFunc; Drop. -/
import Derived.Test.YtpenbdpgpamcbaaLockI
set_option linter.unusedVariables false
set_option linter.unusedSimpArgs false
set_option maxRecDepth 20000
namespace Go.Proofs.Ytpenbdpgpamcbaa
open Go Gw
attribute [local irreducible] W WO WD

theorem flat_setA {α : Type} {enc : α → List Value} {sz : Nat} (hl : ∀ x, (enc x).length = sz) : ∀ {l : List α} {i : Nat} {x : α}, i < l.length → spliceL (l.flatMap enc) (i * sz) (enc x) = (l.set i x).flatMap enc
  | [], i, x, h => by simp at h
  | y :: l, 0, x, h => by
    have e : (y :: l).flatMap enc = enc y ++ l.flatMap enc := rfl
    rw [e, Nat.zero_mul]
    simp only [spliceL, List.take_zero, List.nil_append, Nat.zero_add]
    rw [hl, ← hl y, List.drop_left]; rfl
  | y :: l, i + 1, x, h => by
    rw [List.set_cons_succ, List.flatMap_cons, List.flatMap_cons, show (i + 1) * sz = (enc y).length + i * sz by rw [hl, Nat.add_mul, Nat.one_mul, Nat.add_comm], splice_app, flat_setA hl (by simpa using h)]

theorem deleteLock_ok (c : Ctx) (w : World) (Own Ro : List Asn) (v : Value) (xs : List (Int × Int)) (H : St c w (row 145 lockR v xs :: Own) Ro) (fid : Nat) (caps : Array Value) (p : (Int × Int) → Bool) (hcall : ∀ (a : Array Value) (w : World), (callFunc fid a).run Try.prog w = .ok (.enter fid a) w)
    (hf : ∀ x w' A, St c w' (A :: Own) Ro → Calls Try.prog fid (#[] ++ [Value.agg (encLock x).toArray].toArray ++ caps) w' (Ret fun v w'' => Pure w' w'' ∧ v = .bool (p x))) :
    Calls Try.prog 105 #[v, .func (.func fid) #[] caps] w (Ret fun v' w' => St c w' (row 145 lockR v' (xs.filter fun x => !p x) :: Own) Ro) := by
  refine calls_W (args := [_, _]) Try.func105 rfl Try.ntmps105 rfl ?_
  obtain ⟨a, cap, rfl, hrd⟩ := row_rd (H.holds (A := row 145 lockR v xs) (by simp))
  (repeat (first | refine WO.run tabOk rfl rfl ?_ | refine WO.nil ?_ | refine WO.skip rfl rfl rfl ?_ | refine WO.pu tabOk rfl rfl rfl rfl ?_ | refine W.seq ?_ | refine W.region ?_ | refine W.block ?_ | refine W.skip ?_ | refine W.exit ?_))
  refine WO.one rfl rfl rfl (OpW.call rfl Try.call107 rfl (Calls.ret (indexLock_ok w a cap xs hrd fid caps p hcall fun x hx w' hp => hf x w' _ (H.after hp)) ?_))
  rintro _ w1 ⟨hp1, rfl⟩
  have H1 := H.after hp1
  have hrd := hrd.pure hp1
  have hle := hrd.le
  simp only [maxLen] at hle
  clear H hp1
  (repeat (first | refine WO.run tabOk rfl rfl ?_ | refine WO.nil ?_ | refine WO.skip rfl rfl rfl ?_ | refine WO.pu tabOk rfl rfl rfl rfl ?_ | refine W.seq ?_ | refine W.region ?_ | refine W.block ?_ | refine W.skip ?_ | refine W.exit ?_))
  refine W.cond rfl (fun h0 => ?_) (fun h0 => ?_)
  · (repeat (first | refine WO.run tabOk rfl rfl ?_ | refine WO.nil ?_ | refine WO.skip rfl rfl rfl ?_ | refine WO.pu tabOk rfl rfl rfl rfl ?_ | refine W.seq ?_ | refine W.region ?_ | refine W.block ?_ | refine W.skip ?_ | refine W.exit ?_))
    refine W.ret (ret1 Try.results105 rfl ⟨_, rfl, ?_⟩)
    have hf : xs.filter (fun x => !p x) = xs := by
      rcases idxF_cases p xs with ⟨_, hall⟩ | ⟨i, x, h, _⟩
      · exact List.filter_eq_self.2 fun x hx => by rw [hall x hx]; rfl
      · rw [h] at h0; simp at h0
    rw [hf]; exact H1
  rcases idxF_cases p xs with ⟨h, _⟩ | ⟨i0, x0, hi0, hx0, hpx0, hno⟩
  · rw [h] at h0; simp at h0
  rw [hi0]
  clear h0
  have hlt0 := (List.getElem?_eq_some_iff.1 hx0).1
  have H2 := H1.flat_open
  rcases H2.open_raw with ⟨_, h, _⟩ | ⟨g, o, cap', cur0, e1, H3, hcur, hnc, hcm, hfit⟩
  · omega
  simp only [Value.slice.injEq] at e1
  obtain ⟨rfl, _, rfl⟩ := e1
  clear H1 H2 hrd
  have hcm' := hcm
  simp only [maxLen] at hcm'
  (repeat (first | refine WO.run tabOk rfl rfl ?_ | refine WO.nil ?_ | refine WO.skip rfl rfl rfl ?_ | refine WO.pu tabOk rfl rfl rfl rfl ?_ | refine W.seq ?_ | refine W.region ?_ | refine W.block ?_ | refine W.skip ?_ | refine W.exit ?_))
  refine WO.pv rfl rfl rfl (PureV.addN rfl rfl rfl (by omega)) ?_
  (repeat (first | refine WO.run tabOk rfl rfl ?_ | refine WO.nil ?_ | refine WO.skip rfl rfl rfl ?_ | refine WO.pu tabOk rfl rfl rfl rfl ?_ | refine W.seq ?_ | refine W.region ?_ | refine W.block ?_ | refine W.skip ?_ | refine W.exit ?_))
  refine W.loopS [0, 1, 5, 6] (fun s : Nat × Nat × List Value => [(0, .slice (some ⟨g, o, none⟩) xs.length cap), (1, .func (.func fid) #[] caps), (5, .int .i64 s.1), (6, .int .i64 s.2.1)])
    (fun s w' => s.1 < s.2.1 ∧ s.2.1 ≤ xs.length ∧ s.2.2.length = cur0.length ∧ St c w' (blk g 145 s.2.2 :: Own) Ro ∧ ∃ ys : List (Int × Int), ys.length = xs.length ∧ (s.2.2.drop o).take (xs.length * 2) = ys.flatMap encLock ∧ ys.take s.1 = (xs.take s.2.1).filter (fun x => !p x) ∧ ∀ k, s.2.1 ≤ k → ys[k]? = xs[k]?) (fun s => xs.length - s.2.1)
    (i0, i0 + 1, cur0) rfl ⟨by simp only; omega, by simp only; omega, rfl, H3, xs, rfl, hcur, ?_, fun k _ => rfl⟩ ?_
  · simp only
    rw [List.take_add_one, hx0, List.filter_append]
    have e1 : (xs.take i0).filter (fun x => !p x) = xs.take i0 := List.filter_eq_self.2 fun x hx => by
      obtain ⟨j, hj, e⟩ := List.mem_iff_getElem.1 hx
      simp at hj
      have := hno j (by omega) x (by rw [← e, List.getElem_take, List.getElem?_eq_getElem (by omega)])
      rw [this]; rfl
    rw [e1]; simp [hpx0]
  clear H3 hcur
  rintro ⟨i, j, cur⟩ w3 ⟨hij, hj, hcl, H, ys, hyl, hwin, hpre, hsuf⟩
  simp only at hij hj hcl H hwin hpre hsuf
  (repeat (first | refine WO.run tabOk rfl rfl ?_ | refine WO.nil ?_ | refine WO.skip rfl rfl rfl ?_ | refine WO.pu tabOk rfl rfl rfl rfl ?_ | refine W.seq ?_ | refine W.region ?_ | refine W.block ?_ | refine W.skip ?_ | refine W.exit ?_))
  refine W.cond rfl (fun hlt => ?_) (fun hge => ?_)
  · have hlt : j < xs.length := by simpa using hlt
    (repeat (first | refine WO.run tabOk rfl rfl ?_ | refine WO.nil ?_ | refine WO.skip rfl rfl rfl ?_ | refine WO.pu tabOk rfl rfl rfl rfl ?_ | refine W.seq ?_ | refine W.region ?_ | refine W.block ?_ | refine W.skip ?_ | refine W.exit ?_))
    refine WO.pv rfl rfl rfl (PureV.idxN tabOk rfl rfl rfl rfl rfl rfl (by omega)) ?_
    have hx := List.getElem?_eq_getElem hlt
    generalize xs[j] = x at hx
    have hyx : ys[j]? = some x := by rw [hsuf j (Nat.le_refl _), hx]
    have hcell : (cur.drop (o + j * 2)).take 2 = encLock x := by
      have h1 := flatMap_at (enc := encLock) (sz := 2) (fun _ => rfl) ys j x hyx
      rw [← hwin, List.drop_take, List.drop_drop, List.take_take, Nat.min_eq_left (by omega)] at h1
      exact h1
    refine WO.one rfl rfl rfl (OpW.loadBA (cs := encLock x) tabOk rfl rfl rfl rfl H (.head _) rfl hcell ?_)
    refine WO.one rfl rfl rfl (OpW.alloc rfl zero145 rfl H ?_); intro b7 w4 H4
    refine WO.act rfl rfl (OpW.storeA (i := 0) tabOk rfl rfl rfl rfl H4 rfl rfl rfl rfl rfl ?_); intro w5 H5
    (repeat (first | refine WO.run tabOk rfl rfl ?_ | refine WO.nil ?_ | refine WO.skip rfl rfl rfl ?_ | refine WO.pu tabOk rfl rfl rfl rfl ?_ | refine W.seq ?_ | refine W.region ?_ | refine W.block ?_ | refine W.skip ?_ | refine W.exit ?_))
    refine WO.one rfl rfl rfl (OpW.loadA tabOk rfl rfl rfl rfl H5 (by (repeat (first | exact .head _ | refine .tail _ ?_))) rfl rfl ?_)
    refine WO.one rfl rfl rfl (OpW.callv (first := #[]) (cap := caps) rfl rfl hcall rfl (Calls.ret (hf x _ _ ((H5.drop))) ?_))
    rintro _ w6 ⟨hp6, rfl⟩
    have H6 := H5.after hp6
    (repeat (first | refine WO.run tabOk rfl rfl ?_ | refine WO.nil ?_ | refine WO.skip rfl rfl rfl ?_ | refine WO.pu tabOk rfl rfl rfl rfl ?_ | refine W.seq ?_ | refine W.region ?_ | refine W.block ?_ | refine W.skip ?_ | refine W.exit ?_))
    refine W.cond rfl (fun he => ?_) (fun he => ?_)
    · (repeat (first | refine WO.run tabOk rfl rfl ?_ | refine WO.nil ?_ | refine WO.skip rfl rfl rfl ?_ | refine WO.pu tabOk rfl rfl rfl rfl ?_ | refine W.seq ?_ | refine W.region ?_ | refine W.block ?_ | refine W.skip ?_ | refine W.exit ?_))
      refine WO.one rfl rfl rfl (OpW.loadA tabOk rfl rfl rfl rfl H6 (by (repeat (first | exact .head _ | refine .tail _ ?_))) rfl rfl ?_)
      refine WO.pv rfl rfl rfl (PureV.idxN tabOk rfl rfl rfl rfl rfl rfl (by omega)) ?_
      refine WO.act rfl rfl (OpW.storeB (i := 1) tabOk rfl rfl rfl rfl H6 rfl (by intro u hu; simp [cellsL, encLock] at hu; rcases hu with rfl | rfl <;> rfl) rfl (by simp [cellsL]; omega) ?_)
      intro w7 H7
      (repeat (first | refine WO.run tabOk rfl rfl ?_ | refine WO.nil ?_ | refine WO.skip rfl rfl rfl ?_ | refine WO.pu tabOk rfl rfl rfl rfl ?_ | refine W.seq ?_ | refine W.region ?_ | refine W.block ?_ | refine W.skip ?_ | refine W.exit ?_))
      refine WO.pv rfl rfl rfl (PureV.addN (n := i) rfl rfl rfl (by omega)) ?_
      (repeat (first | refine WO.run tabOk rfl rfl ?_ | refine WO.nil ?_ | refine WO.skip rfl rfl rfl ?_ | refine WO.pu tabOk rfl rfl rfl rfl ?_ | refine W.seq ?_ | refine W.region ?_ | refine W.block ?_ | refine W.skip ?_ | refine W.exit ?_))
      refine WO.pv rfl rfl rfl (PureV.addN (n := j) rfl rfl rfl (by omega)) ?_
      (repeat (first | refine WO.run tabOk rfl rfl ?_ | refine WO.nil ?_ | refine WO.skip rfl rfl rfl ?_ | refine WO.pu tabOk rfl rfl rfl rfl ?_ | refine W.seq ?_ | refine W.region ?_ | refine W.block ?_ | refine W.skip ?_ | refine W.exit ?_))
      refine ⟨(i + 1, j + 1, spliceL cur (o + i * 2) (encLock x)), rfl, ⟨by simp only; omega, by simp only; omega, by simp only; rw [spliceL_len _ _ _ (by simp [encLock]; omega)]; exact hcl, (H7.to (i := 1) rfl).drop, ys.set i x, by simp [hyl], ?_, ?_, ?_⟩, by simp only; omega⟩
      · simp only
        rw [window_splice hwin (by omega) (by simp [encLock]; omega)]
        exact flat_setA (enc := encLock) (sz := 2) (fun _ => rfl) (by omega)
      · simp only
        rw [take_snoc hx, List.filter_append, ← hpre]
        simp at he
        rw [List.take_add_one, List.getElem?_set_self (by omega), List.take_set_of_le (Nat.le_refl _)]
        simp [he]
      · intro k hk
        simp only at hk
        rw [List.getElem?_set_ne (by omega), hsuf k (by omega)]
    · (repeat (first | refine WO.run tabOk rfl rfl ?_ | refine WO.nil ?_ | refine WO.skip rfl rfl rfl ?_ | refine WO.pu tabOk rfl rfl rfl rfl ?_ | refine W.seq ?_ | refine W.region ?_ | refine W.block ?_ | refine W.skip ?_ | refine W.exit ?_))
      refine WO.pv rfl rfl rfl (PureV.addN (n := j) rfl rfl rfl (by omega)) ?_
      (repeat (first | refine WO.run tabOk rfl rfl ?_ | refine WO.nil ?_ | refine WO.skip rfl rfl rfl ?_ | refine WO.pu tabOk rfl rfl rfl rfl ?_ | refine W.seq ?_ | refine W.region ?_ | refine W.block ?_ | refine W.skip ?_ | refine W.exit ?_))
      refine ⟨(i, j + 1, cur), rfl, ⟨by simp only; omega, by simp only; omega, hcl, H6.drop, ys, hyl, hwin, ?_, fun k hk => hsuf k (by simp only at hk; omega)⟩, by simp only; omega⟩
      simp only
      rw [take_snoc hx, List.filter_append, ← hpre]
      simp at he
      simp [he]
  · simp at hge
    obtain rfl : j = xs.length := by omega
    (repeat (first | refine WO.run tabOk rfl rfl ?_ | refine WO.nil ?_ | refine WO.skip rfl rfl rfl ?_ | refine WO.pu tabOk rfl rfl rfl rfl ?_ | refine W.seq ?_ | refine W.region ?_ | refine W.block ?_ | refine W.skip ?_ | refine W.exit ?_))
    refine WO.pv rfl rfl rfl (PureV.slcFrom tabOk rfl rfl rfl rfl rfl rfl (show i ≤ xs.length by omega) hnc rfl) ?_
    rw [cutA, if_neg (show ¬ cap = i by omega)]
    simp only [Option.map_some, Addr.add_lit]
    refine WO.act rfl rfl (OpW.clear (i := 0) tabOk rfl rfl rfl zero145 rfl rfl rfl H rfl (by omega) ?_)
    intro zs w5 hzl H5
    (repeat (first | refine WO.run tabOk rfl rfl ?_ | refine WO.nil ?_ | refine WO.skip rfl rfl rfl ?_ | refine WO.pu tabOk rfl rfl rfl rfl ?_ | refine W.seq ?_ | refine W.region ?_ | refine W.block ?_ | refine W.skip ?_ | refine W.exit ?_))
    refine WO.pv rfl rfl rfl (PureV.slcTo tabOk rfl rfl rfl rfl rfl rfl (show i ≤ cap by omega)) ?_
    (repeat (first | refine WO.run tabOk rfl rfl ?_ | refine WO.nil ?_ | refine WO.skip rfl rfl rfl ?_ | refine WO.pu tabOk rfl rfl rfl rfl ?_ | refine W.seq ?_ | refine W.region ?_ | refine W.block ?_ | refine W.skip ?_ | refine W.exit ?_))
    refine W.ret (ret1 Try.results105 rfl ⟨_, rfl, ?_⟩)
    rw [List.take_length] at hpre
    rw [← hpre]
    have hl : (ys.take i).length = i := by rw [List.length_take]; omega
    have H6 := H5.close_raw (sz := 2) (n := i) (o := o) (cap := cap) (cs := (ys.take i).flatMap encLock) (by omega) hcm (by rw [spliceL_len _ _ _ (by omega)]; omega) ?_ ?_
    · have H7 := St.flat_close (enc := encLock) (sz := 2) (xs := ys.take i) (hl := fun _ => rfl) (h1 := fun x v hv => by simp [encLock] at hv; rcases hv with rfl | rfl <;> rfl) (by rw [hl]; exact H6)
      exact H7
    · rw [← flat_take (enc := encLock) (sz := 2) (fun _ => rfl), ← hwin, List.take_take, Nat.min_eq_left (by omega)]
      apply List.ext_getElem?
      intro k
      rw [List.getElem?_take, List.getElem?_take, List.getElem?_drop, List.getElem?_drop]
      split
      · rw [splice_get (by omega), if_pos (by omega)]
      · rfl
    · intro u hu
      obtain ⟨y, _, hy⟩ := List.mem_flatMap.1 hu
      simp [encLock] at hy; rcases hy with rfl | rfl <;> rfl

end Go.Proofs.Ytpenbdpgpamcbaa
