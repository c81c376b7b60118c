/- lock: the slices' functions over locks. -/
import Derived.Test.YtpenbdpgpamcbaaLockA
import Derived.Test.YtpenbdpgpamcbaaSlicesA
set_option linter.unusedVariables false
set_option linter.unusedSimpArgs false
set_option maxRecDepth 20000
namespace Go.Proofs.Ytpenbdpgpamcbaa
open Go Gw
attribute [local irreducible] W WO WD

theorem indexLock_ok (w : World) (a : Option Addr) (c : Nat) (xs : List (Int × Int)) (hH : Holds w (rd lockR a c xs)) (fid : Nat) (caps : Array Value) (p : (Int × Int) → Bool) (hcall : ∀ (a : Array Value) (w : World), (callFunc fid a).run Try.prog w = .ok (.enter fid a) w)
    (hf : ∀ x ∈ xs, ∀ w', Pure w w' → Calls Try.prog fid (#[] ++ [Value.agg (encLock x).toArray].toArray ++ caps) w' (Ret fun v w'' => Pure w' w'' ∧ v = .bool (p x))) :
    Calls Try.prog 107 #[.slice a xs.length c, .func (.func fid) #[] caps] w (Ret fun v w' => Pure w w' ∧ v = .int .i64 (idxF p xs)) := by
  refine calls_W (args := [_, _]) Try.func107 rfl Try.ntmps107 rfl ?_
  (repeat (first | refine WO.run tabOk rfl rfl ?_ | refine WO.nil ?_ | refine WO.skip rfl rfl rfl ?_ | refine WO.pu tabOk rfl rfl rfl rfl ?_ | refine W.seq ?_ | refine W.region ?_ | refine W.block ?_ | refine W.skip ?_ | refine W.exit ?_))
  refine W.loopS [0, 1, 6, 7, 8] (fun i : Nat => [(0, .slice a xs.length c), (1, .func (.func fid) #[] caps), (6, .slice a xs.length c), (7, .int .i64 xs.length), (8, .int .i64 i)])
    (fun i w' => i ≤ xs.length ∧ (∀ j, j < i → ∀ x, xs[j]? = some x → p x = false) ∧ Pure w w') (fun i => xs.length - i) 0 rfl ⟨Nat.zero_le _, fun j hj => (by omega), Pure.refl w⟩ ?_
  rintro i w1 ⟨hi, hno, hp⟩
  have hH1 := hH.pure hp
  (repeat (first | refine WO.run tabOk rfl rfl ?_ | refine WO.nil ?_ | refine WO.skip rfl rfl rfl ?_ | refine WO.pu tabOk rfl rfl rfl rfl ?_ | refine W.seq ?_ | refine W.region ?_ | refine W.block ?_ | refine W.skip ?_ | refine W.exit ?_))
  refine W.cond rfl (fun hlt => ?_) (fun hge => ?_)
  · have hlt : i < xs.length := by simpa using hlt
    obtain ⟨b, o, rfl⟩ := hH1.addr (by omega)
    (repeat (first | refine WO.run tabOk rfl rfl ?_ | refine WO.nil ?_ | refine WO.skip rfl rfl rfl ?_ | refine WO.pu tabOk rfl rfl rfl rfl ?_ | refine W.seq ?_ | refine W.region ?_ | refine W.block ?_ | refine W.skip ?_ | refine W.exit ?_))
    refine WO.pv rfl rfl rfl (PureV.idxN tabOk rfl rfl rfl rfl rfl rfl (by omega)) ?_
    have hx := List.getElem?_eq_getElem hlt
    have hm : xs[i] ∈ xs := List.getElem_mem hlt
    refine WO.one rfl rfl rfl (OpW.elemA (i := i) tabOk rfl rfl rfl rfl hH1 hx rfl rfl ?_)
    generalize xs[i] = x at hx hm
    refine WO.one rfl rfl rfl (OpW.callv (first := #[]) (cap := caps) rfl rfl hcall rfl (Calls.ret (hf x hm _ hp) ?_))
    rintro _ w2 ⟨hp2, rfl⟩
    (repeat (first | refine WO.run tabOk rfl rfl ?_ | refine WO.nil ?_ | refine WO.skip rfl rfl rfl ?_ | refine WO.pu tabOk rfl rfl rfl rfl ?_ | refine W.seq ?_ | refine W.region ?_ | refine W.block ?_ | refine W.skip ?_ | refine W.exit ?_))
    refine W.cond rfl (fun he => ?_) (fun hne => ?_)
    · (repeat (first | refine WO.run tabOk rfl rfl ?_ | refine WO.nil ?_ | refine WO.skip rfl rfl rfl ?_ | refine WO.pu tabOk rfl rfl rfl rfl ?_ | refine W.seq ?_ | refine W.region ?_ | refine W.block ?_ | refine W.skip ?_ | refine W.exit ?_))
      refine W.ret (ret1 Try.results107 rfl ⟨_, rfl, hp.trans hp2, ?_⟩)
      rw [idxF_hit hno hx he]
    · (repeat (first | refine WO.run tabOk rfl rfl ?_ | refine WO.nil ?_ | refine WO.skip rfl rfl rfl ?_ | refine WO.pu tabOk rfl rfl rfl rfl ?_ | refine W.seq ?_ | refine W.region ?_ | refine W.block ?_ | refine W.skip ?_ | refine W.exit ?_))
      have hle := hH1.le
      simp only [maxLen] at hle
      refine WO.pv rfl rfl rfl (PureV.addN rfl rfl rfl (by omega)) ?_
      (repeat (first | refine WO.run tabOk rfl rfl ?_ | refine WO.nil ?_ | refine WO.skip rfl rfl rfl ?_ | refine WO.pu tabOk rfl rfl rfl rfl ?_ | refine W.seq ?_ | refine W.region ?_ | refine W.block ?_ | refine W.skip ?_ | refine W.exit ?_))
      refine ⟨i + 1, rfl, ⟨by omega, ?_, hp.trans hp2⟩, by omega⟩
      intro j hj y hy
      rcases Nat.lt_succ_iff_lt_or_eq.1 hj with h | rfl
      · exact hno j h y hy
      · rw [hx] at hy; cases hy; exact hne
  · (repeat (first | refine WO.run tabOk rfl rfl ?_ | refine WO.nil ?_ | refine WO.skip rfl rfl rfl ?_ | refine WO.pu tabOk rfl rfl rfl rfl ?_ | refine W.seq ?_ | refine W.region ?_ | refine W.block ?_ | refine W.skip ?_ | refine W.exit ?_))
    simp at hge
    refine W.ret (ret1 Try.results107 rfl ⟨_, rfl, hp, ?_⟩)
    rw [idxF_miss]
    intro x hx
    obtain ⟨j, hj, hx'⟩ := List.mem_iff_getElem.1 hx
    exact hno j (by omega) x (by rw [List.getElem?_eq_getElem hj, hx'])

theorem containsLock_ok (w : World) (a : Option Addr) (c : Nat) (xs : List (Int × Int)) (hH : Holds w (rd lockR a c xs)) (fid : Nat) (caps : Array Value) (p : (Int × Int) → Bool) (hcall : ∀ (a : Array Value) (w : World), (callFunc fid a).run Try.prog w = .ok (.enter fid a) w)
    (hf : ∀ x ∈ xs, ∀ w', Pure w w' → Calls Try.prog fid (#[] ++ [Value.agg (encLock x).toArray].toArray ++ caps) w' (Ret fun v w'' => Pure w' w'' ∧ v = .bool (p x))) :
    Calls Try.prog 76 #[.slice a xs.length c, .func (.func fid) #[] caps] w (Ret fun v w' => Pure w w' ∧ v = .bool (xs.any p)) := by
  refine calls_W (args := [_, _]) Try.func76 rfl Try.ntmps76 rfl ?_
  (repeat (first | refine WO.run tabOk rfl rfl ?_ | refine WO.nil ?_ | refine WO.skip rfl rfl rfl ?_ | refine WO.pu tabOk rfl rfl rfl rfl ?_ | refine W.seq ?_ | refine W.region ?_ | refine W.block ?_ | refine W.skip ?_ | refine W.exit ?_))
  refine WO.one rfl rfl rfl (OpW.call rfl Try.call107 rfl (Calls.ret (indexLock_ok w a c xs hH fid caps p hcall hf) ?_))
  rintro _ w1 ⟨hp, rfl⟩
  (repeat (first | refine WO.run tabOk rfl rfl ?_ | refine WO.nil ?_ | refine WO.skip rfl rfl rfl ?_ | refine WO.pu tabOk rfl rfl rfl rfl ?_ | refine W.seq ?_ | refine W.region ?_ | refine W.block ?_ | refine W.skip ?_ | refine W.exit ?_))
  refine W.ret (ret1 Try.results76 rfl ⟨_, rfl, hp, ?_⟩)
  rw [idxF_any]

def clashF (m k : Int) : Bool := decide (bits .and .i64 (fitsF m / 2 ^ k.toNat) 1 = 0)

theorem can1_ok (w : World) (h : Int × Int) (tx mode m : Int) (b3 b5 : Nat) (hm : isModeF h.2 = true) (h3 : Holds w (blk b3 145 [.int .i64 tx, .int .i64 mode])) (h5 : Holds w (blk b5 3 [.int .i64 m])) :
    Calls Try.prog 112 (#[] ++ [Value.agg (encLock h).toArray].toArray ++ #[.pointer (some ⟨b3, 0, none⟩), .pointer (some ⟨b5, 0, none⟩)]) w (Ret fun v w' => Pure w w' ∧ v = .bool (decide (h.1 ≠ tx) && clashF m h.2)) := by
  show Calls Try.prog 112 #[.agg #[.int .i64 h.1, .int .i64 h.2], .pointer (some ⟨b3, 0, none⟩), .pointer (some ⟨b5, 0, none⟩)] w _
  refine calls_W (args := [_, _, _]) Try.func112 rfl Try.ntmps112 rfl ?_
  have H := St.start [blk b3 145 [.int .i64 tx, .int .i64 mode], blk b5 3 [.int .i64 m]] (w := w) (by simpa using ⟨h3, h5⟩)
  (repeat (first | refine W.seq ?_ | refine W.block ?_ | refine W.skip ?_ | refine W.exit ?_ | refine W.region ?_))
  refine WO.one rfl rfl rfl (OpW.box rfl rfl rfl H ?_); intro b w1 H1
  (repeat (first | refine WO.run tabOk rfl rfl ?_ | refine WO.nil ?_ | refine WO.skip rfl rfl rfl ?_ | refine WO.pu tabOk rfl rfl rfl rfl ?_ | refine W.seq ?_ | refine W.region ?_ | refine W.block ?_ | refine W.skip ?_ | refine W.exit ?_))
  refine W.regionD [1, 3, 6, 9] (HA [blk b 145 [.int .i64 h.1, .int .i64 h.2], blk b3 145 [.int .i64 tx, .int .i64 mode], blk b5 3 [.int .i64 m]]) [0, 1, 2, 3, 4, 5, 6, 8, 9, 7, 10, 11, 12, 13, 14] rfl (by kernel_rfl) (fun _ _ _ h => h) ?_
  have hA := H1.drew.ha (L := [blk b 145 [.int .i64 h.1, .int .i64 h.2], blk b3 145 [.int .i64 tx, .int .i64 mode], blk b5 3 [.int .i64 m]]) (by simp)
  (repeat (first | refine WD.run tabOk rfl rfl ?_ | refine WD.hv rfl rfl rfl rfl rfl hA (HeldV.load1 tabOk rfl rfl rfl rfl (by (repeat (first | exact .head _ | refine .tail _ ?_))) rfl) ?_ | refine WD.hv rfl rfl rfl rfl rfl hA (HeldV.loadA tabOk rfl rfl rfl rfl (by (repeat (first | exact .head _ | refine .tail _ ?_))) rfl rfl) ?_ | refine WD.pu tabOk rfl rfl rfl rfl rfl rfl ?_))
  refine WD.caseG rfl rfl rfl (fun hg => ?_) (fun hg => ?_)
  · (repeat (first | refine WD.run tabOk rfl rfl ?_ | refine WD.hv rfl rfl rfl rfl rfl hA (HeldV.load1 tabOk rfl rfl rfl rfl (by (repeat (first | exact .head _ | refine .tail _ ?_))) rfl) ?_ | refine WD.hv rfl rfl rfl rfl rfl hA (HeldV.loadA tabOk rfl rfl rfl rfl (by (repeat (first | exact .head _ | refine .tail _ ?_))) rfl rfl) ?_ | refine WD.pu tabOk rfl rfl rfl rfl rfl rfl ?_))
    (repeat refine WD.pu tabOk rfl rfl rfl rfl rfl rfl ?_)
    (repeat (first | refine WD.run tabOk rfl rfl ?_ | refine WD.hv rfl rfl rfl rfl rfl hA (HeldV.load1 tabOk rfl rfl rfl rfl (by (repeat (first | exact .head _ | refine .tail _ ?_))) rfl) ?_ | refine WD.hv rfl rfl rfl rfl rfl hA (HeldV.loadA tabOk rfl rfl rfl rfl (by (repeat (first | exact .head _ | refine .tail _ ?_))) rfl rfl) ?_ | refine WD.pu tabOk rfl rfl rfl rfl rfl rfl ?_))
    refine WD.oneS rfl rfl rfl rfl rfl (OpW.call rfl Try.call113 rfl (Calls.ret (fits_ok _ _) ?_))
    rintro _ _ ⟨rfl, rfl⟩
    refine ⟨hA, ?_⟩
    simp only [isModeF, decide_eq_true_eq] at hm
    refine WD.pv rfl rfl rfl rfl rfl (PureV.shr rfl rfl rfl (by omega) (by omega)) ?_
    (repeat refine WD.pu tabOk rfl rfl rfl rfl rfl rfl ?_)
    (repeat (first | refine WD.run tabOk rfl rfl ?_ | refine WD.nil ?_))
    (repeat (first | refine WO.run tabOk rfl rfl ?_ | refine WO.nil ?_ | refine WO.skip rfl rfl rfl ?_ | refine WO.pu tabOk rfl rfl rfl rfl ?_ | refine W.seq ?_ | refine W.region ?_ | refine W.block ?_ | refine W.skip ?_ | refine W.exit ?_))
    refine W.ret (ret1 Try.results112 rfl ⟨_, rfl, H1.drew.pure, ?_⟩)
    simp only [Bool.not_eq_true', decide_eq_false_iff_not] at hg
    simp [pickV, hg, clashF]
  · (repeat (first | refine WD.skip rfl rfl rfl rfl rfl ?_ | refine WD.skipS rfl rfl rfl rfl ‹HA _ _› ?_))
    (repeat (first | refine WD.run tabOk rfl rfl ?_ | refine WD.nil ?_))
    (repeat (first | refine WO.run tabOk rfl rfl ?_ | refine WO.nil ?_ | refine WO.skip rfl rfl rfl ?_ | refine WO.pu tabOk rfl rfl rfl rfl ?_ | refine W.seq ?_ | refine W.region ?_ | refine W.block ?_ | refine W.skip ?_ | refine W.exit ?_))
    refine W.ret (ret1 Try.results112 rfl ⟨_, rfl, H1.drew.pure, ?_⟩)
    simp at hg
    simp [pickV, hg, undef]

def canF (hs : List (Int × Int)) (tx mode : Int) : Bool := !hs.any fun h => decide (h.1 ≠ tx) && clashF (wishF hs tx mode) h.2

theorem can_ok (w : World) (item : Int) (ha : Option Addr) (hc : Nat) (hs : List (Int × Int)) (q : Value) (hq : q.oneCell' = true) (tx mode : Int) (hH : Holds w (rd lockR ha hc hs)) (hm : ∀ h ∈ hs, isModeF h.2 = true) :
    Calls Try.prog 83 #[.agg #[.int .i64 item, .slice ha hs.length hc, q], .agg #[.int .i64 tx, .int .i64 mode]] w (Ret fun v w' => Pure w w' ∧ v = .bool (canF hs tx mode)) := by
  refine calls_W (args := [_, _]) Try.func83 rfl Try.ntmps83 rfl ?_
  have H := St.start [rd lockR ha hc hs] (w := w) (by simpa using hH)
  (repeat (first | refine W.seq ?_ | refine W.block ?_ | refine W.skip ?_ | refine W.exit ?_ | refine W.region ?_))
  refine WO.one rfl rfl rfl (OpW.box rfl rfl rfl H ?_); intro b2 w1 H1
  refine WO.one rfl rfl rfl (OpW.box rfl rfl rfl H1 ?_); intro b3 w2 H2
  (repeat (first | refine WO.run tabOk rfl rfl ?_ | refine WO.nil ?_ | refine WO.skip rfl rfl rfl ?_ | refine WO.pu tabOk rfl rfl rfl rfl ?_ | refine W.seq ?_ | refine W.region ?_ | refine W.block ?_ | refine W.skip ?_ | refine W.exit ?_))
  refine WO.one rfl rfl rfl (OpW.loadA tabOk rfl rfl rfl rfl H2 (by (repeat (first | exact .head _ | refine .tail _ ?_))) rfl rfl ?_)
  refine WO.one rfl rfl rfl (OpW.loadA tabOk rfl rfl rfl rfl H2 (by (repeat (first | exact .head _ | refine .tail _ ?_))) rfl rfl ?_)
  refine WO.one rfl rfl rfl (OpW.call rfl Try.call111 rfl (Calls.ret (wish_ok _ item ha hc hs q hq tx mode (hH.pure H2.pure)) ?_))
  rintro _ w3 ⟨hp3, rfl⟩
  have H3 := H2.after hp3
  refine WO.one rfl rfl rfl (OpW.alloc rfl zero3 rfl H3 ?_); intro b5 w4 H4
  refine WO.act rfl rfl (OpW.storeA (i := 0) tabOk rfl rfl rfl rfl H4 rfl rfl rfl rfl rfl ?_); intro w5 H5
  (repeat (first | refine WO.run tabOk rfl rfl ?_ | refine WO.nil ?_ | refine WO.skip rfl rfl rfl ?_ | refine WO.pu tabOk rfl rfl rfl rfl ?_ | refine W.seq ?_ | refine W.region ?_ | refine W.block ?_ | refine W.skip ?_ | refine W.exit ?_ | refine WO.one rfl rfl rfl (OpW.load1 tabOk rfl rfl rfl rfl H5 (by (repeat (first | exact .head _ | refine .tail _ ?_))) rfl ?_)))
  have h3 : Holds w5 (blk b3 145 [.int .i64 tx, .int .i64 mode]) := H5.holds (by simp)
  have h5 : Holds w5 (blk b5 3 [.int .i64 (wishF hs tx mode)]) := H5.holds (by simp)
  refine WO.one rfl rfl rfl (OpW.call rfl Try.call76 rfl (Calls.ret (containsLock_ok w5 ha hc hs (H5.holds (by simp)) 112 #[.pointer (some ⟨b3, 0, none⟩), .pointer (some ⟨b5, 0, none⟩)] _ Try.call112
    (fun x hx w' hp => can1_ok w' x tx mode (wishF hs tx mode) b3 b5 (hm x hx) (h3.pure hp) (h5.pure hp))) ?_))
  rintro _ w6 ⟨hp6, rfl⟩
  (repeat (first | refine WO.run tabOk rfl rfl ?_ | refine WO.nil ?_ | refine WO.skip rfl rfl rfl ?_ | refine WO.pu tabOk rfl rfl rfl rfl ?_ | refine W.seq ?_ | refine W.region ?_ | refine W.block ?_ | refine W.skip ?_ | refine W.exit ?_))
  refine W.ret (ret1 Try.results83 rfl ⟨_, rfl, H5.pure.trans hp6, ?_⟩)
  rfl
end Go.Proofs.Ytpenbdpgpamcbaa
