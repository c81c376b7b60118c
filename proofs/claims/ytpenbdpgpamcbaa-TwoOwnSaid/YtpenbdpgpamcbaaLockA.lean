/- lock: fits, isMode, Join, wish. -/
import Derived.Test.YtpenbdpgpamcbaaGwMore
import Derived.Test.YtpenbdpgpamcbaaGwTab
set_option linter.unusedVariables false
set_option linter.unusedSimpArgs false
set_option maxRecDepth 20000
namespace Go.Proofs.Ytpenbdpgpamcbaa
open Go Gw
attribute [local irreducible] W WO

def encLock (x : Int × Int) : List Value := [.int .i64 x.1, .int .i64 x.2]
def lockR : Rdr (Int × Int) := Rdr.flat 2 encLock (fun _ => rfl) (fun x v hv => by simp [encLock] at hv; rcases hv with rfl | rfl <;> rfl)

def isModeF (m : Int) : Bool := decide (1 ≤ m ∧ m ≤ 5)
theorem isMode_ok (m : Int) (w : World) : Calls Try.prog 75 #[.int .i64 m] w (Ret fun v w' => w' = w ∧ v = .bool (isModeF m)) := by
  refine calls_W (args := [_]) Try.func75 rfl Try.ntmps75 rfl ?_
  (repeat (first | refine WO.run tabOk rfl rfl ?_ | refine WO.nil ?_ | refine WO.skip rfl rfl rfl ?_ | refine WO.pu tabOk rfl rfl rfl rfl ?_ | refine W.seq ?_ | refine W.region ?_ | refine W.block ?_ | refine W.skip ?_ | refine W.exit ?_))
  refine WO.caseG rfl rfl (fun h => ?_) (fun h => ?_)
  · refine WO.pu tabOk rfl rfl rfl rfl ?_
    refine WO.pu tabOk rfl rfl rfl rfl ?_
    (repeat (first | refine WO.run tabOk rfl rfl ?_ | refine WO.nil ?_ | refine WO.skip rfl rfl rfl ?_ | refine WO.pu tabOk rfl rfl rfl rfl ?_ | refine W.seq ?_ | refine W.region ?_ | refine W.block ?_ | refine W.skip ?_ | refine W.exit ?_))
    refine W.ret ?_
    refine ret1 Try.results75 rfl ⟨_, rfl, rfl, ?_⟩
    simp at h
    simp [isModeF, pickV, h]
  · refine WO.skip rfl rfl rfl ?_
    refine WO.skip rfl rfl rfl ?_
    (repeat (first | refine WO.run tabOk rfl rfl ?_ | refine WO.nil ?_ | refine WO.skip rfl rfl rfl ?_ | refine WO.pu tabOk rfl rfl rfl rfl ?_ | refine W.seq ?_ | refine W.region ?_ | refine W.block ?_ | refine W.skip ?_ | refine W.exit ?_))
    refine W.ret ?_
    refine ret1 Try.results75 rfl ⟨_, rfl, rfl, ?_⟩
    simp at h
    show Value.bool false = _
    simp [isModeF]
    omega

def fitsF (m : Int) : Int := if m = 1 then 30 else if m = 2 then 6 else if m = 3 then 10 else if m = 4 then 2 else 0
theorem fits_ok (m : Int) (w : World) : Calls Try.prog 113 #[.int .i64 m] w (Ret fun v w' => w' = w ∧ v = .int .i64 (fitsF m)) := by
  refine calls_W (args := [_]) Try.func113 rfl Try.ntmps113 rfl ?_
  (repeat (first | refine WO.run tabOk rfl rfl ?_ | refine WO.nil ?_ | refine WO.skip rfl rfl rfl ?_ | refine WO.pu tabOk rfl rfl rfl rfl ?_ | refine W.seq ?_ | refine W.region ?_ | refine W.block ?_ | refine W.skip ?_ | refine W.exit ?_))
  refine W.cond rfl (fun h => ?_) (fun h => ?_)
  · (repeat (first | refine WO.run tabOk rfl rfl ?_ | refine WO.nil ?_ | refine WO.skip rfl rfl rfl ?_ | refine WO.pu tabOk rfl rfl rfl rfl ?_ | refine W.seq ?_ | refine W.region ?_ | refine W.block ?_ | refine W.skip ?_ | refine W.exit ?_))
    refine W.ret (ret1 Try.results113 rfl ⟨_, rfl, rfl, ?_⟩)
    simp at h; simp [fitsF, h]
  (repeat (first | refine WO.run tabOk rfl rfl ?_ | refine WO.nil ?_ | refine WO.skip rfl rfl rfl ?_ | refine WO.pu tabOk rfl rfl rfl rfl ?_ | refine W.seq ?_ | refine W.region ?_ | refine W.block ?_ | refine W.skip ?_ | refine W.exit ?_))
  refine W.cond rfl (fun h2 => ?_) (fun h2 => ?_)
  · (repeat (first | refine WO.run tabOk rfl rfl ?_ | refine WO.nil ?_ | refine WO.skip rfl rfl rfl ?_ | refine WO.pu tabOk rfl rfl rfl rfl ?_ | refine W.seq ?_ | refine W.region ?_ | refine W.block ?_ | refine W.skip ?_ | refine W.exit ?_))
    refine W.ret (ret1 Try.results113 rfl ⟨_, rfl, rfl, ?_⟩)
    simp at h h2; simp [fitsF, h2]
  (repeat (first | refine WO.run tabOk rfl rfl ?_ | refine WO.nil ?_ | refine WO.skip rfl rfl rfl ?_ | refine WO.pu tabOk rfl rfl rfl rfl ?_ | refine W.seq ?_ | refine W.region ?_ | refine W.block ?_ | refine W.skip ?_ | refine W.exit ?_))
  refine W.cond rfl (fun h3 => ?_) (fun h3 => ?_)
  · (repeat (first | refine WO.run tabOk rfl rfl ?_ | refine WO.nil ?_ | refine WO.skip rfl rfl rfl ?_ | refine WO.pu tabOk rfl rfl rfl rfl ?_ | refine W.seq ?_ | refine W.region ?_ | refine W.block ?_ | refine W.skip ?_ | refine W.exit ?_))
    refine W.ret (ret1 Try.results113 rfl ⟨_, rfl, rfl, ?_⟩)
    simp at h h2 h3; simp [fitsF, h3]
  (repeat (first | refine WO.run tabOk rfl rfl ?_ | refine WO.nil ?_ | refine WO.skip rfl rfl rfl ?_ | refine WO.pu tabOk rfl rfl rfl rfl ?_ | refine W.seq ?_ | refine W.region ?_ | refine W.block ?_ | refine W.skip ?_ | refine W.exit ?_))
  refine W.cond rfl (fun h4 => ?_) (fun h4 => ?_)
  · (repeat (first | refine WO.run tabOk rfl rfl ?_ | refine WO.nil ?_ | refine WO.skip rfl rfl rfl ?_ | refine WO.pu tabOk rfl rfl rfl rfl ?_ | refine W.seq ?_ | refine W.region ?_ | refine W.block ?_ | refine W.skip ?_ | refine W.exit ?_))
    refine W.ret (ret1 Try.results113 rfl ⟨_, rfl, rfl, ?_⟩)
    simp at h h2 h3 h4; simp [fitsF, h4]
  (repeat (first | refine WO.run tabOk rfl rfl ?_ | refine WO.nil ?_ | refine WO.skip rfl rfl rfl ?_ | refine WO.pu tabOk rfl rfl rfl rfl ?_ | refine W.seq ?_ | refine W.region ?_ | refine W.block ?_ | refine W.skip ?_ | refine W.exit ?_))
  refine W.ret (ret1 Try.results113 rfl ⟨_, rfl, rfl, ?_⟩)
  simp at h h2 h3 h4; simp [fitsF, h, h2, h3, h4]

def joinF (a b : Int) : Int := if isModeF a && isModeF b then (if min a b = 2 ∧ max a b = 3 then 4 else max a b) else 0
def joinE (a b : Int) : Int := if isModeF a && isModeF b then 0 else 1
theorem join_ok (a b : Int) (w : World) : Calls Try.prog 136 #[.int .i64 a, .int .i64 b] w (Ret fun v w' => w' = w ∧ v = .tuple #[.int .i64 (joinF a b), .int .i64 (joinE a b)]) := by
  refine calls_W (args := [_, _]) Try.func136 rfl Try.ntmps136 rfl ?_
  (repeat (first | refine WO.run tabOk rfl rfl ?_ | refine WO.nil ?_ | refine WO.skip rfl rfl rfl ?_ | refine WO.pu tabOk rfl rfl rfl rfl ?_ | refine W.seq ?_ | refine W.region ?_ | refine W.block ?_ | refine W.skip ?_ | refine W.exit ?_))
  refine WO.one rfl rfl rfl (OpW.call rfl Try.call75 rfl (Calls.ret (isMode_ok _ _) ?_))
  rintro _ _ ⟨rfl, rfl⟩
  (repeat (first | refine WO.run tabOk rfl rfl ?_ | refine WO.nil ?_ | refine WO.skip rfl rfl rfl ?_ | refine WO.pu tabOk rfl rfl rfl rfl ?_ | refine W.seq ?_ | refine W.region ?_ | refine W.block ?_ | refine W.skip ?_ | refine W.exit ?_))
  refine WO.caseG rfl rfl (fun h => ?_) (fun h => ?_)
  · refine WO.skip rfl rfl rfl ?_
    refine WO.skip rfl rfl rfl ?_
    refine WO.skip rfl rfl rfl ?_
    (repeat (first | refine WO.run tabOk rfl rfl ?_ | refine WO.nil ?_ | refine WO.skip rfl rfl rfl ?_ | refine WO.pu tabOk rfl rfl rfl rfl ?_ | refine W.seq ?_ | refine W.region ?_ | refine W.block ?_ | refine W.skip ?_ | refine W.exit ?_))
    refine W.cond_t rfl ?_
    (repeat (first | refine WO.run tabOk rfl rfl ?_ | refine WO.nil ?_ | refine WO.skip rfl rfl rfl ?_ | refine WO.pu tabOk rfl rfl rfl rfl ?_ | refine W.seq ?_ | refine W.region ?_ | refine W.block ?_ | refine W.skip ?_ | refine W.exit ?_))
    refine W.ret (ret2 Try.results136 rfl rfl ⟨_, rfl, rfl, ?_⟩)
    simp at h
    simp [joinF, joinE, h]
  refine WO.pu tabOk rfl rfl rfl rfl ?_
  refine WO.one rfl rfl rfl (OpW.call rfl Try.call75 rfl (Calls.ret (isMode_ok _ _) ?_))
  rintro _ _ ⟨rfl, rfl⟩
  refine WO.pu tabOk rfl rfl rfl rfl ?_
  (repeat (first | refine WO.run tabOk rfl rfl ?_ | refine WO.nil ?_ | refine WO.skip rfl rfl rfl ?_ | refine WO.pu tabOk rfl rfl rfl rfl ?_ | refine W.seq ?_ | refine W.region ?_ | refine W.block ?_ | refine W.skip ?_ | refine W.exit ?_))
  refine W.cond rfl (fun h2 => ?_) (fun h2 => ?_)
  · (repeat (first | refine WO.run tabOk rfl rfl ?_ | refine WO.nil ?_ | refine WO.skip rfl rfl rfl ?_ | refine WO.pu tabOk rfl rfl rfl rfl ?_ | refine W.seq ?_ | refine W.region ?_ | refine W.block ?_ | refine W.skip ?_ | refine W.exit ?_))
    refine W.ret (ret2 Try.results136 rfl rfl ⟨_, rfl, rfl, ?_⟩)
    simp [pickV] at h h2
    simp [joinF, joinE, h, h2]
  (repeat (first | refine WO.run tabOk rfl rfl ?_ | refine WO.nil ?_ | refine WO.skip rfl rfl rfl ?_ | refine WO.pu tabOk rfl rfl rfl rfl ?_ | refine W.seq ?_ | refine W.region ?_ | refine W.block ?_ | refine W.skip ?_ | refine W.exit ?_))
  simp [pickV] at h h2
  have hj : joinE a b = 0 := by simp [joinE, h, h2]
  have hf : joinF a b = (if min a b = 2 ∧ max a b = 3 then 4 else max a b) := by simp [joinF, h, h2]
  rw [hj, hf]
  refine WO.caseG rfl rfl (fun h3 => ?_) (fun h3 => ?_)
  · refine WO.pu tabOk rfl rfl rfl rfl ?_
    refine WO.pu tabOk rfl rfl rfl rfl ?_
    (repeat (first | refine WO.run tabOk rfl rfl ?_ | refine WO.nil ?_ | refine WO.skip rfl rfl rfl ?_ | refine WO.pu tabOk rfl rfl rfl rfl ?_ | refine W.seq ?_ | refine W.region ?_ | refine W.block ?_ | refine W.skip ?_ | refine W.exit ?_))
    simp at h3
    refine W.cond rfl (fun h4 => ?_) (fun h4 => ?_)
    · (repeat (first | refine WO.run tabOk rfl rfl ?_ | refine WO.nil ?_ | refine WO.skip rfl rfl rfl ?_ | refine WO.pu tabOk rfl rfl rfl rfl ?_ | refine W.seq ?_ | refine W.region ?_ | refine W.block ?_ | refine W.skip ?_ | refine W.exit ?_))
      refine W.ret (ret2 Try.results136 rfl rfl ⟨_, rfl, rfl, ?_⟩)
      simp [pickV] at h4
      simp [h3, h4]
    · (repeat (first | refine WO.run tabOk rfl rfl ?_ | refine WO.nil ?_ | refine WO.skip rfl rfl rfl ?_ | refine WO.pu tabOk rfl rfl rfl rfl ?_ | refine W.seq ?_ | refine W.region ?_ | refine W.block ?_ | refine W.skip ?_ | refine W.exit ?_))
      refine W.ret (ret2 Try.results136 rfl rfl ⟨_, rfl, rfl, ?_⟩)
      simp [pickV] at h4
      simp [h3, h4]
  · refine WO.skip rfl rfl rfl ?_
    refine WO.skip rfl rfl rfl ?_
    (repeat (first | refine WO.run tabOk rfl rfl ?_ | refine WO.nil ?_ | refine WO.skip rfl rfl rfl ?_ | refine WO.pu tabOk rfl rfl rfl rfl ?_ | refine W.seq ?_ | refine W.region ?_ | refine W.block ?_ | refine W.skip ?_ | refine W.exit ?_))
    refine W.cond_f rfl ?_
    (repeat (first | refine WO.run tabOk rfl rfl ?_ | refine WO.nil ?_ | refine WO.skip rfl rfl rfl ?_ | refine WO.pu tabOk rfl rfl rfl rfl ?_ | refine W.seq ?_ | refine W.region ?_ | refine W.block ?_ | refine W.skip ?_ | refine W.exit ?_))
    refine W.ret (ret2 Try.results136 rfl rfl ⟨_, rfl, rfl, ?_⟩)
    simp at h3
    simp [h3]

def wishF (hs : List (Int × Int)) (tx mode : Int) : Int := match hs.find? (fun h => h.1 = tx) with | some h => joinF h.2 mode | none => mode

theorem wishF_hit {hs : List (Int × Int)} {tx mode : Int} {i : Nat} {x : Int × Int} (hno : ∀ j, j < i → ∀ x, hs[j]? = some x → x.1 ≠ tx) (hx : hs[i]? = some x) (he : x.1 = tx) : wishF hs tx mode = joinF x.2 mode := by
  have : hs.find? (fun h => h.1 = tx) = some x := by
    obtain ⟨hlt, hx'⟩ := List.getElem?_eq_some_iff.1 hx
    rw [List.find?_eq_some_iff_getElem]
    exact ⟨by simpa using he, i, hlt, hx', fun j hj => by simpa using hno j hj _ (List.getElem?_eq_getElem (by omega))⟩
  simp [wishF, this]

theorem wish_ok (w : World) (item : Int) (ha : Option Addr) (hc : Nat) (hs : List (Int × Int)) (q : Value) (hq : q.oneCell' = true) (tx mode : Int) (hH : Holds w (rd lockR ha hc hs)) :
    Calls Try.prog 111 #[.agg #[.int .i64 item, .slice ha hs.length hc, q], .agg #[.int .i64 tx, .int .i64 mode]] w (Ret fun v w' => Pure w w' ∧ v = .int .i64 (wishF hs tx mode)) := by
  refine calls_W (args := [_, _]) Try.func111 rfl Try.ntmps111 rfl ?_
  have H := St.start [rd lockR ha hc hs] (w := w) (by simpa using hH)
  (repeat (first | refine W.seq ?_ | refine W.block ?_ | refine W.skip ?_ | refine W.exit ?_ | refine W.region ?_))
  refine WO.one rfl rfl rfl (OpW.box rfl rfl rfl H ?_); intro b2 w1 H1
  refine WO.one rfl rfl rfl (OpW.box rfl rfl rfl H1 ?_); intro b3 w2 H2
  (repeat (first | refine WO.run tabOk rfl rfl ?_ | refine WO.nil ?_ | refine WO.skip rfl rfl rfl ?_ | refine WO.pu tabOk rfl rfl rfl rfl ?_ | refine W.seq ?_ | refine W.region ?_ | refine W.block ?_ | refine W.skip ?_ | refine W.exit ?_ | refine WO.one rfl rfl rfl (OpW.load1 tabOk rfl rfl rfl rfl H2 (by (repeat (first | exact .head _ | refine .tail _ ?_))) rfl ?_)))
  refine W.loopS [3, 10, 11, 12] (fun i : Nat => [(3, .pointer (some ⟨b3, 0, none⟩)), (10, .slice ha hs.length hc), (11, .int .i64 hs.length), (12, .int .i64 i)])
    (fun i w' => i ≤ hs.length ∧ (∀ j, j < i → ∀ x, hs[j]? = some x → x.1 ≠ tx) ∧ St (at0 w) w' [blk b3 145 [.int .i64 tx, .int .i64 mode]] [rd lockR ha hc hs]) (fun i => hs.length - i) 0 rfl ?_ ?_
  · exact ⟨Nat.zero_le _, fun j hj => by omega, (H2.to (i := 1) rfl).drop⟩
  rintro i w3 ⟨hi, hno, H3⟩
  (repeat (first | refine WO.run tabOk rfl rfl ?_ | refine WO.nil ?_ | refine WO.skip rfl rfl rfl ?_ | refine WO.pu tabOk rfl rfl rfl rfl ?_ | refine W.seq ?_ | refine W.region ?_ | refine W.block ?_ | refine W.skip ?_ | refine W.exit ?_))
  refine W.cond rfl (fun hlt => ?_) (fun hge => ?_)
  · have hlt : i < hs.length := by simpa using hlt
    have hH3 := H3.holds (A := rd lockR ha hc hs) (by simp)
    obtain ⟨b, o, rfl⟩ := hH3.addr (by omega)
    (repeat (first | refine WO.run tabOk rfl rfl ?_ | refine WO.nil ?_ | refine WO.skip rfl rfl rfl ?_ | refine WO.pu tabOk rfl rfl rfl rfl ?_ | refine W.seq ?_ | refine W.region ?_ | refine W.block ?_ | refine W.skip ?_ | refine W.exit ?_))
    refine WO.pv rfl rfl rfl (PureV.idxN tabOk rfl rfl rfl rfl rfl rfl (by omega)) ?_
    have hx := List.getElem?_eq_getElem hlt
    refine WO.one rfl rfl rfl (OpW.elemA (i := i) tabOk rfl rfl rfl rfl hH3 hx rfl rfl ?_)
    generalize hs[i] = x at hx
    refine WO.one rfl rfl rfl (OpW.alloc rfl zero145 rfl H3 ?_); intro b6 w4 H4
    refine WO.act rfl rfl (OpW.storeA (i := 0) tabOk rfl rfl rfl rfl H4 rfl rfl rfl rfl rfl ?_); intro w5 H5
    (repeat (first | refine WO.run tabOk rfl rfl ?_ | refine WO.nil ?_ | refine WO.skip rfl rfl rfl ?_ | refine WO.pu tabOk rfl rfl rfl rfl ?_ | refine W.seq ?_ | refine W.region ?_ | refine W.block ?_ | refine W.skip ?_ | refine W.exit ?_ | refine WO.one rfl rfl rfl (OpW.load1 tabOk rfl rfl rfl rfl H5 (by (repeat (first | exact .head _ | refine .tail _ ?_))) rfl ?_)))
    refine W.cond rfl (fun he => ?_) (fun hne => ?_)
    · (repeat (first | refine WO.run tabOk rfl rfl ?_ | refine WO.nil ?_ | refine WO.skip rfl rfl rfl ?_ | refine WO.pu tabOk rfl rfl rfl rfl ?_ | refine W.seq ?_ | refine W.region ?_ | refine W.block ?_ | refine W.skip ?_ | refine W.exit ?_ | refine WO.one rfl rfl rfl (OpW.load1 tabOk rfl rfl rfl rfl H5 (by (repeat (first | exact .head _ | refine .tail _ ?_))) rfl ?_)))
      refine WO.one rfl rfl rfl (OpW.call rfl Try.call136 rfl (Calls.ret (join_ok _ _ _) ?_))
      rintro _ _ ⟨rfl, rfl⟩
      (repeat (first | refine WO.run tabOk rfl rfl ?_ | refine WO.nil ?_ | refine WO.skip rfl rfl rfl ?_ | refine WO.pu tabOk rfl rfl rfl rfl ?_ | refine W.seq ?_ | refine W.region ?_ | refine W.block ?_ | refine W.skip ?_ | refine W.exit ?_))
      refine W.ret (ret1 Try.results111 rfl ⟨_, rfl, H5.pure, ?_⟩)
      simp at he
      rw [wishF_hit hno hx he]
    · (repeat (first | refine WO.run tabOk rfl rfl ?_ | refine WO.nil ?_ | refine WO.skip rfl rfl rfl ?_ | refine WO.pu tabOk rfl rfl rfl rfl ?_ | refine W.seq ?_ | refine W.region ?_ | refine W.block ?_ | refine W.skip ?_ | refine W.exit ?_))
      have hm := hH3.le
      simp only [maxLen] at hm
      refine WO.pv rfl rfl rfl (PureV.addN rfl rfl rfl (by omega)) ?_
      (repeat (first | refine WO.run tabOk rfl rfl ?_ | refine WO.nil ?_ | refine WO.skip rfl rfl rfl ?_ | refine WO.pu tabOk rfl rfl rfl rfl ?_ | refine W.seq ?_ | refine W.region ?_ | refine W.block ?_ | refine W.skip ?_ | refine W.exit ?_))
      simp at hne
      refine ⟨i + 1, rfl, ⟨by omega, ?_, H5.drop⟩, by omega⟩
      intro j hj y hy
      rcases Nat.lt_succ_iff_lt_or_eq.1 hj with h | rfl
      · exact hno j h y hy
      · rw [hx] at hy; cases hy; exact hne
  · (repeat (first | refine WO.run tabOk rfl rfl ?_ | refine WO.nil ?_ | refine WO.skip rfl rfl rfl ?_ | refine WO.pu tabOk rfl rfl rfl rfl ?_ | refine W.seq ?_ | refine W.region ?_ | refine W.block ?_ | refine W.skip ?_ | refine W.exit ?_ | refine WO.one rfl rfl rfl (OpW.load1 tabOk rfl rfl rfl rfl H3 (by (repeat (first | exact .head _ | refine .tail _ ?_))) rfl ?_)))
    simp at hge
    have hn : hs.find? (fun h => h.1 = tx) = none := by
      rw [List.find?_eq_none]
      intro x hx
      obtain ⟨j, hj, hx'⟩ := List.mem_iff_getElem.1 hx
      simpa using hno j (by omega) x (by rw [List.getElem?_eq_getElem hj, hx'])
    refine W.ret (ret1 Try.results111 rfl ⟨_, rfl, H3.pure, ?_⟩)
    simp [wishF, hn]
end Go.Proofs.Ytpenbdpgpamcbaa
