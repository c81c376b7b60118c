/- order: the comparison of what hangs on what; the library's Compact over it. Conditions: each fact's own premises. -/
import Derived.Test.YtpenbdpgpamcbaaOrderA
import Derived.Test.YtpenbdpgpamcbaaGwSortS
import Derived.Test.YtpenbdpgpamcbaaGwDel
set_option linter.unusedVariables false
set_option linter.unusedSimpArgs false
set_option maxRecDepth 20000
namespace Go.Proofs.Ytpenbdpgpamcbaa
open Go Gw
attribute [local irreducible] W WO WD

abbrev D3 := Int × Int × Int
def encD (d : D3) : List Value := [.int .i64 d.1, .int .i64 d.2.1, .int .i64 d.2.2]
def depR : Rdr D3 := Rdr.flat 3 encD (fun _ => rfl) (fun x v hv => by simp [encD] at hv; rcases hv with rfl | rfl | rfl <;> rfl)

def cmpF (x y : Int) : Int := if x < y then -1 else if x > y then 1 else 0
theorem isNaN_ok (w : World) (x : Int) : Calls Try.prog 49 #[.int .i64 x] w (Ret fun v w' => w' = w ∧ v = .bool false) := by
  refine calls_W (args := [_]) Try.func49 rfl Try.ntmps49 rfl ?_
  (repeat (first | refine WO.run tabOk rfl rfl ?_ | refine WO.nil ?_ | refine WO.skip rfl rfl rfl ?_ | refine WO.pu tabOk rfl rfl rfl rfl ?_ | refine W.seq ?_ | refine W.region ?_ | refine W.block ?_ | refine W.skip ?_ | refine W.exit ?_))
  exact W.ret (ret1 Try.results49 rfl ⟨_, rfl, rfl, by simp⟩)
theorem compare_ok (w : World) (x y : Int) : Calls Try.prog 32 #[.int .i64 x, .int .i64 y] w (Ret fun v w' => w' = w ∧ v = .int .i64 (cmpF x y)) := by
  refine calls_W (args := [_, _]) Try.func32 rfl Try.ntmps32 rfl ?_
  (repeat (first | refine WO.run tabOk rfl rfl ?_ | refine WO.nil ?_ | refine WO.skip rfl rfl rfl ?_ | refine WO.pu tabOk rfl rfl rfl rfl ?_ | refine W.seq ?_ | refine W.region ?_ | refine W.block ?_ | refine W.skip ?_ | refine W.exit ?_))
  refine WO.one rfl rfl rfl (OpW.call rfl Try.call49 rfl (Calls.ret (isNaN_ok w x) ?_))
  rintro _ _ ⟨rfl, rfl⟩
  (repeat (first | refine WO.run tabOk rfl rfl ?_ | refine WO.nil ?_ | refine WO.skip rfl rfl rfl ?_ | refine WO.pu tabOk rfl rfl rfl rfl ?_ | refine W.seq ?_ | refine W.region ?_ | refine W.block ?_ | refine W.skip ?_ | refine W.exit ?_))
  refine WO.one rfl rfl rfl (OpW.call rfl Try.call49 rfl (Calls.ret (isNaN_ok _ y) ?_))
  rintro _ _ ⟨rfl, rfl⟩
  (repeat (first | refine WO.run tabOk rfl rfl ?_ | refine WO.nil ?_ | refine WO.skip rfl rfl rfl ?_ | refine WO.pu tabOk rfl rfl rfl rfl ?_ | refine W.seq ?_ | refine W.region ?_ | refine W.block ?_ | refine W.skip ?_ | refine W.exit ?_))
  refine W.cond_f rfl ?_
  (repeat (first | refine WO.run tabOk rfl rfl ?_ | refine WO.nil ?_ | refine WO.skip rfl rfl rfl ?_ | refine WO.pu tabOk rfl rfl rfl rfl ?_ | refine W.seq ?_ | refine W.region ?_ | refine W.block ?_ | refine W.skip ?_ | refine W.exit ?_))
  refine W.cond_f rfl ?_
  (repeat (first | refine WO.run tabOk rfl rfl ?_ | refine WO.nil ?_ | refine WO.skip rfl rfl rfl ?_ | refine WO.pu tabOk rfl rfl rfl rfl ?_ | refine W.seq ?_ | refine W.region ?_ | refine W.block ?_ | refine W.skip ?_ | refine W.exit ?_))
  refine W.cond rfl (fun h1 => ?_) (fun h1 => ?_)
  · (repeat (first | refine WO.run tabOk rfl rfl ?_ | refine WO.nil ?_ | refine WO.skip rfl rfl rfl ?_ | refine WO.pu tabOk rfl rfl rfl rfl ?_ | refine W.seq ?_ | refine W.region ?_ | refine W.block ?_ | refine W.skip ?_ | refine W.exit ?_))
    exact W.ret (ret1 Try.results32 rfl ⟨_, rfl, rfl, by simp at h1; simp [cmpF, h1]⟩)
  (repeat (first | refine WO.run tabOk rfl rfl ?_ | refine WO.nil ?_ | refine WO.skip rfl rfl rfl ?_ | refine WO.pu tabOk rfl rfl rfl rfl ?_ | refine W.seq ?_ | refine W.region ?_ | refine W.block ?_ | refine W.skip ?_ | refine W.exit ?_))
  refine W.cond rfl (fun h2 => ?_) (fun h2 => ?_)
  · (repeat (first | refine WO.run tabOk rfl rfl ?_ | refine WO.nil ?_ | refine WO.skip rfl rfl rfl ?_ | refine WO.pu tabOk rfl rfl rfl rfl ?_ | refine W.seq ?_ | refine W.region ?_ | refine W.block ?_ | refine W.skip ?_ | refine W.exit ?_))
    exact W.ret (ret1 Try.results32 rfl ⟨_, rfl, rfl, by simp at h1 h2; simp [cmpF, h2]; omega⟩)
  · (repeat (first | refine WO.run tabOk rfl rfl ?_ | refine WO.nil ?_ | refine WO.skip rfl rfl rfl ?_ | refine WO.pu tabOk rfl rfl rfl rfl ?_ | refine W.seq ?_ | refine W.region ?_ | refine W.block ?_ | refine W.skip ?_ | refine W.exit ?_))
    exact W.ret (ret1 Try.results32 rfl ⟨_, rfl, rfl, by simp at h1 h2; simp [cmpF]; omega⟩)
/-- The first that isn't 0. -/
def orF : List Int → Int
  | [] => 0
  | x :: l => if x = 0 then orF l else x
theorem orF_step {l : List Int} {i : Nat} (h : ∀ j x, j < i → l[j]? = some x → x = 0) : orF l = orF (l.drop i) := by
  induction i generalizing l with
  | zero => rfl
  | succ i ih =>
    cases l with
    | nil => rfl
    | cons x l =>
      have := h 0 x (by omega) rfl
      subst this
      simp only [orF, if_true, List.drop_succ_cons]
      exact ih fun j x hj hx => h (j + 1) x (by omega) (by simpa using hx)
theorem or_ok (w : World) (a : Option Addr) (c : Nat) (l : List Int) (hH : Holds w (rd i64 a c l)) : Calls Try.prog 39 #[.slice a l.length c] w (Ret fun v w' => w' = w ∧ v = .int .i64 (orF l)) := by
  refine calls_W (args := [_]) Try.func39 rfl Try.ntmps39 rfl ?_
  have hle := hH.le
  simp only [maxLen] at hle
  (repeat (first | refine WO.run tabOk rfl rfl ?_ | refine WO.nil ?_ | refine WO.skip rfl rfl rfl ?_ | refine WO.pu tabOk rfl rfl rfl rfl ?_ | refine W.seq ?_ | refine W.region ?_ | refine W.block ?_ | refine W.skip ?_ | refine W.exit ?_))
  refine W.loopS [3, 6, 7, 8] (fun i : Nat => [(3, .int .i64 0), (6, .slice a l.length c), (7, .int .i64 (l.length : Int)), (8, .int .i64 (i : Int))])
    (fun i w' => i ≤ l.length ∧ (∀ j x, j < i → l[j]? = some x → x = 0) ∧ w' = w) (fun i => l.length - i) 0 rfl ⟨Nat.zero_le _, fun j x hj => by omega, rfl⟩ ?_
  rintro i w1 ⟨hi, hz, rfl⟩
  (repeat (first | refine WO.run tabOk rfl rfl ?_ | refine WO.nil ?_ | refine WO.skip rfl rfl rfl ?_ | refine WO.pu tabOk rfl rfl rfl rfl ?_ | refine W.seq ?_ | refine W.region ?_ | refine W.block ?_ | refine W.skip ?_ | refine W.exit ?_))
  refine W.cond rfl (fun hlt => ?_) (fun hge => ?_)
  · have hlt : i < l.length := by simpa using hlt
    obtain ⟨b, o, rfl⟩ := hH.addr (by omega)
    have hx := List.getElem?_eq_getElem hlt
    have hd := List.drop_eq_getElem_cons hlt
    generalize l[i] = x at hx hd
    (repeat (first | refine WO.run tabOk rfl rfl ?_ | refine WO.nil ?_ | refine WO.skip rfl rfl rfl ?_ | refine WO.pu tabOk rfl rfl rfl rfl ?_ | refine W.seq ?_ | refine W.region ?_ | refine W.block ?_ | refine W.skip ?_ | refine W.exit ?_))
    refine WO.pv rfl rfl rfl (PureV.idxN tabOk rfl rfl rfl rfl rfl rfl (by omega)) ?_
    refine WO.one rfl rfl rfl (OpW.elem1 (i := i) (j := 0) tabOk rfl rfl rfl rfl hH hx rfl rfl ?_)
    (repeat (first | refine WO.run tabOk rfl rfl ?_ | refine WO.nil ?_ | refine WO.skip rfl rfl rfl ?_ | refine WO.pu tabOk rfl rfl rfl rfl ?_ | refine W.seq ?_ | refine W.region ?_ | refine W.block ?_ | refine W.skip ?_ | refine W.exit ?_))
    refine W.cond rfl (fun hn => ?_) (fun hn => ?_)
    · (repeat (first | refine WO.run tabOk rfl rfl ?_ | refine WO.nil ?_ | refine WO.skip rfl rfl rfl ?_ | refine WO.pu tabOk rfl rfl rfl rfl ?_ | refine W.seq ?_ | refine W.region ?_ | refine W.block ?_ | refine W.skip ?_ | refine W.exit ?_))
      refine W.ret (ret1 Try.results39 rfl ⟨_, rfl, rfl, ?_⟩)
      have hn : x ≠ 0 := by simpa using hn
      rw [orF_step hz, hd, orF, if_neg hn]
    · have hn : x = 0 := by simpa using hn
      (repeat (first | refine WO.run tabOk rfl rfl ?_ | refine WO.nil ?_ | refine WO.skip rfl rfl rfl ?_ | refine WO.pu tabOk rfl rfl rfl rfl ?_ | refine W.seq ?_ | refine W.region ?_ | refine W.block ?_ | refine W.skip ?_ | refine W.exit ?_))
      refine WO.pv rfl rfl rfl (PureV.addN (n := i) rfl rfl rfl (by omega)) ?_
      (repeat (first | refine WO.run tabOk rfl rfl ?_ | refine WO.nil ?_ | refine WO.skip rfl rfl rfl ?_ | refine WO.pu tabOk rfl rfl rfl rfl ?_ | refine W.seq ?_ | refine W.region ?_ | refine W.block ?_ | refine W.skip ?_ | refine W.exit ?_))
      refine ⟨i + 1, rfl, ⟨by omega, fun j y hj hy => ?_, rfl⟩, by omega⟩
      rcases Nat.lt_succ_iff_lt_or_eq.1 hj with h | rfl
      · exact hz j y h hy
      · rw [hx] at hy; cases hy; exact hn
  · have hil : i = l.length := by simp at hge; omega
    (repeat (first | refine WO.run tabOk rfl rfl ?_ | refine WO.nil ?_ | refine WO.skip rfl rfl rfl ?_ | refine WO.pu tabOk rfl rfl rfl rfl ?_ | refine W.seq ?_ | refine W.region ?_ | refine W.block ?_ | refine W.skip ?_ | refine W.exit ?_))
    refine W.ret (ret1 Try.results39 rfl ⟨_, rfl, rfl, ?_⟩)
    rw [orF_step hz, hil, List.drop_length]; rfl

def depCmp (x y : D3) : Int := orF [cmpF x.1 y.1, cmpF x.2.1 y.2.1, cmpF x.2.2 y.2.2]
theorem depCmp_lt (x y : D3) : depCmp x y < 0 ↔ x.1 < y.1 ∨ (x.1 = y.1 ∧ (x.2.1 < y.2.1 ∨ (x.2.1 = y.2.1 ∧ x.2.2 < y.2.2))) := by
  have c : ∀ a b : Int, (cmpF a b = -1 ∧ a < b) ∨ (cmpF a b = 0 ∧ a = b) ∨ (cmpF a b = 1 ∧ b < a) := fun a b => by
    simp only [cmpF]
    rcases Int.lt_trichotomy a b with h | h | h
    · exact .inl ⟨by rw [if_pos h], h⟩
    · exact .inr (.inl ⟨by rw [if_neg (by omega), if_neg (by omega)], h⟩)
    · exact .inr (.inr ⟨by rw [if_neg (by omega), if_pos h], h⟩)
  simp only [depCmp, orF]
  rcases c x.1 y.1 with ⟨h1, h2⟩ | ⟨h1, h2⟩ | ⟨h1, h2⟩ <;> rcases c x.2.1 y.2.1 with ⟨h3, h4⟩ | ⟨h3, h4⟩ | ⟨h3, h4⟩ <;> rcases c x.2.2 y.2.2 with ⟨h5, h6⟩ | ⟨h5, h6⟩ | ⟨h5, h6⟩ <;> simp only [h1, h3, h5] <;> simp <;> omega
theorem depCmp_swo : Go.Sort.SWO (ltOf depCmp) := by
  refine ⟨fun x => ?_, fun x y z h1 h2 => ?_, fun x y z h1 h2 => ?_⟩
  · simp only [ltOf, decide_eq_false_iff_not, depCmp_lt]; omega
  · simp only [ltOf, decide_eq_true_eq, depCmp_lt] at *; omega
  · simp only [ltOf, decide_eq_false_iff_not, depCmp_lt] at *; omega
theorem depCmp_ok (w : World) (x y : D3) : Calls Try.prog 38 (#[.agg (encD x).toArray, .agg (encD y).toArray] ++ #[]) w (Ret fun v w' => Pure w w' ∧ v = .int .i64 (depCmp x y)) := by
  show Calls Try.prog 38 #[.agg #[.int .i64 x.1, .int .i64 x.2.1, .int .i64 x.2.2], .agg #[.int .i64 y.1, .int .i64 y.2.1, .int .i64 y.2.2]] w _
  refine calls_W (args := [_, _]) Try.func38 rfl Try.ntmps38 rfl ?_
  have H := St.start [] (w := w) (by simp)
  (repeat (first | refine W.seq ?_ | refine W.block ?_ | refine W.skip ?_ | refine W.exit ?_ | refine W.region ?_))
  refine WO.one rfl rfl rfl (OpW.box rfl rfl rfl H ?_); intro bx w1 H1
  refine WO.one rfl rfl rfl (OpW.box rfl rfl rfl H1 ?_); intro by_ w2 H2
  (repeat (first | refine WO.run tabOk rfl rfl ?_ | refine WO.nil ?_ | refine WO.skip rfl rfl rfl ?_ | refine WO.pu tabOk rfl rfl rfl rfl ?_ | refine W.seq ?_ | refine W.region ?_ | refine W.block ?_ | refine W.skip ?_ | refine W.exit ?_))
  have H3 := H2.drew
  have hA := H3.ha (L := [blk bx 69 (encD x), blk by_ 69 (encD y)]) (by simp [encD])
  refine W.regionD [1, 3, 6, 8, 11, 13] (HA [blk bx 69 (encD x), blk by_ 69 (encD y)]) [0, 1, 2, 3, 5, 6, 7, 8, 10, 11, 12, 13, 4, 9, 14, 15, 16, 17] rfl (by kernel_rfl) (fun _ _ _ h => h) ?_
  (repeat (first | refine WD.run tabOk rfl rfl ?_ | refine WD.hv rfl rfl rfl rfl rfl hA (HeldV.load1 tabOk rfl rfl rfl rfl (by (first | exact .head _ | exact .tail _ (.head _) | exact .tail _ (.tail _ (.head _)) | exact .tail _ (.tail _ (.tail _ (.head _))) | exact .tail _ (.tail _ (.tail _ (.tail _ (.head _)))) | exact .tail _ (.tail _ (.tail _ (.tail _ (.tail _ (.head _))))) | exact .tail _ (.tail _ (.tail _ (.tail _ (.tail _ (.tail _ (.head _)))))) | exact .tail _ (.tail _ (.tail _ (.tail _ (.tail _ (.tail _ (.tail _ (.head _))))))) | exact .tail _ (.tail _ (.tail _ (.tail _ (.tail _ (.tail _ (.tail _ (.tail _ (.head _)))))))) | exact .tail _ (.tail _ (.tail _ (.tail _ (.tail _ (.tail _ (.tail _ (.tail _ (.tail _ (.head _))))))))) | exact .tail _ (.tail _ (.tail _ (.tail _ (.tail _ (.tail _ (.tail _ (.tail _ (.tail _ (.tail _ (.head _)))))))))) | exact .tail _ (.tail _ (.tail _ (.tail _ (.tail _ (.tail _ (.tail _ (.tail _ (.tail _ (.tail _ (.tail _ (.head _))))))))))) | exact .tail _ (.tail _ (.tail _ (.tail _ (.tail _ (.tail _ (.tail _ (.tail _ (.tail _ (.tail _ (.tail _ (.tail _ (.head _)))))))))))) | exact .tail _ (.tail _ (.tail _ (.tail _ (.tail _ (.tail _ (.tail _ (.tail _ (.tail _ (.tail _ (.tail _ (.tail _ (.tail _ (.head _))))))))))))) | exact .tail _ (.tail _ (.tail _ (.tail _ (.tail _ (.tail _ (.tail _ (.tail _ (.tail _ (.tail _ (.tail _ (.tail _ (.tail _ (.tail _ (.head _)))))))))))))) | exact .tail _ (.tail _ (.tail _ (.tail _ (.tail _ (.tail _ (.tail _ (.tail _ (.tail _ (.tail _ (.tail _ (.tail _ (.tail _ (.tail _ (.tail _ (.head _))))))))))))))))) rfl) ?_ | refine WD.hv rfl rfl rfl rfl rfl hA (HeldV.loadA tabOk rfl rfl rfl rfl (by (first | exact .head _ | exact .tail _ (.head _) | exact .tail _ (.tail _ (.head _)) | exact .tail _ (.tail _ (.tail _ (.head _))) | exact .tail _ (.tail _ (.tail _ (.tail _ (.head _)))) | exact .tail _ (.tail _ (.tail _ (.tail _ (.tail _ (.head _))))) | exact .tail _ (.tail _ (.tail _ (.tail _ (.tail _ (.tail _ (.head _)))))) | exact .tail _ (.tail _ (.tail _ (.tail _ (.tail _ (.tail _ (.tail _ (.head _))))))) | exact .tail _ (.tail _ (.tail _ (.tail _ (.tail _ (.tail _ (.tail _ (.tail _ (.head _)))))))) | exact .tail _ (.tail _ (.tail _ (.tail _ (.tail _ (.tail _ (.tail _ (.tail _ (.tail _ (.head _))))))))) | exact .tail _ (.tail _ (.tail _ (.tail _ (.tail _ (.tail _ (.tail _ (.tail _ (.tail _ (.tail _ (.head _)))))))))) | exact .tail _ (.tail _ (.tail _ (.tail _ (.tail _ (.tail _ (.tail _ (.tail _ (.tail _ (.tail _ (.tail _ (.head _))))))))))) | exact .tail _ (.tail _ (.tail _ (.tail _ (.tail _ (.tail _ (.tail _ (.tail _ (.tail _ (.tail _ (.tail _ (.tail _ (.head _)))))))))))) | exact .tail _ (.tail _ (.tail _ (.tail _ (.tail _ (.tail _ (.tail _ (.tail _ (.tail _ (.tail _ (.tail _ (.tail _ (.tail _ (.head _))))))))))))) | exact .tail _ (.tail _ (.tail _ (.tail _ (.tail _ (.tail _ (.tail _ (.tail _ (.tail _ (.tail _ (.tail _ (.tail _ (.tail _ (.tail _ (.head _)))))))))))))) | exact .tail _ (.tail _ (.tail _ (.tail _ (.tail _ (.tail _ (.tail _ (.tail _ (.tail _ (.tail _ (.tail _ (.tail _ (.tail _ (.tail _ (.tail _ (.head _))))))))))))))))) rfl rfl) ?_ | refine WD.pu tabOk rfl rfl rfl rfl rfl rfl ?_))
  refine WD.oneS rfl rfl rfl rfl rfl (OpW.call rfl Try.call32 rfl (Calls.ret (compare_ok _ x.1 y.1) ?_))
  rintro _ _ ⟨rfl, rfl⟩
  refine ⟨hA, ?_⟩
  refine WD.oneS rfl rfl rfl rfl rfl (OpW.call rfl Try.call32 rfl (Calls.ret (compare_ok _ x.2.1 y.2.1) ?_))
  rintro _ _ ⟨rfl, rfl⟩
  refine ⟨hA, ?_⟩
  refine WD.oneS rfl rfl rfl rfl rfl (OpW.call rfl Try.call32 rfl (Calls.ret (compare_ok _ x.2.2 y.2.2) ?_))
  rintro _ _ ⟨rfl, rfl⟩
  refine ⟨hA, ?_⟩
  refine WD.oneS rfl rfl rfl rfl rfl (OpW.buildSlice tabOk rfl rfl rfl rfl zero3 rfl rfl (l := [.int .i64 (cmpF x.1 y.1), .int .i64 (cmpF x.2.1 y.2.1), .int .i64 (cmpF x.2.2 y.2.2)]) rfl H3 ?_)
  intro b4 w4 H4
  have hA4 := H4.ha (L := [blk bx 69 (encD x), blk by_ 69 (encD y)]) (by simp [encD])
  refine ⟨hA4, ?_⟩
  have hN : Holds w4 (rd i64 (some ⟨b4, 0, none⟩) 3 [cmpF x.1 y.1, cmpF x.2.1 y.2.1, cmpF x.2.2 y.2.2]) := flat_blk (l := [cmpF x.1 y.1, cmpF x.2.1 y.2.1, cmpF x.2.2 y.2.2]) (H4.holds (A := blk b4 3 ([cmpF x.1 y.1, cmpF x.2.1 y.2.1, cmpF x.2.2 y.2.2].flatMap fun x => [.int .i64 x])) (.head _)) (by simp)
  have hc : Calls Try.prog 39 #[.slice (some ⟨b4, 0, none⟩) 3 3] w4 (Ret fun v w' => w' = w4 ∧ v = .int .i64 (orF [cmpF x.1 y.1, cmpF x.2.1 y.2.1, cmpF x.2.2 y.2.2])) := or_ok w4 (some ⟨b4, 0, none⟩) 3 [cmpF x.1 y.1, cmpF x.2.1 y.2.1, cmpF x.2.2 y.2.2] hN
  refine WD.oneS rfl rfl rfl rfl rfl (OpW.call rfl Try.call39 rfl (Calls.ret hc ?_))
  rintro _ _ ⟨rfl, rfl⟩
  refine ⟨hA4, ?_⟩
  (repeat (first | refine WD.run tabOk rfl rfl ?_ | refine WD.hv rfl rfl rfl rfl rfl hA4 (HeldV.load1 tabOk rfl rfl rfl rfl (by (first | exact .head _ | exact .tail _ (.head _) | exact .tail _ (.tail _ (.head _)) | exact .tail _ (.tail _ (.tail _ (.head _))) | exact .tail _ (.tail _ (.tail _ (.tail _ (.head _)))) | exact .tail _ (.tail _ (.tail _ (.tail _ (.tail _ (.head _))))) | exact .tail _ (.tail _ (.tail _ (.tail _ (.tail _ (.tail _ (.head _)))))) | exact .tail _ (.tail _ (.tail _ (.tail _ (.tail _ (.tail _ (.tail _ (.head _))))))) | exact .tail _ (.tail _ (.tail _ (.tail _ (.tail _ (.tail _ (.tail _ (.tail _ (.head _)))))))) | exact .tail _ (.tail _ (.tail _ (.tail _ (.tail _ (.tail _ (.tail _ (.tail _ (.tail _ (.head _))))))))) | exact .tail _ (.tail _ (.tail _ (.tail _ (.tail _ (.tail _ (.tail _ (.tail _ (.tail _ (.tail _ (.head _)))))))))) | exact .tail _ (.tail _ (.tail _ (.tail _ (.tail _ (.tail _ (.tail _ (.tail _ (.tail _ (.tail _ (.tail _ (.head _))))))))))) | exact .tail _ (.tail _ (.tail _ (.tail _ (.tail _ (.tail _ (.tail _ (.tail _ (.tail _ (.tail _ (.tail _ (.tail _ (.head _)))))))))))) | exact .tail _ (.tail _ (.tail _ (.tail _ (.tail _ (.tail _ (.tail _ (.tail _ (.tail _ (.tail _ (.tail _ (.tail _ (.tail _ (.head _))))))))))))) | exact .tail _ (.tail _ (.tail _ (.tail _ (.tail _ (.tail _ (.tail _ (.tail _ (.tail _ (.tail _ (.tail _ (.tail _ (.tail _ (.tail _ (.head _)))))))))))))) | exact .tail _ (.tail _ (.tail _ (.tail _ (.tail _ (.tail _ (.tail _ (.tail _ (.tail _ (.tail _ (.tail _ (.tail _ (.tail _ (.tail _ (.tail _ (.head _))))))))))))))))) rfl) ?_ | refine WD.hv rfl rfl rfl rfl rfl hA4 (HeldV.loadA tabOk rfl rfl rfl rfl (by (first | exact .head _ | exact .tail _ (.head _) | exact .tail _ (.tail _ (.head _)) | exact .tail _ (.tail _ (.tail _ (.head _))) | exact .tail _ (.tail _ (.tail _ (.tail _ (.head _)))) | exact .tail _ (.tail _ (.tail _ (.tail _ (.tail _ (.head _))))) | exact .tail _ (.tail _ (.tail _ (.tail _ (.tail _ (.tail _ (.head _)))))) | exact .tail _ (.tail _ (.tail _ (.tail _ (.tail _ (.tail _ (.tail _ (.head _))))))) | exact .tail _ (.tail _ (.tail _ (.tail _ (.tail _ (.tail _ (.tail _ (.tail _ (.head _)))))))) | exact .tail _ (.tail _ (.tail _ (.tail _ (.tail _ (.tail _ (.tail _ (.tail _ (.tail _ (.head _))))))))) | exact .tail _ (.tail _ (.tail _ (.tail _ (.tail _ (.tail _ (.tail _ (.tail _ (.tail _ (.tail _ (.head _)))))))))) | exact .tail _ (.tail _ (.tail _ (.tail _ (.tail _ (.tail _ (.tail _ (.tail _ (.tail _ (.tail _ (.tail _ (.head _))))))))))) | exact .tail _ (.tail _ (.tail _ (.tail _ (.tail _ (.tail _ (.tail _ (.tail _ (.tail _ (.tail _ (.tail _ (.tail _ (.head _)))))))))))) | exact .tail _ (.tail _ (.tail _ (.tail _ (.tail _ (.tail _ (.tail _ (.tail _ (.tail _ (.tail _ (.tail _ (.tail _ (.tail _ (.head _))))))))))))) | exact .tail _ (.tail _ (.tail _ (.tail _ (.tail _ (.tail _ (.tail _ (.tail _ (.tail _ (.tail _ (.tail _ (.tail _ (.tail _ (.tail _ (.head _)))))))))))))) | exact .tail _ (.tail _ (.tail _ (.tail _ (.tail _ (.tail _ (.tail _ (.tail _ (.tail _ (.tail _ (.tail _ (.tail _ (.tail _ (.tail _ (.tail _ (.head _))))))))))))))))) rfl rfl) ?_ | refine WD.pu tabOk rfl rfl rfl rfl rfl rfl ?_))
  (repeat (first | refine WD.run tabOk rfl rfl ?_ | refine WD.nil ?_))
  exact W.ret (ret1 Try.results38 rfl ⟨_, rfl, H4.pure, rfl⟩)
theorem eqD (x y : D3) (w : World) : (Op.equalIn 10000 69 (.agg (encD x).toArray) (.agg (encD y).toArray)).run Try.prog w = .ok (decide (x = y)) w := by
  have u3 := Try.underlying3
  have a3 := Try.isAgg3
  have z3 := Try.sizeOf3
  have hS : Try.prog.underlying 69 = some (.struct (Try.prog.fieldsOf 69)) := by kernel_rfl
  have hp : Try.prog.stoodInHeld 69 = false := by kernel_rfl
  obtain ⟨x1, x2, x3⟩ := x
  obtain ⟨y1, y2, y3⟩ := y
  simp only [encD]
  rw [show (10000 : Nat) = 9999 + 1 from rfl, run_equalIn_agg w 9999 69 _ _ hS hp]
  simp only [Program.fieldsOf, Try.underlying69]
  go_simp
  by_cases h1 : x1 = y1 <;> by_cases h2 : x2 = y2 <;> by_cases h3 : x3 = y3 <;> simp [h1, h2, h3]
theorem compactD_ok (c : Ctx) (w : World) (Own Ro : List Asn) (v : Value) (xs : List D3) (H : St c w (row 69 depR v xs :: Own) Ro) :
    Calls Try.prog 40 #[v] w (Ret fun v' w' => St c w' (row 69 depR v' (Go.Lib.compact xs) :: Own) Ro) := by
  refine calls_W (args := [_]) Try.func40 rfl Try.ntmps40 rfl ?_
  obtain ⟨a, cap, rfl, hrd⟩ := row_rd (H.holds (A := row 69 depR v xs) (by simp))
  have hle := hrd.le
  simp only [maxLen] at hle
  (repeat (first | refine WO.run tabOk rfl rfl ?_ | refine WO.nil ?_ | refine WO.skip rfl rfl rfl ?_ | refine WO.pu tabOk rfl rfl rfl rfl ?_ | refine W.seq ?_ | refine W.region ?_ | refine W.block ?_ | refine W.skip ?_ | refine W.exit ?_))
  refine W.cond rfl (fun h0 => ?_) (fun h0 => ?_)
  · (repeat (first | refine WO.run tabOk rfl rfl ?_ | refine WO.nil ?_ | refine WO.skip rfl rfl rfl ?_ | refine WO.pu tabOk rfl rfl rfl rfl ?_ | refine W.seq ?_ | refine W.region ?_ | refine W.block ?_ | refine W.skip ?_ | refine W.exit ?_))
    refine W.ret (ret1 Try.results40 rfl ⟨_, rfl, ?_⟩)
    have e : Go.Lib.compact xs = xs := Go.Lib.compact_all xs fun j hj => by
      have : j = 0 := by simp at h0; omega
      subst this; simp [Go.Lib.keeps]
    rw [e]; exact H
  have h2 : 2 ≤ xs.length := by simp at h0; omega
  clear h0
  have H2 := H.flat_open
  rcases H2.open_raw with ⟨_, h, _⟩ | ⟨g, o, cap', cur0, e1, H3, hcur, hnc, hcm, hfit⟩
  · omega
  simp only [Value.slice.injEq] at e1
  obtain ⟨rfl, _, rfl⟩ := e1
  clear H H2 hrd
  have cell : ∀ (cur : List Value) (ys : List D3) (j : Nat) (y : D3), (cur.drop o).take (xs.length * 3) = ys.flatMap encD → j < xs.length → ys[j]? = some y → (cur.drop (o + j * 3)).take (encD y).length = encD y := fun cur ys j y hw hj hy => by
    have h1 := flatMap_at (enc := encD) (sz := 3) (fun _ => rfl) ys j y hy
    rw [← hw, List.drop_take, List.drop_drop, List.take_take, Nat.min_eq_left (by omega)] at h1
    exact h1
  have hgetb : ∀ j (y : D3), xs[j]? = some y → xs.toArray[j]! = y := fun j y h => by
    obtain ⟨hj, e⟩ := List.getElem?_eq_some_iff.1 h
    rw [getElem!_pos xs.toArray j (by simpa using hj)]; simpa using e
  have close : ∀ {w' : World} {n : Nat} {cur : List Value} {ys : List D3}, n ≤ xs.length → cur.length = cur0.length → (cur.drop o).take (n * 3) = ys.flatMap encD → ys.length = n → St c w' (blk g 69 cur :: Own) Ro → St c w' (row 69 depR (.slice (some ⟨g, o, none⟩) n cap) ys :: Own) Ro := fun {w' n cur ys} hn hcl hw hyl Hx => by
    subst hyl
    exact St.flat_close (enc := encD) (sz := 3) (hl := fun _ => rfl) (h1 := fun x v hv => by simp [encD] at hv; rcases hv with rfl | rfl | rfl <;> rfl) (Hx.close_raw (sz := 3) (n := ys.length) (o := o) (cap := cap) (cs := ys.flatMap encD) (by omega) hcm (by omega) hw (fun u hu => by
      obtain ⟨y, _, hv⟩ := List.mem_flatMap.1 hu
      simp [encD] at hv; rcases hv with rfl | rfl | rfl <;> rfl))
  (repeat (first | refine WO.run tabOk rfl rfl ?_ | refine WO.nil ?_ | refine WO.skip rfl rfl rfl ?_ | refine WO.pu tabOk rfl rfl rfl rfl ?_ | refine W.seq ?_ | refine W.region ?_ | refine W.block ?_ | refine W.skip ?_ | refine W.exit ?_))
  refine W.loopS [0, 3] (fun k : Nat => [(0, .slice (some ⟨g, o, none⟩) xs.length cap), (3, .int .i64 (k : Int))])
    (fun k w' => 1 ≤ k ∧ k ≤ xs.length ∧ (∀ j, j < k → Go.Lib.keeps xs.toArray j = true) ∧ St c w' (blk g 69 cur0 :: Own) Ro) (fun k => xs.length - k) 1 rfl ⟨Nat.le_refl _, by omega, Go.Lib.keeps_lt_one _, H3⟩ ?_
  clear H3
  rintro k w1 ⟨hk1, hk, hkeep, H⟩
  have hall := Go.Lib.compactUpTo_all xs.toArray k hkeep
  have hpre : Go.Lib.compactUpTo xs.toArray k = xs.take k := by
    rw [hall]
    apply List.ext_getElem?
    intro i
    rw [List.getElem?_map, List.getElem?_take]
    by_cases hi : i < k
    · rw [List.getElem?_range hi, if_pos hi, Option.map_some, hgetb i xs[i] (List.getElem?_eq_getElem (by omega)), List.getElem?_eq_getElem (by omega)]
    · rw [List.getElem?_eq_none (by simpa using hi), if_neg hi]; rfl
  (repeat (first | refine WO.run tabOk rfl rfl ?_ | refine WO.nil ?_ | refine WO.skip rfl rfl rfl ?_ | refine WO.pu tabOk rfl rfl rfl rfl ?_ | refine W.seq ?_ | refine W.region ?_ | refine W.block ?_ | refine W.skip ?_ | refine W.exit ?_))
  refine W.cond rfl (fun hlt => ?_) (fun hge => ?_)
  · have hlt : k < xs.length := by simpa using hlt
    have hx := List.getElem?_eq_getElem hlt
    have hx' := List.getElem?_eq_getElem (l := xs) (i := k - 1) (by omega)
    generalize hxe : xs[k] = x at hx
    generalize hxe' : xs[k - 1]'_ = x' at hx'
    have hkx : Go.Lib.keeps xs.toArray k = !decide (x = x') := by
      rw [Go.Lib.keeps, hgetb k x hx, hgetb (k - 1) x' hx']
      by_cases e : x = x' <;> simp [e]; omega
    (repeat (first | refine WO.run tabOk rfl rfl ?_ | refine WO.nil ?_ | refine WO.skip rfl rfl rfl ?_ | refine WO.pu tabOk rfl rfl rfl rfl ?_ | refine W.seq ?_ | refine W.region ?_ | refine W.block ?_ | refine W.skip ?_ | refine W.exit ?_))
    have H1 := H.drew
    have hA := H1.ha (L := [blk g 69 cur0]) (by simp)
    refine W.regionD [3, 8] (HA [blk g 69 cur0]) [0, 1, 2, 3, 4, 5, 6, 7, 8, 9] rfl (by kernel_rfl) (fun _ _ _ h => h) ?_
    (repeat (first | refine WD.run tabOk rfl rfl ?_ | refine WD.hv rfl rfl rfl rfl rfl hA (HeldV.load1 tabOk rfl rfl rfl rfl (by (first | exact .head _ | exact .tail _ (.head _) | exact .tail _ (.tail _ (.head _)) | exact .tail _ (.tail _ (.tail _ (.head _))) | exact .tail _ (.tail _ (.tail _ (.tail _ (.head _)))) | exact .tail _ (.tail _ (.tail _ (.tail _ (.tail _ (.head _))))) | exact .tail _ (.tail _ (.tail _ (.tail _ (.tail _ (.tail _ (.head _)))))) | exact .tail _ (.tail _ (.tail _ (.tail _ (.tail _ (.tail _ (.tail _ (.head _))))))) | exact .tail _ (.tail _ (.tail _ (.tail _ (.tail _ (.tail _ (.tail _ (.tail _ (.head _)))))))) | exact .tail _ (.tail _ (.tail _ (.tail _ (.tail _ (.tail _ (.tail _ (.tail _ (.tail _ (.head _))))))))) | exact .tail _ (.tail _ (.tail _ (.tail _ (.tail _ (.tail _ (.tail _ (.tail _ (.tail _ (.tail _ (.head _)))))))))) | exact .tail _ (.tail _ (.tail _ (.tail _ (.tail _ (.tail _ (.tail _ (.tail _ (.tail _ (.tail _ (.tail _ (.head _))))))))))) | exact .tail _ (.tail _ (.tail _ (.tail _ (.tail _ (.tail _ (.tail _ (.tail _ (.tail _ (.tail _ (.tail _ (.tail _ (.head _)))))))))))) | exact .tail _ (.tail _ (.tail _ (.tail _ (.tail _ (.tail _ (.tail _ (.tail _ (.tail _ (.tail _ (.tail _ (.tail _ (.tail _ (.head _))))))))))))) | exact .tail _ (.tail _ (.tail _ (.tail _ (.tail _ (.tail _ (.tail _ (.tail _ (.tail _ (.tail _ (.tail _ (.tail _ (.tail _ (.tail _ (.head _)))))))))))))) | exact .tail _ (.tail _ (.tail _ (.tail _ (.tail _ (.tail _ (.tail _ (.tail _ (.tail _ (.tail _ (.tail _ (.tail _ (.tail _ (.tail _ (.tail _ (.head _))))))))))))))))) rfl) ?_ | refine WD.hv rfl rfl rfl rfl rfl hA (HeldV.loadA tabOk rfl rfl rfl rfl (by (first | exact .head _ | exact .tail _ (.head _) | exact .tail _ (.tail _ (.head _)) | exact .tail _ (.tail _ (.tail _ (.head _))) | exact .tail _ (.tail _ (.tail _ (.tail _ (.head _)))) | exact .tail _ (.tail _ (.tail _ (.tail _ (.tail _ (.head _))))) | exact .tail _ (.tail _ (.tail _ (.tail _ (.tail _ (.tail _ (.head _)))))) | exact .tail _ (.tail _ (.tail _ (.tail _ (.tail _ (.tail _ (.tail _ (.head _))))))) | exact .tail _ (.tail _ (.tail _ (.tail _ (.tail _ (.tail _ (.tail _ (.tail _ (.head _)))))))) | exact .tail _ (.tail _ (.tail _ (.tail _ (.tail _ (.tail _ (.tail _ (.tail _ (.tail _ (.head _))))))))) | exact .tail _ (.tail _ (.tail _ (.tail _ (.tail _ (.tail _ (.tail _ (.tail _ (.tail _ (.tail _ (.head _)))))))))) | exact .tail _ (.tail _ (.tail _ (.tail _ (.tail _ (.tail _ (.tail _ (.tail _ (.tail _ (.tail _ (.tail _ (.head _))))))))))) | exact .tail _ (.tail _ (.tail _ (.tail _ (.tail _ (.tail _ (.tail _ (.tail _ (.tail _ (.tail _ (.tail _ (.tail _ (.head _)))))))))))) | exact .tail _ (.tail _ (.tail _ (.tail _ (.tail _ (.tail _ (.tail _ (.tail _ (.tail _ (.tail _ (.tail _ (.tail _ (.tail _ (.head _))))))))))))) | exact .tail _ (.tail _ (.tail _ (.tail _ (.tail _ (.tail _ (.tail _ (.tail _ (.tail _ (.tail _ (.tail _ (.tail _ (.tail _ (.tail _ (.head _)))))))))))))) | exact .tail _ (.tail _ (.tail _ (.tail _ (.tail _ (.tail _ (.tail _ (.tail _ (.tail _ (.tail _ (.tail _ (.tail _ (.tail _ (.tail _ (.tail _ (.head _))))))))))))))))) rfl rfl) ?_ | refine WD.pu tabOk rfl rfl rfl rfl rfl rfl ?_))
    refine WD.pv rfl rfl rfl rfl rfl (PureV.idxN tabOk rfl rfl rfl rfl rfl rfl hlt) ?_
    refine WD.hv rfl rfl rfl rfl rfl hA (HeldV.loadBA (cs := encD x) tabOk rfl rfl rfl rfl (.head _) rfl (cell cur0 xs k x hcur hlt hx)) ?_
    (repeat (first | refine WD.run tabOk rfl rfl ?_ | refine WD.hv rfl rfl rfl rfl rfl hA (HeldV.load1 tabOk rfl rfl rfl rfl (by (first | exact .head _ | exact .tail _ (.head _) | exact .tail _ (.tail _ (.head _)) | exact .tail _ (.tail _ (.tail _ (.head _))) | exact .tail _ (.tail _ (.tail _ (.tail _ (.head _)))) | exact .tail _ (.tail _ (.tail _ (.tail _ (.tail _ (.head _))))) | exact .tail _ (.tail _ (.tail _ (.tail _ (.tail _ (.tail _ (.head _)))))) | exact .tail _ (.tail _ (.tail _ (.tail _ (.tail _ (.tail _ (.tail _ (.head _))))))) | exact .tail _ (.tail _ (.tail _ (.tail _ (.tail _ (.tail _ (.tail _ (.tail _ (.head _)))))))) | exact .tail _ (.tail _ (.tail _ (.tail _ (.tail _ (.tail _ (.tail _ (.tail _ (.tail _ (.head _))))))))) | exact .tail _ (.tail _ (.tail _ (.tail _ (.tail _ (.tail _ (.tail _ (.tail _ (.tail _ (.tail _ (.head _)))))))))) | exact .tail _ (.tail _ (.tail _ (.tail _ (.tail _ (.tail _ (.tail _ (.tail _ (.tail _ (.tail _ (.tail _ (.head _))))))))))) | exact .tail _ (.tail _ (.tail _ (.tail _ (.tail _ (.tail _ (.tail _ (.tail _ (.tail _ (.tail _ (.tail _ (.tail _ (.head _)))))))))))) | exact .tail _ (.tail _ (.tail _ (.tail _ (.tail _ (.tail _ (.tail _ (.tail _ (.tail _ (.tail _ (.tail _ (.tail _ (.tail _ (.head _))))))))))))) | exact .tail _ (.tail _ (.tail _ (.tail _ (.tail _ (.tail _ (.tail _ (.tail _ (.tail _ (.tail _ (.tail _ (.tail _ (.tail _ (.tail _ (.head _)))))))))))))) | exact .tail _ (.tail _ (.tail _ (.tail _ (.tail _ (.tail _ (.tail _ (.tail _ (.tail _ (.tail _ (.tail _ (.tail _ (.tail _ (.tail _ (.tail _ (.head _))))))))))))))))) rfl) ?_ | refine WD.hv rfl rfl rfl rfl rfl hA (HeldV.loadA tabOk rfl rfl rfl rfl (by (first | exact .head _ | exact .tail _ (.head _) | exact .tail _ (.tail _ (.head _)) | exact .tail _ (.tail _ (.tail _ (.head _))) | exact .tail _ (.tail _ (.tail _ (.tail _ (.head _)))) | exact .tail _ (.tail _ (.tail _ (.tail _ (.tail _ (.head _))))) | exact .tail _ (.tail _ (.tail _ (.tail _ (.tail _ (.tail _ (.head _)))))) | exact .tail _ (.tail _ (.tail _ (.tail _ (.tail _ (.tail _ (.tail _ (.head _))))))) | exact .tail _ (.tail _ (.tail _ (.tail _ (.tail _ (.tail _ (.tail _ (.tail _ (.head _)))))))) | exact .tail _ (.tail _ (.tail _ (.tail _ (.tail _ (.tail _ (.tail _ (.tail _ (.tail _ (.head _))))))))) | exact .tail _ (.tail _ (.tail _ (.tail _ (.tail _ (.tail _ (.tail _ (.tail _ (.tail _ (.tail _ (.head _)))))))))) | exact .tail _ (.tail _ (.tail _ (.tail _ (.tail _ (.tail _ (.tail _ (.tail _ (.tail _ (.tail _ (.tail _ (.head _))))))))))) | exact .tail _ (.tail _ (.tail _ (.tail _ (.tail _ (.tail _ (.tail _ (.tail _ (.tail _ (.tail _ (.tail _ (.tail _ (.head _)))))))))))) | exact .tail _ (.tail _ (.tail _ (.tail _ (.tail _ (.tail _ (.tail _ (.tail _ (.tail _ (.tail _ (.tail _ (.tail _ (.tail _ (.head _))))))))))))) | exact .tail _ (.tail _ (.tail _ (.tail _ (.tail _ (.tail _ (.tail _ (.tail _ (.tail _ (.tail _ (.tail _ (.tail _ (.tail _ (.tail _ (.head _)))))))))))))) | exact .tail _ (.tail _ (.tail _ (.tail _ (.tail _ (.tail _ (.tail _ (.tail _ (.tail _ (.tail _ (.tail _ (.tail _ (.tail _ (.tail _ (.tail _ (.head _))))))))))))))))) rfl rfl) ?_ | refine WD.pu tabOk rfl rfl rfl rfl rfl rfl ?_))
    refine WD.pv rfl rfl rfl rfl rfl (PureV.subN rfl rfl rfl (by omega) (by omega)) ?_
    refine WD.pv rfl rfl rfl rfl rfl (PureV.idxN (i := k - 1) tabOk rfl rfl rfl rfl rfl rfl (by omega)) ?_
    refine WD.hv rfl rfl rfl rfl rfl hA (HeldV.loadBA (cs := encD x') tabOk rfl rfl rfl rfl (.head _) rfl (cell cur0 xs (k - 1) x' hcur (by omega) hx')) ?_
    refine WD.pv rfl rfl rfl rfl rfl (PureV.eqA rfl rfl rfl (by kernel_rfl) (eqD x x')) ?_
    (repeat (first | refine WD.run tabOk rfl rfl ?_ | refine WD.nil ?_))
    refine W.cond rfl (fun he => ?_) (fun he => ?_)
    · have he : x = x' := by simpa using he
      have hst1 : Go.Lib.compactUpTo xs.toArray (k + 1) = xs.take k := by rw [Go.Lib.compactUpTo_succ, hkx, hpre]; simp [he]
      (repeat (first | refine WO.run tabOk rfl rfl ?_ | refine WO.nil ?_ | refine WO.skip rfl rfl rfl ?_ | refine WO.pu tabOk rfl rfl rfl rfl ?_ | refine W.seq ?_ | refine W.region ?_ | refine W.block ?_ | refine W.skip ?_ | refine W.exit ?_))
      refine WO.pv rfl rfl rfl (PureV.slcFrom (i := k) tabOk rfl rfl rfl rfl rfl rfl (by omega) hnc rfl) ?_
      rw [cutA, if_neg (show ¬ cap = k by omega)]
      simp only [Option.map_some, Addr.add_lit]
      (repeat (first | refine WO.run tabOk rfl rfl ?_ | refine WO.nil ?_ | refine WO.skip rfl rfl rfl ?_ | refine WO.pu tabOk rfl rfl rfl rfl ?_ | refine W.seq ?_ | refine W.region ?_ | refine W.block ?_ | refine W.skip ?_ | refine W.exit ?_))
      refine W.loopS [0, 3, 4, 5] (fun s : Nat × Nat × List Value => [(0, .slice (some ⟨g, o, none⟩) xs.length cap), (3, .int .i64 (s.1 : Int)), (4, .slice (some ⟨g, o + k * 3, none⟩) (xs.length - k) (cap - k)), (5, .int .i64 (s.2.1 : Int))])
        (fun s w' => 1 ≤ s.2.1 ∧ k + s.2.1 ≤ xs.length ∧ s.1 < k + s.2.1 ∧ s.2.2.length = cur0.length ∧ St c w' (blk g 69 s.2.2 :: Own) Ro ∧ ∃ ys : List D3, ys.length = xs.length ∧ (s.2.2.drop o).take (xs.length * 3) = ys.flatMap encD ∧ ys.take s.1 = Go.Lib.compactUpTo xs.toArray (k + s.2.1) ∧ ∀ j, s.1 ≤ j → ys[j]? = xs[j]?) (fun s => xs.length - s.2.1)
        (k, 1, cur0) rfl ⟨Nat.le_refl _, by simp only; omega, by simp only; omega, rfl, H1, xs, rfl, hcur, hst1.symm, fun j _ => rfl⟩ ?_
      clear H H1 hA
      rintro ⟨q, m, cur⟩ w2 ⟨hm1, hm, hq, hcl, H, ys, hyl, hwin, hpre2, hsuf⟩
      simp only at hm1 hm hq hcl H hpre2 hsuf hwin
      (repeat (first | refine WO.run tabOk rfl rfl ?_ | refine WO.nil ?_ | refine WO.skip rfl rfl rfl ?_ | refine WO.pu tabOk rfl rfl rfl rfl ?_ | refine W.seq ?_ | refine W.region ?_ | refine W.block ?_ | refine W.skip ?_ | refine W.exit ?_))
      refine W.cond rfl (fun hltm => ?_) (fun hgem => ?_)
      · have hltm : k + m < xs.length := by simp at hltm; omega
        have hy := List.getElem?_eq_getElem hltm
        have hy' := List.getElem?_eq_getElem (l := xs) (i := k + m - 1) (by omega)
        generalize xs[k + m] = y at hy
        generalize xs[k + m - 1]'_ = y' at hy'
        have hky : Go.Lib.keeps xs.toArray (k + m) = !decide (y = y') := by
          rw [Go.Lib.keeps, hgetb (k + m) y hy, hgetb (k + m - 1) y' hy']
          by_cases e : y = y' <;> simp [e]; omega
        have hyy : ys[k + m]? = some y := by rw [hsuf _ (by omega), hy]
        have hyy' : ys[k + m - 1]? = some y' := by rw [hsuf _ (by omega), hy']
        have hst := Go.Lib.compactUpTo_succ xs.toArray (k + m)
        rw [hky, hgetb (k + m) y hy] at hst
        have off : ∀ j, o + k * 3 + j * 3 = o + (k + j) * 3 := fun j => by rw [Nat.add_mul, Nat.add_assoc]
        (repeat (first | refine WO.run tabOk rfl rfl ?_ | refine WO.nil ?_ | refine WO.skip rfl rfl rfl ?_ | refine WO.pu tabOk rfl rfl rfl rfl ?_ | refine W.seq ?_ | refine W.region ?_ | refine W.block ?_ | refine W.skip ?_ | refine W.exit ?_))
        have H1 := H.drew
        have hA := H1.ha (L := [blk g 69 cur]) (by simp)
        refine W.regionD [3, 8] (HA [blk g 69 cur]) [0, 1, 2, 3, 4, 5, 6, 7, 8, 9] rfl (by kernel_rfl) (fun _ _ _ h => h) ?_
        (repeat (first | refine WD.run tabOk rfl rfl ?_ | refine WD.hv rfl rfl rfl rfl rfl hA (HeldV.load1 tabOk rfl rfl rfl rfl (by (first | exact .head _ | exact .tail _ (.head _) | exact .tail _ (.tail _ (.head _)) | exact .tail _ (.tail _ (.tail _ (.head _))) | exact .tail _ (.tail _ (.tail _ (.tail _ (.head _)))) | exact .tail _ (.tail _ (.tail _ (.tail _ (.tail _ (.head _))))) | exact .tail _ (.tail _ (.tail _ (.tail _ (.tail _ (.tail _ (.head _)))))) | exact .tail _ (.tail _ (.tail _ (.tail _ (.tail _ (.tail _ (.tail _ (.head _))))))) | exact .tail _ (.tail _ (.tail _ (.tail _ (.tail _ (.tail _ (.tail _ (.tail _ (.head _)))))))) | exact .tail _ (.tail _ (.tail _ (.tail _ (.tail _ (.tail _ (.tail _ (.tail _ (.tail _ (.head _))))))))) | exact .tail _ (.tail _ (.tail _ (.tail _ (.tail _ (.tail _ (.tail _ (.tail _ (.tail _ (.tail _ (.head _)))))))))) | exact .tail _ (.tail _ (.tail _ (.tail _ (.tail _ (.tail _ (.tail _ (.tail _ (.tail _ (.tail _ (.tail _ (.head _))))))))))) | exact .tail _ (.tail _ (.tail _ (.tail _ (.tail _ (.tail _ (.tail _ (.tail _ (.tail _ (.tail _ (.tail _ (.tail _ (.head _)))))))))))) | exact .tail _ (.tail _ (.tail _ (.tail _ (.tail _ (.tail _ (.tail _ (.tail _ (.tail _ (.tail _ (.tail _ (.tail _ (.tail _ (.head _))))))))))))) | exact .tail _ (.tail _ (.tail _ (.tail _ (.tail _ (.tail _ (.tail _ (.tail _ (.tail _ (.tail _ (.tail _ (.tail _ (.tail _ (.tail _ (.head _)))))))))))))) | exact .tail _ (.tail _ (.tail _ (.tail _ (.tail _ (.tail _ (.tail _ (.tail _ (.tail _ (.tail _ (.tail _ (.tail _ (.tail _ (.tail _ (.tail _ (.head _))))))))))))))))) rfl) ?_ | refine WD.hv rfl rfl rfl rfl rfl hA (HeldV.loadA tabOk rfl rfl rfl rfl (by (first | exact .head _ | exact .tail _ (.head _) | exact .tail _ (.tail _ (.head _)) | exact .tail _ (.tail _ (.tail _ (.head _))) | exact .tail _ (.tail _ (.tail _ (.tail _ (.head _)))) | exact .tail _ (.tail _ (.tail _ (.tail _ (.tail _ (.head _))))) | exact .tail _ (.tail _ (.tail _ (.tail _ (.tail _ (.tail _ (.head _)))))) | exact .tail _ (.tail _ (.tail _ (.tail _ (.tail _ (.tail _ (.tail _ (.head _))))))) | exact .tail _ (.tail _ (.tail _ (.tail _ (.tail _ (.tail _ (.tail _ (.tail _ (.head _)))))))) | exact .tail _ (.tail _ (.tail _ (.tail _ (.tail _ (.tail _ (.tail _ (.tail _ (.tail _ (.head _))))))))) | exact .tail _ (.tail _ (.tail _ (.tail _ (.tail _ (.tail _ (.tail _ (.tail _ (.tail _ (.tail _ (.head _)))))))))) | exact .tail _ (.tail _ (.tail _ (.tail _ (.tail _ (.tail _ (.tail _ (.tail _ (.tail _ (.tail _ (.tail _ (.head _))))))))))) | exact .tail _ (.tail _ (.tail _ (.tail _ (.tail _ (.tail _ (.tail _ (.tail _ (.tail _ (.tail _ (.tail _ (.tail _ (.head _)))))))))))) | exact .tail _ (.tail _ (.tail _ (.tail _ (.tail _ (.tail _ (.tail _ (.tail _ (.tail _ (.tail _ (.tail _ (.tail _ (.tail _ (.head _))))))))))))) | exact .tail _ (.tail _ (.tail _ (.tail _ (.tail _ (.tail _ (.tail _ (.tail _ (.tail _ (.tail _ (.tail _ (.tail _ (.tail _ (.tail _ (.head _)))))))))))))) | exact .tail _ (.tail _ (.tail _ (.tail _ (.tail _ (.tail _ (.tail _ (.tail _ (.tail _ (.tail _ (.tail _ (.tail _ (.tail _ (.tail _ (.tail _ (.head _))))))))))))))))) rfl rfl) ?_ | refine WD.pu tabOk rfl rfl rfl rfl rfl rfl ?_))
        refine WD.pv rfl rfl rfl rfl rfl (PureV.idxN (i := m) tabOk rfl rfl rfl rfl rfl rfl (by omega)) ?_
        refine WD.hv rfl rfl rfl rfl rfl hA (HeldV.loadBA (cs := encD y) tabOk rfl rfl rfl rfl (.head _) rfl (by rw [off]; exact cell cur ys (k + m) y hwin hltm hyy)) ?_
        (repeat (first | refine WD.run tabOk rfl rfl ?_ | refine WD.hv rfl rfl rfl rfl rfl hA (HeldV.load1 tabOk rfl rfl rfl rfl (by (first | exact .head _ | exact .tail _ (.head _) | exact .tail _ (.tail _ (.head _)) | exact .tail _ (.tail _ (.tail _ (.head _))) | exact .tail _ (.tail _ (.tail _ (.tail _ (.head _)))) | exact .tail _ (.tail _ (.tail _ (.tail _ (.tail _ (.head _))))) | exact .tail _ (.tail _ (.tail _ (.tail _ (.tail _ (.tail _ (.head _)))))) | exact .tail _ (.tail _ (.tail _ (.tail _ (.tail _ (.tail _ (.tail _ (.head _))))))) | exact .tail _ (.tail _ (.tail _ (.tail _ (.tail _ (.tail _ (.tail _ (.tail _ (.head _)))))))) | exact .tail _ (.tail _ (.tail _ (.tail _ (.tail _ (.tail _ (.tail _ (.tail _ (.tail _ (.head _))))))))) | exact .tail _ (.tail _ (.tail _ (.tail _ (.tail _ (.tail _ (.tail _ (.tail _ (.tail _ (.tail _ (.head _)))))))))) | exact .tail _ (.tail _ (.tail _ (.tail _ (.tail _ (.tail _ (.tail _ (.tail _ (.tail _ (.tail _ (.tail _ (.head _))))))))))) | exact .tail _ (.tail _ (.tail _ (.tail _ (.tail _ (.tail _ (.tail _ (.tail _ (.tail _ (.tail _ (.tail _ (.tail _ (.head _)))))))))))) | exact .tail _ (.tail _ (.tail _ (.tail _ (.tail _ (.tail _ (.tail _ (.tail _ (.tail _ (.tail _ (.tail _ (.tail _ (.tail _ (.head _))))))))))))) | exact .tail _ (.tail _ (.tail _ (.tail _ (.tail _ (.tail _ (.tail _ (.tail _ (.tail _ (.tail _ (.tail _ (.tail _ (.tail _ (.tail _ (.head _)))))))))))))) | exact .tail _ (.tail _ (.tail _ (.tail _ (.tail _ (.tail _ (.tail _ (.tail _ (.tail _ (.tail _ (.tail _ (.tail _ (.tail _ (.tail _ (.tail _ (.head _))))))))))))))))) rfl) ?_ | refine WD.hv rfl rfl rfl rfl rfl hA (HeldV.loadA tabOk rfl rfl rfl rfl (by (first | exact .head _ | exact .tail _ (.head _) | exact .tail _ (.tail _ (.head _)) | exact .tail _ (.tail _ (.tail _ (.head _))) | exact .tail _ (.tail _ (.tail _ (.tail _ (.head _)))) | exact .tail _ (.tail _ (.tail _ (.tail _ (.tail _ (.head _))))) | exact .tail _ (.tail _ (.tail _ (.tail _ (.tail _ (.tail _ (.head _)))))) | exact .tail _ (.tail _ (.tail _ (.tail _ (.tail _ (.tail _ (.tail _ (.head _))))))) | exact .tail _ (.tail _ (.tail _ (.tail _ (.tail _ (.tail _ (.tail _ (.tail _ (.head _)))))))) | exact .tail _ (.tail _ (.tail _ (.tail _ (.tail _ (.tail _ (.tail _ (.tail _ (.tail _ (.head _))))))))) | exact .tail _ (.tail _ (.tail _ (.tail _ (.tail _ (.tail _ (.tail _ (.tail _ (.tail _ (.tail _ (.head _)))))))))) | exact .tail _ (.tail _ (.tail _ (.tail _ (.tail _ (.tail _ (.tail _ (.tail _ (.tail _ (.tail _ (.tail _ (.head _))))))))))) | exact .tail _ (.tail _ (.tail _ (.tail _ (.tail _ (.tail _ (.tail _ (.tail _ (.tail _ (.tail _ (.tail _ (.tail _ (.head _)))))))))))) | exact .tail _ (.tail _ (.tail _ (.tail _ (.tail _ (.tail _ (.tail _ (.tail _ (.tail _ (.tail _ (.tail _ (.tail _ (.tail _ (.head _))))))))))))) | exact .tail _ (.tail _ (.tail _ (.tail _ (.tail _ (.tail _ (.tail _ (.tail _ (.tail _ (.tail _ (.tail _ (.tail _ (.tail _ (.tail _ (.head _)))))))))))))) | exact .tail _ (.tail _ (.tail _ (.tail _ (.tail _ (.tail _ (.tail _ (.tail _ (.tail _ (.tail _ (.tail _ (.tail _ (.tail _ (.tail _ (.tail _ (.head _))))))))))))))))) rfl rfl) ?_ | refine WD.pu tabOk rfl rfl rfl rfl rfl rfl ?_))
        refine WD.pv rfl rfl rfl rfl rfl (PureV.subN (n := m) rfl rfl rfl (by omega) (by omega)) ?_
        refine WD.pv rfl rfl rfl rfl rfl (PureV.idxN (i := m - 1) tabOk rfl rfl rfl rfl rfl rfl (by omega)) ?_
        refine WD.hv rfl rfl rfl rfl rfl hA (HeldV.loadBA (cs := encD y') tabOk rfl rfl rfl rfl (.head _) rfl (by rw [off, show k + (m - 1) = k + m - 1 by omega]; exact cell cur ys (k + m - 1) y' hwin (by omega) hyy')) ?_
        refine WD.pv rfl rfl rfl rfl rfl (PureV.neA rfl rfl rfl (by kernel_rfl) (eqD y y')) ?_
        (repeat (first | refine WD.run tabOk rfl rfl ?_ | refine WD.nil ?_))
        refine W.cond rfl (fun hne => ?_) (fun hne => ?_)
        · (repeat (first | refine WO.run tabOk rfl rfl ?_ | refine WO.nil ?_ | refine WO.skip rfl rfl rfl ?_ | refine WO.pu tabOk rfl rfl rfl rfl ?_ | refine W.seq ?_ | refine W.region ?_ | refine W.block ?_ | refine W.skip ?_ | refine W.exit ?_))
          refine WO.pv rfl rfl rfl (PureV.idxN (i := m) tabOk rfl rfl rfl rfl rfl rfl (by omega)) ?_
          refine WO.one rfl rfl rfl (OpW.loadBA (cs := encD y) tabOk rfl rfl rfl rfl H1 (.head _) rfl (by rw [off]; exact cell cur ys (k + m) y hwin hltm hyy) ?_)
          refine WO.pv rfl rfl rfl (PureV.idxN (i := q) tabOk rfl rfl rfl rfl rfl rfl (by omega)) ?_
          refine WO.act rfl rfl (OpW.storeB (i := 0) tabOk rfl rfl rfl rfl H1 rfl (by intro v hv; simp [cellsL, encD] at hv; rcases hv with rfl | rfl | rfl <;> rfl) rfl (by simp [cellsL, encD]; omega) ?_)
          intro w3 H4
          (repeat (first | refine WO.run tabOk rfl rfl ?_ | refine WO.nil ?_ | refine WO.skip rfl rfl rfl ?_ | refine WO.pu tabOk rfl rfl rfl rfl ?_ | refine W.seq ?_ | refine W.region ?_ | refine W.block ?_ | refine W.skip ?_ | refine W.exit ?_))
          refine WO.pv rfl rfl rfl (PureV.addN (n := q) rfl rfl rfl (by omega)) ?_
          (repeat (first | refine WO.run tabOk rfl rfl ?_ | refine WO.nil ?_ | refine WO.skip rfl rfl rfl ?_ | refine WO.pu tabOk rfl rfl rfl rfl ?_ | refine W.seq ?_ | refine W.region ?_ | refine W.block ?_ | refine W.skip ?_ | refine W.exit ?_))
          refine WO.pv rfl rfl rfl (PureV.addN (n := m) rfl rfl rfl (by omega)) ?_
          (repeat (first | refine WO.run tabOk rfl rfl ?_ | refine WO.nil ?_ | refine WO.skip rfl rfl rfl ?_ | refine WO.pu tabOk rfl rfl rfl rfl ?_ | refine W.seq ?_ | refine W.region ?_ | refine W.block ?_ | refine W.skip ?_ | refine W.exit ?_))
          have hcells : cellsL (.agg (encD y).toArray) = encD y := rfl
          rw [hcells] at H4
          refine ⟨(q + 1, m + 1, spliceL cur (o + q * 3) (encD y)), rfl, ⟨by simp only; omega, by simp only; omega, by simp only; omega, by simp only; rw [spliceL_len _ _ _ (by simp [encD]; omega)]; exact hcl, H4, ys.set q y, by simp [hyl], ?_, ?_, ?_⟩, by simp only; omega⟩
          · simp only
            rw [window_splice hwin (by omega) (by simp [encD]; omega)]
            exact flat_setA (enc := encD) (sz := 3) (fun _ => rfl) (by omega)
          · simp only
            rw [show k + (m + 1) = k + m + 1 by omega, hst, ← hpre2, List.take_add_one, List.getElem?_set_self (by omega), List.take_set_of_le (Nat.le_refl _)]
            simp at hne
            simp [hne]
          · intro j hj
            simp only at hj
            rw [List.getElem?_set_ne (by omega), hsuf j (by omega)]
        · (repeat (first | refine WO.run tabOk rfl rfl ?_ | refine WO.nil ?_ | refine WO.skip rfl rfl rfl ?_ | refine WO.pu tabOk rfl rfl rfl rfl ?_ | refine W.seq ?_ | refine W.region ?_ | refine W.block ?_ | refine W.skip ?_ | refine W.exit ?_))
          refine WO.pv rfl rfl rfl (PureV.addN (n := m) rfl rfl rfl (by omega)) ?_
          (repeat (first | refine WO.run tabOk rfl rfl ?_ | refine WO.nil ?_ | refine WO.skip rfl rfl rfl ?_ | refine WO.pu tabOk rfl rfl rfl rfl ?_ | refine W.seq ?_ | refine W.region ?_ | refine W.block ?_ | refine W.skip ?_ | refine W.exit ?_))
          refine ⟨(q, m + 1, cur), rfl, ⟨by simp only; omega, by simp only; omega, by simp only; omega, hcl, H1, ys, hyl, hwin, ?_, hsuf⟩, by simp only; omega⟩
          simp only
          simp at hne
          rw [show k + (m + 1) = k + m + 1 by omega, hst, ← hpre2]
          simp [hne]
      · have hkm : k + m = xs.length := by simp at hgem; omega
        rw [hkm] at hpre2
        (repeat (first | refine WO.run tabOk rfl rfl ?_ | refine WO.nil ?_ | refine WO.skip rfl rfl rfl ?_ | refine WO.pu tabOk rfl rfl rfl rfl ?_ | refine W.seq ?_ | refine W.region ?_ | refine W.block ?_ | refine W.skip ?_ | refine W.exit ?_))
        refine WO.pv rfl rfl rfl (PureV.slcFrom tabOk rfl rfl rfl rfl rfl rfl (show q ≤ xs.length by omega) hnc rfl) ?_
        rw [cutA, if_neg (show ¬ cap = q by omega)]
        simp only [Option.map_some, Addr.add_lit]
        refine WO.act rfl rfl (OpW.clear (i := 0) tabOk rfl rfl rfl zero69 rfl rfl rfl H rfl (by omega) ?_)
        intro zs w5 hzl H5
        (repeat (first | refine WO.run tabOk rfl rfl ?_ | refine WO.nil ?_ | refine WO.skip rfl rfl rfl ?_ | refine WO.pu tabOk rfl rfl rfl rfl ?_ | refine W.seq ?_ | refine W.region ?_ | refine W.block ?_ | refine W.skip ?_ | refine W.exit ?_))
        refine WO.pv rfl rfl rfl (PureV.slcTo tabOk rfl rfl rfl rfl rfl rfl (show q ≤ cap by omega)) ?_
        (repeat (first | refine WO.run tabOk rfl rfl ?_ | refine WO.nil ?_ | refine WO.skip rfl rfl rfl ?_ | refine WO.pu tabOk rfl rfl rfl rfl ?_ | refine W.seq ?_ | refine W.region ?_ | refine W.block ?_ | refine W.skip ?_ | refine W.exit ?_))
        refine W.ret (ret1 Try.results40 rfl ⟨_, rfl, ?_⟩)
        have hce : Go.Lib.compact xs = ys.take q := by rw [hpre2]; rfl
        rw [hce]
        refine close (n := q) (by omega) (by rw [spliceL_len _ _ _ (by omega)]; exact hcl) ?_ (by rw [List.length_take]; omega) H5
        rw [← flat_take (enc := encD) (sz := 3) (fun _ => rfl), ← hwin, List.take_take, Nat.min_eq_left (by omega)]
        apply List.ext_getElem?
        intro i
        rw [List.getElem?_take, List.getElem?_take, List.getElem?_drop, List.getElem?_drop]
        split
        · rw [splice_get (by omega), if_pos (by omega)]
        · rfl
    · have he : x ≠ x' := by simpa using he
      (repeat (first | refine WO.run tabOk rfl rfl ?_ | refine WO.nil ?_ | refine WO.skip rfl rfl rfl ?_ | refine WO.pu tabOk rfl rfl rfl rfl ?_ | refine W.seq ?_ | refine W.region ?_ | refine W.block ?_ | refine W.skip ?_ | refine W.exit ?_))
      refine WO.pv rfl rfl rfl (PureV.addN (n := k) rfl rfl rfl (by omega)) ?_
      (repeat (first | refine WO.run tabOk rfl rfl ?_ | refine WO.nil ?_ | refine WO.skip rfl rfl rfl ?_ | refine WO.pu tabOk rfl rfl rfl rfl ?_ | refine W.seq ?_ | refine W.region ?_ | refine W.block ?_ | refine W.skip ?_ | refine W.exit ?_))
      refine ⟨k + 1, rfl, ⟨by omega, by omega, fun j hj => ?_, H1⟩, by omega⟩
      rcases Nat.lt_succ_iff_lt_or_eq.1 hj with h | rfl
      · exact hkeep j h
      · rw [hkx]; simp [he]
  · have hkl : k = xs.length := by simp at hge; omega
    subst hkl
    (repeat (first | refine WO.run tabOk rfl rfl ?_ | refine WO.nil ?_ | refine WO.skip rfl rfl rfl ?_ | refine WO.pu tabOk rfl rfl rfl rfl ?_ | refine W.seq ?_ | refine W.region ?_ | refine W.block ?_ | refine W.skip ?_ | refine W.exit ?_))
    refine W.ret (ret1 Try.results40 rfl ⟨_, rfl, ?_⟩)
    have hce : Go.Lib.compact xs = xs := Go.Lib.compact_all xs hkeep
    rw [hce]
    exact close (n := xs.length) (Nat.le_refl _) rfl hcur rfl H

end Go.Proofs.Ytpenbdpgpamcbaa
