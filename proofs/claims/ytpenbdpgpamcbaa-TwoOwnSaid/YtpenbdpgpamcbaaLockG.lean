/- lock: give. -/
import Derived.Test.YtpenbdpgpamcbaaLockF
set_option linter.unusedVariables false
set_option linter.unusedSimpArgs false
set_option maxRecDepth 20000
namespace Go.Proofs.Ytpenbdpgpamcbaa
open Go Gw
attribute [local irreducible] W WO WD

def setF (tx m : Int) : List (Int × Int) → List (Int × Int)
  | [] => [(tx, m)]
  | h :: l => if h.1 = tx then (tx, m) :: l else h :: setF tx m l
def giveF (hs : List (Int × Int)) (tx mode : Int) : List (Int × Int) := setF tx (wishF hs tx mode) hs
theorem setF_hit {tx m : Int} : ∀ {hs : List (Int × Int)} {i : Nat} {x : Int × Int}, (∀ j, j < i → ∀ y, hs[j]? = some y → y.1 ≠ tx) → hs[i]? = some x → x.1 = tx → setF tx m hs = hs.set i (x.1, m)
  | [], i, x, _, h, _ => by simp at h
  | h :: l, 0, x, _, hx, he => by simp at hx; subst hx; simp [setF, he]
  | h :: l, i + 1, x, hno, hx, he => by
    have h0 := hno 0 (by omega) h rfl
    simp at hx
    rw [setF, if_neg h0, setF_hit (fun j hj y hy => hno (j + 1) (by omega) y (by simpa using hy)) hx he]
    rfl
theorem setF_miss {tx m : Int} : ∀ {hs : List (Int × Int)}, (∀ y ∈ hs, y.1 ≠ tx) → setF tx m hs = hs ++ [(tx, m)]
  | [], _ => rfl
  | h :: l, hno => by
    rw [setF, if_neg (hno h (by simp)), setF_miss fun y hy => hno y (by simp [hy])]; rfl

theorem cells3 {cur : List Value} {off : Nat} {a b d : Value} (h : (cur.drop off).take 3 = [a, b, d]) : cur[off]? = some a ∧ cur[off + 1]? = some b ∧ cur[off + 2]? = some d ∧ off + 3 ≤ cur.length := by
  have h0 := congrArg (·[0]?) h
  have h1 := congrArg (·[1]?) h
  have h2 := congrArg (·[2]?) h
  have hl := congrArg List.length h
  simp at h0 h1 h2 hl
  exact ⟨h0, h1, h2, by omega⟩
theorem flat_set {hs : List (Int × Int)} {i : Nat} {x : Int × Int} {m : Int} (hx : hs[i]? = some x) : spliceL (hs.flatMap encLock) (i * 2 + 1) [.int .i64 m] = (hs.set i (x.1, m)).flatMap encLock := by
  induction hs generalizing i with
  | nil => simp at hx
  | cons h l ih =>
    cases i with
    | zero => simp at hx; subst hx; simp [spliceL, encLock]
    | succ i =>
      simp at hx
      have := ih hx
      rw [List.set_cons_succ, List.flatMap_cons, List.flatMap_cons, ← this]
      simp [spliceL, encLock, show (i + 1) * 2 + 1 = (i * 2 + 1) + 2 by omega]

theorem give_ok (c : Ctx) (w : World) (Own Ro : List Asn) (bx off : Nat) (cur : List Value) (it : Int) (v1 v2 : Value) (hs : List (Int × Int)) (tx mode : Int) (H : St c w (blk bx 142 cur :: row 145 lockR v1 hs :: Own) Ro)
    (hcell : (cur.drop off).take 3 = [.int .i64 it, v1, v2]) (hv2 : v2.oneCell' = true) (hlen : hs.length ≤ 1000000) :
    Calls Try.prog 84 #[.pointer (some ⟨bx, off, none⟩), .agg #[.int .i64 tx, .int .i64 mode]] w
      (Ret fun v w' => ∃ v1', St c w' (blk bx 142 (spliceL cur (off + 1) [v1']) :: row 145 lockR v1' (giveF hs tx mode) :: Own) Ro) := by
  refine calls_W (args := [_, _]) Try.func84 rfl Try.ntmps84 rfl ?_
  obtain ⟨k0, k1, k2, kl⟩ := cells3 hcell
  (repeat (first | refine W.seq ?_ | refine W.block ?_ | refine W.skip ?_ | refine W.exit ?_ | refine W.region ?_))
  refine WO.one rfl rfl rfl (OpW.box rfl rfl rfl H ?_); intro b3 w1 H1
  (repeat (first | refine WO.run tabOk rfl rfl ?_ | refine WO.nil ?_ | refine WO.skip rfl rfl rfl ?_ | refine WO.pu tabOk rfl rfl rfl rfl ?_ | refine W.seq ?_ | refine W.region ?_ | refine W.block ?_ | refine W.skip ?_ | refine W.exit ?_))
  obtain ⟨ha, hc, rfl, hrd⟩ := row_rd (H1.holds (A := row 145 lockR v1 hs) (by simp))
  have hld : CellsAt w1 ⟨bx, off, none⟩ [.int .i64 it, .slice ha hs.length hc, v2] := blk_cells (e := 142) (l := cur) H1 (by simp) hcell
  refine W.regionD [2, 3] (HA [blk bx 142 cur, blk b3 145 [.int .i64 tx, .int .i64 mode]]) [0, 1, 2, 3, 4, 5] rfl (by kernel_rfl) (fun _ _ _ h => h) ?_
  have H1 := H1.drew
  have hA := H1.ha (L := [blk bx 142 cur, blk b3 145 [.int .i64 tx, .int .i64 mode]]) (by simp)
  (repeat (first | refine WD.run tabOk rfl rfl ?_ | refine WD.hv rfl rfl rfl rfl rfl hA (HeldV.load1 tabOk rfl rfl rfl rfl (by (repeat (first | exact .head _ | refine .tail _ ?_))) rfl) ?_ | refine WD.hv rfl rfl rfl rfl rfl hA (HeldV.loadA tabOk rfl rfl rfl rfl (by (repeat (first | exact .head _ | refine .tail _ ?_))) rfl rfl) ?_ | refine WD.pu tabOk rfl rfl rfl rfl rfl rfl ?_))
  refine WD.hv rfl rfl rfl rfl rfl hA (HeldV.loadBA (cs := [.int .i64 it, .slice ha hs.length hc, v2]) tabOk rfl rfl rfl rfl (.head _) rfl hcell) ?_
  (repeat (first | refine WD.run tabOk rfl rfl ?_ | refine WD.hv rfl rfl rfl rfl rfl hA (HeldV.load1 tabOk rfl rfl rfl rfl (by (repeat (first | exact .head _ | refine .tail _ ?_))) rfl) ?_ | refine WD.hv rfl rfl rfl rfl rfl hA (HeldV.loadA tabOk rfl rfl rfl rfl (by (repeat (first | exact .head _ | refine .tail _ ?_))) rfl rfl) ?_ | refine WD.pu tabOk rfl rfl rfl rfl rfl rfl ?_))
  have hrd := hrd.pure (Pure.drew w1)
  refine WD.oneS rfl rfl rfl rfl rfl (OpW.call rfl Try.call111 rfl (Calls.ret (wish_ok _ it ha hc hs v2 hv2 tx mode hrd) ?_))
  rintro _ w2 ⟨hp2, rfl⟩
  have H2 := H1.after hp2
  have hrd := hrd.pure hp2
  clear hA H1 hld
  refine ⟨H2.ha (by simp), ?_⟩
  (repeat (first | refine WD.run tabOk rfl rfl ?_ | refine WD.nil ?_))
  (repeat (first | refine WO.run tabOk rfl rfl ?_ | refine WO.nil ?_ | refine WO.skip rfl rfl rfl ?_ | refine WO.pu tabOk rfl rfl rfl rfl ?_ | refine W.seq ?_ | refine W.region ?_ | refine W.block ?_ | refine W.skip ?_ | refine W.exit ?_))
  refine WO.one rfl rfl rfl (OpW.loadB (e := 142) (l := cur) tabOk rfl rfl rfl rfl H2 (by simp) k1 ?_)
  (repeat (first | refine WO.run tabOk rfl rfl ?_ | refine WO.nil ?_ | refine WO.skip rfl rfl rfl ?_ | refine WO.pu tabOk rfl rfl rfl rfl ?_ | refine W.seq ?_ | refine W.region ?_ | refine W.block ?_ | refine W.skip ?_ | refine W.exit ?_))
  have hle := hrd.le
  simp only [maxLen] at hle
  refine W.loopS [0, 3, 4, 15, 16] (fun i : Nat => [(0, .pointer (some ⟨bx, off, none⟩)), (3, .pointer (some ⟨b3, 0, none⟩)), (4, .int .i64 (wishF hs tx mode)), (15, .int .i64 hs.length), (16, .int .i64 i)])
    (fun i w' => i ≤ hs.length ∧ (∀ j, j < i → ∀ y, hs[j]? = some y → y.1 ≠ tx) ∧ St c w' (blk b3 145 [.int .i64 tx, .int .i64 mode] :: blk bx 142 cur :: row 145 lockR (.slice ha hs.length hc) hs :: Own) Ro) (fun i => hs.length - i) 0 rfl ⟨Nat.zero_le _, fun j hj => (by omega), H2⟩ ?_
  clear H2 hrd
  rintro i w3 ⟨hi, hno, H3⟩
  (repeat (first | refine WO.run tabOk rfl rfl ?_ | refine WO.nil ?_ | refine WO.skip rfl rfl rfl ?_ | refine WO.pu tabOk rfl rfl rfl rfl ?_ | refine W.seq ?_ | refine W.region ?_ | refine W.block ?_ | refine W.skip ?_ | refine W.exit ?_))
  refine W.cond rfl (fun hlt => ?_) (fun hge => ?_)
  · have hlt : i < hs.length := by simpa using hlt
    obtain ⟨ha', hc', e1, hrd⟩ := row_rd (H3.holds (A := row 145 lockR (.slice ha hs.length hc) hs) (by simp))
    simp only [Value.slice.injEq] at e1
    obtain ⟨rfl, _, rfl⟩ := e1
    obtain ⟨g, o, rfl⟩ := hrd.addr (by omega)
    have hx := List.getElem?_eq_getElem hlt
    generalize hs[i] = x at hx
    (repeat (first | refine WO.run tabOk rfl rfl ?_ | refine WO.nil ?_ | refine WO.skip rfl rfl rfl ?_ | refine WO.pu tabOk rfl rfl rfl rfl ?_ | refine W.seq ?_ | refine W.region ?_ | refine W.block ?_ | refine W.skip ?_ | refine W.exit ?_))
    refine W.regionD [3, 7, 9] (HA [blk bx 142 cur, blk b3 145 [.int .i64 tx, .int .i64 mode], rd lockR (some ⟨g, o, none⟩) hc hs]) [0, 1, 2, 3, 4, 5, 6, 7, 8, 9, 10] rfl (by kernel_rfl) (fun _ _ _ h => h) ?_
    have H3 := H3.drew
    have hrd := hrd.pure (Pure.drew w3)
    have hA : HA [blk bx 142 cur, blk b3 145 [.int .i64 tx, .int .i64 mode], rd lockR (some ⟨g, o, none⟩) hc hs] w3.drew := HA.cons (H3.holds (by simp)) (HA.cons (H3.holds (by simp)) (HA.cons hrd (HA.nil _)))
    (repeat (first | refine WD.run tabOk rfl rfl ?_ | refine WD.hv rfl rfl rfl rfl rfl hA (HeldV.load1 tabOk rfl rfl rfl rfl (by (repeat (first | exact .head _ | refine .tail _ ?_))) rfl) ?_ | refine WD.hv rfl rfl rfl rfl rfl hA (HeldV.loadA tabOk rfl rfl rfl rfl (by (repeat (first | exact .head _ | refine .tail _ ?_))) rfl rfl) ?_ | refine WD.pu tabOk rfl rfl rfl rfl rfl rfl ?_))
    refine WD.hv rfl rfl rfl rfl rfl hA (HeldV.loadB tabOk rfl rfl rfl rfl (.head _) k1) ?_
    (repeat (first | refine WD.run tabOk rfl rfl ?_ | refine WD.hv rfl rfl rfl rfl rfl hA (HeldV.load1 tabOk rfl rfl rfl rfl (by (repeat (first | exact .head _ | refine .tail _ ?_))) rfl) ?_ | refine WD.hv rfl rfl rfl rfl rfl hA (HeldV.loadA tabOk rfl rfl rfl rfl (by (repeat (first | exact .head _ | refine .tail _ ?_))) rfl rfl) ?_ | refine WD.pu tabOk rfl rfl rfl rfl rfl rfl ?_))
    refine WD.pv rfl rfl rfl rfl rfl (PureV.idxN tabOk rfl rfl rfl rfl rfl rfl hlt) ?_
    (repeat (first | refine WD.run tabOk rfl rfl ?_ | refine WD.hv rfl rfl rfl rfl rfl hA (HeldV.load1 tabOk rfl rfl rfl rfl (by (repeat (first | exact .head _ | refine .tail _ ?_))) rfl) ?_ | refine WD.hv rfl rfl rfl rfl rfl hA (HeldV.loadA tabOk rfl rfl rfl rfl (by (repeat (first | exact .head _ | refine .tail _ ?_))) rfl rfl) ?_ | refine WD.pu tabOk rfl rfl rfl rfl rfl rfl ?_))
    refine WD.hv rfl rfl rfl rfl rfl hA (HeldV.elem1 (i := i) (j := 0) tabOk rfl rfl rfl rfl (.tail _ (.tail _ (.head _))) hx rfl rfl) ?_
    (repeat (first | refine WD.run tabOk rfl rfl ?_ | refine WD.hv rfl rfl rfl rfl rfl hA (HeldV.load1 tabOk rfl rfl rfl rfl (by (repeat (first | exact .head _ | refine .tail _ ?_))) rfl) ?_ | refine WD.hv rfl rfl rfl rfl rfl hA (HeldV.loadA tabOk rfl rfl rfl rfl (by (repeat (first | exact .head _ | refine .tail _ ?_))) rfl rfl) ?_ | refine WD.pu tabOk rfl rfl rfl rfl rfl rfl ?_))
    (repeat (first | refine WD.run tabOk rfl rfl ?_ | refine WD.nil ?_))
    refine W.cond rfl (fun he => ?_) (fun hne => ?_)
    · (repeat (first | refine WO.run tabOk rfl rfl ?_ | refine WO.nil ?_ | refine WO.skip rfl rfl rfl ?_ | refine WO.pu tabOk rfl rfl rfl rfl ?_ | refine W.seq ?_ | refine W.region ?_ | refine W.block ?_ | refine W.skip ?_ | refine W.exit ?_))
      refine WO.one rfl rfl rfl (OpW.loadB (e := 142) (l := cur) tabOk rfl rfl rfl rfl H3 (by simp) k1 ?_)
      (repeat (first | refine WO.run tabOk rfl rfl ?_ | refine WO.nil ?_ | refine WO.skip rfl rfl rfl ?_ | refine WO.pu tabOk rfl rfl rfl rfl ?_ | refine W.seq ?_ | refine W.region ?_ | refine W.block ?_ | refine W.skip ?_ | refine W.exit ?_))
      refine WO.pv rfl rfl rfl (PureV.idxN tabOk rfl rfl rfl rfl rfl rfl (by omega)) ?_
      (repeat (first | refine WO.run tabOk rfl rfl ?_ | refine WO.nil ?_ | refine WO.skip rfl rfl rfl ?_ | refine WO.pu tabOk rfl rfl rfl rfl ?_ | refine W.seq ?_ | refine W.region ?_ | refine W.block ?_ | refine W.skip ?_ | refine W.exit ?_))
      obtain ⟨cs, H4⟩ := ((H3.to (i := 2) rfl)).open_row
      have H5 := (((H3.to (i := 2) rfl)).flat_open)
      obtain ⟨hcl, hc1, _⟩ := H5.raw_len
      rcases H5.open_raw with ⟨e1, h, _⟩ | ⟨g', o', cap', cur', e1, H6, hcur, hnc, hcm, hfit⟩
      · omega
      simp only [Value.slice.injEq, Option.some.injEq, Addr.mk.injEq] at e1
      obtain ⟨⟨rfl, rfl, _⟩, _, rfl⟩ := e1
      refine WO.act rfl rfl (OpW.storeB (i := 0) tabOk rfl rfl rfl rfl H6 rfl (by simp [cellsL]; rfl) rfl (by simp [cellsL]; omega) ?_)
      intro w7 H7
      (repeat (first | refine WO.run tabOk rfl rfl ?_ | refine WO.nil ?_ | refine WO.skip rfl rfl rfl ?_ | refine WO.pu tabOk rfl rfl rfl rfl ?_ | refine W.seq ?_ | refine W.region ?_ | refine W.block ?_ | refine W.skip ?_ | refine W.exit ?_))
      refine W.ret (ret0 Try.results84 ⟨_, rfl, ?_⟩)
      have hx2 := (List.getElem?_eq_some_iff.1 hx).1
      have hw := window_splice (xs := [.int .i64 (wishF hs tx mode)]) (k := i * 2 + 1) hcur (by omega) (by simp; omega)
      rw [flat_set hx, ← Nat.add_assoc] at hw
      have H8 := H7.close_raw (sz := 2) (n := hs.length) (o := o) (cap := hc) hnc hcm (by rw [spliceL_len _ _ _ (by simp [cellsL]; omega)]; omega) hw (fun u hu => by
        obtain ⟨y, _, hy⟩ := List.mem_flatMap.1 hu
        simp [encLock] at hy; rcases hy with rfl | rfl <;> rfl)
      rw [show hs.length = (hs.set i (x.1, wishF hs tx mode)).length by simp] at H8
      have H9 := St.flat_close (enc := encLock) (sz := 2) (hl := fun _ => rfl) (h1 := fun x v hv => by simp [encLock] at hv; rcases hv with rfl | rfl <;> rfl) H8
      simp only [List.length_set] at H9
      simp at he
      refine ⟨.slice (some ⟨g, o, none⟩) hs.length hc, ?_⟩
      rw [splice_same k1, giveF, setF_hit hno hx he]
      exact ((H9.to (i := 1) rfl).drop).to (i := 1) rfl
    · (repeat (first | refine WO.run tabOk rfl rfl ?_ | refine WO.nil ?_ | refine WO.skip rfl rfl rfl ?_ | refine WO.pu tabOk rfl rfl rfl rfl ?_ | refine W.seq ?_ | refine W.region ?_ | refine W.block ?_ | refine W.skip ?_ | refine W.exit ?_))
      refine WO.pv rfl rfl rfl (PureV.addN rfl rfl rfl (by omega)) ?_
      (repeat (first | refine WO.run tabOk rfl rfl ?_ | refine WO.nil ?_ | refine WO.skip rfl rfl rfl ?_ | refine WO.pu tabOk rfl rfl rfl rfl ?_ | refine W.seq ?_ | refine W.region ?_ | refine W.block ?_ | refine W.skip ?_ | refine W.exit ?_))
      refine ⟨i + 1, rfl, ⟨by omega, ?_, H3⟩, by omega⟩
      simp at hne
      intro j hj y hy
      rcases Nat.lt_succ_iff_lt_or_eq.1 hj with h | rfl
      · exact hno j h y hy
      · rw [hx] at hy; cases hy; exact hne
  · simp at hge
    (repeat (first | refine WO.run tabOk rfl rfl ?_ | refine WO.nil ?_ | refine WO.skip rfl rfl rfl ?_ | refine WO.pu tabOk rfl rfl rfl rfl ?_ | refine W.seq ?_ | refine W.region ?_ | refine W.block ?_ | refine W.skip ?_ | refine W.exit ?_))
    have hno : ∀ y ∈ hs, y.1 ≠ tx := fun y hy => by
      obtain ⟨j, hj, rfl⟩ := List.mem_iff_getElem.1 hy
      exact hno j (by omega) _ (List.getElem?_eq_getElem hj)
    have H3 := H3.drew
    refine W.regionD [4, 6] (HA [blk bx 142 cur, blk b3 145 [.int .i64 tx, .int .i64 mode]]) [0, 1, 2, 3, 4, 5, 6, 7, 8, 9, 10, 11, 12, 13] rfl (by kernel_rfl) (fun _ _ _ h => h) ?_
    have hA := H3.ha (L := [blk bx 142 cur, blk b3 145 [.int .i64 tx, .int .i64 mode]]) (by simp)
    (repeat (first | refine WD.run tabOk rfl rfl ?_ | refine WD.hv rfl rfl rfl rfl rfl hA (HeldV.load1 tabOk rfl rfl rfl rfl (by (repeat (first | exact .head _ | refine .tail _ ?_))) rfl) ?_ | refine WD.hv rfl rfl rfl rfl rfl hA (HeldV.loadA tabOk rfl rfl rfl rfl (by (repeat (first | exact .head _ | refine .tail _ ?_))) rfl rfl) ?_ | refine WD.pu tabOk rfl rfl rfl rfl rfl rfl ?_))
    refine WD.hv rfl rfl rfl rfl rfl hA (HeldV.loadB tabOk rfl rfl rfl rfl (.head _) k1) ?_
    (repeat (first | refine WD.run tabOk rfl rfl ?_ | refine WD.hv rfl rfl rfl rfl rfl hA (HeldV.load1 tabOk rfl rfl rfl rfl (by (repeat (first | exact .head _ | refine .tail _ ?_))) rfl) ?_ | refine WD.hv rfl rfl rfl rfl rfl hA (HeldV.loadA tabOk rfl rfl rfl rfl (by (repeat (first | exact .head _ | refine .tail _ ?_))) rfl rfl) ?_ | refine WD.pu tabOk rfl rfl rfl rfl rfl rfl ?_))
    refine WD.pv rfl rfl rfl rfl rfl (PureV.build tabOk rfl rfl rfl zero145 rfl) ?_
    refine WD.oneS rfl rfl rfl rfl rfl (OpW.buildSlice tabOk rfl rfl rfl rfl zero145 rfl rfl rfl H3 ?_)
    intro b9 w4 H4
    refine ⟨H4.ha (by simp), ?_⟩
    have hsh := shows_blk (sz := 2) (m := 1) (e := 145) (l := [.int .i64 tx, .int .i64 (wishF hs tx mode)]) H4 (b := b9) (by simp) rfl (by intro u hu; simp at hu; rcases hu with rfl | rfl <;> rfl)
    have H5 := (H4.to (i := 3) rfl).flat_open
    refine WD.oneS rfl rfl rfl rfl rfl (OpW.append tabOk rfl rfl rfl zero145 rfl rfl rfl rfl H5 hsh (by omega) (by simp only [maxLen]; omega) ?_)
    intro v' w5 H6 _
    refine ⟨H6.ha (by simp), ?_⟩
    (repeat (first | refine WD.run tabOk rfl rfl ?_ | refine WD.nil ?_))
    obtain ⟨av', capv', hv'⟩ := H6.raw_len.2.2
    refine WD.act rfl rfl rfl rfl (by kernel_rfl) (OpW.storeB (i := 3) tabOk rfl rfl rfl rfl H6 rfl (by intro u hu; rw [hv'.1] at hu; simp [cellsL] at hu; subst hu; rfl) (by rw [hv'.1]; rfl) (by rw [hv'.1]; simp [cellsL]; omega) ?_)
    intro w6 H7
    (repeat (first | refine WD.run tabOk rfl rfl ?_ | refine WD.nil ?_))
    (repeat (first | refine WO.run tabOk rfl rfl ?_ | refine WO.nil ?_ | refine WO.skip rfl rfl rfl ?_ | refine WO.pu tabOk rfl rfl rfl rfl ?_ | refine W.seq ?_ | refine W.region ?_ | refine W.block ?_ | refine W.skip ?_ | refine W.exit ?_))
    refine ret0n Try.results84 ⟨_, rfl, v', ?_⟩
    rw [giveF, setF_miss hno]
    have e9 : cellsL v' = [v'] := by rw [hv'.1]; rfl
    rw [e9] at H7
    have H8 := H7.to (i := 1) rfl
    have e10 : hs.flatMap encLock ++ [.int .i64 tx, .int .i64 (wishF hs tx mode)] = (hs ++ [(tx, wishF hs tx mode)]).flatMap encLock := by simp [encLock]
    rw [e10, show hs.length + 1 = (hs ++ [(tx, wishF hs tx mode)]).length by simp] at H8
    have H9 := St.flat_close (enc := encLock) (sz := 2) (hl := fun _ => rfl) (h1 := fun x v hv => by simp [encLock] at hv; rcases hv with rfl | rfl <;> rfl) H8
    have H10 := ((((H9.to (i := 2) rfl).drop).to (i := 2) rfl).drop).to (i := 1) rfl
    exact H10
end Go.Proofs.Ytpenbdpgpamcbaa
