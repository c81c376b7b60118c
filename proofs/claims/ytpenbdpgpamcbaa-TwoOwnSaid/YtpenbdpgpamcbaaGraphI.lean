/- wait: Victims, its walk. Conditions: each fact's own premises. -/
import Derived.Test.YtpenbdpgpamcbaaGraphH
set_option linter.unusedVariables false
set_option linter.unusedSimpArgs false
set_option maxRecDepth 20000
namespace Go.Proofs.Ytpenbdpgpamcbaa
open Go Gw
attribute [local irreducible] W WO WD

def VictimsPost (w w' : World) (n : Int) (E : List (Int × Int)) (v : Value) : Prop :=
  ∃ ov e, v = .tuple #[ov, .int .i64 e] ∧ ((e ≠ 0 ∧ ¬ GOk n E ∧ ov = .slice none 0 0 ∧ Pure w w') ∨
    (e = 0 ∧ GOk n E ∧ ∃ vs out : List Nat, Vic E vs ∧ out.Perm vs ∧ St (at0 w) w' [row 3 natR ov out] []))

theorem sorted_last {l : List Nat} (h : l.Pairwise (· ≤ ·)) {b : Nat} (hb : l[l.length - 1]? = some b) : ∀ a ∈ l, a ≤ b := by
  intro a ha
  obtain ⟨i, hi, rfl⟩ := List.mem_iff_getElem.1 ha
  obtain ⟨hj, rfl⟩ := List.getElem?_eq_some_iff.1 hb
  rcases Nat.lt_or_ge i (l.length - 1) with h1 | h1
  · exact List.pairwise_iff_getElem.1 h i _ hi hj h1
  · have e : i = l.length - 1 := by omega
    subst e; exact Nat.le_refl _

theorem victims_ok (w : World) (n : Int) (a : Option Addr) (c : Nat) (E : List (Int × Int)) (hH : Holds w (rd edgeR a c E)) :
    Calls Try.prog 88 #[.int .i64 n, .slice a E.length c] w (Ret fun v w' => VictimsPost w w' n E v) := by
  refine calls_W (args := [_, _]) Try.func88 rfl Try.ntmps88 rfl ?_
  have H0 := St.start [] (w := w) (by simp)
  (repeat (first | refine WO.run tabOk rfl rfl ?_ | refine WO.nil ?_ | refine WO.skip rfl rfl rfl ?_ | refine WO.pu tabOk rfl rfl rfl rfl ?_ | refine W.seq ?_ | refine W.region ?_ | refine W.block ?_ | refine W.skip ?_ | refine W.exit ?_))
  refine WO.one rfl rfl rfl (OpW.call rfl Try.call41 rfl (Calls.ret (gcheck_ok _ n a c E hH) ?_))
  rintro _ w2 ⟨hp2, e, rfl, he⟩
  have H2 := H0.after hp2
  (repeat (first | refine WO.run tabOk rfl rfl ?_ | refine WO.nil ?_ | refine WO.skip rfl rfl rfl ?_ | refine WO.pu tabOk rfl rfl rfl rfl ?_ | refine W.seq ?_ | refine W.region ?_ | refine W.block ?_ | refine W.skip ?_ | refine W.exit ?_))
  refine W.cond rfl (fun h1 => ?_) (fun h1 => ?_)
  · (repeat (first | refine WO.run tabOk rfl rfl ?_ | refine WO.nil ?_ | refine WO.skip rfl rfl rfl ?_ | refine WO.pu tabOk rfl rfl rfl rfl ?_ | refine W.seq ?_ | refine W.region ?_ | refine W.block ?_ | refine W.skip ?_ | refine W.exit ?_))
    simp at h1
    exact W.ret (ret2 Try.results88 rfl rfl ⟨_, rfl, _, _, rfl, .inl ⟨h1, fun h => h1 (he.2 h), rfl, H2.pure⟩⟩)
  simp at h1
  have hG := he.1 h1
  subst h1
  clear he
  have hEl := hG.len
  (repeat (first | refine WO.run tabOk rfl rfl ?_ | refine WO.nil ?_ | refine WO.skip rfl rfl rfl ?_ | refine WO.pu tabOk rfl rfl rfl rfl ?_ | refine W.seq ?_ | refine W.region ?_ | refine W.block ?_ | refine W.skip ?_ | refine W.exit ?_))
  obtain ⟨cs, S, hsh, hseen, _⟩ := (hH.pure hp2).shows
  obtain rfl := seenL_flat hseen
  refine WO.one rfl rfl rfl (OpW.call rfl Try.call116 rfl (Calls.ret (cloneE_ok _ _ _ _ _ hsh (by omega)) ?_))
  intro v3 w3 K3
  have H3 : St (at0 w) w3 [row 71 edgeR v3 E] [] := St.flat_close (H2.take K3)
  clear K3 H2 hp2 H0 hsh hseen
  (repeat (first | refine WO.run tabOk rfl rfl ?_ | refine WO.nil ?_ | refine WO.skip rfl rfl rfl ?_ | refine WO.pu tabOk rfl rfl rfl rfl ?_ | refine W.seq ?_ | refine W.region ?_ | refine W.block ?_ | refine W.skip ?_ | refine W.exit ?_))
  refine W.loopS [0, 7, 8] (fun s : List (Int × Int) × Value × List Nat × Value => [(0, .int .i64 n), (7, s.2.1), (8, s.2.2.2)])
    (fun s w' => GOk n s.1 ∧ s.1.length + s.2.2.1.length ≤ E.length ∧ (∀ vs, Vic s.1 vs → Vic E (s.2.2.1 ++ vs)) ∧ (∀ x ∈ s.2.2.1, x < 1000) ∧ St (at0 w) w' [row 71 edgeR s.2.1 s.1, row 3 natR s.2.2.2 s.2.2.1] []) (fun s => s.1.length) (E, v3, [], .slice none 0 0) rfl ⟨hG, by simp, fun vs h => h, (fun _ h => nomatch h), (H3.add_nil 3 natR).to (i := 1) rfl⟩ ?_
  clear H3
  rintro ⟨L, vl, out, vo⟩ w4 ⟨hGL, hlen, hV, hsm, H⟩
  simp only at hGL hlen hV hsm H
  obtain ⟨k, rfl⟩ := Int.eq_ofNat_of_zero_le hGL.lo
  have hk60 := hGL.hi
  obtain ⟨la, lc, rfl, _⟩ := row_rd (H.holds (A := row 71 edgeR vl L) (by simp))
  (repeat (first | refine WO.run tabOk rfl rfl ?_ | refine WO.nil ?_ | refine WO.skip rfl rfl rfl ?_ | refine WO.pu tabOk rfl rfl rfl rfl ?_ | refine W.seq ?_ | refine W.region ?_ | refine W.block ?_ | refine W.skip ?_ | refine W.exit ?_))
  refine WO.one rfl rfl rfl (OpW.alloc rfl zero3 rfl H ?_); intro b9 w5 H5
  refine WO.act rfl rfl (OpW.storeA (i := 0) tabOk rfl rfl rfl rfl H5 rfl rfl rfl rfl rfl ?_); intro w6 H6
  (repeat (first | refine WO.run tabOk rfl rfl ?_ | refine WO.nil ?_ | refine WO.skip rfl rfl rfl ?_ | refine WO.pu tabOk rfl rfl rfl rfl ?_ | refine W.seq ?_ | refine W.region ?_ | refine W.block ?_ | refine W.skip ?_ | refine W.exit ?_))
  obtain ⟨_, _, e, hLr⟩ := row_rd (H6.holds (A := row 71 edgeR (.slice la L.length lc) L) (by simp))
  simp only [Value.slice.injEq, true_and] at e
  obtain ⟨rfl, rfl⟩ := e
  refine WO.one rfl rfl rfl (OpW.call rfl Try.call117 rfl (Calls.ret (parts_ok w6 (k : Int) la lc L hLr) ?_))
  rintro _ w7 ⟨pv, e, rfl, hpost⟩
  rcases hpost with ⟨_, hno, _⟩ | ⟨rfl, _, p, hp, K7⟩
  · exact absurd hGL hno
  simp only [Int.toNat_natCast] at hp
  have hpc := hp.count
  obtain ⟨pa, pc, rfl, H7⟩ := (H6.take K7).toRead
  clear K7 H6 H5 H hLr
  (repeat (first | refine WO.run tabOk rfl rfl ?_ | refine WO.nil ?_ | refine WO.skip rfl rfl rfl ?_ | refine WO.pu tabOk rfl rfl rfl rfl ?_ | refine W.seq ?_ | refine W.region ?_ | refine W.block ?_ | refine W.skip ?_ | refine W.exit ?_))
  refine W.loopS [0, 7, 8, 9, 29, 30, 31] (fun s : Nat × Int => [(0, .int .i64 (k : Int)), (7, .slice la L.length lc), (8, vo), (9, .pointer (some ⟨b9, 0, none⟩)), (29, .slice pa p.length pc), (30, .int .i64 (p.length : Int)), (31, .int .i64 (s.1 : Int))])
    (fun s w' => s.1 ≤ p.length ∧ WInv L p s.1 s.2 ∧ St (at0 w) w' [blk b9 3 [.int .i64 s.2], row 71 edgeR (.slice la L.length lc) L, row 3 natR vo out] [rd (Rdr.rd natR) pa pc p]) (fun s => p.length - s.1) (0, -1) rfl ⟨Nat.zero_le _, WInv.start L p, H7⟩ ?_
  clear H7
  rintro ⟨i, wo⟩ w8 ⟨hi, hW, H⟩
  simp only at hi hW H
  (repeat (first | refine WO.run tabOk rfl rfl ?_ | refine WO.nil ?_ | refine WO.skip rfl rfl rfl ?_ | refine WO.pu tabOk rfl rfl rfl rfl ?_ | refine W.seq ?_ | refine W.region ?_ | refine W.block ?_ | refine W.skip ?_ | refine W.exit ?_))
  refine W.cond rfl (fun hlt => ?_) (fun hge => ?_)
  · have hlt : i < p.length := by simpa using hlt
    have hl := List.getElem?_eq_getElem hlt
    generalize p[i] = l at hl
    have hlm : l ∈ p := List.mem_of_getElem? hl
    obtain ⟨hlne, hls⟩ := hp.ne l hlm
    have hlpos := List.length_pos_iff.2 hlne
    have hall : ∀ x ∈ l, x < k := fun x hx => (hp.mem x).1 (List.mem_flatten.2 ⟨l, hlm, hx⟩)
    have hll : l.length ≤ k := nodup_lt_len (hp.nodup hlm) hall
    obtain ⟨tb, tof, a1, c1, rfl, hcell, H1⟩ := H.roSub (List.mem_cons_self ..) hl
    have hR := H1.holds (A := rd natR a1 c1 l) (by simp)
    obtain ⟨lb, lo, rfl⟩ := hR.addr hlpos
    have hf := List.getElem?_eq_getElem hlpos
    have hz := List.getElem?_eq_getElem (l := l) (i := l.length - 1) (by omega)
    generalize l[0] = f at hf
    generalize l[l.length - 1]'_ = z at hz
    have hzm := List.mem_of_getElem? hz
    have hzk := hall z hzm
    have hmax := sorted_last hls hz
    clear H
    (repeat (first | refine WO.run tabOk rfl rfl ?_ | refine WO.nil ?_ | refine WO.skip rfl rfl rfl ?_ | refine WO.pu tabOk rfl rfl rfl rfl ?_ | refine W.seq ?_ | refine W.region ?_ | refine W.block ?_ | refine W.skip ?_ | refine W.exit ?_))
    refine WO.pv rfl rfl rfl (PureV.idxN tabOk rfl rfl rfl rfl rfl rfl (by omega)) ?_
    refine WO.one rfl rfl rfl (OpW.loadc tabOk rfl rfl rfl rfl hcell ?_)
    refine WO.one rfl rfl rfl (OpW.alloc rfl zero31 rfl H1 ?_); intro b13 w9 H9
    refine WO.act rfl rfl (OpW.storeA (i := 0) tabOk rfl rfl rfl rfl H9 rfl rfl rfl rfl rfl ?_); intro w10 H10
    (repeat (first | refine WO.run tabOk rfl rfl ?_ | refine WO.nil ?_ | refine WO.skip rfl rfl rfl ?_ | refine WO.pu tabOk rfl rfl rfl rfl ?_ | refine W.seq ?_ | refine W.region ?_ | refine W.block ?_ | refine W.skip ?_ | refine W.exit ?_))
    obtain ⟨_, _, e, hLr⟩ := row_rd (H10.holds (A := row 71 edgeR (.slice la L.length lc) L) (by simp))
    simp only [Value.slice.injEq, true_and] at e
    obtain ⟨rfl, rfl⟩ := e
    have hB : Holds w10 (blk b13 31 [.slice (some ⟨lb, lo, none⟩) l.length c1]) := H10.holds (by simp)
    have hR10 : Holds w10 (rd natR (some ⟨lb, lo, none⟩) c1 l) := H10.holds (by simp)
    refine WO.one rfl rfl rfl (OpW.call rfl Try.call118 rfl (Calls.ret (hasFE_ok w10 la lc L hLr 119 #[.pointer (some ⟨b13, 0, none⟩)] _ Try.call119
      (fun x hx w' hp => vic1_ok w' x b13 (some ⟨lb, lo, none⟩) c1 l f hf (hB.pure hp) (hR10.pure hp))) ?_))
    rintro _ w11 ⟨hp11, rfl⟩
    have H11 := H10.after hp11
    have hself : (L.any fun x => decide (x.1 = x.2) && decide (x.1 = (f : Int))) = true ↔ ((f : Int), (f : Int)) ∈ L := by
      rw [List.any_eq_true]
      constructor
      · rintro ⟨⟨x1, x2⟩, hx, h⟩
        simp at h
        obtain ⟨rfl, rfl⟩ := h; exact hx
      · intro h; exact ⟨_, h, by simp⟩
    clear hR hR10 hB hLr H9 H10 H1 hp11
    (repeat (first | refine WO.run tabOk rfl rfl ?_ | refine WO.nil ?_ | refine WO.skip rfl rfl rfl ?_ | refine WO.pu tabOk rfl rfl rfl rfl ?_ | refine W.seq ?_ | refine W.region ?_ | refine W.block ?_ | refine W.skip ?_ | refine W.exit ?_ | refine WO.one rfl rfl rfl (OpW.load1 tabOk rfl rfl rfl rfl H11 (by (repeat (first | exact .head _ | refine .tail _ ?_))) rfl ?_)))
    refine WO.caseG rfl rfl (fun g1 => ?_) (fun g1 => ?_)
    · have hnt : NT L l := .inl (by simp at g1; omega)
      (repeat (first | refine WO.run tabOk rfl rfl ?_ | refine WO.nil ?_ | refine WO.skip rfl rfl rfl ?_ | refine WO.pu tabOk rfl rfl rfl rfl ?_ | refine W.seq ?_ | refine W.region ?_ | refine W.block ?_ | refine W.skip ?_ | refine W.exit ?_))
      refine W.cond_t rfl ?_
      (repeat (first | refine WO.run tabOk rfl rfl ?_ | refine WO.nil ?_ | refine WO.skip rfl rfl rfl ?_ | refine WO.pu tabOk rfl rfl rfl rfl ?_ | refine W.seq ?_ | refine W.region ?_ | refine W.block ?_ | refine W.skip ?_ | refine W.exit ?_))
      have H12 := H11.drew
      have hA := H12.ha (L := [blk b9 3 [.int .i64 wo], blk b13 31 [.slice (some ⟨lb, lo, none⟩) l.length c1], rd natR (some ⟨lb, lo, none⟩) c1 l]) (by simp)
      refine W.regionD [0, 1, 2, 6] (HA [blk b9 3 [.int .i64 wo], blk b13 31 [.slice (some ⟨lb, lo, none⟩) l.length c1], rd natR (some ⟨lb, lo, none⟩) c1 l]) [0, 1, 2, 3, 4, 5, 6, 7, 8] rfl (by kernel_rfl) (fun _ _ _ h => h) ?_
      (repeat (first | refine WD.run tabOk rfl rfl ?_ | refine WD.hv rfl rfl rfl rfl rfl hA (HeldV.load1 tabOk rfl rfl rfl rfl (by (repeat (first | exact .head _ | refine .tail _ ?_))) rfl) ?_ | refine WD.hv rfl rfl rfl rfl rfl hA (HeldV.loadA tabOk rfl rfl rfl rfl (by (repeat (first | exact .head _ | refine .tail _ ?_))) rfl rfl) ?_ | refine WD.pu tabOk rfl rfl rfl rfl rfl rfl ?_))
      refine WD.pv rfl rfl rfl rfl rfl (PureV.subN rfl rfl rfl hlpos (by omega)) ?_
      (repeat (first | refine WD.run tabOk rfl rfl ?_ | refine WD.hv rfl rfl rfl rfl rfl hA (HeldV.load1 tabOk rfl rfl rfl rfl (by (repeat (first | exact .head _ | refine .tail _ ?_))) rfl) ?_ | refine WD.hv rfl rfl rfl rfl rfl hA (HeldV.loadA tabOk rfl rfl rfl rfl (by (repeat (first | exact .head _ | refine .tail _ ?_))) rfl rfl) ?_ | refine WD.pu tabOk rfl rfl rfl rfl rfl rfl ?_))
      refine WD.pv rfl rfl rfl rfl rfl (PureV.idxN tabOk rfl rfl rfl rfl rfl rfl (by omega)) ?_
      refine WD.hv rfl rfl rfl rfl rfl hA (HeldV.elem1 (i := l.length - 1) (j := 0) tabOk rfl rfl rfl rfl (.tail _ (.tail _ (.head _))) hz rfl rfl) ?_
      (repeat (first | refine WD.run tabOk rfl rfl ?_ | refine WD.hv rfl rfl rfl rfl rfl hA (HeldV.load1 tabOk rfl rfl rfl rfl (by (repeat (first | exact .head _ | refine .tail _ ?_))) rfl) ?_ | refine WD.hv rfl rfl rfl rfl rfl hA (HeldV.loadA tabOk rfl rfl rfl rfl (by (repeat (first | exact .head _ | refine .tail _ ?_))) rfl rfl) ?_ | refine WD.pu tabOk rfl rfl rfl rfl rfl rfl ?_))
      refine WD.act rfl rfl rfl rfl (by kernel_rfl) (OpW.storeB (i := 1) tabOk rfl rfl rfl rfl H12 rfl (v := .int .i64 (max wo (z : Int))) (by intro u hu; simp [cellsL] at hu; subst hu; rfl) rfl (by simp [cellsL]) ?_)
      intro w13 H13
      (repeat (first | refine WD.run tabOk rfl rfl ?_ | refine WD.nil ?_))
      (repeat (first | refine WO.run tabOk rfl rfl ?_ | refine WO.nil ?_ | refine WO.skip rfl rfl rfl ?_ | refine WO.pu tabOk rfl rfl rfl rfl ?_ | refine W.seq ?_ | refine W.region ?_ | refine W.block ?_ | refine W.skip ?_ | refine W.exit ?_))
      refine WO.pv rfl rfl rfl (PureV.addN (n := i) rfl rfl rfl (by omega)) ?_
      (repeat (first | refine WO.run tabOk rfl rfl ?_ | refine WO.nil ?_ | refine WO.skip rfl rfl rfl ?_ | refine WO.pu tabOk rfl rfl rfl rfl ?_ | refine W.seq ?_ | refine W.region ?_ | refine W.block ?_ | refine W.skip ?_ | refine W.exit ?_))
      exact ⟨(i + 1, max wo (z : Int)), rfl, ⟨by simp only; omega, hW.take hl hnt hzm hmax, ((H13.bring [0, 2, 3] rfl).bring [3] rfl).drop.ro (by simp)⟩, by simp only; omega⟩

    · (repeat (first | refine WO.run tabOk rfl rfl ?_ | refine WO.nil ?_ | refine WO.skip rfl rfl rfl ?_ | refine WO.pu tabOk rfl rfl rfl rfl ?_ | refine W.seq ?_ | refine W.region ?_ | refine W.block ?_ | refine W.skip ?_ | refine W.exit ?_))
      refine W.cond rfl (fun g2 => ?_) (fun g2 => ?_)
      · have hnt : NT L l := .inr ⟨f, hf, hself.1 (by simpa [pickV] using g2)⟩
        (repeat (first | refine WO.run tabOk rfl rfl ?_ | refine WO.nil ?_ | refine WO.skip rfl rfl rfl ?_ | refine WO.pu tabOk rfl rfl rfl rfl ?_ | refine W.seq ?_ | refine W.region ?_ | refine W.block ?_ | refine W.skip ?_ | refine W.exit ?_))
        have H12 := H11.drew
        have hA := H12.ha (L := [blk b9 3 [.int .i64 wo], blk b13 31 [.slice (some ⟨lb, lo, none⟩) l.length c1], rd natR (some ⟨lb, lo, none⟩) c1 l]) (by simp)
        refine W.regionD [0, 1, 2, 6] (HA [blk b9 3 [.int .i64 wo], blk b13 31 [.slice (some ⟨lb, lo, none⟩) l.length c1], rd natR (some ⟨lb, lo, none⟩) c1 l]) [0, 1, 2, 3, 4, 5, 6, 7, 8] rfl (by kernel_rfl) (fun _ _ _ h => h) ?_
        (repeat (first | refine WD.run tabOk rfl rfl ?_ | refine WD.hv rfl rfl rfl rfl rfl hA (HeldV.load1 tabOk rfl rfl rfl rfl (by (repeat (first | exact .head _ | refine .tail _ ?_))) rfl) ?_ | refine WD.hv rfl rfl rfl rfl rfl hA (HeldV.loadA tabOk rfl rfl rfl rfl (by (repeat (first | exact .head _ | refine .tail _ ?_))) rfl rfl) ?_ | refine WD.pu tabOk rfl rfl rfl rfl rfl rfl ?_))
        refine WD.pv rfl rfl rfl rfl rfl (PureV.subN rfl rfl rfl hlpos (by omega)) ?_
        (repeat (first | refine WD.run tabOk rfl rfl ?_ | refine WD.hv rfl rfl rfl rfl rfl hA (HeldV.load1 tabOk rfl rfl rfl rfl (by (repeat (first | exact .head _ | refine .tail _ ?_))) rfl) ?_ | refine WD.hv rfl rfl rfl rfl rfl hA (HeldV.loadA tabOk rfl rfl rfl rfl (by (repeat (first | exact .head _ | refine .tail _ ?_))) rfl rfl) ?_ | refine WD.pu tabOk rfl rfl rfl rfl rfl rfl ?_))
        refine WD.pv rfl rfl rfl rfl rfl (PureV.idxN tabOk rfl rfl rfl rfl rfl rfl (by omega)) ?_
        refine WD.hv rfl rfl rfl rfl rfl hA (HeldV.elem1 (i := l.length - 1) (j := 0) tabOk rfl rfl rfl rfl (.tail _ (.tail _ (.head _))) hz rfl rfl) ?_
        (repeat (first | refine WD.run tabOk rfl rfl ?_ | refine WD.hv rfl rfl rfl rfl rfl hA (HeldV.load1 tabOk rfl rfl rfl rfl (by (repeat (first | exact .head _ | refine .tail _ ?_))) rfl) ?_ | refine WD.hv rfl rfl rfl rfl rfl hA (HeldV.loadA tabOk rfl rfl rfl rfl (by (repeat (first | exact .head _ | refine .tail _ ?_))) rfl rfl) ?_ | refine WD.pu tabOk rfl rfl rfl rfl rfl rfl ?_))
        refine WD.act rfl rfl rfl rfl (by kernel_rfl) (OpW.storeB (i := 1) tabOk rfl rfl rfl rfl H12 rfl (v := .int .i64 (max wo (z : Int))) (by intro u hu; simp [cellsL] at hu; subst hu; rfl) rfl (by simp [cellsL]) ?_)
        intro w13 H13
        (repeat (first | refine WD.run tabOk rfl rfl ?_ | refine WD.nil ?_))
        (repeat (first | refine WO.run tabOk rfl rfl ?_ | refine WO.nil ?_ | refine WO.skip rfl rfl rfl ?_ | refine WO.pu tabOk rfl rfl rfl rfl ?_ | refine W.seq ?_ | refine W.region ?_ | refine W.block ?_ | refine W.skip ?_ | refine W.exit ?_))
        refine WO.pv rfl rfl rfl (PureV.addN (n := i) rfl rfl rfl (by omega)) ?_
        (repeat (first | refine WO.run tabOk rfl rfl ?_ | refine WO.nil ?_ | refine WO.skip rfl rfl rfl ?_ | refine WO.pu tabOk rfl rfl rfl rfl ?_ | refine W.seq ?_ | refine W.region ?_ | refine W.block ?_ | refine W.skip ?_ | refine W.exit ?_))
        exact ⟨(i + 1, max wo (z : Int)), rfl, ⟨by simp only; omega, hW.take hl hnt hzm hmax, ((H13.bring [0, 2, 3] rfl).bring [3] rfl).drop.ro (by simp)⟩, by simp only; omega⟩

      · have hnt : ¬ NT L l := by
          rintro (h | ⟨a, ha, he⟩)
          · rw [decide_eq_false_iff_not] at g1; omega
          · rw [hf] at ha; cases ha
            have := hself.2 he
            have g2 : (L.any fun x => decide (x.1 = x.2) && decide (x.1 = (f : Int))) = false := g2
            rw [this] at g2; cases g2
        (repeat (first | refine WO.run tabOk rfl rfl ?_ | refine WO.nil ?_ | refine WO.skip rfl rfl rfl ?_ | refine WO.pu tabOk rfl rfl rfl rfl ?_ | refine W.seq ?_ | refine W.region ?_ | refine W.block ?_ | refine W.skip ?_ | refine W.exit ?_))
        refine WO.pv rfl rfl rfl (PureV.addN (n := i) rfl rfl rfl (by omega)) ?_
        (repeat (first | refine WO.run tabOk rfl rfl ?_ | refine WO.nil ?_ | refine WO.skip rfl rfl rfl ?_ | refine WO.pu tabOk rfl rfl rfl rfl ?_ | refine W.seq ?_ | refine W.region ?_ | refine W.block ?_ | refine W.skip ?_ | refine W.exit ?_))
        exact ⟨(i + 1, wo), rfl, ⟨by simp only; omega, hW.skip hl hnt, H11.drop.ro (by simp)⟩, by simp only; omega⟩
  have hip : i = p.length := by simp at hge; omega
  subst hip
  have H := H.ro (Ro' := []) (fun A hA => nomatch hA)
  (repeat (first | refine WO.run tabOk rfl rfl ?_ | refine WO.nil ?_ | refine WO.skip rfl rfl rfl ?_ | refine WO.pu tabOk rfl rfl rfl rfl ?_ | refine W.seq ?_ | refine W.region ?_ | refine W.block ?_ | refine W.skip ?_ | refine W.exit ?_ | refine WO.one rfl rfl rfl (OpW.load1 tabOk rfl rfl rfl rfl H (by (repeat (first | exact .head _ | refine .tail _ ?_))) rfl ?_)))
  refine W.cond rfl (fun hneg => ?_) (fun hpos => ?_)
  · have hneg : wo < 0 := by simpa using hneg
    (repeat (first | refine WO.run tabOk rfl rfl ?_ | refine WO.nil ?_ | refine WO.skip rfl rfl rfl ?_ | refine WO.pu tabOk rfl rfl rfl rfl ?_ | refine W.seq ?_ | refine W.region ?_ | refine W.block ?_ | refine W.skip ?_ | refine W.exit ?_))
    refine WO.one rfl rfl rfl (OpW.call rfl Try.call56 rfl (Calls.ret (sort_row sh.slices_Sort_int sh.slices_Sort_int_none (H.to (i := 2) rfl) (by omega)) ?_))
    rintro _ w10 ⟨rfl, ys, hperm, _, H10⟩
    (repeat (first | refine WO.run tabOk rfl rfl ?_ | refine WO.nil ?_ | refine WO.skip rfl rfl rfl ?_ | refine WO.pu tabOk rfl rfl rfl rfl ?_ | refine W.seq ?_ | refine W.region ?_ | refine W.block ?_ | refine W.skip ?_ | refine W.exit ?_))
    have hv := hV [] (.done (hW.none hGL hp hneg))
    rw [List.append_nil] at hv
    exact W.ret (ret2 Try.results88 rfl rfl ⟨_, rfl, _, _, rfl, .inr ⟨rfl, hG, out, ys, hv, hperm, H10.first⟩⟩)
  · have hpos : 0 ≤ wo := by simpa using hpos
    obtain ⟨x, rfl⟩ := Int.eq_ofNat_of_zero_le hpos
    have hwst := hW.worst hGL hp hpos
    simp only [Int.toNat_natCast] at hwst
    have hlt := without_lt hwst
    have hxk : x < k := by
      obtain ⟨c, h1, _⟩ := hwst.on
      have := (hGL.ok _ h1).2.1; simp at this; omega
    (repeat (first | refine WO.run tabOk rfl rfl ?_ | refine WO.nil ?_ | refine WO.skip rfl rfl rfl ?_ | refine WO.pu tabOk rfl rfl rfl rfl ?_ | refine W.seq ?_ | refine W.region ?_ | refine W.block ?_ | refine W.skip ?_ | refine W.exit ?_ | refine WO.one rfl rfl rfl (OpW.load1 tabOk rfl rfl rfl rfl H (by (repeat (first | exact .head _ | refine .tail _ ?_))) rfl ?_)))
    refine WO.one rfl rfl rfl (OpW.buildSlice tabOk rfl rfl rfl rfl zero3 rfl rfl (l := [.int .i64 (x : Int)]) rfl H ?_)
    intro b15 w10 H10
    have hsh := shows_blk (sz := 1) (m := 1) (e := 3) (l := [.int .i64 (x : Int)]) H10 (b := b15) (by simp) rfl (by intro u hu; simp at hu; subst hu; rfl)
    have H11 := (H10.to (i := 3) rfl).nat_open
    refine WO.one rfl rfl rfl (OpW.append tabOk rfl rfl rfl zero3 rfl rfl rfl rfl H11 hsh (by omega) (by simp only [maxLen]; omega) ?_)
    intro vo2 w11 H12 _
    have e1 : out.flatMap encN ++ [.int .i64 (x : Int)] = (out ++ [x]).flatMap encN := by simp [encN]
    have e2 : out.length + 1 = (out ++ [x]).length := by simp
    rw [e1, e2] at H12
    have H13 := (H12.nat_close.bring [3, 2, 0] rfl).bring [0, 1, 2] rfl
    (repeat (first | refine WO.run tabOk rfl rfl ?_ | refine WO.nil ?_ | refine WO.skip rfl rfl rfl ?_ | refine WO.pu tabOk rfl rfl rfl rfl ?_ | refine W.seq ?_ | refine W.region ?_ | refine W.block ?_ | refine W.skip ?_ | refine W.exit ?_))
    refine WO.one rfl rfl rfl (OpW.call rfl Try.call120 rfl (Calls.ret (delFE_ok _ _ _ _ _ L H13 121 #[.pointer (some ⟨b9, 0, none⟩)] _ Try.call121 fun y w' A hA => vic2_ok w' y b9 (x : Int) (hA.holds (by simp))) ?_))
    intro vl2 w12 H14
    (repeat (first | refine WO.run tabOk rfl rfl ?_ | refine WO.nil ?_ | refine WO.skip rfl rfl rfl ?_ | refine WO.pu tabOk rfl rfl rfl rfl ?_ | refine W.seq ?_ | refine W.region ?_ | refine W.block ?_ | refine W.skip ?_ | refine W.exit ?_))
    refine ⟨(without L x, vl2, out ++ [x], vo2), rfl, ⟨hGL.sub (without_sub L x), by simp; omega, fun vs h => ?_, fun y hy => ?_, ?_⟩, hlt⟩
    · rw [List.append_assoc]; exact hV _ (.more hwst h)
    · rcases List.mem_append.1 hy with hy | hy
      · exact hsm y hy
      · simp at hy; subst hy; omega
    · exact (H14.bring [1, 3] rfl).drop.drop
end Go.Proofs.Ytpenbdpgpamcbaa
