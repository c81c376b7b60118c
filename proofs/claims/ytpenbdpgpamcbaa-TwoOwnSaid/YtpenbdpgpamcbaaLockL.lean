/- lock: Waits. -/
import Derived.Test.YtpenbdpgpamcbaaLockK
set_option linter.unusedVariables false
set_option linter.unusedSimpArgs false
set_option maxRecDepth 20000
namespace Go.Proofs.Ytpenbdpgpamcbaa
open Go Gw
attribute [local irreducible] W WO WD

/-! ### A matrix of twelve by twelve -/
def mat (f : Nat → Nat → Bool) : List Value := (List.range 144).map fun k => .bool (f (k / 12) (k % 12))
def upd (f : Nat → Nat → Bool) (a b : Nat) (v : Bool) : Nat → Nat → Bool := fun i j => if i = a ∧ j = b then v else f i j
theorem mat_len (f : Nat → Nat → Bool) : (mat f).length = 144 := by simp [mat]
theorem mat_get (f : Nat → Nat → Bool) {a b : Nat} (ha : a < 12) (hb : b < 12) : (mat f)[a * 12 + b]? = some (.bool (f a b)) := by
  simp only [mat, List.getElem?_map]
  rw [List.getElem?_range (by omega)]
  simp only [Option.map_some]
  rw [show (a * 12 + b) / 12 = a by omega, show (a * 12 + b) % 12 = b by omega]
theorem mat_set (f : Nat → Nat → Bool) {a b : Nat} (v : Bool) (ha : a < 12) (hb : b < 12) : spliceL (mat f) (a * 12 + b) [.bool v] = mat (upd f a b v) := by
  rw [splice_one (by rw [mat_len]; omega)]
  apply List.ext_getElem?
  intro k
  rw [List.getElem?_set, mat_len]
  by_cases hk : k < 144
  · have e : (mat (upd f a b v))[k]? = some (.bool (upd f a b v (k / 12) (k % 12))) := by
      simp only [mat, List.getElem?_map]; rw [List.getElem?_range hk]; rfl
    have e2 : (mat f)[k]? = some (.bool (f (k / 12) (k % 12))) := by
      simp only [mat, List.getElem?_map]; rw [List.getElem?_range hk]; rfl
    rw [e, e2]
    by_cases h : a * 12 + b = k
    · rw [if_pos h, if_pos (by omega), upd, if_pos (by omega)]
    · rw [if_neg h, upd, if_neg (by omega)]
  · rw [if_neg (by omega)]
    rw [List.getElem?_eq_none (by rw [mat_len]; omega), List.getElem?_eq_none (by rw [mat_len]; omega)]

theorem mat_congr {f g : Nat → Nat → Bool} (h : ∀ a b, f a b = g a b) : mat f = mat g := by
  rw [show f = g from funext fun a => funext fun b => h a b]

/-- Who waits for whom: by an item. -/
def heldE (x : Item) (w : Int × Int) (b : Nat) (h : Int × Int) : Bool := decide (h.1 = b) && (decide (h.1 ≠ w.1) && clashF (wishF x.2.1 w.1 w.2) h.2)
def rowE (x : Item) (w : Int × Int) (i b : Nat) : Bool := x.2.1.any (heldE x w b) || (x.2.2.take i).any fun v => decide (v.1 = b)
def queueE (x : Item) (n a b : Nat) : Bool := (List.range n).any fun i => match x.2.2[i]? with
  | some w => decide (w.1 = a) && rowE x w i b
  | none => false
def itemE (x : Item) (a b : Nat) : Bool := queueE x x.2.2.length a b
def edgeE (t : List Item) (a b : Nat) : Bool := t.any fun x => itemE x a b
def edgesUp (E : Nat → Nat → Bool) (n : Nat) : List (Int × Int) := (List.range n).filterMap fun k => if E (k / 12) (k % 12) then some (((k / 12 : Nat) : Int), ((k % 12 : Nat) : Int)) else none
def waitsF (t : List Item) : List (Int × Int) := edgesUp (edgeE t) 144
theorem edgesUp_step (E : Nat → Nat → Bool) {a b : Nat} (hb : b < 12) : edgesUp E (a * 12 + b + 1) = edgesUp E (a * 12 + b) ++ (if E a b then [((a : Int), (b : Int))] else []) := by
  rw [edgesUp, List.range_succ, List.filterMap_append]
  have h1 : (a * 12 + b) / 12 = a := by omega
  have h2 : (a * 12 + b) % 12 = b := by omega
  simp only [List.filterMap_cons, List.filterMap_nil, h1, h2]
  split <;> rename_i h
  · split at h
    · cases h
    · rename_i h'; simp [edgesUp, h']
  · split at h
    · rename_i h'; cases h; simp [edgesUp, h']
    · cases h
theorem edgesUp_len (E : Nat → Nat → Bool) (n : Nat) : (edgesUp E n).length ≤ n := by
  have := List.length_filterMap_le (fun k => if E (k / 12) (k % 12) then some (((k / 12 : Nat) : Int), ((k % 12 : Nat) : Int)) else none) (List.range n)
  rwa [List.length_range] at this

/-- The matrix within the loop over who holds, and within that over who waits ahead. -/
def accE (E : Nat → Nat → Bool) (x : Item) (n : Nat) (q : Int × Int) (j : Nat) : Nat → Nat → Bool := fun a b => (E a b || queueE x n a b) || (decide (q.1 = a) && (x.2.1.take j).any (heldE x q b))
def accQ (E : Nat → Nat → Bool) (x : Item) (n : Nat) (q : Int × Int) (j : Nat) : Nat → Nat → Bool := fun a b => accE E x n q x.2.1.length a b || (decide (q.1 = a) && (x.2.2.take j).any fun v => decide (v.1 = b))
theorem accE_zero (E : Nat → Nat → Bool) (x : Item) (n : Nat) (q : Int × Int) : accE E x n q 0 = fun a b => E a b || queueE x n a b := by
  funext a b; simp [accE]
theorem accQ_zero (E : Nat → Nat → Bool) (x : Item) (n : Nat) (q : Int × Int) : accQ E x n q 0 = accE E x n q x.2.1.length := by
  funext a b; simp [accQ]
theorem accE_step {E : Nat → Nat → Bool} {x : Item} {n : Nat} {q y : Int × Int} {j : Nat} (hy : x.2.1[j]? = some y) (hq0 : 0 ≤ q.1) (hy0 : 0 ≤ y.1) :
    upd (accE E x n q j) q.1.toNat y.1.toNat (accE E x n q j q.1.toNat y.1.toNat || (decide (y.1 ≠ q.1) && clashF (wishF x.2.1 q.1 q.2) y.2)) = accE E x n q (j + 1) := by
  funext a b
  simp only [upd, accE]
  rw [take_snoc hy, List.any_append]
  split
  · rename_i h
    obtain ⟨rfl, rfl⟩ := h
    have e1 : decide (q.1 = ((q.1.toNat : Nat) : Int)) = true := by simp; omega
    have e2 : decide (y.1 = ((y.1.toNat : Nat) : Int)) = true := by simp; omega
    simp only [e1, List.any_cons, List.any_nil, Bool.or_false, Bool.true_and, heldE, e2, Bool.or_assoc]
  · rename_i h
    by_cases ha : q.1 = (a : Int)
    · have hb : ¬ y.1 = (b : Int) := fun hb => h ⟨by omega, by omega⟩
      simp [heldE, hb]
    · simp [ha]
theorem accQ_step {E : Nat → Nat → Bool} {x : Item} {n : Nat} {q y : Int × Int} {j : Nat} (hy : x.2.2[j]? = some y) (hq0 : 0 ≤ q.1) (hy0 : 0 ≤ y.1) :
    upd (accQ E x n q j) q.1.toNat y.1.toNat true = accQ E x n q (j + 1) := by
  funext a b
  simp only [upd, accQ]
  rw [take_snoc hy, List.any_append]
  split
  · rename_i h
    obtain ⟨rfl, rfl⟩ := h
    have e1 : decide (q.1 = ((q.1.toNat : Nat) : Int)) = true := by simp; omega
    have e2 : decide (y.1 = ((y.1.toNat : Nat) : Int)) = true := by simp; omega
    simp only [e1, List.any_cons, e2, Bool.true_or, Bool.or_true, Bool.true_and]
  · rename_i h
    by_cases ha : q.1 = (a : Int)
    · have hb : ¬ y.1 = (b : Int) := fun hb => h ⟨by omega, by omega⟩
      simp [hb]
    · simp [ha]
theorem accQ_end {E : Nat → Nat → Bool} {x : Item} {n : Nat} {q : Int × Int} (hq : x.2.2[n]? = some q) : accQ E x n q n = fun a b => E a b || queueE x (n + 1) a b := by
  funext a b
  simp only [accQ, accE, queueE, List.range_succ, List.any_append, List.any_cons, List.any_nil, hq, rowE, List.take_length, Bool.or_false]
  cases E a b <;> cases decide (q.1 = (a : Int)) <;> simp only [Bool.or_assoc, Bool.true_or, Bool.false_or, Bool.true_and, Bool.false_and, Bool.or_false]

def WaitsPost (w w' : World) (t : List Item) (v : Value) : Prop :=
  ∃ ev e, v = .tuple #[ev, .int .i64 e] ∧ ((e ≠ 0 ∧ ¬ Valid t ∧ ev = .slice none 0 0 ∧ Pure w w') ∨ (e = 0 ∧ Valid t ∧ St (at0 w) w' [row 71 lockR ev (waitsF t)] []))

theorem valid_tx {t : List Item} (hv : Valid t) {x : Item} (hm : x ∈ t) : (∀ h ∈ x.2.1, 0 ≤ h.1 ∧ h.1 < 12) ∧ (∀ h ∈ x.2.2, 0 ≤ h.1 ∧ h.1 < 12) := by
  have hl := (hv.ok x hm).line
  simp only [lineF, Bool.and_eq_true] at hl
  have key : ∀ {l : List (Int × Int)}, okSide l = true → ∀ h ∈ l, 0 ≤ h.1 ∧ h.1 < 12 := fun hl h hh => by
    simp only [okSide, Bool.and_eq_true, decide_eq_true_eq, List.all_eq_true] at hl
    exact (hl.1 h hh).1
  exact ⟨key hl.1.1.1, key hl.1.2⟩

theorem waits_ok (w : World) (a : Option Addr) (c : Nat) (t : List Item) (hH : Holds w (rd itemS a c t)) :
    Calls Try.prog 87 #[.slice a t.length c] w (Ret fun v w' => WaitsPost w w' t v) := by
  refine calls_W (args := [_]) Try.func87 rfl Try.ntmps87 rfl ?_
  have H0 := St.start [] (w := w) (by simp)
  (repeat (first | refine WO.run tabOk rfl rfl ?_ | refine WO.nil ?_ | refine WO.skip rfl rfl rfl ?_ | refine WO.pu tabOk rfl rfl rfl rfl ?_ | refine W.seq ?_ | refine W.region ?_ | refine W.block ?_ | refine W.skip ?_ | refine W.exit ?_))
  refine WO.one rfl rfl rfl (OpW.call rfl Try.call74 rfl (Calls.ret (check_ok _ a c t hH) ?_))
  rintro _ w2 ⟨hp2, e, rfl, he⟩
  have H2 := H0.after hp2
  (repeat (first | refine WO.run tabOk rfl rfl ?_ | refine WO.nil ?_ | refine WO.skip rfl rfl rfl ?_ | refine WO.pu tabOk rfl rfl rfl rfl ?_ | refine W.seq ?_ | refine W.region ?_ | refine W.block ?_ | refine W.skip ?_ | refine W.exit ?_))
  refine W.cond rfl (fun h1 => ?_) (fun h1 => ?_)
  · (repeat (first | refine WO.run tabOk rfl rfl ?_ | refine WO.nil ?_ | refine WO.skip rfl rfl rfl ?_ | refine WO.pu tabOk rfl rfl rfl rfl ?_ | refine W.seq ?_ | refine W.region ?_ | refine W.block ?_ | refine W.skip ?_ | refine W.exit ?_))
    simp at h1
    exact W.ret (ret2 Try.results87 rfl rfl ⟨_, rfl, _, _, rfl, .inl ⟨h1, fun h => h1 (he.2 h), rfl, H2.pure⟩⟩)
  simp at h1
  have hv := he.1 h1
  have hlen := hv.len
  subst h1
  clear he
  (repeat (first | refine WO.run tabOk rfl rfl ?_ | refine WO.nil ?_ | refine WO.skip rfl rfl rfl ?_ | refine WO.pu tabOk rfl rfl rfl rfl ?_ | refine W.seq ?_ | refine W.region ?_ | refine W.block ?_ | refine W.skip ?_ | refine W.exit ?_))
  refine WO.one rfl rfl rfl (OpW.alloc (l := mat (edgeE (t.take 0))) rfl zero179 (by rw [laid_eq]; rfl) H2 ?_); intro b5 w3 H3
  (repeat (first | refine WO.run tabOk rfl rfl ?_ | refine WO.nil ?_ | refine WO.skip rfl rfl rfl ?_ | refine WO.pu tabOk rfl rfl rfl rfl ?_ | refine W.seq ?_ | refine W.region ?_ | refine W.block ?_ | refine W.skip ?_ | refine W.exit ?_))
  refine W.loopS [2, 3, 5, 23, 24, 25] (fun i : Nat => [(2, .slice none 0 0), (3, .int .i64 0), (5, .pointer (some ⟨b5, 0, none⟩)), (23, .slice a t.length c), (24, .int .i64 t.length), (25, .int .i64 i)])
    (fun i w' => i ≤ t.length ∧ St (at0 w) w' [blk b5 179 (mat (edgeE (t.take i)))] []) (fun i => t.length - i) 0 rfl ⟨Nat.zero_le _, H3⟩ ?_
  clear H3 H2 hp2
  rintro i w4 ⟨hi, H⟩
  (repeat (first | refine WO.run tabOk rfl rfl ?_ | refine WO.nil ?_ | refine WO.skip rfl rfl rfl ?_ | refine WO.pu tabOk rfl rfl rfl rfl ?_ | refine W.seq ?_ | refine W.region ?_ | refine W.block ?_ | refine W.skip ?_ | refine W.exit ?_))
  refine W.cond rfl (fun hlt => ?_) (fun hge => ?_)
  · have hlt : i < t.length := by simpa using hlt
    obtain ⟨b, o, rfl⟩ := hH.addr (by omega)
    (repeat (first | refine WO.run tabOk rfl rfl ?_ | refine WO.nil ?_ | refine WO.skip rfl rfl rfl ?_ | refine WO.pu tabOk rfl rfl rfl rfl ?_ | refine W.seq ?_ | refine W.region ?_ | refine W.block ?_ | refine W.skip ?_ | refine W.exit ?_))
    refine WO.pv rfl rfl rfl (PureV.idxN tabOk rfl rfl rfl rfl rfl rfl (by omega)) ?_
    have hx := List.getElem?_eq_getElem hlt
    generalize t[i] = x at hx
    have hm : x ∈ t := List.mem_of_getElem? hx
    obtain ⟨hl1, hl2, hmode⟩ := valid_lens hv hm
    obtain ⟨htx1, htx2⟩ := valid_tx hv hm
    obtain ⟨a1, c1, a2, c2, hcs, hh, hq⟩ := item_elem hH hx
    refine WO.one rfl rfl rfl (OpW.loadcs tabOk rfl rfl rfl rfl rfl (hcs.pure H.pure) ?_)
    refine WO.one rfl rfl rfl (OpW.alloc rfl zero142 rfl H ?_); intro b7 w5 H5
    refine WO.act rfl rfl (OpW.storeA (i := 0) tabOk rfl rfl rfl rfl H5 rfl rfl rfl rfl rfl ?_); intro w6 H6
    (repeat (first | refine WO.run tabOk rfl rfl ?_ | refine WO.nil ?_ | refine WO.skip rfl rfl rfl ?_ | refine WO.pu tabOk rfl rfl rfl rfl ?_ | refine W.seq ?_ | refine W.region ?_ | refine W.block ?_ | refine W.skip ?_ | refine W.exit ?_ | refine WO.one rfl rfl rfl (OpW.load1 tabOk rfl rfl rfl rfl H6 (by (repeat (first | exact .head _ | refine .tail _ ?_))) rfl ?_)))
    refine W.loopS [2, 3, 5, 7, 23, 24, 25, 30, 31, 32] (fun n : Nat => [(2, .slice none 0 0), (3, .int .i64 0), (5, .pointer (some ⟨b5, 0, none⟩)), (7, .pointer (some ⟨b7, 0, none⟩)), (23, .slice (some ⟨b, o, none⟩) t.length c), (24, .int .i64 t.length), (25, .int .i64 i), (30, .slice a2 x.2.2.length c2), (31, .int .i64 x.2.2.length), (32, .int .i64 n)])
      (fun n w' => n ≤ x.2.2.length ∧ St (at0 w) w' [blk b7 142 [.int .i64 x.1, .slice a1 x.2.1.length c1, .slice a2 x.2.2.length c2], blk b5 179 (mat fun a b => edgeE (t.take i) a b || queueE x n a b)] []) (fun n => x.2.2.length - n) 0 rfl ⟨Nat.zero_le _, ?_⟩ ?_
    · have e : mat (edgeE (t.take i)) = mat (fun a b => edgeE (t.take i) a b || queueE x 0 a b) := mat_congr fun a b => by simp [queueE]
      rw [← e]; exact H6
    clear H H5 H6
    rintro n w7 ⟨hn, H⟩
    (repeat (first | refine WO.run tabOk rfl rfl ?_ | refine WO.nil ?_ | refine WO.skip rfl rfl rfl ?_ | refine WO.pu tabOk rfl rfl rfl rfl ?_ | refine W.seq ?_ | refine W.region ?_ | refine W.block ?_ | refine W.skip ?_ | refine W.exit ?_))
    refine W.cond rfl (fun hltn => ?_) (fun hgen => ?_)
    · have hltn : n < x.2.2.length := by simpa using hltn
      obtain ⟨bq, oq, rfl⟩ := hq.addr (by omega)
      have hw := List.getElem?_eq_getElem hltn
      generalize x.2.2[n] = q at hw
      have hqm : q ∈ x.2.2 := List.mem_of_getElem? hw
      have hqt := htx2 q hqm
      (repeat (first | refine WO.run tabOk rfl rfl ?_ | refine WO.nil ?_ | refine WO.skip rfl rfl rfl ?_ | refine WO.pu tabOk rfl rfl rfl rfl ?_ | refine W.seq ?_ | refine W.region ?_ | refine W.block ?_ | refine W.skip ?_ | refine W.exit ?_))
      refine WO.pv rfl rfl rfl (PureV.idxN tabOk rfl rfl rfl rfl rfl rfl (by omega)) ?_
      refine WO.one rfl rfl rfl (OpW.elemA (i := n) tabOk rfl rfl rfl rfl (hq.pure H.pure) hw rfl rfl ?_)
      refine WO.one rfl rfl rfl (OpW.alloc rfl zero145 rfl H ?_); intro b9 w8 H8
      (repeat (first | refine WO.run tabOk rfl rfl ?_ | refine WO.nil ?_ | refine WO.skip rfl rfl rfl ?_ | refine WO.pu tabOk rfl rfl rfl rfl ?_ | refine W.seq ?_ | refine W.region ?_ | refine W.block ?_ | refine W.skip ?_ | refine W.exit ?_))
      refine WO.act rfl rfl (OpW.storeA (i := 0) tabOk rfl rfl rfl rfl H8 rfl rfl rfl rfl rfl ?_); intro w9 H9
      (repeat (first | refine WO.run tabOk rfl rfl ?_ | refine WO.nil ?_ | refine WO.skip rfl rfl rfl ?_ | refine WO.pu tabOk rfl rfl rfl rfl ?_ | refine W.seq ?_ | refine W.region ?_ | refine W.block ?_ | refine W.skip ?_ | refine W.exit ?_))
      refine WO.one rfl rfl rfl (OpW.loadA tabOk rfl rfl rfl rfl H9 (by (repeat (first | exact .head _ | refine .tail _ ?_))) rfl rfl ?_)
      refine WO.one rfl rfl rfl (OpW.loadA tabOk rfl rfl rfl rfl H9 (by (repeat (first | exact .head _ | refine .tail _ ?_))) rfl rfl ?_)
      refine WO.one rfl rfl rfl (OpW.call rfl Try.call111 rfl (Calls.ret (wish_ok _ x.1 a1 c1 x.2.1 _ rfl q.1 q.2 (hh.pure H9.pure)) ?_))
      rintro _ w10 ⟨hp10, rfl⟩
      have H10 := H9.after hp10
      (repeat (first | refine WO.run tabOk rfl rfl ?_ | refine WO.nil ?_ | refine WO.skip rfl rfl rfl ?_ | refine WO.pu tabOk rfl rfl rfl rfl ?_ | refine W.seq ?_ | refine W.region ?_ | refine W.block ?_ | refine W.skip ?_ | refine W.exit ?_ | refine WO.one rfl rfl rfl (OpW.load1 tabOk rfl rfl rfl rfl H10 (by (repeat (first | exact .head _ | refine .tail _ ?_))) rfl ?_)))
      refine W.loopS [2, 3, 5, 7, 8, 9, 10, 23, 24, 25, 30, 31, 32, 41, 42, 43] (fun j : Nat => [(2, .slice none 0 0), (3, .int .i64 0), (5, .pointer (some ⟨b5, 0, none⟩)), (7, .pointer (some ⟨b7, 0, none⟩)), (8, .int .i64 n), (9, .pointer (some ⟨b9, 0, none⟩)), (10, .int .i64 (wishF x.2.1 q.1 q.2)), (23, .slice (some ⟨b, o, none⟩) t.length c), (24, .int .i64 t.length), (25, .int .i64 i), (30, .slice (some ⟨bq, oq, none⟩) x.2.2.length c2), (31, .int .i64 x.2.2.length), (32, .int .i64 n), (41, .slice a1 x.2.1.length c1), (42, .int .i64 x.2.1.length), (43, .int .i64 j)])
        (fun j w' => j ≤ x.2.1.length ∧ St (at0 w) w' [blk b9 145 [.int .i64 q.1, .int .i64 q.2], blk b7 142 [.int .i64 x.1, .slice a1 x.2.1.length c1, .slice (some ⟨bq, oq, none⟩) x.2.2.length c2], blk b5 179 (mat (accE (edgeE (t.take i)) x n q j))] []) (fun j => x.2.1.length - j) 0 rfl ⟨Nat.zero_le _, ?_⟩ ?_
      · rw [accE_zero]; exact H10
      clear H H8 H9 H10 hp10
      rintro j w11 ⟨hj, H⟩
      (repeat (first | refine WO.run tabOk rfl rfl ?_ | refine WO.nil ?_ | refine WO.skip rfl rfl rfl ?_ | refine WO.pu tabOk rfl rfl rfl rfl ?_ | refine W.seq ?_ | refine W.region ?_ | refine W.block ?_ | refine W.skip ?_ | refine W.exit ?_))
      refine W.cond rfl (fun hltj => ?_) (fun hgej => ?_)
      · have hltj : j < x.2.1.length := by simpa using hltj
        obtain ⟨bh, oh, rfl⟩ := hh.addr (by omega)
        have hy := List.getElem?_eq_getElem hltj
        generalize x.2.1[j] = y at hy
        have hym : y ∈ x.2.1 := List.mem_of_getElem? hy
        have hyt := htx1 y hym
        have hymd := hmode y hym
        (repeat (first | refine WO.run tabOk rfl rfl ?_ | refine WO.nil ?_ | refine WO.skip rfl rfl rfl ?_ | refine WO.pu tabOk rfl rfl rfl rfl ?_ | refine W.seq ?_ | refine W.region ?_ | refine W.block ?_ | refine W.skip ?_ | refine W.exit ?_))
        refine WO.pv rfl rfl rfl (PureV.idxN tabOk rfl rfl rfl rfl rfl rfl (by omega)) ?_
        refine WO.one rfl rfl rfl (OpW.elemA (i := j) tabOk rfl rfl rfl rfl (hh.pure H.pure) hy rfl rfl ?_)
        refine WO.one rfl rfl rfl (OpW.alloc rfl zero145 rfl H ?_); intro b12 w12 H12
        refine WO.act rfl rfl (OpW.storeA (i := 0) tabOk rfl rfl rfl rfl H12 rfl rfl rfl rfl rfl ?_); intro w13 H13
        (repeat (first | refine WO.run tabOk rfl rfl ?_ | refine WO.nil ?_ | refine WO.skip rfl rfl rfl ?_ | refine WO.pu tabOk rfl rfl rfl rfl ?_ | refine W.seq ?_ | refine W.region ?_ | refine W.block ?_ | refine W.skip ?_ | refine W.exit ?_))
        refine W.mono (Q := fun e r w' => e = .normal ∧ Env.keep r [2, 3, 5, 7, 8, 9, 10, 23, 24, 25, 30, 31, 32, 41, 42, 43] = [(2, .slice none 0 0), (3, .int .i64 0), (5, .pointer (some ⟨b5, 0, none⟩)), (7, .pointer (some ⟨b7, 0, none⟩)), (8, .int .i64 n), (9, .pointer (some ⟨b9, 0, none⟩)), (10, .int .i64 (wishF x.2.1 q.1 q.2)), (23, .slice (some ⟨b, o, none⟩) t.length c), (24, .int .i64 t.length), (25, .int .i64 i), (30, .slice (some ⟨bq, oq, none⟩) x.2.2.length c2), (31, .int .i64 x.2.2.length), (32, .int .i64 n), (41, .slice (some ⟨bh, oh, none⟩) x.2.1.length c1), (42, .int .i64 x.2.1.length), (43, .int .i64 j)] ∧
          St (at0 w) w' [blk b5 179 (mat (accE (edgeE (t.take i)) x n q (j + 1))), blk b12 145 [.int .i64 y.1, .int .i64 y.2], blk b9 145 [.int .i64 q.1, .int .i64 q.2], blk b7 142 [.int .i64 x.1, .slice (some ⟨bh, oh, none⟩) x.2.1.length c1, .slice (some ⟨bq, oq, none⟩) x.2.2.length c2]] []) ?_ ?_
        · have H14 := H13.drew
          have hA := H14.ha (L := [blk b12 145 [.int .i64 y.1, .int .i64 y.2], blk b9 145 [.int .i64 q.1, .int .i64 q.2], blk b5 179 (mat (accE (edgeE (t.take i)) x n q j))]) (by simp)
          refine W.regionD [1, 3, 5, 7, 10, 13, 15, 21] (HA [blk b12 145 [.int .i64 y.1, .int .i64 y.2], blk b9 145 [.int .i64 q.1, .int .i64 q.2], blk b5 179 (mat (accE (edgeE (t.take i)) x n q j))]) [0, 1, 2, 3, 4, 5, 6, 7, 8, 9, 10, 11, 12, 13, 14, 15, 16, 17, 18, 20, 21, 27, 19, 22, 23, 24, 25, 26, 28, 29] rfl (by kernel_rfl) (fun _ _ _ h => nomatch h.1) ?_
          (repeat (first | refine WD.run tabOk rfl rfl ?_ | refine WD.hv rfl rfl rfl rfl rfl hA (HeldV.load1 tabOk rfl rfl rfl rfl (by (repeat (first | exact .head _ | refine .tail _ ?_))) rfl) ?_ | refine WD.hv rfl rfl rfl rfl rfl hA (HeldV.loadA tabOk rfl rfl rfl rfl (by (repeat (first | exact .head _ | refine .tail _ ?_))) rfl rfl) ?_ | refine WD.pu tabOk rfl rfl rfl rfl rfl rfl ?_))
          refine WD.pv rfl rfl rfl rfl rfl (PureV.idxAN tabOk rfl rfl rfl rfl rfl rfl hqt.1 hqt.2) ?_
          refine WD.pv rfl rfl rfl rfl rfl (PureV.idxAN tabOk rfl rfl rfl rfl rfl rfl hyt.1 hyt.2) ?_
          have hmg : (mat (accE (edgeE (t.take i)) x n q j))[0 + q.1.toNat * 12 + y.1.toNat * 1]? = some (.bool (accE (edgeE (t.take i)) x n q j q.1.toNat y.1.toNat)) := by
            rw [show 0 + q.1.toNat * 12 + y.1.toNat * 1 = q.1.toNat * 12 + y.1.toNat by omega]
            exact mat_get _ (by omega) (by omega)
          refine WD.hv rfl rfl rfl rfl rfl hA (HeldV.loadB tabOk rfl rfl rfl rfl (.tail _ (.tail _ (.head _))) hmg) ?_
          (repeat (first | refine WD.run tabOk rfl rfl ?_ | refine WD.hv rfl rfl rfl rfl rfl hA (HeldV.load1 tabOk rfl rfl rfl rfl (by (repeat (first | exact .head _ | refine .tail _ ?_))) rfl) ?_ | refine WD.hv rfl rfl rfl rfl rfl hA (HeldV.loadA tabOk rfl rfl rfl rfl (by (repeat (first | exact .head _ | refine .tail _ ?_))) rfl rfl) ?_ | refine WD.pu tabOk rfl rfl rfl rfl rfl rfl ?_))
          refine WD.caseG rfl rfl rfl (fun g1 => ?_) (fun g1 => ?_)
          · (repeat (first | refine WD.skip rfl rfl rfl rfl rfl ?_ | refine WD.skipS rfl rfl rfl rfl ‹HA _ _› ?_))
            refine WD.pv rfl rfl rfl rfl rfl (PureV.idxAN tabOk rfl rfl rfl rfl rfl rfl hqt.1 hqt.2) ?_
            (repeat (first | refine WD.skip rfl rfl rfl rfl rfl ?_ | refine WD.skipS rfl rfl rfl rfl ‹HA _ _› ?_))
            (repeat (first | refine WD.run tabOk rfl rfl ?_ | refine WD.hv rfl rfl rfl rfl rfl hA (HeldV.load1 tabOk rfl rfl rfl rfl (by (repeat (first | exact .head _ | refine .tail _ ?_))) rfl) ?_ | refine WD.hv rfl rfl rfl rfl rfl hA (HeldV.loadA tabOk rfl rfl rfl rfl (by (repeat (first | exact .head _ | refine .tail _ ?_))) rfl rfl) ?_ | refine WD.pu tabOk rfl rfl rfl rfl rfl rfl ?_))
            refine WD.tell (d := 73) (u := .bool (accE (edgeE (t.take i)) x n q j q.1.toNat y.1.toNat || (decide (y.1 ≠ q.1) && clashF (wishF x.2.1 q.1 q.2) y.2))) rfl (by simp [g1, pickV, undef]) ?_
            refine WD.pv rfl rfl rfl rfl rfl (PureV.idxAN tabOk rfl rfl rfl rfl rfl rfl hyt.1 hyt.2) ?_
            refine WD.act rfl rfl rfl rfl (by kernel_rfl) (OpW.storeB (i := 3) tabOk rfl rfl rfl rfl H14 rfl (v := .bool (accE (edgeE (t.take i)) x n q j q.1.toNat y.1.toNat || (decide (y.1 ≠ q.1) && clashF (wishF x.2.1 q.1 q.2) y.2))) (by intro u hu; simp [cellsL] at hu; subst hu; rfl) rfl (by rw [mat_len]; simp [cellsL]; omega) ?_)
            intro w15 H15
            (repeat (first | refine WD.run tabOk rfl rfl ?_ | refine WD.nil ?_))
            refine ⟨rfl, rfl, ?_⟩
            rw [← accE_step hy hqt.1 hyt.1, ← mat_set _ _ (by omega) (by omega)]
            have ex : 0 + q.1.toNat * 12 + y.1.toNat * 1 = q.1.toNat * 12 + y.1.toNat := by omega
            rw [ex] at H15
            exact H15

          (repeat (first | refine WD.run tabOk rfl rfl ?_ | refine WD.hv rfl rfl rfl rfl rfl hA (HeldV.load1 tabOk rfl rfl rfl rfl (by (repeat (first | exact .head _ | refine .tail _ ?_))) rfl) ?_ | refine WD.hv rfl rfl rfl rfl rfl hA (HeldV.loadA tabOk rfl rfl rfl rfl (by (repeat (first | exact .head _ | refine .tail _ ?_))) rfl rfl) ?_ | refine WD.pu tabOk rfl rfl rfl rfl rfl rfl ?_))
          refine WD.caseG rfl rfl rfl (fun g2 => ?_) (fun g2 => ?_)
          · (repeat (first | refine WD.run tabOk rfl rfl ?_ | refine WD.hv rfl rfl rfl rfl rfl hA (HeldV.load1 tabOk rfl rfl rfl rfl (by (repeat (first | exact .head _ | refine .tail _ ?_))) rfl) ?_ | refine WD.hv rfl rfl rfl rfl rfl hA (HeldV.loadA tabOk rfl rfl rfl rfl (by (repeat (first | exact .head _ | refine .tail _ ?_))) rfl rfl) ?_ | refine WD.pu tabOk rfl rfl rfl rfl rfl rfl ?_))
            refine WD.pv rfl rfl rfl rfl rfl (PureV.idxAN tabOk rfl rfl rfl rfl rfl rfl hqt.1 hqt.2) ?_
            refine WD.oneS rfl rfl rfl rfl rfl (OpW.call rfl Try.call113 rfl (Calls.ret (fits_ok _ _) ?_))
            rintro _ _ ⟨rfl, rfl⟩
            refine ⟨hA, ?_⟩
            have hm2 := hymd
            simp only [isModeF, decide_eq_true_eq] at hm2
            refine WD.pv rfl rfl rfl rfl rfl (PureV.shr rfl rfl rfl (by omega) (by omega)) ?_
            (repeat (first | refine WD.run tabOk rfl rfl ?_ | refine WD.hv rfl rfl rfl rfl rfl hA (HeldV.load1 tabOk rfl rfl rfl rfl (by (repeat (first | exact .head _ | refine .tail _ ?_))) rfl) ?_ | refine WD.hv rfl rfl rfl rfl rfl hA (HeldV.loadA tabOk rfl rfl rfl rfl (by (repeat (first | exact .head _ | refine .tail _ ?_))) rfl rfl) ?_ | refine WD.pu tabOk rfl rfl rfl rfl rfl rfl ?_))
            refine WD.tell (d := 73) (u := .bool (accE (edgeE (t.take i)) x n q j q.1.toNat y.1.toNat || (decide (y.1 ≠ q.1) && clashF (wishF x.2.1 q.1 q.2) y.2))) rfl (by simp at g2; simp [g1, g2, pickV, clashF]) ?_
            refine WD.pv rfl rfl rfl rfl rfl (PureV.idxAN tabOk rfl rfl rfl rfl rfl rfl hyt.1 hyt.2) ?_
            refine WD.act rfl rfl rfl rfl (by kernel_rfl) (OpW.storeB (i := 3) tabOk rfl rfl rfl rfl H14 rfl (v := .bool (accE (edgeE (t.take i)) x n q j q.1.toNat y.1.toNat || (decide (y.1 ≠ q.1) && clashF (wishF x.2.1 q.1 q.2) y.2))) (by intro u hu; simp [cellsL] at hu; subst hu; rfl) rfl (by rw [mat_len]; simp [cellsL]; omega) ?_)
            intro w15 H15
            (repeat (first | refine WD.run tabOk rfl rfl ?_ | refine WD.nil ?_))
            refine ⟨rfl, rfl, ?_⟩
            rw [← accE_step hy hqt.1 hyt.1, ← mat_set _ _ (by omega) (by omega)]
            have ex : 0 + q.1.toNat * 12 + y.1.toNat * 1 = q.1.toNat * 12 + y.1.toNat := by omega
            rw [ex] at H15
            exact H15

          · (repeat (first | refine WD.skip rfl rfl rfl rfl rfl ?_ | refine WD.skipS rfl rfl rfl rfl ‹HA _ _› ?_))
            refine WD.pv rfl rfl rfl rfl rfl (PureV.idxAN tabOk rfl rfl rfl rfl rfl rfl hqt.1 hqt.2) ?_
            (repeat (first | refine WD.skip rfl rfl rfl rfl rfl ?_ | refine WD.skipS rfl rfl rfl rfl ‹HA _ _› ?_))
            (repeat (first | refine WD.run tabOk rfl rfl ?_ | refine WD.hv rfl rfl rfl rfl rfl hA (HeldV.load1 tabOk rfl rfl rfl rfl (by (repeat (first | exact .head _ | refine .tail _ ?_))) rfl) ?_ | refine WD.hv rfl rfl rfl rfl rfl hA (HeldV.loadA tabOk rfl rfl rfl rfl (by (repeat (first | exact .head _ | refine .tail _ ?_))) rfl rfl) ?_ | refine WD.pu tabOk rfl rfl rfl rfl rfl rfl ?_))
            refine WD.tell (d := 73) (u := .bool (accE (edgeE (t.take i)) x n q j q.1.toNat y.1.toNat || (decide (y.1 ≠ q.1) && clashF (wishF x.2.1 q.1 q.2) y.2))) rfl (by simp at g2; rw [g1]; simp [g2, pickV, undef]) ?_
            refine WD.pv rfl rfl rfl rfl rfl (PureV.idxAN tabOk rfl rfl rfl rfl rfl rfl hyt.1 hyt.2) ?_
            refine WD.act rfl rfl rfl rfl (by kernel_rfl) (OpW.storeB (i := 3) tabOk rfl rfl rfl rfl H14 rfl (v := .bool (accE (edgeE (t.take i)) x n q j q.1.toNat y.1.toNat || (decide (y.1 ≠ q.1) && clashF (wishF x.2.1 q.1 q.2) y.2))) (by intro u hu; simp [cellsL] at hu; subst hu; rfl) rfl (by rw [mat_len]; simp [cellsL]; omega) ?_)
            intro w15 H15
            (repeat (first | refine WD.run tabOk rfl rfl ?_ | refine WD.nil ?_))
            refine ⟨rfl, rfl, ?_⟩
            rw [← accE_step hy hqt.1 hyt.1, ← mat_set _ _ (by omega) (by omega)]
            have ex : 0 + q.1.toNat * 12 + y.1.toNat * 1 = q.1.toNat * 12 + y.1.toNat := by omega
            rw [ex] at H15
            exact H15

        rintro _ r w14 ⟨rfl, hr, H14⟩
        show W _ _ _ _ _ _
        refine W.keep [2, 3, 5, 7, 8, 9, 10, 23, 24, 25, 30, 31, 32, 41, 42, 43] ?_
        rw [hr]
        clear hr r
        (repeat (first | refine WO.run tabOk rfl rfl ?_ | refine WO.nil ?_ | refine WO.skip rfl rfl rfl ?_ | refine WO.pu tabOk rfl rfl rfl rfl ?_ | refine W.seq ?_ | refine W.region ?_ | refine W.block ?_ | refine W.skip ?_ | refine W.exit ?_))
        refine WO.pv rfl rfl rfl (PureV.addN (n := j) rfl rfl rfl (by omega)) ?_
        (repeat (first | refine WO.run tabOk rfl rfl ?_ | refine WO.nil ?_ | refine WO.skip rfl rfl rfl ?_ | refine WO.pu tabOk rfl rfl rfl rfl ?_ | refine W.seq ?_ | refine W.region ?_ | refine W.block ?_ | refine W.skip ?_ | refine W.exit ?_))
        refine ⟨j + 1, rfl, ⟨by omega, (H14.bring [2, 3, 0] rfl).bring [3] rfl |>.drop⟩, by omega⟩
      · simp at hgej
        obtain rfl : j = x.2.1.length := by omega
        rw [← accQ_zero] at H
        (repeat (first | refine WO.run tabOk rfl rfl ?_ | refine WO.nil ?_ | refine WO.skip rfl rfl rfl ?_ | refine WO.pu tabOk rfl rfl rfl rfl ?_ | refine W.seq ?_ | refine W.region ?_ | refine W.block ?_ | refine W.skip ?_ | refine W.exit ?_ | refine WO.one rfl rfl rfl (OpW.load1 tabOk rfl rfl rfl rfl H (by (repeat (first | exact .head _ | refine .tail _ ?_))) rfl ?_)))
        refine WO.pv rfl rfl rfl (PureV.slcTo (n := n) tabOk rfl rfl rfl rfl rfl rfl (by have := hq.le; omega)) ?_
        (repeat (first | refine WO.run tabOk rfl rfl ?_ | refine WO.nil ?_ | refine WO.skip rfl rfl rfl ?_ | refine WO.pu tabOk rfl rfl rfl rfl ?_ | refine W.seq ?_ | refine W.region ?_ | refine W.block ?_ | refine W.skip ?_ | refine W.exit ?_))
        have hqt' := hq.take (i := n) (by omega)
        have hqtl : (x.2.2.take n).length = n := by rw [List.length_take]; omega
        refine W.loopS [2, 3, 5, 7, 9, 23, 24, 25, 30, 31, 32, 80, 81, 82] (fun j : Nat => [(2, .slice none 0 0), (3, .int .i64 0), (5, .pointer (some ⟨b5, 0, none⟩)), (7, .pointer (some ⟨b7, 0, none⟩)), (9, .pointer (some ⟨b9, 0, none⟩)), (23, .slice (some ⟨b, o, none⟩) t.length c), (24, .int .i64 t.length), (25, .int .i64 i), (30, .slice (some ⟨bq, oq, none⟩) x.2.2.length c2), (31, .int .i64 x.2.2.length), (32, .int .i64 n), (80, .slice (some ⟨bq, oq, none⟩) n c2), (81, .int .i64 n), (82, .int .i64 j)])
          (fun j w' => j ≤ n ∧ St (at0 w) w' [blk b9 145 [.int .i64 q.1, .int .i64 q.2], blk b7 142 [.int .i64 x.1, .slice a1 x.2.1.length c1, .slice (some ⟨bq, oq, none⟩) x.2.2.length c2], blk b5 179 (mat (accQ (edgeE (t.take i)) x n q j))] []) (fun j => n - j) 0 rfl ⟨Nat.zero_le _, H⟩ ?_
        clear H
        rintro j w11 ⟨hj, H⟩
        (repeat (first | refine WO.run tabOk rfl rfl ?_ | refine WO.nil ?_ | refine WO.skip rfl rfl rfl ?_ | refine WO.pu tabOk rfl rfl rfl rfl ?_ | refine W.seq ?_ | refine W.region ?_ | refine W.block ?_ | refine W.skip ?_ | refine W.exit ?_))
        refine W.cond rfl (fun hltj => ?_) (fun hgej => ?_)
        · have hltj : j < n := by simpa using hltj
          have hy := List.getElem?_eq_getElem (l := x.2.2.take n) (i := j) (by omega)
          generalize (x.2.2.take n)[j] = y at hy
          have hy2 : x.2.2[j]? = some y := by rw [List.getElem?_take, if_pos hltj] at hy; exact hy
          have hyt := htx2 y (List.mem_of_getElem? hy2)
          (repeat (first | refine WO.run tabOk rfl rfl ?_ | refine WO.nil ?_ | refine WO.skip rfl rfl rfl ?_ | refine WO.pu tabOk rfl rfl rfl rfl ?_ | refine W.seq ?_ | refine W.region ?_ | refine W.block ?_ | refine W.skip ?_ | refine W.exit ?_))
          refine WO.pv rfl rfl rfl (PureV.idxN tabOk rfl rfl rfl rfl rfl rfl (by omega)) ?_
          refine WO.one rfl rfl rfl (OpW.elemA (i := j) tabOk rfl rfl rfl rfl (hqt'.pure H.pure) hy rfl rfl ?_)
          refine WO.one rfl rfl rfl (OpW.alloc rfl zero145 rfl H ?_); intro b14 w12 H12
          refine WO.act rfl rfl (OpW.storeA (i := 0) tabOk rfl rfl rfl rfl H12 rfl rfl rfl rfl rfl ?_); intro w13 H13
          (repeat (first | refine WO.run tabOk rfl rfl ?_ | refine WO.nil ?_ | refine WO.skip rfl rfl rfl ?_ | refine WO.pu tabOk rfl rfl rfl rfl ?_ | refine W.seq ?_ | refine W.region ?_ | refine W.block ?_ | refine W.skip ?_ | refine W.exit ?_))
          have H14 := H13.drew
          have hA := H14.ha (L := [blk b14 145 [.int .i64 y.1, .int .i64 y.2], blk b9 145 [.int .i64 q.1, .int .i64 q.2]]) (by simp)
          refine W.regionD [1, 3] (HA [blk b14 145 [.int .i64 y.1, .int .i64 y.2], blk b9 145 [.int .i64 q.1, .int .i64 q.2]]) [0, 1, 2, 3, 4, 5, 6] rfl (by kernel_rfl) (fun _ _ _ h => h) ?_
          (repeat (first | refine WD.run tabOk rfl rfl ?_ | refine WD.hv rfl rfl rfl rfl rfl hA (HeldV.load1 tabOk rfl rfl rfl rfl (by (repeat (first | exact .head _ | refine .tail _ ?_))) rfl) ?_ | refine WD.hv rfl rfl rfl rfl rfl hA (HeldV.loadA tabOk rfl rfl rfl rfl (by (repeat (first | exact .head _ | refine .tail _ ?_))) rfl rfl) ?_ | refine WD.pu tabOk rfl rfl rfl rfl rfl rfl ?_))
          refine WD.pv rfl rfl rfl rfl rfl (PureV.idxAN tabOk rfl rfl rfl rfl rfl rfl hqt.1 hqt.2) ?_
          refine WD.pv rfl rfl rfl rfl rfl (PureV.idxAN tabOk rfl rfl rfl rfl rfl rfl hyt.1 hyt.2) ?_
          refine WD.act rfl rfl rfl rfl (by kernel_rfl) (OpW.storeB (i := 3) tabOk rfl rfl rfl rfl H14 rfl (v := .bool true) (by intro u hu; simp [cellsL] at hu; subst hu; rfl) rfl (by rw [mat_len]; simp [cellsL]; omega) ?_)
          intro w15 H15
          have ex : 0 + q.1.toNat * 12 + y.1.toNat * 1 = q.1.toNat * 12 + y.1.toNat := by omega
          have em : spliceL (mat (accQ (edgeE (t.take i)) x n q j)) (0 + q.1.toNat * 12 + y.1.toNat * 1) (cellsL (.bool true)) = mat (accQ (edgeE (t.take i)) x n q (j + 1)) := by
            rw [ex, ← accQ_step hy2 hqt.1 hyt.1, ← mat_set _ _ (by omega) (by omega)]; rfl
          rw [em] at H15
          (repeat (first | refine WD.run tabOk rfl rfl ?_ | refine WD.nil ?_))
          (repeat (first | refine WO.run tabOk rfl rfl ?_ | refine WO.nil ?_ | refine WO.skip rfl rfl rfl ?_ | refine WO.pu tabOk rfl rfl rfl rfl ?_ | refine W.seq ?_ | refine W.region ?_ | refine W.block ?_ | refine W.skip ?_ | refine W.exit ?_))
          refine WO.pv rfl rfl rfl (PureV.addN (n := j) rfl rfl rfl (by omega)) ?_
          (repeat (first | refine WO.run tabOk rfl rfl ?_ | refine WO.nil ?_ | refine WO.skip rfl rfl rfl ?_ | refine WO.pu tabOk rfl rfl rfl rfl ?_ | refine W.seq ?_ | refine W.region ?_ | refine W.block ?_ | refine W.skip ?_ | refine W.exit ?_))
          exact ⟨j + 1, rfl, ⟨by omega, (H15.bring [2, 3, 0] rfl).bring [3] rfl |>.drop⟩, by omega⟩
        · simp at hgej
          obtain rfl : j = n := by omega
          rw [accQ_end hw] at H
          (repeat (first | refine WO.run tabOk rfl rfl ?_ | refine WO.nil ?_ | refine WO.skip rfl rfl rfl ?_ | refine WO.pu tabOk rfl rfl rfl rfl ?_ | refine W.seq ?_ | refine W.region ?_ | refine W.block ?_ | refine W.skip ?_ | refine W.exit ?_))
          refine WO.pv rfl rfl rfl (PureV.addN (n := j) rfl rfl rfl (by omega)) ?_
          (repeat (first | refine WO.run tabOk rfl rfl ?_ | refine WO.nil ?_ | refine WO.skip rfl rfl rfl ?_ | refine WO.pu tabOk rfl rfl rfl rfl ?_ | refine W.seq ?_ | refine W.region ?_ | refine W.block ?_ | refine W.skip ?_ | refine W.exit ?_))
          exact ⟨j + 1, rfl, ⟨by omega, H.drop⟩, by omega⟩
    · simp at hgen
      obtain rfl : n = x.2.2.length := by omega
      have e : (fun a b => edgeE (t.take i) a b || queueE x x.2.2.length a b) = edgeE (t.take (i + 1)) := by
        funext a b
        rw [take_snoc hx]
        simp [edgeE, itemE, List.any_append]
      rw [e] at H
      (repeat (first | refine WO.run tabOk rfl rfl ?_ | refine WO.nil ?_ | refine WO.skip rfl rfl rfl ?_ | refine WO.pu tabOk rfl rfl rfl rfl ?_ | refine W.seq ?_ | refine W.region ?_ | refine W.block ?_ | refine W.skip ?_ | refine W.exit ?_))
      refine WO.pv rfl rfl rfl (PureV.addN (n := i) rfl rfl rfl (by omega)) ?_
      (repeat (first | refine WO.run tabOk rfl rfl ?_ | refine WO.nil ?_ | refine WO.skip rfl rfl rfl ?_ | refine WO.pu tabOk rfl rfl rfl rfl ?_ | refine W.seq ?_ | refine W.region ?_ | refine W.block ?_ | refine W.skip ?_ | refine W.exit ?_))
      exact ⟨i + 1, rfl, ⟨by omega, H.drop⟩, by omega⟩
  simp at hge
  obtain rfl : i = t.length := by omega
  rw [List.take_length] at H
  (repeat (first | refine WO.run tabOk rfl rfl ?_ | refine WO.nil ?_ | refine WO.skip rfl rfl rfl ?_ | refine WO.pu tabOk rfl rfl rfl rfl ?_ | refine W.seq ?_ | refine W.region ?_ | refine W.block ?_ | refine W.skip ?_ | refine W.exit ?_))
  refine W.loopS [3, 5, 15, 95] (fun s : Nat × Value => [(3, .int .i64 0), (5, .pointer (some ⟨b5, 0, none⟩)), (15, s.2), (95, .int .i64 s.1)])
    (fun s w' => s.1 ≤ 12 ∧ St (at0 w) w' [row 71 lockR s.2 (edgesUp (edgeE t) (s.1 * 12)), blk b5 179 (mat (edgeE t))] []) (fun s => 12 - s.1) (0, .slice none 0 0) rfl ⟨Nat.zero_le _, H.add_nil _ _⟩ ?_
  clear H
  rintro ⟨ia, v⟩ w5 ⟨hia, H⟩
  simp only at hia H
  (repeat (first | refine WO.run tabOk rfl rfl ?_ | refine WO.nil ?_ | refine WO.skip rfl rfl rfl ?_ | refine WO.pu tabOk rfl rfl rfl rfl ?_ | refine W.seq ?_ | refine W.region ?_ | refine W.block ?_ | refine W.skip ?_ | refine W.exit ?_))
  refine W.cond rfl (fun hlt => ?_) (fun hge => ?_)
  · have hlt : ia < 12 := by simp at hlt; omega
    (repeat (first | refine WO.run tabOk rfl rfl ?_ | refine WO.nil ?_ | refine WO.skip rfl rfl rfl ?_ | refine WO.pu tabOk rfl rfl rfl rfl ?_ | refine W.seq ?_ | refine W.region ?_ | refine W.block ?_ | refine W.skip ?_ | refine W.exit ?_))
    refine W.loopS [3, 5, 15, 16, 95, 98] (fun s : Nat × Value => [(3, .int .i64 0), (5, .pointer (some ⟨b5, 0, none⟩)), (15, s.2), (16, .int .i64 ia), (95, .int .i64 ia), (98, .int .i64 s.1)])
      (fun s w' => s.1 ≤ 12 ∧ St (at0 w) w' [row 71 lockR s.2 (edgesUp (edgeE t) (ia * 12 + s.1)), blk b5 179 (mat (edgeE t))] []) (fun s => 12 - s.1) (0, v) rfl ⟨Nat.zero_le _, H⟩ ?_
    clear H
    rintro ⟨ib, v⟩ w6 ⟨hib, H⟩
    simp only at hib H
    (repeat (first | refine WO.run tabOk rfl rfl ?_ | refine WO.nil ?_ | refine WO.skip rfl rfl rfl ?_ | refine WO.pu tabOk rfl rfl rfl rfl ?_ | refine W.seq ?_ | refine W.region ?_ | refine W.block ?_ | refine W.skip ?_ | refine W.exit ?_))
    refine W.cond rfl (fun hltb => ?_) (fun hgeb => ?_)
    · have hltb : ib < 12 := by simp at hltb; omega
      (repeat (first | refine WO.run tabOk rfl rfl ?_ | refine WO.nil ?_ | refine WO.skip rfl rfl rfl ?_ | refine WO.pu tabOk rfl rfl rfl rfl ?_ | refine W.seq ?_ | refine W.region ?_ | refine W.block ?_ | refine W.skip ?_ | refine W.exit ?_))
      refine WO.pv rfl rfl rfl (PureV.idxAN (i := (ia : Int)) tabOk rfl rfl rfl rfl rfl rfl (by omega) (by omega)) ?_
      refine WO.pv rfl rfl rfl (PureV.idxAN (i := (ib : Int)) tabOk rfl rfl rfl rfl rfl rfl (by omega) (by omega)) ?_
      have hmg : (mat (edgeE t))[0 + (ia : Int).toNat * 12 + (ib : Int).toNat * 1]? = some (.bool (edgeE t ia ib)) := by
        rw [show 0 + (ia : Int).toNat * 12 + (ib : Int).toNat * 1 = ia * 12 + ib by omega]
        exact mat_get _ hlt hltb
      refine WO.one rfl rfl rfl (OpW.loadB tabOk rfl rfl rfl rfl H (by (repeat (first | exact .head _ | refine .tail _ ?_))) hmg ?_)
      (repeat (first | refine WO.run tabOk rfl rfl ?_ | refine WO.nil ?_ | refine WO.skip rfl rfl rfl ?_ | refine WO.pu tabOk rfl rfl rfl rfl ?_ | refine W.seq ?_ | refine W.region ?_ | refine W.block ?_ | refine W.skip ?_ | refine W.exit ?_))
      have hst := edgesUp_step (edgeE t) (a := ia) hltb
      refine W.cond rfl (fun hE => ?_) (fun hE => ?_)
      · rw [if_pos hE] at hst
        (repeat (first | refine WO.run tabOk rfl rfl ?_ | refine WO.nil ?_ | refine WO.skip rfl rfl rfl ?_ | refine WO.pu tabOk rfl rfl rfl rfl ?_ | refine W.seq ?_ | refine W.region ?_ | refine W.block ?_ | refine W.skip ?_ | refine W.exit ?_))
        refine WO.pv rfl rfl rfl (PureV.build tabOk rfl rfl rfl zero71 (l := [.int .i64 (ia : Int), .int .i64 (ib : Int)]) rfl) ?_
        refine WO.one rfl rfl rfl (OpW.buildSlice tabOk rfl rfl rfl rfl zero71 rfl rfl (l := [.int .i64 (ia : Int), .int .i64 (ib : Int)]) rfl H ?_)
        intro b7 w7 H7
        have hsh := shows_blk (sz := 2) (m := 1) (e := 71) (l := [.int .i64 (ia : Int), .int .i64 (ib : Int)]) H7 (b := b7) (by simp) rfl (by intro u hu; simp at hu; rcases hu with rfl | rfl <;> rfl)
        have H8 := (H7.to (i := 1) rfl).flat_open
        have hel := edgesUp_len (edgeE t) (ia * 12 + ib)
        refine WO.one rfl rfl rfl (OpW.append tabOk rfl rfl rfl zero71 rfl rfl rfl rfl H8 hsh (by omega) (by simp only [maxLen]; omega) ?_)
        intro v' w9 H9 _
        (repeat (first | refine WO.run tabOk rfl rfl ?_ | refine WO.nil ?_ | refine WO.skip rfl rfl rfl ?_ | refine WO.pu tabOk rfl rfl rfl rfl ?_ | refine W.seq ?_ | refine W.region ?_ | refine W.block ?_ | refine W.skip ?_ | refine W.exit ?_))
        refine WO.pv rfl rfl rfl (PureV.addN (n := ib) rfl rfl rfl (by omega)) ?_
        (repeat (first | refine WO.run tabOk rfl rfl ?_ | refine WO.nil ?_ | refine WO.skip rfl rfl rfl ?_ | refine WO.pu tabOk rfl rfl rfl rfl ?_ | refine W.seq ?_ | refine W.region ?_ | refine W.block ?_ | refine W.skip ?_ | refine W.exit ?_))
        refine ⟨(ib + 1, v'), rfl, ⟨by simp only; omega, ?_⟩, by simp only; omega⟩
        simp only
        have e1 : (edgesUp (edgeE t) (ia * 12 + ib)).flatMap encLock ++ [.int .i64 (ia : Int), .int .i64 (ib : Int)] = (edgesUp (edgeE t) (ia * 12 + ib + 1)).flatMap encLock := by rw [hst]; simp [encLock]
        rw [e1, show (edgesUp (edgeE t) (ia * 12 + ib)).length + 1 = (edgesUp (edgeE t) (ia * 12 + ib + 1)).length by rw [hst]; simp] at H9
        have H10 := St.flat_close (enc := encLock) (sz := 2) (hl := fun _ => rfl) (h1 := fun x v hv => by simp [encLock] at hv; rcases hv with rfl | rfl <;> rfl) H9
        exact (H10.to (i := 1) rfl).drop
      · rw [hE, if_neg (by simp), List.append_nil] at hst
        (repeat (first | refine WO.run tabOk rfl rfl ?_ | refine WO.nil ?_ | refine WO.skip rfl rfl rfl ?_ | refine WO.pu tabOk rfl rfl rfl rfl ?_ | refine W.seq ?_ | refine W.region ?_ | refine W.block ?_ | refine W.skip ?_ | refine W.exit ?_))
        refine WO.pv rfl rfl rfl (PureV.addN (n := ib) rfl rfl rfl (by omega)) ?_
        (repeat (first | refine WO.run tabOk rfl rfl ?_ | refine WO.nil ?_ | refine WO.skip rfl rfl rfl ?_ | refine WO.pu tabOk rfl rfl rfl rfl ?_ | refine W.seq ?_ | refine W.region ?_ | refine W.block ?_ | refine W.skip ?_ | refine W.exit ?_))
        refine ⟨(ib + 1, v), rfl, ⟨by simp only; omega, ?_⟩, by simp only; omega⟩
        simp only
        rw [← Nat.add_assoc, hst]; exact H
    · simp at hgeb
      obtain rfl : ib = 12 := by omega
      (repeat (first | refine WO.run tabOk rfl rfl ?_ | refine WO.nil ?_ | refine WO.skip rfl rfl rfl ?_ | refine WO.pu tabOk rfl rfl rfl rfl ?_ | refine W.seq ?_ | refine W.region ?_ | refine W.block ?_ | refine W.skip ?_ | refine W.exit ?_))
      refine WO.pv rfl rfl rfl (PureV.addN (n := ia) rfl rfl rfl (by omega)) ?_
      (repeat (first | refine WO.run tabOk rfl rfl ?_ | refine WO.nil ?_ | refine WO.skip rfl rfl rfl ?_ | refine WO.pu tabOk rfl rfl rfl rfl ?_ | refine W.seq ?_ | refine W.region ?_ | refine W.block ?_ | refine W.skip ?_ | refine W.exit ?_))
      refine ⟨(ia + 1, v), rfl, ⟨by simp only; omega, ?_⟩, by simp only; omega⟩
      simp only
      rw [show (ia + 1) * 12 = ia * 12 + 12 by omega]; exact H
  · simp at hge
    obtain rfl : ia = 12 := by omega
    (repeat (first | refine WO.run tabOk rfl rfl ?_ | refine WO.nil ?_ | refine WO.skip rfl rfl rfl ?_ | refine WO.pu tabOk rfl rfl rfl rfl ?_ | refine W.seq ?_ | refine W.region ?_ | refine W.block ?_ | refine W.skip ?_ | refine W.exit ?_))
    exact W.ret (ret2 Try.results87 rfl rfl ⟨_, rfl, _, _, rfl, .inr ⟨rfl, hv, H.first⟩⟩)
end Go.Proofs.Ytpenbdpgpamcbaa
