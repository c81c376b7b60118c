/- For every table of bulk at most 1048576, and every three numbers, the law LockOwn returns true, and leaves its arguments as they were. Condition: that bound on what is read (the statement's second form). -/
import Derived.Test.YtnghaidnbicjjaaLockT
import Derived.Test.YtnghaidnbicjjaaGwBulk
import Derived.Test.YtnghaidnbicjjaaRows
import Derived.ProofKit
set_option linter.unusedVariables false
set_option linter.unusedSimpArgs false
set_option maxRecDepth 100000
namespace Go.Proofs.Ytnghaidnbicjjaa
open Go Gw Go.ChangeShapes Go.WideShapes Go.ChangeAt Go.RowKit

theorem own : ownKnob Try.prog.godebug = none := by kernel_rfl
theorem laidOut : laidOutB Try.prog = true := by kernel_rfl
theorem cells3i : Try.prog.cellsOf 3 = 1 := by kernel_rfl
theorem brd3 (w : World) : Brd Try.prog w 3 i64 := brd_int Try.underlying3 cells3i
theorem brdLock (w : World) : Brd Try.prog w 53 lockR := by
  refine brd_struct Try.underlying53 (by decide) (by kernel_rfl) fun cs hl hf => ?_
  obtain ⟨y0, S0, ⟨_, h0⟩, _⟩ := (brd3 w).field hf 0 rfl rfl rfl
  obtain ⟨y1, S1, ⟨_, h1⟩, _⟩ := (brd3 w).field hf 1 rfl rfl rfl
  have e : cs = encLock (y0, y1) := by
    match cs, hl with
    | [a, b], _ =>
      simp [i64, Rdr.flat] at h0 h1
      simp [encLock, h0, h1]
  rw [e]
  exact ⟨_, Seen.flat _⟩
theorem ones (xs : List (Int × Int)) : (xs.map fun _ => 1).sum = xs.length := by
  induction xs with
  | nil => rfl
  | cons x xs ih => rw [List.map_cons, List.sum_cons, ih, List.length_cons]; omega
def muItem (x : Item) : Nat := x.2.1.length + x.2.2.length + 1
theorem brdItem (w : World) : BrdM Try.prog w 51 itemS muItem := by
  refine brdM_struct Try.underlying51 (by decide) (by kernel_rfl) fun cs hl H enc n xs hxl hf => ?_
  have bs : BrdM Try.prog w 49 (Rdr.rd lockR) _ := brdM_slice Try.underlying49 (by kernel_rfl) (brdLock w).m
  have f0 := hf 0 _ rfl
  have f1 := hf 1 _ rfl
  have f2 := hf 2 _ rfl
  match xs, hxl with
  | [p0, p1, p2], _ =>
    have g0 : DataW.trod enc Try.prog w 0 (fun _ => true) true n 3 ((cs.drop 0).take (Try.prog.cellsOf 3)) = some p0 := f0
    have g1 : DataW.trod enc Try.prog w 0 (fun _ => true) true n 49 ((cs.drop 1).take (Try.prog.cellsOf 49)) = some p1 := f1
    have g2 : DataW.trod enc Try.prog w 0 (fun _ => true) true n 49 ((cs.drop 2).take (Try.prog.cellsOf 49)) = some p2 := f2
    rw [cells3i] at g0
    rw [bs.cells] at g1 g2
    obtain ⟨y0, S0, ⟨_, h0⟩, _⟩ := (brd3 w).rd H enc n _ _ g0
    obtain ⟨y1, ⟨S1, ⟨a1, c1, h1, r1⟩, hs1⟩, m1⟩ := bs.rd H enc n _ _ g1
    obtain ⟨y2, ⟨S2, ⟨a2, c2, h2, r2⟩, hs2⟩, m2⟩ := bs.rd H enc n _ _ g2
    rw [ones] at m1 m2
    match cs, hl with
    | [a, b, d], _ =>
      change [b] = _ at h1
      change [d] = _ at h2
      simp [i64, Rdr.flat] at h0
      simp only [List.cons.injEq, and_true] at h1 h2
      refine ⟨(y0, y1, y2), ⟨fun b => b < w.heap.size, ⟨a1, c1, a2, c2, by rw [h0, h1, h2], r1.more hs1 (fun _ h => h), r2.more hs2 (fun _ h => h)⟩, fun _ h => h⟩, ?_⟩
      simp only [muItem, List.map_cons, List.map_nil, Rows.uptoBulkAll]
      omega

theorem lockOwn_lifted (os : Os) (started : os.Started) (H : Type) (enc : TypeId × Value → H) (F : Stop.Interp) :
    ReturnsInHanded {} Try.checked os 7 .any ((Rows.OpenSpec.upto Rows.lockOwnSpec).pre6 enc Try.prog Try.f7 Rows.lockOwnUptoRow.domain false) (((Rows.OpenSpec.upto Rows.lockOwnSpec).at F).post enc Try.prog Try.f7 false true false false) := by
  refine returnsInHanded_of_cond (C := Try.checked) (s := Rows.OpenSpec.upto Rows.lockOwnSpec) (k := Rows.uptoSmall) rfl own started (by kernel_rfl) Try.func7
    (OpenSpec.witness (enc := enc) (C := Try.checked) (s := Rows.OpenSpec.upto Rows.lockOwnSpec) (k := Rows.uptoSmall) rfl false ⟨#[], #[.slice none 0 0, .int .i64 0, .int .i64 0, .int .i64 0], []⟩ 8 (by kernel_rfl) (by kernel_rfl) (by kernel_rfl)
      (x := ([.nil, .lit (.int .i64 0), .lit (.int .i64 0), .lit (.int .i64 0)], [], [])) (by kernel_rfl) rfl (by kernel_rfl)) ?_
  intro W base args ds gs before hval0 hW _ hk _
  have hval : ∀ (j : Nat) t v, Try.f7.params[j]? = some t → args[j]? = some v → Value.okWide Try.prog W .any base t v := hval0
  obtain ⟨p, q, hA0, hV, _⟩ := id hW
  have hA : DataW.TrodAll enc Try.prog W 0 (fun _ => true) true Try.f7.params.toList args.toList ds p := hA0
  rw [Try.params7] at hA hval
  obtain ⟨v0, v1, v2, v3, d0, d1, d2, d3, p0, p1, p2, p3, rfl, rfl, _, h0, h1, h2, h3⟩ := trodAll_four hA
  obtain ⟨a, c, t, rfl, hl, _, hm⟩ := arg_sliceM Try.underlying40 (brdItem W) (hval 0 40 v0 rfl rfl) h0
  obtain ⟨tx, rfl, _⟩ := arg_int Try.underlying3 (hval 1 3 v1 rfl rfl) h1
  obtain ⟨item, rfl, _⟩ := arg_int Try.underlying3 (hval 2 3 v2 rfl rfl) h2
  obtain ⟨mode, rfl, _⟩ := arg_int Try.underlying3 (hval 3 3 v3 rfl rfl) h3
  obtain ⟨rfl, rfl⟩ := trodVars_none hV
  have hb : Rows.uptoBulk d0 ≤ 1048576 := by
    have := of_decide_eq_true hk
    simp only [List.append_nil, Rows.uptoBulkAll] at this
    omega
  have hs : t.length ≤ 1048576 ∧ ∀ x ∈ t, x.2.1.length ≤ 1048576 ∧ x.2.2.length ≤ 1048576 := by
    refine ⟨?_, fun x hx => ?_⟩
    · have := sum_len (μ := muItem) (fun x => by simp [muItem]) t
      omega
    · have := sum_mem (μ := muItem) hx
      simp only [muItem] at this
      omega
  refine (lockOwn_ok W a c t tx item mode hl hs).mono fun e W' ⟨v, he, hp, hv⟩ => ?_
  subst he; subst hv
  exact ⟨_, rfl, law_post laidOut (by rw [Try.params7]; kernel_rfl) rfl rfl Try.underlying4 hW hp rfl⟩

theorem lockOwn_holds : Rows.LockOwnUptoSaid :=
  OpenClaim.holds_of_cond 7 Try.f7 rfl rfl rfl rfl rfl rfl rfl ⟨rfl, rfl, rfl, rfl, rfl⟩ rfl rfl rfl rfl rfl (by kernel_rfl) Try.func7 (by kernel_rfl)
    (of_decide_eq_true (by kernel_rfl)) (by unfold Func.isWrapper; first | (rw [if_pos (by decide +kernel)]; kernel_rfl) | (rw [if_neg (by decide +kernel)]; exact ⟨rfl, rfl⟩))
    (fun os started H enc _ F => lockOwn_lifted os started H enc F)
#print axioms lockOwn_holds
end Go.Proofs.Ytnghaidnbicjjaa
