/- For every number of nodes and every list of edges the law WaitVictims returns true, and leaves its arguments as they were. Conditions: none. -/
import Derived.Test.YtnghaidnbicjjaaGraphI
import Derived.Test.YtnghaidnbicjjaaGwBridge
import Derived.Test.YtnghaidnbicjjaaRows
import Derived.ProofKit
set_option linter.unusedVariables false
set_option linter.unusedSimpArgs false
set_option maxRecDepth 100000
namespace Go.Proofs.Ytnghaidnbicjjaa
open Go Gw Go.ChangeShapes Go.WideShapes Go.ChangeAt Go.RowKit

theorem own : ownKnob Try.prog.godebug = none := by kernel_rfl
theorem laidOut : laidOutB Try.prog = true := by kernel_rfl
theorem cells3i : Try.prog.cellsOf 3 = 1 := by kernel_rfl
theorem brd3 (w : World) : Brd Try.prog w 3 i64 := brd_int Try.underlying3 cells3i
theorem brdEdge (w : World) : Brd Try.prog w 56 edgeR := by
  refine brd_struct Try.underlying56 (by decide) (by kernel_rfl) fun cs hl hf => ?_
  obtain ⟨y0, S0, ⟨_, h0⟩, _⟩ := (brd3 w).field hf 0 rfl rfl rfl
  obtain ⟨y1, S1, ⟨_, h1⟩, _⟩ := (brd3 w).field hf 1 rfl rfl rfl
  have e : cs = encE (y0, y1) := by
    match cs, hl with
    | [a, b], _ =>
      simp [i64, Rdr.flat] at h0 h1
      simp [encE, h0, h1]
  rw [e]
  exact ⟨_, Seen.flat _⟩

theorem waitVictims_lifted (os : Os) (started : os.Started) (H : Type) (enc : TypeId × Value → H) :
    ReturnsInHanded {} Try.checked os 9 .any (Rows.waitVictimsSpec.pre6 enc Try.prog Try.f9 Rows.waitVictimsRow.domain false) (Rows.waitVictimsSpec.post enc Try.prog Try.f9 false true false false) := by
  refine returnsInHanded_of_change (C := Try.checked) own started (by kernel_rfl) Try.func9
    (ChangeSpec.witness6 (enc := enc) (C := Try.checked) false ⟨#[], #[.int .i64 0, .slice none 0 0], []⟩ 8 (by kernel_rfl) (by kernel_rfl) (by kernel_rfl) (by kernel_rfl)) ?_
  intro W base args ds gs before hval0 hW hcnd _
  have hval : ∀ (j : Nat) t v, Try.f9.params[j]? = some t → args[j]? = some v → Value.okWide Try.prog W .any base t v := hval0
  obtain ⟨p, q, hA0, hV, _⟩ := id hW
  have hA : DataW.TrodAll enc Try.prog W 0 (fun _ => true) true Try.f9.params.toList args.toList ds p := hA0
  rw [Try.params9] at hA hval
  obtain ⟨v0, v1, d0, d1, p0, p1, rfl, rfl, _, h0, h1⟩ := trodAll_two hA
  obtain ⟨n, rfl, _⟩ := arg_int Try.underlying3 (hval 0 3 v0 rfl rfl) h0
  obtain ⟨a, c, l, rfl, hl, _⟩ := arg_slice Try.underlying46 (brdEdge W) (hval 1 46 v1 rfl rfl) h1
  refine (waitVictims_ok W n a c l hl).mono fun e W' ⟨v, he, hp, hv⟩ => ?_
  subst he; subst hv
  obtain ⟨rfl, rfl⟩ := trodVars_none hV
  exact ⟨_, rfl, law_post laidOut (by rw [Try.params9]; kernel_rfl) rfl rfl Try.underlying4 hW hp rfl⟩

theorem waitVictims_holds : Rows.WaitVictimsSaid :=
  OpenClaim.holds_of_wide 9 Try.f9 rfl rfl rfl rfl rfl rfl rfl ⟨rfl, rfl, rfl, rfl, rfl⟩ rfl rfl rfl rfl rfl (by kernel_rfl) Try.func9 (by kernel_rfl)
    (of_decide_eq_true (by kernel_rfl)) (by unfold Func.isWrapper; first | (rw [if_pos (by decide +kernel)]; kernel_rfl) | (rw [if_neg (by decide +kernel)]; exact ⟨rfl, rfl⟩))
    (fun os started H enc _ => waitVictims_lifted os started H enc)
#print axioms waitVictims_holds
end Go.Proofs.Ytnghaidnbicjjaa
