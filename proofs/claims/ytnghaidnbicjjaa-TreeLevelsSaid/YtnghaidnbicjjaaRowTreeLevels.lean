/- For every list of deeds the law TreeLevels returns true, and leaves its argument as it was. Conditions: none. -/
import Derived.Test.YtnghaidnbicjjaaTreeV
import Derived.Test.YtnghaidnbicjjaaGwBridge
import Derived.Test.YtnghaidnbicjjaaRows
import Derived.ProofKit
set_option linter.unusedVariables false
set_option linter.unusedSimpArgs false
set_option maxRecDepth 100000
namespace Go.Proofs.Ytnghaidnbicjjaa
open Go Gw Go.ChangeShapes Go.WideShapes Go.ChangeAt Go.RowKit

theorem own : ownKnob Try.prog.godebug = none := by kernel_rfl
theorem laidOut : laidOutB Try.prog = true := by kernel_rfl
theorem cells3i : Try.prog.cellsOf 3 = 1 := by kernel_rfl
theorem brd3 (w : World) : Brd Try.prog w 3 i64 := brd_int Try.underlying3 cells3i
theorem brd9 (w : World) : Brd Try.prog w 9 strR := brd_str Try.underlying9 (by kernel_rfl)
theorem brdDeed (w : World) : Brd Try.prog w 26 deedR := by
  refine brd_struct Try.underlying26 (by decide) (by kernel_rfl) fun cs hl hf => ?_
  obtain ⟨y0, S0, ⟨_, h0⟩, _⟩ := (brd3 w).field hf 0 rfl rfl rfl
  obtain ⟨y1, S1, ⟨_, h1⟩, _⟩ := (brd3 w).field hf 1 rfl rfl rfl
  obtain ⟨y2, S2, ⟨_, h2⟩, _⟩ := (brd9 w).field hf 2 rfl rfl rfl
  have e : cs = encDeed (y0, y1, y2) := by
    match cs, hl with
    | [a, b, c], _ =>
      simp [i64, strR, Rdr.flat] at h0 h1 h2
      simp [encDeed, h0, h1, h2]
  rw [e]
  exact ⟨_, Seen.flat _⟩

theorem treeLevels_lifted (os : Os) (started : os.Started) (H : Type) (enc : TypeId × Value → H) :
    ReturnsInHanded {} Try.checked os 3 .any (Rows.treeLevelsSpec.pre6 enc Try.prog Try.f3 Rows.treeLevelsRow.domain false) (Rows.treeLevelsSpec.post enc Try.prog Try.f3 false true false false) := by
  refine returnsInHanded_of_change (C := Try.checked) own started (by kernel_rfl) Try.func3
    (ChangeSpec.witness6 (enc := enc) (C := Try.checked) false ⟨#[], #[.slice none 0 0], []⟩ 8 (by kernel_rfl) (by kernel_rfl) (by kernel_rfl) (by kernel_rfl)) ?_
  intro W base args ds gs before hval0 hW hcnd _
  have hval : ∀ (j : Nat) t v, Try.f3.params[j]? = some t → args[j]? = some v → Value.okWide Try.prog W .any base t v := hval0
  obtain ⟨p, q, hA0, hV, _⟩ := id hW
  have hA : DataW.TrodAll enc Try.prog W 0 (fun _ => true) true Try.f3.params.toList args.toList ds p := hA0
  rw [Try.params3] at hA hval
  obtain ⟨v0, d0, rfl, rfl, h0⟩ := trodAll_one hA
  obtain ⟨a, c, l, rfl, hl, _⟩ := arg_slice Try.underlying22 (brdDeed W) (hval 0 22 v0 rfl rfl) h0
  refine (treeLevels_ok W a c l hl).mono fun e W' ⟨v, he, hp, hv⟩ => ?_
  subst he; subst hv
  obtain ⟨rfl, rfl⟩ := trodVars_none hV
  exact ⟨_, rfl, law_post laidOut (by rw [Try.params3]; kernel_rfl) rfl rfl Try.underlying4 hW hp rfl⟩

theorem treeLevels_holds : Rows.TreeLevelsSaid :=
  OpenClaim.holds_of_wide 3 Try.f3 rfl rfl rfl rfl rfl rfl rfl ⟨rfl, rfl, rfl, rfl, rfl⟩ rfl rfl rfl rfl rfl (by kernel_rfl) Try.func3 (by kernel_rfl)
    (of_decide_eq_true (by kernel_rfl)) (by unfold Func.isWrapper; first | (rw [if_pos (by decide +kernel)]; kernel_rfl) | (rw [if_neg (by decide +kernel)]; exact ⟨rfl, rfl⟩))
    (fun os started H enc _ => treeLevels_lifted os started H enc)
#print axioms treeLevels_holds
end Go.Proofs.Ytnghaidnbicjjaa
