/- For every list of deeds, every key and every number the law TreeOrder returns true, and leaves its arguments as they were. Conditions: none. -/
import Derived.Test.YtnghaidnbicjjaaTreeZ
import Derived.Test.YtnghaidnbicjjaaGwBridge
import Derived.Test.YtnghaidnbicjjaaRows
import Derived.ProofKit
set_option linter.unusedVariables false
set_option linter.unusedSimpArgs false
set_option maxRecDepth 100000
namespace Go.Proofs.Ytnghaidnbicjjaa
open Go Gw Go.ChangeShapes Go.WideShapes Go.ChangeAt Go.RowKit

theorem own : ownKnob Try.prog.godebug = none := by kernel_rfl
theorem laidOut : laidOutB Try.prog = true := by kernel_rfl
theorem cells3i : Try.prog.cellsOf 3 = 1 := by kernel_rfl
theorem brd3 (w : World) : Brd Try.prog w 3 i64 := brd_int Try.underlying3 cells3i
theorem brd9 (w : World) : Brd Try.prog w 9 strR := brd_str Try.underlying9 (by kernel_rfl)
theorem brdDeed (w : World) : Brd Try.prog w 26 deedR := by
  refine brd_struct Try.underlying26 (by decide) (by kernel_rfl) fun cs hl hf => ?_
  obtain ⟨y0, S0, ⟨_, h0⟩, _⟩ := (brd3 w).field hf 0 rfl rfl rfl
  obtain ⟨y1, S1, ⟨_, h1⟩, _⟩ := (brd3 w).field hf 1 rfl rfl rfl
  obtain ⟨y2, S2, ⟨_, h2⟩, _⟩ := (brd9 w).field hf 2 rfl rfl rfl
  have e : cs = encDeed (y0, y1, y2) := by
    match cs, hl with
    | [a, b, c], _ =>
      simp [i64, strR, Rdr.flat] at h0 h1 h2
      simp [encDeed, h0, h1, h2]
  rw [e]
  exact ⟨_, Seen.flat _⟩

theorem treeOrder_lifted (os : Os) (started : os.Started) (H : Type) (enc : TypeId × Value → H) :
    ReturnsInHanded {} Try.checked os 4 .any (Rows.treeOrderSpec.pre6 enc Try.prog Try.f4 Rows.treeOrderRow.domain false) (Rows.treeOrderSpec.post enc Try.prog Try.f4 false true false false) := by
  refine returnsInHanded_of_change (C := Try.checked) own started (by kernel_rfl) Try.func4
    (ChangeSpec.witness6 (enc := enc) (C := Try.checked) false ⟨#[], #[.slice none 0 0, .int .i64 0, .int .i64 0], []⟩ 8 (by kernel_rfl) (by kernel_rfl) (by kernel_rfl) (by kernel_rfl)) ?_
  intro W base args ds gs before hval0 hW hcnd _
  have hval : ∀ (j : Nat) t v, Try.f4.params[j]? = some t → args[j]? = some v → Value.okWide Try.prog W .any base t v := hval0
  obtain ⟨p, q, hA0, hV, _⟩ := id hW
  have hA : DataW.TrodAll enc Try.prog W 0 (fun _ => true) true Try.f4.params.toList args.toList ds p := hA0
  rw [Try.params4] at hA hval
  obtain ⟨v0, v1, v2, d0, d1, d2, p0, p1, p2, rfl, rfl, _, h0, h1, h2⟩ := trodAll_three hA
  obtain ⟨a, c, l, rfl, hl, _⟩ := arg_slice Try.underlying22 (brdDeed W) (hval 0 22 v0 rfl rfl) h0
  obtain ⟨k1, rfl, _⟩ := arg_int Try.underlying3 (hval 1 3 v1 rfl rfl) h1
  obtain ⟨k2, rfl, _⟩ := arg_int Try.underlying3 (hval 2 3 v2 rfl rfl) h2
  refine (treeOrder_ok W a c l k1 k2 hl).mono fun e W' ⟨v, he, hp, hv⟩ => ?_
  subst he; subst hv
  obtain ⟨rfl, rfl⟩ := trodVars_none hV
  exact ⟨_, rfl, law_post laidOut (by rw [Try.params4]; kernel_rfl) rfl rfl Try.underlying4 hW hp rfl⟩

theorem treeOrder_holds : Rows.TreeOrderSaid :=
  OpenClaim.holds_of_wide 4 Try.f4 rfl rfl rfl rfl rfl rfl rfl ⟨rfl, rfl, rfl, rfl, rfl⟩ rfl rfl rfl rfl rfl (by kernel_rfl) Try.func4 (by kernel_rfl)
    (of_decide_eq_true (by kernel_rfl)) (by unfold Func.isWrapper; first | (rw [if_pos (by decide +kernel)]; kernel_rfl) | (rw [if_neg (by decide +kernel)]; exact ⟨rfl, rfl⟩))
    (fun os started H enc _ => treeOrder_lifted os started H enc)
#print axioms treeOrder_holds
end Go.Proofs.Ytnghaidnbicjjaa
