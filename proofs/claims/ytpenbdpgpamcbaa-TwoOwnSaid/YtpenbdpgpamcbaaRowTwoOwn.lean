/- For every list of operations the law TwoOwn returns true, and leaves its argument as it was. Conditions: none. -/
import Derived.Test.YtpenbdpgpamcbaaTwoR
import Derived.Test.YtpenbdpgpamcbaaTwoK
set_option linter.unusedVariables false
set_option linter.unusedSimpArgs false
set_option maxRecDepth 100000
namespace Go.Proofs.Ytpenbdpgpamcbaa
open Go Gw Go.ChangeShapes Go.WideShapes Go.ChangeAt Go.RowKit
theorem twoOwn_lifted (os : Os) (started : os.Started) (H : Type) (enc : TypeId × Value → H) :
    ReturnsInHanded {} Try.checked os 6 .any (Rows.twoOwnSpec.pre6 enc Try.prog Try.f6 Rows.twoOwnRow.domain false) (Rows.twoOwnSpec.post enc Try.prog Try.f6 false true false false) := by
  refine returnsInHanded_of_change (C := Try.checked) own started (by kernel_rfl) Try.func6
    (ChangeSpec.witness6 (enc := enc) (C := Try.checked) false ⟨#[], #[.slice none 0 0], []⟩ 8 (by kernel_rfl) (by kernel_rfl) (by kernel_rfl) (by kernel_rfl)) ?_
  intro W base args ds gs before hval0 hW hcnd _
  have hval : ∀ (j : Nat) t v, Try.f6.params[j]? = some t → args[j]? = some v → Value.okWide Try.prog W .any base t v := hval0
  obtain ⟨p, q, hA0, hV, _⟩ := id hW
  have hA : DataW.TrodAll enc Try.prog W 0 (fun _ => true) true Try.f6.params.toList args.toList ds p := hA0
  rw [Try.params6] at hA hval
  obtain ⟨v0, d0, rfl, rfl, h0⟩ := trodAll_one hA
  obtain ⟨a, c, l, rfl, hl, _⟩ := arg_slice Try.underlying42 (brdAct W) (hval 0 42 v0 rfl rfl) h0
  refine (twoOwn_ok W a c l hl).mono fun e W' ⟨v, he, hp, hv⟩ => ?_
  subst he; subst hv
  obtain ⟨rfl, rfl⟩ := trodVars_none hV
  exact ⟨_, rfl, law_post laidOut (by rw [Try.params6]; kernel_rfl) rfl rfl Try.underlying4 hW hp rfl⟩

theorem twoOwn_holds : Rows.TwoOwnSaid :=
  OpenClaim.holds_of_wide 6 Try.f6 rfl rfl rfl rfl rfl rfl rfl ⟨rfl, rfl, rfl, rfl, rfl⟩ rfl rfl rfl rfl rfl (by kernel_rfl) Try.func6 (by kernel_rfl)
    (of_decide_eq_true (by kernel_rfl)) (by unfold Func.isWrapper; first | (rw [if_pos (by decide +kernel)]; kernel_rfl) | (rw [if_neg (by decide +kernel)]; exact ⟨rfl, rfl⟩))
    (fun os started H enc _ => twoOwn_lifted os started H enc)
#print axioms twoOwn_holds

end Go.Proofs.Ytpenbdpgpamcbaa
