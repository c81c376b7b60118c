/- For every story of bulk at most 1048576 the law OrderReplays returns true, and leaves its argument as it was. Condition: that bound on what is read (the statement's second form). -/
import Derived.Test.YtpenbdpgpamcbaaOrderR
import Derived.Test.YtpenbdpgpamcbaaOrderH
set_option linter.unusedVariables false
set_option linter.unusedSimpArgs false
set_option maxRecDepth 100000
namespace Go.Proofs.Ytpenbdpgpamcbaa
open Go Gw Go.ChangeShapes Go.WideShapes Go.ChangeAt Go.RowKit
theorem orderReplays_lifted (os : Os) (started : os.Started) (H : Type) (enc : TypeId × Value → H) (F : Stop.Interp) :
    ReturnsInHanded {} Try.checked os 3 .any ((Rows.OpenSpec.upto Rows.orderReplaysSpec).pre6 enc Try.prog Try.f3 Rows.orderReplaysUptoRow.domain false) (((Rows.OpenSpec.upto Rows.orderReplaysSpec).at F).post enc Try.prog Try.f3 false true false false) := by
  refine returnsInHanded_of_cond (C := Try.checked) (s := Rows.OpenSpec.upto Rows.orderReplaysSpec) (k := Rows.uptoSmall) rfl own started (by kernel_rfl) Try.func3
    (OpenSpec.witness (enc := enc) (C := Try.checked) (s := Rows.OpenSpec.upto Rows.orderReplaysSpec) (k := Rows.uptoSmall) rfl false ⟨#[], #[.agg #[.slice none 0 0, .slice none 0 0]], []⟩ 8 (by kernel_rfl) (by kernel_rfl) (by kernel_rfl)
      (x := ([.agg [.nil, .nil]], [], [])) (by kernel_rfl) rfl (by kernel_rfl)) ?_
  intro W base args ds gs before hval0 hW _ hk _
  have hval : ∀ (j : Nat) t v, Try.f3.params[j]? = some t → args[j]? = some v → Value.okWide Try.prog W .any base t v := hval0
  obtain ⟨p, q, hA0, hV, _⟩ := id hW
  have hA : DataW.TrodAll enc Try.prog W 0 (fun _ => true) true Try.f3.params.toList args.toList ds p := hA0
  rw [Try.params3] at hA hval
  obtain ⟨v0, d0, rfl, rfl, h0⟩ := trodAll_one hA
  obtain ⟨T, V, ta, va, tc, vc, rfl, hl, hm⟩ := arg_story (hval 0 25 v0 rfl rfl) h0
  obtain ⟨rfl, rfl⟩ := trodVars_none hV
  have hb : Rows.uptoBulk d0 ≤ 1048576 := by
    have := of_decide_eq_true hk
    simp only [List.append_nil, Rows.uptoBulkAll] at this
    omega
  refine (orderReplays_ok W T V ta va tc vc hl (by omega)).mono fun e W' ⟨v, he, hp, hv⟩ => ?_
  subst he; subst hv
  exact ⟨_, rfl, law_post laidOut (by rw [Try.params3]; kernel_rfl) rfl rfl Try.underlying4 hW hp rfl⟩

theorem orderReplays_holds : Rows.OrderReplaysUptoSaid :=
  OpenClaim.holds_of_cond 3 Try.f3 rfl rfl rfl rfl rfl rfl rfl ⟨rfl, rfl, rfl, rfl, rfl⟩ rfl rfl rfl rfl rfl (by kernel_rfl) Try.func3 (by kernel_rfl)
    (of_decide_eq_true (by kernel_rfl)) (by unfold Func.isWrapper; first | (rw [if_pos (by decide +kernel)]; kernel_rfl) | (rw [if_neg (by decide +kernel)]; exact ⟨rfl, rfl⟩))
    (fun os started H enc _ F => orderReplays_lifted os started H enc F)
#print axioms orderReplays_holds

end Go.Proofs.Ytpenbdpgpamcbaa
