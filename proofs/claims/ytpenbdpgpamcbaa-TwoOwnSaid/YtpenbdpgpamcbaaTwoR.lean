/- two: the bridge: how operations that are read lie in memory. Conditions: each fact's own premises. -/
import Derived.Test.YtpenbdpgpamcbaaTwoD
import Derived.Test.YtpenbdpgpamcbaaGwBridge
import Derived.Test.YtpenbdpgpamcbaaRows
import Derived.ProofKit
set_option linter.unusedVariables false
set_option linter.unusedSimpArgs false
set_option maxRecDepth 100000
namespace Go.Proofs.Ytpenbdpgpamcbaa
open Go Gw Go.ChangeShapes Go.WideShapes Go.ChangeAt Go.RowKit

theorem own : ownKnob Try.prog.godebug = none := by kernel_rfl
theorem laidOut : laidOutB Try.prog = true := by kernel_rfl
theorem cellsInt : Try.prog.cellsOf 3 = 1 := by kernel_rfl
theorem brdInt (w : World) : Brd Try.prog w 3 i64 := brd_int Try.underlying3 cellsInt
theorem brdAct (w : World) : Brd Try.prog w 44 actR := by
  refine brd_struct Try.underlying44 (by decide) (by kernel_rfl) fun cs hl hf => ?_
  obtain ⟨y0, S0, ⟨_, h0⟩, _⟩ := (brdInt w).field hf 0 rfl rfl rfl
  obtain ⟨y1, S1, ⟨_, h1⟩, _⟩ := (brdInt w).field hf 1 rfl rfl rfl
  obtain ⟨y2, S2, ⟨_, h2⟩, _⟩ := (brdInt w).field hf 2 rfl rfl rfl
  have e : cs = encA (y0, y1, y2) := by
    match cs, hl with
    | [a, b, c], _ =>
      simp [i64, Rdr.flat] at h0 h1 h2
      simp [encA, h0, h1, h2]
  rw [e]
  exact ⟨_, Seen.flat _⟩
end Go.Proofs.Ytpenbdpgpamcbaa
