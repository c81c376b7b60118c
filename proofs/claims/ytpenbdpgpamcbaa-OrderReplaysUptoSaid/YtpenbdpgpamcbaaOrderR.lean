/- order: the bridge: how a story that is read lies in memory, with its bulk. Conditions: each fact's own premises. -/
import Derived.Test.YtpenbdpgpamcbaaOrderA
import Derived.Test.YtpenbdpgpamcbaaOrderC
import Derived.Test.YtpenbdpgpamcbaaGwBulk
import Derived.Test.YtpenbdpgpamcbaaRows
import Derived.ProofKit
set_option linter.unusedVariables false
set_option linter.unusedSimpArgs false
set_option maxRecDepth 100000
namespace Go.Proofs.Ytpenbdpgpamcbaa
open Go Gw Go.ChangeShapes Go.WideShapes Go.ChangeAt Go.RowKit

theorem own : ownKnob Try.prog.godebug = none := by kernel_rfl
theorem laidOut : laidOutB Try.prog = true := by kernel_rfl
theorem cellsInt : Try.prog.cellsOf 3 = 1 := by kernel_rfl
theorem brdInt (w : World) : Brd Try.prog w 3 i64 := brd_int Try.underlying3 cellsInt
theorem brdGot (w : World) : Brd Try.prog w 27 edgeR := by
  refine brd_struct Try.underlying27 (by decide) (by kernel_rfl) fun cs hl hf => ?_
  obtain ⟨y0, S0, ⟨_, h0⟩, _⟩ := (brdInt w).field hf 0 rfl rfl rfl
  obtain ⟨y1, S1, ⟨_, h1⟩, _⟩ := (brdInt w).field hf 1 rfl rfl rfl
  have e : cs = encE (y0, y1) := by
    match cs, hl with
    | [a, b], _ =>
      simp [i64, Rdr.flat] at h0 h1
      simp [encE, h0, h1]
  rw [e]
  exact ⟨_, Seen.flat _⟩
theorem ones {α : Type} (xs : List α) : (xs.map fun _ => 1).sum = xs.length := by
  induction xs with
  | nil => rfl
  | cons x xs ih => rw [List.map_cons, List.sum_cons, ih, List.length_cons]; omega
def muTale (x : Tale) : Nat := x.2.length + 1
theorem brdTale (w : World) : BrdM Try.prog w 30 taleR muTale := by
  refine brdM_struct Try.underlying30 (by decide) (by kernel_rfl) fun cs hl H enc n xs hxl hf => ?_
  have bs : BrdM Try.prog w 28 (Rdr.rd edgeR) _ := brdM_slice Try.underlying28 (by kernel_rfl) (brdGot w).m
  have f0 := hf 0 _ rfl
  have f1 := hf 1 _ rfl
  match xs, hxl with
  | [p0, p1], _ =>
    have g0 : DataW.trod enc Try.prog w 0 (fun _ => true) true n 3 ((cs.drop 0).take (Try.prog.cellsOf 3)) = some p0 := f0
    have g1 : DataW.trod enc Try.prog w 0 (fun _ => true) true n 28 ((cs.drop 1).take (Try.prog.cellsOf 28)) = some p1 := f1
    rw [cellsInt] at g0
    rw [bs.cells] at g1
    obtain ⟨y0, S0, ⟨_, h0⟩, _⟩ := (brdInt w).rd H enc n _ _ g0
    obtain ⟨y1, ⟨S1, ⟨a1, c1, h1, r1⟩, hs1⟩, m1⟩ := bs.rd H enc n _ _ g1
    rw [ones] at m1
    match cs, hl with
    | [a, b], _ =>
      change [b] = _ at h1
      simp [i64, Rdr.flat] at h0
      simp only [List.cons.injEq, and_true] at h1
      refine ⟨(y0, y1), ⟨fun b => b < w.heap.size, ⟨a1, c1, by rw [h0, h1], r1.more hs1 (fun _ h => h)⟩, fun _ h => h⟩, ?_⟩
      simp only [muTale, List.map_cons, List.map_nil, Rows.uptoBulkAll]
      omega
/-- A story as a datum that is read. -/
def storyRd : Rdr (List Tale × List (List Int)) where
  sz := 2
  R w S x cs := ∃ a c b d, cs = [.slice a x.1.length c, .slice b x.2.length d] ∧ ReadR taleR w S a c x.1 ∧ ReadR (Rdr.rd i64) w S b d x.2
  len := fun ⟨_, _, _, _, h, _⟩ => by rw [h]; rfl
  loc := fun ⟨a, c, b, d, h, h1, h2⟩ hw => ⟨a, c, b, d, h, h1.loc hw, h2.loc hw⟩
  dom := fun ⟨_, _, _, _, _, h1, _⟩ => h1.dom
  one := fun ⟨_, _, _, _, h, _⟩ v hv => by subst h; simp at hv; rcases hv with rfl | rfl <;> rfl
theorem readsN_mu (T : List Tale) : readsN T ≤ (T.map muTale).sum := by
  induction T with
  | nil => simp [readsN]
  | cons x T ih => simp only [readsN, List.map_cons, List.sum_cons, muTale] at *; omega
theorem brdStory (w : World) : BrdM Try.prog w 25 storyRd fun x => readsN x.1 := by
  refine brdM_struct Try.underlying25 (by decide) (by kernel_rfl) fun cs hl H enc n xs hxl hf => ?_
  have bt : BrdM Try.prog w 22 (Rdr.rd taleR) _ := brdM_slice Try.underlying22 (by kernel_rfl) (brdTale w)
  have bi : Brd Try.prog w 31 (Rdr.rd i64) := brd_slice Try.underlying31 (by kernel_rfl) (brdInt w)
  have bv : Brd Try.prog w 23 (Rdr.rd (Rdr.rd i64)) := brd_slice Try.underlying23 (by kernel_rfl) bi
  have f0 := hf 0 _ rfl
  have f1 := hf 1 _ rfl
  match xs, hxl with
  | [p0, p1], _ =>
    have g0 : DataW.trod enc Try.prog w 0 (fun _ => true) true n 22 ((cs.drop 0).take (Try.prog.cellsOf 22)) = some p0 := f0
    have g1 : DataW.trod enc Try.prog w 0 (fun _ => true) true n 23 ((cs.drop 1).take (Try.prog.cellsOf 23)) = some p1 := f1
    rw [bt.cells] at g0
    rw [bv.cells] at g1
    obtain ⟨y0, ⟨S0, ⟨a0, c0, h0, r0⟩, hs0⟩, m0⟩ := bt.rd H enc n _ _ g0
    obtain ⟨y1, ⟨S1, ⟨a1, c1, h1, r1⟩, hs1⟩⟩ := bv.rd H enc n _ _ g1
    match cs, hl with
    | [a, b], _ =>
      change [a] = _ at h0
      change [b] = _ at h1
      simp only [List.cons.injEq, and_true] at h0 h1
      refine ⟨(y0, y1), ⟨fun b => b < w.heap.size, ⟨a0, c0, a1, c1, by rw [h0, h1], r0.more hs0 (fun _ h => h), r1.more hs1 (fun _ h => h)⟩, fun _ h => h⟩, ?_⟩
      have := readsN_mu y0
      simp only [List.map_cons, List.map_nil, Rows.uptoBulkAll]
      omega
theorem arg_story {w : World} {base : Nat} {H : Type} {enc : TypeId × Value → H} {v : Value} {d : DataW H} {p : List MemPlace} {rc : Reach} (hok : Value.okWide Try.prog w rc base 25 v) (h : DataW.Trod enc Try.prog w 0 (fun _ => true) true 25 v d p) :
    ∃ T V ta va tc vc, v = .agg #[.slice ta (List.length T) tc, .slice va (List.length V) vc] ∧ StoryR w T V ta va tc vc ∧ readsN T ≤ Rows.uptoBulk d := by
  obtain ⟨cs, rfl, _⟩ := okWide_struct Try.underlying25 hok
  obtain ⟨fuel, hf⟩ := h
  obtain ⟨⟨T, V⟩, ⟨S, ⟨ta, tc, va, vc, e, h1, h2⟩, _⟩, hμ⟩ := (brdStory w).rd H enc fuel _ _ hf
  refine ⟨T, V, ta, va, tc, vc, ?_, ⟨⟨S, h1⟩, ⟨S, h2⟩⟩, hμ⟩
  have e2 : cs.toList = [.slice ta T.length tc, .slice va V.length vc] := by simpa [Value.cells] using e
  rw [← Array.toArray_toList (xs := cs), e2]
end Go.Proofs.Ytpenbdpgpamcbaa
