/- tree: New, Len, Get. -/
import Derived.Test.YtnghaidnbicjjaaTreeB
set_option linter.unusedVariables false
set_option linter.unusedSimpArgs false
set_option maxRecDepth 20000
namespace Go.Proofs.Ytnghaidnbicjjaa
open Go Gw
attribute [local irreducible] W WO WD WF

/-- A tree of this height in which one can walk. -/
structure Wn (x : Nd) : Prop where
  texts : x.texts.length = x.keys.length
  len : x.keys.length ≤ 1000
  sorted : x.keys.Pairwise (· < ·)
def Wk : Nat → Nd → Prop
  | 0, x => Wn x ∧ x.kids = []
  | h + 1, x => Wn x ∧ x.kids.length = x.keys.length + 1 ∧ ∀ y ∈ x.kids, Wk h y
theorem Wk.n {h : Nat} {x : Nd} (H : Wk h x) : Wn x := by cases h <;> exact H.1
def getF : Nat → Nd → Int → Option ByteArray
  | 0, x, key => if hasF' x.keys key then x.texts[posF x.keys key]? else none
  | h + 1, x, key => if hasF' x.keys key then x.texts[posF x.keys key]? else match x.kids[posF x.keys key]? with
    | some y => getF h y key
    | none => none
theorem getF_hit {h : Nat} {x : Nd} {key : Int} (hh : hasF' x.keys key = true) : getF h x key = x.texts[posF x.keys key]? := by cases h <;> simp [getF, hh]
theorem hasF_lt {keys : List Int} {key : Int} (h : hasF' keys key = true) : posF keys key < keys.length := by
  simp only [hasF', decide_eq_true_eq] at h
  exact (List.getElem?_eq_some_iff.1 h).1
def getV (o : Option ByteArray) : Value := match o with
  | some s => .tuple #[.string s, .int .i64 0]
  | none => .tuple #[.string ⟨#[]⟩, .int .i64 6]

structure GetS where
  h : Nat
  b : Nat
  x : Nd

theorem get_ok (w : World) (bt br h : Nat) (x : Nd) (n key : Int) (hT : Holds w (blk bt 84 [.pointer (some ⟨br, 0, none⟩), .int .i64 n])) (hN : Holds w (nodeA h br x)) (hW : Wk h x) :
    Calls Try.prog 14 #[.pointer (some ⟨bt, 0, none⟩), .int .i64 key] w (Ret fun v w' => Pure w w' ∧ v = getV (getF h x key)) := by
  refine calls_W (args := [_, _]) Try.func14 rfl Try.ntmps14 rfl ?_
  have H := St.start [blk bt 84 [.pointer (some ⟨br, 0, none⟩), .int .i64 n]] (w := w) (by simpa using hT)
  (repeat (first | refine WO.run tabOk rfl rfl ?_ | refine WO.nil ?_ | refine WO.skip rfl rfl rfl ?_ | refine WO.pu tabOk rfl rfl rfl rfl ?_ | refine W.seq ?_ | refine W.region ?_ | refine W.block ?_ | refine W.skip ?_ | refine W.exit ?_ | refine WO.one rfl rfl rfl (OpW.load1 tabOk rfl rfl rfl rfl H (by (first | exact .head _ | exact .tail _ (.head _) | exact .tail _ (.tail _ (.head _)) | exact .tail _ (.tail _ (.tail _ (.head _))) | exact .tail _ (.tail _ (.tail _ (.tail _ (.head _)))) | exact .tail _ (.tail _ (.tail _ (.tail _ (.tail _ (.head _))))) | exact .tail _ (.tail _ (.tail _ (.tail _ (.tail _ (.tail _ (.head _)))))) | exact .tail _ (.tail _ (.tail _ (.tail _ (.tail _ (.tail _ (.tail _ (.head _))))))))) rfl ?_)))
  refine W.loopS [1, 6] (fun s : GetS => [(1, .int .i64 key), (6, .pointer (some ⟨s.b, 0, none⟩))])
    (fun s w' => Holds w' (nodeA s.h s.b s.x) ∧ Wk s.h s.x ∧ getF h x key = getF s.h s.x key ∧ Pure w w') (fun s => s.h) ⟨h, br, x⟩ rfl ⟨hN, hW, rfl, Pure.refl w⟩ ?_
  clear H hT hN hW
  rintro ⟨h', b, y⟩ w1 ⟨hN, hW, hg, hp⟩
  simp only at hN hW hg
  obtain ⟨vk, vt, vc, hb, hk, ht, hc⟩ := node_read hN
  (repeat (first | refine WO.run tabOk rfl rfl ?_ | refine WO.nil ?_ | refine WO.skip rfl rfl rfl ?_ | refine WO.pu tabOk rfl rfl rfl rfl ?_ | refine W.seq ?_ | refine W.region ?_ | refine W.block ?_ | refine W.skip ?_ | refine W.exit ?_))
  refine WO.one rfl rfl rfl (OpW.call rfl Try.call40 rfl (Calls.ret (find_ok w1 b vk vt vc y.keys key hb hk (by have := hW.n.len; omega) hW.n.sorted) ?_))
  rintro _ w2 ⟨hp2, rfl⟩
  have hb := hb.pure hp2
  have H := St.start [blk b 88 [vk, vt, vc]] (w := w2) (by simpa using hb)
  have hpp := hp.trans hp2
  (repeat (first | refine WO.run tabOk rfl rfl ?_ | refine WO.nil ?_ | refine WO.skip rfl rfl rfl ?_ | refine WO.pu tabOk rfl rfl rfl rfl ?_ | refine W.seq ?_ | refine W.region ?_ | refine W.block ?_ | refine W.skip ?_ | refine W.exit ?_))
  refine W.cond rfl (fun he => ?_) (fun he => ?_)
  · obtain ⟨ta, tc, rfl, hT⟩ := texts_rd (ht.pure hp2)
    have hlt := hasF_lt he
    rw [← hW.n.texts] at hlt
    obtain ⟨bb, bo, rfl⟩ := hT.addr (by omega)
    have hx := List.getElem?_eq_getElem hlt
    generalize y.texts[posF y.keys key] = s at hx
    (repeat (first | refine WO.run tabOk rfl rfl ?_ | refine WO.nil ?_ | refine WO.skip rfl rfl rfl ?_ | refine WO.pu tabOk rfl rfl rfl rfl ?_ | refine W.seq ?_ | refine W.region ?_ | refine W.block ?_ | refine W.skip ?_ | refine W.exit ?_ | refine WO.one rfl rfl rfl (OpW.load1 tabOk rfl rfl rfl rfl H (by (first | exact .head _ | exact .tail _ (.head _) | exact .tail _ (.tail _ (.head _)) | exact .tail _ (.tail _ (.tail _ (.head _))) | exact .tail _ (.tail _ (.tail _ (.tail _ (.head _)))) | exact .tail _ (.tail _ (.tail _ (.tail _ (.tail _ (.head _))))) | exact .tail _ (.tail _ (.tail _ (.tail _ (.tail _ (.tail _ (.head _)))))) | exact .tail _ (.tail _ (.tail _ (.tail _ (.tail _ (.tail _ (.tail _ (.head _))))))))) rfl ?_)))
    refine WO.pv rfl rfl rfl (PureV.idxN tabOk rfl rfl rfl rfl rfl rfl hlt) ?_
    refine WO.one rfl rfl rfl (OpW.elem1 (i := posF y.keys key) (j := 0) tabOk rfl rfl rfl rfl hT hx rfl rfl ?_)
    (repeat (first | refine WO.run tabOk rfl rfl ?_ | refine WO.nil ?_ | refine WO.skip rfl rfl rfl ?_ | refine WO.pu tabOk rfl rfl rfl rfl ?_ | refine W.seq ?_ | refine W.region ?_ | refine W.block ?_ | refine W.skip ?_ | refine W.exit ?_))
    refine W.ret (ret2 Try.results14 rfl rfl ⟨_, rfl, hpp, ?_⟩)
    rw [hg, getF_hit he, hx]
    rfl
  obtain ⟨ca, cc, rfl, hC⟩ := row_rd (hc.pure hp2)
  (repeat (first | refine WO.run tabOk rfl rfl ?_ | refine WO.nil ?_ | refine WO.skip rfl rfl rfl ?_ | refine WO.pu tabOk rfl rfl rfl rfl ?_ | refine W.seq ?_ | refine W.region ?_ | refine W.block ?_ | refine W.skip ?_ | refine W.exit ?_ | refine WO.one rfl rfl rfl (OpW.load1 tabOk rfl rfl rfl rfl H (by (first | exact .head _ | exact .tail _ (.head _) | exact .tail _ (.tail _ (.head _)) | exact .tail _ (.tail _ (.tail _ (.head _))) | exact .tail _ (.tail _ (.tail _ (.tail _ (.head _)))) | exact .tail _ (.tail _ (.tail _ (.tail _ (.tail _ (.head _))))) | exact .tail _ (.tail _ (.tail _ (.tail _ (.tail _ (.tail _ (.head _)))))) | exact .tail _ (.tail _ (.tail _ (.tail _ (.tail _ (.tail _ (.tail _ (.head _))))))))) rfl ?_)))
  refine W.cond rfl (fun h0 => ?_) (fun h0 => ?_)
  · (repeat (first | refine WO.run tabOk rfl rfl ?_ | refine WO.nil ?_ | refine WO.skip rfl rfl rfl ?_ | refine WO.pu tabOk rfl rfl rfl rfl ?_ | refine W.seq ?_ | refine W.region ?_ | refine W.block ?_ | refine W.skip ?_ | refine W.exit ?_))
    refine W.ret (ret2 Try.results14 rfl rfl ⟨_, rfl, hpp, ?_⟩)
    simp at h0
    rw [hg]
    cases h' with
    | zero => simp [getF, he]; rfl
    | succ h' =>
      have := hW.2.1
      rw [h0] at this
      simp at this
  cases h' with
  | zero =>
    have := hW.2
    rw [this] at h0
    simp at h0
  | succ h' =>
    have hkl := hW.2.1
    have hle := posF_le y.keys key
    obtain ⟨bb, bo, rfl⟩ := hC.addr (by omega)
    have hx := List.getElem?_eq_getElem (l := y.kids) (i := posF y.keys key) (by omega)
    generalize y.kids[posF y.keys key] = z at hx
    obtain ⟨bk, hcell, hz⟩ := kid_read (h := h') hC hx
    (repeat (first | refine WO.run tabOk rfl rfl ?_ | refine WO.nil ?_ | refine WO.skip rfl rfl rfl ?_ | refine WO.pu tabOk rfl rfl rfl rfl ?_ | refine W.seq ?_ | refine W.region ?_ | refine W.block ?_ | refine W.skip ?_ | refine W.exit ?_ | refine WO.one rfl rfl rfl (OpW.load1 tabOk rfl rfl rfl rfl H (by (first | exact .head _ | exact .tail _ (.head _) | exact .tail _ (.tail _ (.head _)) | exact .tail _ (.tail _ (.tail _ (.head _))) | exact .tail _ (.tail _ (.tail _ (.tail _ (.head _)))) | exact .tail _ (.tail _ (.tail _ (.tail _ (.tail _ (.head _))))) | exact .tail _ (.tail _ (.tail _ (.tail _ (.tail _ (.tail _ (.head _)))))) | exact .tail _ (.tail _ (.tail _ (.tail _ (.tail _ (.tail _ (.tail _ (.head _))))))))) rfl ?_)))
    refine WO.pv rfl rfl rfl (PureV.idxN tabOk rfl rfl rfl rfl rfl rfl (by omega)) ?_
    refine WO.one rfl rfl rfl (OpW.loadc tabOk rfl rfl rfl rfl hcell ?_)
    (repeat (first | refine WO.run tabOk rfl rfl ?_ | refine WO.nil ?_ | refine WO.skip rfl rfl rfl ?_ | refine WO.pu tabOk rfl rfl rfl rfl ?_ | refine W.seq ?_ | refine W.region ?_ | refine W.block ?_ | refine W.skip ?_ | refine W.exit ?_))
    refine ⟨⟨h', bk, z⟩, rfl, ⟨hz, hW.2.2 z (List.mem_of_getElem? hx), ?_, hpp⟩, by simp only; omega⟩
    rw [hg, getF, if_neg (by simpa using he), hx]

theorem new_ok (w : World) : Calls Try.prog 35 #[] w (Ret fun v w' => ∃ bt br, v = .pointer (some ⟨bt, 0, none⟩) ∧ St (at0 w) w' [blk bt 84 [.pointer (some ⟨br, 0, none⟩), .int .i64 0], nodeA 0 br (.mk [] [] [])] []) := by
  refine calls_W (args := []) Try.func35 rfl Try.ntmps35 rfl ?_
  have H := St.start [] (w := w) (by simp)
  (repeat (first | refine WO.run tabOk rfl rfl ?_ | refine WO.nil ?_ | refine WO.skip rfl rfl rfl ?_ | refine WO.pu tabOk rfl rfl rfl rfl ?_ | refine W.seq ?_ | refine W.region ?_ | refine W.block ?_ | refine W.skip ?_ | refine W.exit ?_))
  refine WO.pv rfl rfl rfl (PureV.build tabOk rfl rfl rfl zero88 (l := [.slice none 0 0, .slice none 0 0, .slice none 0 0]) rfl) ?_
  refine WO.one rfl rfl rfl (OpW.box rfl rfl rfl H ?_); intro b2 w1 H1
  refine WO.pv rfl rfl rfl (PureV.build tabOk rfl rfl rfl zero84 (l := [.pointer (some ⟨b2, 0, none⟩), .int .i64 0]) rfl) ?_
  refine WO.one rfl rfl rfl (OpW.box rfl rfl rfl H1 ?_); intro b4 w2 H2
  (repeat (first | refine WO.run tabOk rfl rfl ?_ | refine WO.nil ?_ | refine WO.skip rfl rfl rfl ?_ | refine WO.pu tabOk rfl rfl rfl rfl ?_ | refine W.seq ?_ | refine W.region ?_ | refine W.block ?_ | refine W.skip ?_ | refine W.exit ?_))
  refine W.ret (ret1 Try.results35 rfl ⟨_, rfl, b4, b2, rfl, ?_⟩)
  have H3 := ((((H2.to (i := 1) rfl).add_nil 82 (kidR 0)).add_nil_raw 9 1).add_nil_raw 3 1).bring [3, 0, 1, 2, 4] rfl
  have H4 := node_close (h := 0) (b := b2) (x := .mk [] [] []) (vk := .slice none 0 0) (vt := .slice none 0 0) (vc := .slice none 0 0) H3
  exact H4.to (i := 1) rfl

theorem len_ok (w : World) (bt : Nat) (v0 : Value) (n : Int) (hT : Holds w (blk bt 84 [v0, .int .i64 n])) : Calls Try.prog 11 #[.pointer (some ⟨bt, 0, none⟩)] w (Ret fun v w' => w' = w ∧ v = .int .i64 n) := by
  refine calls_W (args := [_]) Try.func11 rfl Try.ntmps11 rfl ?_
  have H := St.start [blk bt 84 [v0, .int .i64 n]] (w := w) (by simpa using hT)
  (repeat (first | refine WO.run tabOk rfl rfl ?_ | refine WO.nil ?_ | refine WO.skip rfl rfl rfl ?_ | refine WO.pu tabOk rfl rfl rfl rfl ?_ | refine W.seq ?_ | refine W.region ?_ | refine W.block ?_ | refine W.skip ?_ | refine W.exit ?_ | refine WO.one rfl rfl rfl (OpW.load1 tabOk rfl rfl rfl rfl H (by (first | exact .head _ | exact .tail _ (.head _) | exact .tail _ (.tail _ (.head _)) | exact .tail _ (.tail _ (.tail _ (.head _))) | exact .tail _ (.tail _ (.tail _ (.tail _ (.head _)))) | exact .tail _ (.tail _ (.tail _ (.tail _ (.tail _ (.head _))))) | exact .tail _ (.tail _ (.tail _ (.tail _ (.tail _ (.tail _ (.head _)))))) | exact .tail _ (.tail _ (.tail _ (.tail _ (.tail _ (.tail _ (.tail _ (.head _))))))))) rfl ?_)))
  exact W.ret (ret1 Try.results11 rfl ⟨_, rfl, rfl, rfl⟩)
end Go.Proofs.Ytnghaidnbicjjaa
