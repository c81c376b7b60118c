/- tree: lift. -/
import Derived.Test.YtnghaidnbicjjaaTreeD
set_option linter.unusedVariables false
set_option linter.unusedSimpArgs false
set_option maxRecDepth 20000
namespace Go.Proofs.Ytnghaidnbicjjaa
open Go Gw
attribute [local irreducible] W WO WD WF

def ins {α : Type} (l : List α) (k : Nat) (x : α) : List α := l.take k ++ [x] ++ l.drop k
theorem kC_ins (l : List Int) (k : Nat) (x : Int) : (kC l).take (k * 1) ++ [.int .i64 x] ++ (kC l).drop (k * 1) = kC (ins l k x) := by
  rw [Nat.mul_one, kC_take, kC_drop]; simp [ins]
theorem tC_ins (l : List ByteArray) (k : Nat) (x : ByteArray) : (tC l).take (k * 1) ++ [.string x] ++ (tC l).drop (k * 1) = tC (ins l k x) := by
  rw [Nat.mul_one, tC_take, tC_drop]; simp [ins]
theorem ins_len {α : Type} {l : List α} {k : Nat} {x : α} (h : k ≤ l.length) : (ins l k x).length = l.length + 1 := by simp [ins]; omega
theorem kC_get {l : List Int} {k : Nat} {x : Int} (h : l[k]? = some x) : (kC l)[k]? = some (.int .i64 x) := by rw [kC_eq, List.getElem?_map, h]; rfl
theorem tC_get {l : List ByteArray} {k : Nat} {x : ByteArray} (h : l[k]? = some x) : (tC l)[k]? = some (.string x) := by rw [tC_eq, List.getElem?_map, h]; rfl

def keyM (y : Nd) : Int := y.keys.getD (midF y) 0
def textM (y : Nd) : ByteArray := y.texts.getD (midF y) ⟨#[]⟩
def lftF (y : Nd) : Nd := .mk (y.keys.take (midF y)) (y.texts.take (midF y)) (y.kids.take (midF y + 1))
def liftF (k : Nat) (x : Nd) : Nd := match x.kids[k]? with
  | none => x
  | some y => if y.keys.length ≤ 4 then x else .mk (ins x.keys k (keyM y)) (ins x.texts k (textM y)) (x.kids.take k ++ lftF y :: rightF y :: x.kids.drop (k + 1))

structure Lf (x : Nd) : Prop where
  texts : x.texts.length = x.keys.length
  len : x.keys.length ≤ 100000
  kids : x.kids.length = x.keys.length + 1

theorem raw_of_blk {c : Ctx} {w : World} {Own Ro : List Asn} {e b : Nat} {v : Value} (hv : v.oneCell' = true) (H : St c w (blk b e [v] :: Own) Ro) : St c w (raw e 1 (.slice (some ⟨b, 0, none⟩) 1 1) 1 [v] :: Own) Ro :=
  H.close_raw (sz := 1) (n := 1) (o := 0) (cap := 1) (Nat.le_refl _) (by simp [maxLen]) (by simp) (by simp) (by intro u hu; simp at hu; subst hu; exact hv)

theorem lift_ok (c : Ctx) (w : World) (Own Ro : List Asn) (h b k : Nat) (x y : Nd) (H : St c w (nodeA (h + 1) b x :: Own) Ro) (hy : x.kids[k]? = some y) (hx : Lf x) (hsp : 5 ≤ y.keys.length → Sp y) :
    Calls Try.prog 77 #[.pointer (some ⟨b, 0, none⟩), .int .i64 (k : Int)] w (Ret fun v w' => St c w' (nodeA (h + 1) b (liftF k x) :: Own) Ro) := by
  refine calls_W (args := [_, _]) Try.func77 rfl Try.ntmps77 rfl ?_
  obtain ⟨vk, vt, vc, ps, bk, hp, hpl, H⟩ := parent_open H hy
  have hk := (List.getElem?_eq_some_iff.1 hy).1
  have hxk := hx.kids
  have hxl := hx.len
  have hxt := hx.texts
  obtain ⟨ka, kc, rfl, hk1, hk2⟩ := raw_form H (v := vk) (e := 3) (sz := 1) (n := x.keys.length) (cs := kC x.keys) (by simp)
  obtain ⟨ta, tc, rfl, ht1, ht2⟩ := raw_form H (v := vt) (e := 9) (sz := 1) (n := x.texts.length) (cs := tC x.texts) (by simp)
  obtain ⟨ca, cc, rfl, hc1, hc2⟩ := raw_form H (v := vc) (e := 82) (sz := 1) (n := x.kids.length) (cs := ps) (by simp)
  obtain ⟨g, o, rfl, hat⟩ := raw_at H (e := 82) (n := x.kids.length) (cap := cc) (cs := ps) (a := ca) (by simp) (by omega)
  (repeat (first | refine WO.run tabOk rfl rfl ?_ | refine WO.nil ?_ | refine WO.skip rfl rfl rfl ?_ | refine WO.pu tabOk rfl rfl rfl rfl ?_ | refine W.seq ?_ | refine W.region ?_ | refine W.block ?_ | refine W.skip ?_ | refine W.exit ?_ | refine WO.one rfl rfl rfl (OpW.load1 tabOk rfl rfl rfl rfl H (by (first | exact .head _ | exact .tail _ (.head _) | exact .tail _ (.tail _ (.head _)) | exact .tail _ (.tail _ (.tail _ (.head _))) | exact .tail _ (.tail _ (.tail _ (.tail _ (.head _)))) | exact .tail _ (.tail _ (.tail _ (.tail _ (.tail _ (.head _))))) | exact .tail _ (.tail _ (.tail _ (.tail _ (.tail _ (.tail _ (.head _)))))) | exact .tail _ (.tail _ (.tail _ (.tail _ (.tail _ (.tail _ (.tail _ (.head _))))))))) rfl ?_)))
  refine WO.pv rfl rfl rfl (PureV.idxN tabOk rfl rfl rfl rfl rfl rfl hk) ?_
  refine WO.one rfl rfl rfl (OpW.loadc tabOk rfl rfl rfl rfl (hat _ _ hp) ?_)
  obtain ⟨wk, wt, wc, H⟩ := node_open H
  change St c w (blk bk 88 [wk, wt, wc] :: raw 3 1 wk y.keys.length (kC y.keys) :: raw 9 1 wt y.texts.length (tC y.texts) :: row 82 (kidR h) wc y.kids :: _) Ro at H
  obtain ⟨ya, yc, rfl, hy1, hy2⟩ := raw_form H (v := wk) (e := 3) (sz := 1) (n := y.keys.length) (cs := kC y.keys) (by simp)
  (repeat (first | refine WO.run tabOk rfl rfl ?_ | refine WO.nil ?_ | refine WO.skip rfl rfl rfl ?_ | refine WO.pu tabOk rfl rfl rfl rfl ?_ | refine W.seq ?_ | refine W.region ?_ | refine W.block ?_ | refine W.skip ?_ | refine W.exit ?_ | refine WO.one rfl rfl rfl (OpW.load1 tabOk rfl rfl rfl rfl H (by (first | exact .head _ | exact .tail _ (.head _) | exact .tail _ (.tail _ (.head _)) | exact .tail _ (.tail _ (.tail _ (.head _))) | exact .tail _ (.tail _ (.tail _ (.tail _ (.head _)))) | exact .tail _ (.tail _ (.tail _ (.tail _ (.tail _ (.head _))))) | exact .tail _ (.tail _ (.tail _ (.tail _ (.tail _ (.tail _ (.head _)))))) | exact .tail _ (.tail _ (.tail _ (.tail _ (.tail _ (.tail _ (.tail _ (.head _))))))))) rfl ?_)))
  have H0 : St c w (nodeA h bk y :: _) Ro := node_close H
  refine W.cond rfl (fun h4 => ?_) (fun h4 => ?_)
  · (repeat (first | refine WO.run tabOk rfl rfl ?_ | refine WO.nil ?_ | refine WO.skip rfl rfl rfl ?_ | refine WO.pu tabOk rfl rfl rfl rfl ?_ | refine W.seq ?_ | refine W.region ?_ | refine W.block ?_ | refine W.skip ?_ | refine W.exit ?_))
    refine W.ret (ret0 Try.results77 ⟨_, rfl, ?_⟩)
    have h4 : y.keys.length ≤ 4 := by simp at h4; omega
    have hH := parent_close hp hpl rfl H0
    have e : liftF k x = x := by unfold liftF; rw [hy]; simp [h4]
    rw [e]
    have e2 : x.kids.set k y = x.kids := by
      obtain ⟨_, rfl⟩ := List.getElem?_eq_some_iff.1 hy
      exact List.set_getElem_self _
    rw [e2] at hH
    cases x
    exact hH
  have h4 : ¬ y.keys.length ≤ 4 := by simp at h4; omega
  have hsp := hsp (by omega)
  clear H hat
  (repeat (first | refine WO.run tabOk rfl rfl ?_ | refine WO.nil ?_ | refine WO.skip rfl rfl rfl ?_ | refine WO.pu tabOk rfl rfl rfl rfl ?_ | refine W.seq ?_ | refine W.region ?_ | refine W.block ?_ | refine W.skip ?_ | refine W.exit ?_))
  refine WO.one rfl rfl rfl (OpW.call rfl Try.call97 rfl (Calls.ret (split_ok c w _ Ro h bk y H0 hsp) ?_))
  rintro _ w1 ⟨b', rfl, H⟩
  clear H0
  obtain ⟨wk, wt, wc, H⟩ := node_open H
  have hmid : midF y < y.keys.length := by have := hsp.pos; simp only [midF]; omega
  have hyt := hsp.texts
  have hyl := hsp.len
  have ek : (leftF y).keys.length = midF y + 1 := by show (y.keys.take _).length = _; rw [List.length_take]; omega
  have et : (leftF y).texts.length = midF y + 1 := by show (y.texts.take _).length = _; rw [List.length_take]; omega
  change St c w1 (blk bk 88 [wk, wt, wc] :: raw 3 1 wk (leftF y).keys.length (kC (leftF y).keys) :: raw 9 1 wt (leftF y).texts.length (tC (leftF y).texts) :: row 82 (kidR h) wc (leftF y).kids :: _) Ro at H
  rw [ek, et] at H
  have hkm : (leftF y).keys[midF y]? = some (keyM y) := by
    show (y.keys.take _)[_]? = _
    rw [List.getElem?_take, if_pos (by omega), List.getElem?_eq_getElem hmid]
    simp [keyM, List.getD, List.getElem?_eq_getElem hmid]
  have htm : (leftF y).texts[midF y]? = some (textM y) := by
    show (y.texts.take _)[_]? = _
    have : midF y < y.texts.length := by omega
    rw [List.getElem?_take, if_pos (by omega), List.getElem?_eq_getElem this]
    simp [textM, List.getD, List.getElem?_eq_getElem this]
  obtain ⟨ya, yc, rfl, hy1, hy2⟩ := raw_form H (v := wk) (e := 3) (sz := 1) (n := midF y + 1) (cs := kC (leftF y).keys) (by simp)
  obtain ⟨za, zc, rfl, hz1, hz2⟩ := raw_form H (v := wt) (e := 9) (sz := 1) (n := midF y + 1) (cs := tC (leftF y).texts) (by simp)
  obtain ⟨gk, ok, rfl, hatk⟩ := raw_at H (e := 3) (n := midF y + 1) (cap := yc) (cs := kC (leftF y).keys) (a := ya) (by simp) (by omega)
  obtain ⟨gt, ot, rfl, hatt⟩ := raw_at H (e := 9) (n := midF y + 1) (cap := zc) (cs := tC (leftF y).texts) (a := za) (by simp) (by omega)
  (repeat (first | refine WO.run tabOk rfl rfl ?_ | refine WO.nil ?_ | refine WO.skip rfl rfl rfl ?_ | refine WO.pu tabOk rfl rfl rfl rfl ?_ | refine W.seq ?_ | refine W.region ?_ | refine W.block ?_ | refine W.skip ?_ | refine W.exit ?_ | refine WO.one rfl rfl rfl (OpW.load1 tabOk rfl rfl rfl rfl H (by (first | exact .head _ | exact .tail _ (.head _) | exact .tail _ (.tail _ (.head _)) | exact .tail _ (.tail _ (.tail _ (.head _))) | exact .tail _ (.tail _ (.tail _ (.tail _ (.head _)))) | exact .tail _ (.tail _ (.tail _ (.tail _ (.tail _ (.head _))))) | exact .tail _ (.tail _ (.tail _ (.tail _ (.tail _ (.tail _ (.head _)))))) | exact .tail _ (.tail _ (.tail _ (.tail _ (.tail _ (.tail _ (.tail _ (.head _))))))))) rfl ?_)))
  refine WO.pv rfl rfl rfl (PureV.subN rfl rfl rfl (by omega) (by omega)) ?_
  rw [Nat.add_sub_cancel]
  (repeat (first | refine WO.run tabOk rfl rfl ?_ | refine WO.nil ?_ | refine WO.skip rfl rfl rfl ?_ | refine WO.pu tabOk rfl rfl rfl rfl ?_ | refine W.seq ?_ | refine W.region ?_ | refine W.block ?_ | refine W.skip ?_ | refine W.exit ?_))
  generalize hvk : Value.slice ka x.keys.length kc = vk at H
  generalize hvt : Value.slice ta x.texts.length tc = vt at H
  generalize hvc : Value.slice (some ⟨g, o, none⟩) x.kids.length cc = vc at H
  have mvk : vk.oneCell' = true := by rw [← hvk]; rfl
  have mvt : vt.oneCell' = true := by rw [← hvt]; rfl
  have mvc : vc.oneCell' = true := by rw [← hvc]; rfl
  refine W.regionD [4, 9, 12] (HA [blk b 88 [vk, vt, vc], blk bk 88 [.slice (some ⟨gk, ok, none⟩) (midF y + 1) yc, .slice (some ⟨gt, ot, none⟩) (midF y + 1) zc, wc], cellA ⟨gk, ok + midF y * 1, none⟩ (.int .i64 (keyM y))]) [0, 1, 2, 3, 4, 5, 6, 7, 8, 9, 10, 11, 12, 13, 14, 15, 16, 17] rfl (by kernel_rfl) (fun _ _ _ h => h) ?_
  have H := H.drew
  have hA : HA [blk b 88 [vk, vt, vc], blk bk 88 [.slice (some ⟨gk, ok, none⟩) (midF y + 1) yc, .slice (some ⟨gt, ot, none⟩) (midF y + 1) zc, wc], cellA ⟨gk, ok + midF y * 1, none⟩ (.int .i64 (keyM y))] _ := HA.cons (H.holds (by simp)) (HA.cons (H.holds (by simp)) (HA.cons (raw_cell (e := 3) (n := midF y + 1) (cap := yc) H (by simp) (kC_get hkm)) (HA.nil _)))
  (repeat (first | refine WD.run tabOk rfl rfl ?_ | refine WD.hv rfl rfl rfl rfl rfl hA (HeldV.load1 tabOk rfl rfl rfl rfl (by (first | exact .head _ | exact .tail _ (.head _) | exact .tail _ (.tail _ (.head _)) | exact .tail _ (.tail _ (.tail _ (.head _))) | exact .tail _ (.tail _ (.tail _ (.tail _ (.head _)))) | exact .tail _ (.tail _ (.tail _ (.tail _ (.tail _ (.head _))))) | exact .tail _ (.tail _ (.tail _ (.tail _ (.tail _ (.tail _ (.head _)))))) | exact .tail _ (.tail _ (.tail _ (.tail _ (.tail _ (.tail _ (.tail _ (.head _))))))))) rfl) ?_ | refine WD.hv rfl rfl rfl rfl rfl hA (HeldV.loadA tabOk rfl rfl rfl rfl (by (first | exact .head _ | exact .tail _ (.head _) | exact .tail _ (.tail _ (.head _)) | exact .tail _ (.tail _ (.tail _ (.head _))) | exact .tail _ (.tail _ (.tail _ (.tail _ (.head _)))) | exact .tail _ (.tail _ (.tail _ (.tail _ (.tail _ (.head _))))) | exact .tail _ (.tail _ (.tail _ (.tail _ (.tail _ (.tail _ (.head _)))))) | exact .tail _ (.tail _ (.tail _ (.tail _ (.tail _ (.tail _ (.tail _ (.head _))))))))) rfl rfl) ?_ | refine WD.pu tabOk rfl rfl rfl rfl rfl rfl ?_))
  refine WD.pv rfl rfl rfl rfl rfl (PureV.idxN (i := midF y) tabOk rfl rfl rfl rfl rfl rfl (by omega)) ?_
  (repeat (first | refine WD.run tabOk rfl rfl ?_ | refine WD.hv rfl rfl rfl rfl rfl hA (HeldV.load1 tabOk rfl rfl rfl rfl (by (first | exact .head _ | exact .tail _ (.head _) | exact .tail _ (.tail _ (.head _)) | exact .tail _ (.tail _ (.tail _ (.head _))) | exact .tail _ (.tail _ (.tail _ (.tail _ (.head _)))) | exact .tail _ (.tail _ (.tail _ (.tail _ (.tail _ (.head _))))) | exact .tail _ (.tail _ (.tail _ (.tail _ (.tail _ (.tail _ (.head _)))))) | exact .tail _ (.tail _ (.tail _ (.tail _ (.tail _ (.tail _ (.tail _ (.head _))))))))) rfl) ?_ | refine WD.hv rfl rfl rfl rfl rfl hA (HeldV.loadA tabOk rfl rfl rfl rfl (by (first | exact .head _ | exact .tail _ (.head _) | exact .tail _ (.tail _ (.head _)) | exact .tail _ (.tail _ (.tail _ (.head _))) | exact .tail _ (.tail _ (.tail _ (.tail _ (.head _)))) | exact .tail _ (.tail _ (.tail _ (.tail _ (.tail _ (.head _))))) | exact .tail _ (.tail _ (.tail _ (.tail _ (.tail _ (.tail _ (.head _)))))) | exact .tail _ (.tail _ (.tail _ (.tail _ (.tail _ (.tail _ (.tail _ (.head _))))))))) rfl rfl) ?_ | refine WD.pu tabOk rfl rfl rfl rfl rfl rfl ?_))
  refine WD.hv rfl rfl rfl rfl rfl hA (HeldV.cell tabOk rfl rfl rfl rfl (by (first | exact .head _ | exact .tail _ (.head _) | exact .tail _ (.tail _ (.head _)) | exact .tail _ (.tail _ (.tail _ (.head _))) | exact .tail _ (.tail _ (.tail _ (.tail _ (.head _)))) | exact .tail _ (.tail _ (.tail _ (.tail _ (.tail _ (.head _))))) | exact .tail _ (.tail _ (.tail _ (.tail _ (.tail _ (.tail _ (.head _)))))) | exact .tail _ (.tail _ (.tail _ (.tail _ (.tail _ (.tail _ (.tail _ (.head _)))))))))) ?_
  (repeat (first | refine WD.run tabOk rfl rfl ?_ | refine WD.hv rfl rfl rfl rfl rfl hA (HeldV.load1 tabOk rfl rfl rfl rfl (by (first | exact .head _ | exact .tail _ (.head _) | exact .tail _ (.tail _ (.head _)) | exact .tail _ (.tail _ (.tail _ (.head _))) | exact .tail _ (.tail _ (.tail _ (.tail _ (.head _)))) | exact .tail _ (.tail _ (.tail _ (.tail _ (.tail _ (.head _))))) | exact .tail _ (.tail _ (.tail _ (.tail _ (.tail _ (.tail _ (.head _)))))) | exact .tail _ (.tail _ (.tail _ (.tail _ (.tail _ (.tail _ (.tail _ (.head _))))))))) rfl) ?_ | refine WD.hv rfl rfl rfl rfl rfl hA (HeldV.loadA tabOk rfl rfl rfl rfl (by (first | exact .head _ | exact .tail _ (.head _) | exact .tail _ (.tail _ (.head _)) | exact .tail _ (.tail _ (.tail _ (.head _))) | exact .tail _ (.tail _ (.tail _ (.tail _ (.head _)))) | exact .tail _ (.tail _ (.tail _ (.tail _ (.tail _ (.head _))))) | exact .tail _ (.tail _ (.tail _ (.tail _ (.tail _ (.tail _ (.head _)))))) | exact .tail _ (.tail _ (.tail _ (.tail _ (.tail _ (.tail _ (.tail _ (.head _))))))))) rfl rfl) ?_ | refine WD.pu tabOk rfl rfl rfl rfl rfl rfl ?_))
  refine WD.oneS rfl rfl rfl rfl rfl (OpW.buildSlice tabOk rfl rfl rfl rfl zero3 rfl rfl (l := [.int .i64 (keyM y)]) rfl H ?_)
  clear H hA
  intro b13 w2 H
  refine ⟨HA.cons (H.holds (by simp)) (HA.cons (H.holds (by simp)) (HA.cons (raw_cell (e := 3) (n := midF y + 1) (cap := yc) H (by simp) (kC_get hkm)) (HA.nil _))), ?_⟩
  have H := (raw_of_blk rfl H).to (i := 10) rfl
  refine WD.one rfl rfl rfl rfl rfl (by kernel_rfl) (OpW.call rfl Try.call95 rfl (Calls.ret (insertInt_ok c w2 _ Ro _ _ x.keys.length 1 k _ _ H (by omega) (by omega) (by omega)) ?_))
  clear H
  intro v w3 H
  rw [kC_ins] at H
  obtain ⟨nka, nkc, rfl, _, _⟩ := raw_form H (v := v) (e := 3) (sz := 1) (n := x.keys.length + 1) (cs := kC (ins x.keys k (keyM y))) (by simp)
  (repeat (first | refine WD.run tabOk rfl rfl ?_ | refine WD.hv rfl rfl rfl rfl rfl HA.nil _ (HeldV.load1 tabOk rfl rfl rfl rfl (by (first | exact .head _ | exact .tail _ (.head _) | exact .tail _ (.tail _ (.head _)) | exact .tail _ (.tail _ (.tail _ (.head _))) | exact .tail _ (.tail _ (.tail _ (.tail _ (.head _)))) | exact .tail _ (.tail _ (.tail _ (.tail _ (.tail _ (.head _))))) | exact .tail _ (.tail _ (.tail _ (.tail _ (.tail _ (.tail _ (.head _)))))) | exact .tail _ (.tail _ (.tail _ (.tail _ (.tail _ (.tail _ (.tail _ (.head _))))))))) rfl) ?_ | refine WD.hv rfl rfl rfl rfl rfl HA.nil _ (HeldV.loadA tabOk rfl rfl rfl rfl (by (first | exact .head _ | exact .tail _ (.head _) | exact .tail _ (.tail _ (.head _)) | exact .tail _ (.tail _ (.tail _ (.head _))) | exact .tail _ (.tail _ (.tail _ (.tail _ (.head _)))) | exact .tail _ (.tail _ (.tail _ (.tail _ (.tail _ (.head _))))) | exact .tail _ (.tail _ (.tail _ (.tail _ (.tail _ (.tail _ (.head _)))))) | exact .tail _ (.tail _ (.tail _ (.tail _ (.tail _ (.tail _ (.tail _ (.head _))))))))) rfl rfl) ?_ | refine WD.pu tabOk rfl rfl rfl rfl rfl rfl ?_))
  refine WD.act rfl rfl rfl rfl (by kernel_rfl) (OpW.store1 (i := 10) tabOk rfl rfl rfl rfl rfl H rfl rfl rfl ?_)
  clear H
  intro w4 H
  (repeat (first | refine WD.run tabOk rfl rfl ?_ | refine WD.nil ?_))
  (repeat (first | refine WO.run tabOk rfl rfl ?_ | refine WO.nil ?_ | refine WO.skip rfl rfl rfl ?_ | refine WO.pu tabOk rfl rfl rfl rfl ?_ | refine W.seq ?_ | refine W.region ?_ | refine W.block ?_ | refine W.skip ?_ | refine W.exit ?_))
  have H := (H.to (i := 2) rfl).drop

  refine W.regionD [4, 9, 12] (HA [blk b 88 [.slice nka (x.keys.length + 1) nkc, vt, vc], blk bk 88 [.slice (some ⟨gk, ok, none⟩) (midF y + 1) yc, .slice (some ⟨gt, ot, none⟩) (midF y + 1) zc, wc], cellA ⟨gt, ot + midF y * 1, none⟩ (.string (textM y))]) [0, 1, 2, 3, 4, 5, 6, 7, 8, 9, 10, 11, 12, 13, 14, 15, 16, 17] rfl (by kernel_rfl) (fun _ _ _ h => h) ?_
  have H := H.drew
  have hA : HA [blk b 88 [.slice nka (x.keys.length + 1) nkc, vt, vc], blk bk 88 [.slice (some ⟨gk, ok, none⟩) (midF y + 1) yc, .slice (some ⟨gt, ot, none⟩) (midF y + 1) zc, wc], cellA ⟨gt, ot + midF y * 1, none⟩ (.string (textM y))] _ := HA.cons (H.holds (by simp)) (HA.cons (H.holds (by simp)) (HA.cons (raw_cell (e := 9) (n := midF y + 1) (cap := zc) H (by simp) (tC_get htm)) (HA.nil _)))
  (repeat (first | refine WD.run tabOk rfl rfl ?_ | refine WD.hv rfl rfl rfl rfl rfl hA (HeldV.load1 tabOk rfl rfl rfl rfl (by (first | exact .head _ | exact .tail _ (.head _) | exact .tail _ (.tail _ (.head _)) | exact .tail _ (.tail _ (.tail _ (.head _))) | exact .tail _ (.tail _ (.tail _ (.tail _ (.head _)))) | exact .tail _ (.tail _ (.tail _ (.tail _ (.tail _ (.head _))))) | exact .tail _ (.tail _ (.tail _ (.tail _ (.tail _ (.tail _ (.head _)))))) | exact .tail _ (.tail _ (.tail _ (.tail _ (.tail _ (.tail _ (.tail _ (.head _))))))))) rfl) ?_ | refine WD.hv rfl rfl rfl rfl rfl hA (HeldV.loadA tabOk rfl rfl rfl rfl (by (first | exact .head _ | exact .tail _ (.head _) | exact .tail _ (.tail _ (.head _)) | exact .tail _ (.tail _ (.tail _ (.head _))) | exact .tail _ (.tail _ (.tail _ (.tail _ (.head _)))) | exact .tail _ (.tail _ (.tail _ (.tail _ (.tail _ (.head _))))) | exact .tail _ (.tail _ (.tail _ (.tail _ (.tail _ (.tail _ (.head _)))))) | exact .tail _ (.tail _ (.tail _ (.tail _ (.tail _ (.tail _ (.tail _ (.head _))))))))) rfl rfl) ?_ | refine WD.pu tabOk rfl rfl rfl rfl rfl rfl ?_))
  refine WD.pv rfl rfl rfl rfl rfl (PureV.idxN (i := midF y) tabOk rfl rfl rfl rfl rfl rfl (by omega)) ?_
  (repeat (first | refine WD.run tabOk rfl rfl ?_ | refine WD.hv rfl rfl rfl rfl rfl hA (HeldV.load1 tabOk rfl rfl rfl rfl (by (first | exact .head _ | exact .tail _ (.head _) | exact .tail _ (.tail _ (.head _)) | exact .tail _ (.tail _ (.tail _ (.head _))) | exact .tail _ (.tail _ (.tail _ (.tail _ (.head _)))) | exact .tail _ (.tail _ (.tail _ (.tail _ (.tail _ (.head _))))) | exact .tail _ (.tail _ (.tail _ (.tail _ (.tail _ (.tail _ (.head _)))))) | exact .tail _ (.tail _ (.tail _ (.tail _ (.tail _ (.tail _ (.tail _ (.head _))))))))) rfl) ?_ | refine WD.hv rfl rfl rfl rfl rfl hA (HeldV.loadA tabOk rfl rfl rfl rfl (by (first | exact .head _ | exact .tail _ (.head _) | exact .tail _ (.tail _ (.head _)) | exact .tail _ (.tail _ (.tail _ (.head _))) | exact .tail _ (.tail _ (.tail _ (.tail _ (.head _)))) | exact .tail _ (.tail _ (.tail _ (.tail _ (.tail _ (.head _))))) | exact .tail _ (.tail _ (.tail _ (.tail _ (.tail _ (.tail _ (.head _)))))) | exact .tail _ (.tail _ (.tail _ (.tail _ (.tail _ (.tail _ (.tail _ (.head _))))))))) rfl rfl) ?_ | refine WD.pu tabOk rfl rfl rfl rfl rfl rfl ?_))
  refine WD.hv rfl rfl rfl rfl rfl hA (HeldV.cell tabOk rfl rfl rfl rfl (by (first | exact .head _ | exact .tail _ (.head _) | exact .tail _ (.tail _ (.head _)) | exact .tail _ (.tail _ (.tail _ (.head _))) | exact .tail _ (.tail _ (.tail _ (.tail _ (.head _)))) | exact .tail _ (.tail _ (.tail _ (.tail _ (.tail _ (.head _))))) | exact .tail _ (.tail _ (.tail _ (.tail _ (.tail _ (.tail _ (.head _)))))) | exact .tail _ (.tail _ (.tail _ (.tail _ (.tail _ (.tail _ (.tail _ (.head _)))))))))) ?_
  (repeat (first | refine WD.run tabOk rfl rfl ?_ | refine WD.hv rfl rfl rfl rfl rfl hA (HeldV.load1 tabOk rfl rfl rfl rfl (by (first | exact .head _ | exact .tail _ (.head _) | exact .tail _ (.tail _ (.head _)) | exact .tail _ (.tail _ (.tail _ (.head _))) | exact .tail _ (.tail _ (.tail _ (.tail _ (.head _)))) | exact .tail _ (.tail _ (.tail _ (.tail _ (.tail _ (.head _))))) | exact .tail _ (.tail _ (.tail _ (.tail _ (.tail _ (.tail _ (.head _)))))) | exact .tail _ (.tail _ (.tail _ (.tail _ (.tail _ (.tail _ (.tail _ (.head _))))))))) rfl) ?_ | refine WD.hv rfl rfl rfl rfl rfl hA (HeldV.loadA tabOk rfl rfl rfl rfl (by (first | exact .head _ | exact .tail _ (.head _) | exact .tail _ (.tail _ (.head _)) | exact .tail _ (.tail _ (.tail _ (.head _))) | exact .tail _ (.tail _ (.tail _ (.tail _ (.head _)))) | exact .tail _ (.tail _ (.tail _ (.tail _ (.tail _ (.head _))))) | exact .tail _ (.tail _ (.tail _ (.tail _ (.tail _ (.tail _ (.head _)))))) | exact .tail _ (.tail _ (.tail _ (.tail _ (.tail _ (.tail _ (.tail _ (.head _))))))))) rfl rfl) ?_ | refine WD.pu tabOk rfl rfl rfl rfl rfl rfl ?_))
  refine WD.oneS rfl rfl rfl rfl rfl (OpW.buildSlice tabOk rfl rfl rfl rfl zero9 rfl rfl (l := [.string (textM y)]) rfl H ?_)
  clear H hA
  intro b13 w2 H
  refine ⟨HA.cons (H.holds (by simp)) (HA.cons (H.holds (by simp)) (HA.cons (raw_cell (e := 9) (n := midF y + 1) (cap := zc) H (by simp) (tC_get htm)) (HA.nil _))), ?_⟩
  have H := (raw_of_blk rfl H).to (i := 11) rfl
  refine WD.one rfl rfl rfl rfl rfl (by kernel_rfl) (OpW.call rfl Try.call96 rfl (Calls.ret (insertStr_ok c w2 _ Ro _ _ x.texts.length 1 k _ _ H (by omega) (by omega) (by omega)) ?_))
  clear H
  intro v w3 H
  rw [tC_ins] at H
  obtain ⟨nta, ntc, rfl, _, _⟩ := raw_form H (v := v) (e := 9) (sz := 1) (n := x.texts.length + 1) (cs := tC (ins x.texts k (textM y))) (by simp)
  (repeat (first | refine WD.run tabOk rfl rfl ?_ | refine WD.hv rfl rfl rfl rfl rfl HA.nil _ (HeldV.load1 tabOk rfl rfl rfl rfl (by (first | exact .head _ | exact .tail _ (.head _) | exact .tail _ (.tail _ (.head _)) | exact .tail _ (.tail _ (.tail _ (.head _))) | exact .tail _ (.tail _ (.tail _ (.tail _ (.head _)))) | exact .tail _ (.tail _ (.tail _ (.tail _ (.tail _ (.head _))))) | exact .tail _ (.tail _ (.tail _ (.tail _ (.tail _ (.tail _ (.head _)))))) | exact .tail _ (.tail _ (.tail _ (.tail _ (.tail _ (.tail _ (.tail _ (.head _))))))))) rfl) ?_ | refine WD.hv rfl rfl rfl rfl rfl HA.nil _ (HeldV.loadA tabOk rfl rfl rfl rfl (by (first | exact .head _ | exact .tail _ (.head _) | exact .tail _ (.tail _ (.head _)) | exact .tail _ (.tail _ (.tail _ (.head _))) | exact .tail _ (.tail _ (.tail _ (.tail _ (.head _)))) | exact .tail _ (.tail _ (.tail _ (.tail _ (.tail _ (.head _))))) | exact .tail _ (.tail _ (.tail _ (.tail _ (.tail _ (.tail _ (.head _)))))) | exact .tail _ (.tail _ (.tail _ (.tail _ (.tail _ (.tail _ (.tail _ (.head _))))))))) rfl rfl) ?_ | refine WD.pu tabOk rfl rfl rfl rfl rfl rfl ?_))
  refine WD.act rfl rfl rfl rfl (by kernel_rfl) (OpW.store1 (i := 2) tabOk rfl rfl rfl rfl rfl H rfl rfl rfl ?_)
  clear H
  intro w4 H
  (repeat (first | refine WD.run tabOk rfl rfl ?_ | refine WD.nil ?_))
  (repeat (first | refine WO.run tabOk rfl rfl ?_ | refine WO.nil ?_ | refine WO.skip rfl rfl rfl ?_ | refine WO.pu tabOk rfl rfl rfl rfl ?_ | refine W.seq ?_ | refine W.region ?_ | refine W.block ?_ | refine W.skip ?_ | refine W.exit ?_))
  have H := (H.to (i := 2) rfl).drop

  (repeat (first | refine WO.run tabOk rfl rfl ?_ | refine WO.nil ?_ | refine WO.skip rfl rfl rfl ?_ | refine WO.pu tabOk rfl rfl rfl rfl ?_ | refine W.seq ?_ | refine W.region ?_ | refine W.block ?_ | refine W.skip ?_ | refine W.exit ?_ | refine WO.one rfl rfl rfl (OpW.load1 tabOk rfl rfl rfl rfl H (by (first | exact .head _ | exact .tail _ (.head _) | exact .tail _ (.tail _ (.head _)) | exact .tail _ (.tail _ (.tail _ (.head _))) | exact .tail _ (.tail _ (.tail _ (.tail _ (.head _)))) | exact .tail _ (.tail _ (.tail _ (.tail _ (.tail _ (.head _))))) | exact .tail _ (.tail _ (.tail _ (.tail _ (.tail _ (.tail _ (.head _)))))) | exact .tail _ (.tail _ (.tail _ (.tail _ (.tail _ (.tail _ (.tail _ (.head _))))))))) rfl ?_)))
  refine WO.pv rfl rfl rfl (PureV.addN rfl rfl rfl (by omega)) ?_
  (repeat (first | refine WO.run tabOk rfl rfl ?_ | refine WO.nil ?_ | refine WO.skip rfl rfl rfl ?_ | refine WO.pu tabOk rfl rfl rfl rfl ?_ | refine W.seq ?_ | refine W.region ?_ | refine W.block ?_ | refine W.skip ?_ | refine W.exit ?_))
  refine WO.one rfl rfl rfl (OpW.buildSlice tabOk rfl rfl rfl rfl zero82 rfl rfl (l := [.pointer (some ⟨b', 0, none⟩)]) rfl H ?_)
  clear H
  intro b70 w5 H
  have H := (raw_of_blk rfl H).to (i := 11) rfl
  refine WO.one rfl rfl rfl (OpW.call rfl Try.call98 rfl (Calls.ret (insertKid_ok c w5 _ Ro _ _ x.kids.length 1 (k + 1) _ _ H (by omega) (by omega) (by omega)) ?_))
  clear H
  intro v w6 H
  obtain ⟨nca, ncc, rfl, _, _⟩ := raw_form H (v := v) (e := 82) (sz := 1) (n := x.kids.length + 1) (cs := ps.take ((k + 1) * 1) ++ [.pointer (some ⟨b', 0, none⟩)] ++ ps.drop ((k + 1) * 1)) (by simp)
  (repeat (first | refine WO.run tabOk rfl rfl ?_ | refine WO.nil ?_ | refine WO.skip rfl rfl rfl ?_ | refine WO.pu tabOk rfl rfl rfl rfl ?_ | refine W.seq ?_ | refine W.region ?_ | refine W.block ?_ | refine W.skip ?_ | refine W.exit ?_ | refine WO.one rfl rfl rfl (OpW.load1 tabOk rfl rfl rfl rfl H (by (first | exact .head _ | exact .tail _ (.head _) | exact .tail _ (.tail _ (.head _)) | exact .tail _ (.tail _ (.tail _ (.head _))) | exact .tail _ (.tail _ (.tail _ (.tail _ (.head _)))) | exact .tail _ (.tail _ (.tail _ (.tail _ (.tail _ (.head _))))) | exact .tail _ (.tail _ (.tail _ (.tail _ (.tail _ (.tail _ (.head _)))))) | exact .tail _ (.tail _ (.tail _ (.tail _ (.tail _ (.tail _ (.tail _ (.head _))))))))) rfl ?_)))
  refine WO.act rfl rfl (OpW.store1 (i := 2) tabOk rfl rfl rfl rfl rfl H rfl rfl rfl ?_)
  clear H
  intro w7 H
  have H := (H.to (i := 2) rfl).drop
  (repeat (first | refine WO.run tabOk rfl rfl ?_ | refine WO.nil ?_ | refine WO.skip rfl rfl rfl ?_ | refine WO.pu tabOk rfl rfl rfl rfl ?_ | refine W.seq ?_ | refine W.region ?_ | refine W.block ?_ | refine W.skip ?_ | refine W.exit ?_))
  refine W.regionD [5, 11] (HA [blk bk 88 [.slice (some ⟨gk, ok, none⟩) (midF y + 1) yc, .slice (some ⟨gt, ot, none⟩) (midF y + 1) zc, wc]]) [0, 1, 2, 3, 4, 5, 6, 7, 8, 9, 10, 11, 12, 13, 14, 15, 16, 17, 18, 19] rfl (by kernel_rfl) (fun _ _ _ h => h) ?_
  have H := H.drew
  have hA := H.ha (L := [blk bk 88 [.slice (some ⟨gk, ok, none⟩) (midF y + 1) yc, .slice (some ⟨gt, ot, none⟩) (midF y + 1) zc, wc]]) (by simp)
  (repeat (first | refine WD.run tabOk rfl rfl ?_ | refine WD.hv rfl rfl rfl rfl rfl hA (HeldV.load1 tabOk rfl rfl rfl rfl (by (first | exact .head _ | exact .tail _ (.head _) | exact .tail _ (.tail _ (.head _)) | exact .tail _ (.tail _ (.tail _ (.head _))) | exact .tail _ (.tail _ (.tail _ (.tail _ (.head _)))) | exact .tail _ (.tail _ (.tail _ (.tail _ (.tail _ (.head _))))) | exact .tail _ (.tail _ (.tail _ (.tail _ (.tail _ (.tail _ (.head _)))))) | exact .tail _ (.tail _ (.tail _ (.tail _ (.tail _ (.tail _ (.tail _ (.head _))))))))) rfl) ?_ | refine WD.hv rfl rfl rfl rfl rfl hA (HeldV.loadA tabOk rfl rfl rfl rfl (by (first | exact .head _ | exact .tail _ (.head _) | exact .tail _ (.tail _ (.head _)) | exact .tail _ (.tail _ (.tail _ (.head _))) | exact .tail _ (.tail _ (.tail _ (.tail _ (.head _)))) | exact .tail _ (.tail _ (.tail _ (.tail _ (.tail _ (.head _))))) | exact .tail _ (.tail _ (.tail _ (.tail _ (.tail _ (.tail _ (.head _)))))) | exact .tail _ (.tail _ (.tail _ (.tail _ (.tail _ (.tail _ (.tail _ (.head _))))))))) rfl rfl) ?_ | refine WD.pu tabOk rfl rfl rfl rfl rfl rfl ?_))
  refine WD.pv rfl rfl rfl rfl rfl (PureV.slcTo (n := midF y) tabOk rfl rfl rfl rfl rfl rfl (by omega)) ?_
  (repeat (first | refine WD.run tabOk rfl rfl ?_ | refine WD.hv rfl rfl rfl rfl rfl hA (HeldV.load1 tabOk rfl rfl rfl rfl (by (first | exact .head _ | exact .tail _ (.head _) | exact .tail _ (.tail _ (.head _)) | exact .tail _ (.tail _ (.tail _ (.head _))) | exact .tail _ (.tail _ (.tail _ (.tail _ (.head _)))) | exact .tail _ (.tail _ (.tail _ (.tail _ (.tail _ (.head _))))) | exact .tail _ (.tail _ (.tail _ (.tail _ (.tail _ (.tail _ (.head _)))))) | exact .tail _ (.tail _ (.tail _ (.tail _ (.tail _ (.tail _ (.tail _ (.head _))))))))) rfl) ?_ | refine WD.hv rfl rfl rfl rfl rfl hA (HeldV.loadA tabOk rfl rfl rfl rfl (by (first | exact .head _ | exact .tail _ (.head _) | exact .tail _ (.tail _ (.head _)) | exact .tail _ (.tail _ (.tail _ (.head _))) | exact .tail _ (.tail _ (.tail _ (.tail _ (.head _)))) | exact .tail _ (.tail _ (.tail _ (.tail _ (.tail _ (.head _))))) | exact .tail _ (.tail _ (.tail _ (.tail _ (.tail _ (.tail _ (.head _)))))) | exact .tail _ (.tail _ (.tail _ (.tail _ (.tail _ (.tail _ (.tail _ (.head _))))))))) rfl rfl) ?_ | refine WD.pu tabOk rfl rfl rfl rfl rfl rfl ?_))
  refine WD.pv rfl rfl rfl rfl rfl (PureV.slcTo (n := midF y) tabOk rfl rfl rfl rfl rfl rfl (by omega)) ?_
  (repeat (first | refine WD.run tabOk rfl rfl ?_ | refine WD.hv rfl rfl rfl rfl rfl hA (HeldV.load1 tabOk rfl rfl rfl rfl (by (first | exact .head _ | exact .tail _ (.head _) | exact .tail _ (.tail _ (.head _)) | exact .tail _ (.tail _ (.tail _ (.head _))) | exact .tail _ (.tail _ (.tail _ (.tail _ (.head _)))) | exact .tail _ (.tail _ (.tail _ (.tail _ (.tail _ (.head _))))) | exact .tail _ (.tail _ (.tail _ (.tail _ (.tail _ (.tail _ (.head _)))))) | exact .tail _ (.tail _ (.tail _ (.tail _ (.tail _ (.tail _ (.tail _ (.head _))))))))) rfl) ?_ | refine WD.hv rfl rfl rfl rfl rfl hA (HeldV.loadA tabOk rfl rfl rfl rfl (by (first | exact .head _ | exact .tail _ (.head _) | exact .tail _ (.tail _ (.head _)) | exact .tail _ (.tail _ (.tail _ (.head _))) | exact .tail _ (.tail _ (.tail _ (.tail _ (.head _)))) | exact .tail _ (.tail _ (.tail _ (.tail _ (.tail _ (.head _))))) | exact .tail _ (.tail _ (.tail _ (.tail _ (.tail _ (.tail _ (.head _)))))) | exact .tail _ (.tail _ (.tail _ (.tail _ (.tail _ (.tail _ (.tail _ (.head _))))))))) rfl rfl) ?_ | refine WD.pu tabOk rfl rfl rfl rfl rfl rfl ?_))
  refine WD.act rfl rfl rfl rfl (by kernel_rfl) (OpW.store1 (i := 4) tabOk rfl rfl rfl rfl rfl H rfl rfl rfl ?_)
  clear H hA
  intro w8 H
  (repeat (first | refine WD.run tabOk rfl rfl ?_ | refine WD.hv rfl rfl rfl rfl rfl HA.nil _ (HeldV.load1 tabOk rfl rfl rfl rfl (by (first | exact .head _ | exact .tail _ (.head _) | exact .tail _ (.tail _ (.head _)) | exact .tail _ (.tail _ (.tail _ (.head _))) | exact .tail _ (.tail _ (.tail _ (.tail _ (.head _)))) | exact .tail _ (.tail _ (.tail _ (.tail _ (.tail _ (.head _))))) | exact .tail _ (.tail _ (.tail _ (.tail _ (.tail _ (.tail _ (.head _)))))) | exact .tail _ (.tail _ (.tail _ (.tail _ (.tail _ (.tail _ (.tail _ (.head _))))))))) rfl) ?_ | refine WD.hv rfl rfl rfl rfl rfl HA.nil _ (HeldV.loadA tabOk rfl rfl rfl rfl (by (first | exact .head _ | exact .tail _ (.head _) | exact .tail _ (.tail _ (.head _)) | exact .tail _ (.tail _ (.tail _ (.head _))) | exact .tail _ (.tail _ (.tail _ (.tail _ (.head _)))) | exact .tail _ (.tail _ (.tail _ (.tail _ (.tail _ (.head _))))) | exact .tail _ (.tail _ (.tail _ (.tail _ (.tail _ (.tail _ (.head _)))))) | exact .tail _ (.tail _ (.tail _ (.tail _ (.tail _ (.tail _ (.tail _ (.head _))))))))) rfl rfl) ?_ | refine WD.pu tabOk rfl rfl rfl rfl rfl rfl ?_))
  refine WD.act rfl rfl rfl rfl (by kernel_rfl) (OpW.store1 (i := 0) tabOk rfl rfl rfl rfl rfl H rfl rfl rfl ?_)
  clear H
  intro w9 H
  (repeat (first | refine WD.run tabOk rfl rfl ?_ | refine WD.nil ?_))
  (repeat (first | refine WO.run tabOk rfl rfl ?_ | refine WO.nil ?_ | refine WO.skip rfl rfl rfl ?_ | refine WO.pu tabOk rfl rfl rfl rfl ?_ | refine W.seq ?_ | refine W.region ?_ | refine W.block ?_ | refine W.skip ?_ | refine W.exit ?_))
  refine ret0n Try.results77 ⟨_, rfl, ?_⟩
  have H := (H.to (i := 5) rfl).raw_cut (m := midF y) (by omega) (fun h => by cases h)
  have H := (H.to (i := 6) rfl).raw_cut (m := midF y) (by omega) (fun h => by cases h)
  rw [Nat.mul_one, kC_take, tC_take] at H
  have e1 : (leftF y).keys.take (midF y) = y.keys.take (midF y) := by show (y.keys.take _).take _ = _; rw [List.take_take, Nat.min_eq_left (by omega)]
  have e2 : (leftF y).texts.take (midF y) = y.texts.take (midF y) := by show (y.texts.take _).take _ = _; rw [List.take_take, Nat.min_eq_left (by omega)]
  rw [e1, e2] at H
  have l1 : (y.keys.take (midF y)).length = midF y := by rw [List.length_take]; omega
  have l2 : (y.texts.take (midF y)).length = midF y := by rw [List.length_take]; omega
  have H := H.bring [2, 1, 0, 7] rfl
  have H : St c w9 (nodeA h bk (lftF y) :: _) Ro := node_close (by
    show St c w9 (blk bk 88 _ :: raw 3 1 _ (y.keys.take (midF y)).length _ :: raw 9 1 _ (y.texts.take (midF y)).length _ :: row 82 _ _ _ :: _) Ro
    rw [l1, l2]
    exact H)
  have H := (H.bring [5, 7] rfl).hang_in
  have H := ((H.bring [1, 0] rfl).hang_in.bring [5, 0] rfl).hang_join
  have ec : ps.take ((k + 1) * 1) ++ [.pointer (some ⟨b', 0, none⟩)] ++ ps.drop ((k + 1) * 1) = ps.take k ++ ([.pointer (some ⟨bk, 0, none⟩)] ++ ([.pointer (some ⟨b', 0, none⟩)] ++ ps.drop (k + 1))) := by
    rw [Nat.mul_one, List.take_add_one, hp]; simp
  have H := H.bring [2, 0] rfl
  rw [ec] at H
  have hkl : (x.kids.take k ++ lftF y :: rightF y :: x.kids.drop (k + 1)).length = x.kids.length + 1 := by simp; omega
  have H : St c w9 (row 82 (kidR (h + 1)) _ (x.kids.take k ++ lftF y :: rightF y :: x.kids.drop (k + 1)) :: _) Ro := kids_close (by rw [hkl, kidR_succ]; exact H)
  have H := H.bring [1, 3, 2, 0] rfl
  have el : liftF k x = .mk (ins x.keys k (keyM y)) (ins x.texts k (textM y)) (x.kids.take k ++ lftF y :: rightF y :: x.kids.drop (k + 1)) := by
    unfold liftF; rw [hy]; simp only [h4, if_false]
  rw [el]
  have ik := ins_len (x := keyM y) (show k ≤ x.keys.length by omega)
  have it := ins_len (x := textM y) (show k ≤ x.texts.length by omega)
  exact node_close (by
    show St c w9 (blk b 88 _ :: raw 3 1 _ (ins x.keys k (keyM y)).length _ :: raw 9 1 _ (ins x.texts k (textM y)).length _ :: row 82 _ _ _ :: _) Ro
    rw [ik, it]
    exact H)
end Go.Proofs.Ytnghaidnbicjjaa
