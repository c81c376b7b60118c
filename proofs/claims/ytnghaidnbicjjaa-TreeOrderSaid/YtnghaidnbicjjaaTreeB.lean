/- tree: nodes in memory; search, find, Get. -/
import Derived.Test.YtnghaidnbicjjaaTreeA
set_option linter.unusedVariables false
set_option linter.unusedSimpArgs false
set_option maxRecDepth 20000
namespace Go.Proofs.Ytnghaidnbicjjaa
open Go Gw
attribute [local irreducible] W WO WD WF

/-! ### Parts as one -/
def grp (L : List Asn) : Asn where
  p w S := Sep w L S
  loc := fun w w' S h hw => Sep.agree h hw
  dom := fun w S h => Sep.dom h
theorem Sep.app {w : World} : ∀ {L L' : List Asn} {S S' : Nat → Prop}, Sep w L S → Sep w L' S' → (∀ b, S b → ¬ S' b) → Sep w (L ++ L') fun b => S b ∨ S' b
  | [], L', S, S', h, h', _ => Sep.congr h' fun b => ⟨fun x => x.resolve_left (h b), .inr⟩
  | A :: L, L', S, S', ⟨T, O, h1, h2, h3, h4⟩, h', hd => by
    refine ⟨T, fun b => O b ∨ S' b, h1, Sep.app h2 h' fun b hb => hd b ((h3 b).2 (.inr hb)), fun b => ?_, fun b hb hc => ?_⟩
    · show S b ∨ S' b ↔ T b ∨ (O b ∨ S' b)
      rw [h3 b]; constructor
      · rintro ((h | h) | h) <;> simp [h]
      · rintro (h | h | h) <;> simp [h]
    · rcases hc with hc | hc
      · exact h4 b hb hc
      · exact hd b ((h3 b).2 (.inl hb)) hc
theorem Sep.unapp {w : World} : ∀ {L L' : List Asn} {O : Nat → Prop}, Sep w (L ++ L') O → ∃ S S', Sep w L S ∧ Sep w L' S' ∧ (∀ b, O b ↔ S b ∨ S' b) ∧ ∀ b, S b → ¬ S' b
  | [], L', O, h => ⟨fun _ => False, O, fun _ h => h, h, fun b => by simp, fun b h => h.elim⟩
  | A :: L, L', O, ⟨T, O', h1, h2, h3, h4⟩ => by
    obtain ⟨S, S', k1, k2, k3, k4⟩ := Sep.unapp h2
    refine ⟨fun b => T b ∨ S b, S', ⟨T, S, h1, k1, fun _ => Iff.rfl, fun b hb hc => h4 b hb ((k3 b).2 (.inl hc))⟩, k2, fun b => ?_, fun b hb hc => ?_⟩
    · rw [h3 b, k3 b]; constructor
      · rintro (h | h | h) <;> simp [h]
      · rintro ((h | h) | h) <;> simp [h]
    · rcases hb with hb | hb
      · exact h4 b hb ((k3 b).2 (.inr hc))
      · exact k4 b hb hc
theorem Gw.St.ungrp {c : Ctx} {w : World} {Own Ro L : List Asn} (h : St c w (grp L :: Own) Ro) : St c w (L ++ Own) Ro := by
  obtain ⟨O, ⟨S, O', g1, g2, g3, g4⟩, h2, h3⟩ := h.sep
  exact ⟨h.like, h.frame, O, Sep.congr (Sep.app g1 g2 g4) g3, h2, h3⟩
theorem Gw.St.grp {c : Ctx} {w : World} {Own Ro : List Asn} (L : List Asn) (h : St c w (L ++ Own) Ro) : St c w (grp L :: Own) Ro := by
  obtain ⟨O, h1, h2, h3⟩ := h.sep
  obtain ⟨S, S', k1, k2, k3, k4⟩ := Sep.unapp h1
  exact ⟨h.like, h.frame, O, ⟨S, S', k1, k2, k3, k4⟩, h2, h3⟩
theorem Sep.mem' {w : World} {L : List Asn} {O : Nat → Prop} {A : Asn} (h : Sep w L O) (hm : A ∈ L) : Holds w A := by obtain ⟨S, hS, _⟩ := Sep.mem h hm; exact ⟨S, hS⟩

theorem row_form' {α : Type} {e : Nat} {r : Rdr α} {c : Ctx} {w : World} {Own Ro : List Asn} {v : Value} {xs : List α} (H : St c w Own Ro) (hm : row e r v xs ∈ Own ++ Ro) : ∃ a cap, v = .slice a xs.length cap := by
  obtain ⟨S, hS⟩ := H.has hm
  obtain ⟨a, cap, h, _⟩ := OwnR.form hS
  exact ⟨a, cap, h⟩
/-! ### Nodes -/
inductive Nd where
  | mk (keys : List Int) (texts : List ByteArray) (kids : List Nd)
def Nd.keys : Nd → List Int | .mk k _ _ => k
def Nd.texts : Nd → List ByteArray | .mk _ t _ => t
def Nd.kids : Nd → List Nd | .mk _ _ c => c
abbrev kC (l : List Int) : List Value := l.flatMap fun x => [.int .i64 x]
abbrev tC (l : List ByteArray) : List Value := l.flatMap fun x => [.string x]
theorem kC_len (l : List Int) : (kC l).length = l.length := by induction l <;> simp_all
theorem tC_len (l : List ByteArray) : (tC l).length = l.length := by induction l <;> simp_all

def noR : Rdr Nd where
  sz := 1
  R _ _ _ _ := False
  len := fun h => h.elim
  loc := fun h => h.elim
  dom := fun h => h.elim
  one := fun h => h.elim
abbrev nodeL (r : Rdr Nd) (b : Nat) (vk vt vc : Value) (x : Nd) : List Asn :=
  [blk b 88 [vk, vt, vc], raw 3 1 vk x.keys.length (kC x.keys), raw 9 1 vt x.texts.length (tC x.texts), row 82 r vc x.kids]
def mkR (r : Rdr Nd) : Rdr Nd where
  sz := 1
  R w S x cs := ∃ b vk vt vc, cs = [.pointer (some ⟨b, 0, none⟩)] ∧ Sep w (nodeL r b vk vt vc x) S
  len := fun ⟨_, _, _, _, h, _⟩ => by rw [h]; rfl
  loc := fun ⟨b, vk, vt, vc, h, h1⟩ hw => ⟨b, vk, vt, vc, h, Sep.agree h1 hw⟩
  dom := fun ⟨_, _, _, _, _, h1⟩ => Sep.dom h1
  one := fun ⟨_, _, _, _, h, _⟩ v hv => by subst h; simp at hv; subst hv; rfl
def kidR : Nat → Rdr Nd
  | 0 => noR
  | h + 1 => mkR (kidR h)
theorem kidR_sz (h : Nat) : (kidR h).sz = 1 := by cases h <;> rfl
theorem kids_open {c : Ctx} {w : World} {Own Ro : List Asn} {h : Nat} {v : Value} {kids : List Nd} (H : St c w (row 82 (kidR h) v kids :: Own) Ro) : ∃ ps, ps.length = kids.length ∧ St c w (raw 82 1 v kids.length ps :: hang (kidR h) kids ps :: Own) Ro := by
  obtain ⟨ps, H1⟩ := H.open_row
  have hl := (H1.to (i := 1) rfl).hang_len
  rw [kidR_sz] at hl H1
  exact ⟨ps, by omega, H1⟩
theorem kids_close {c : Ctx} {w : World} {Own Ro : List Asn} {h : Nat} {v : Value} {kids : List Nd} {ps : List Value} (H : St c w (raw 82 1 v kids.length ps :: hang (kidR h) kids ps :: Own) Ro) : St c w (row 82 (kidR h) v kids :: Own) Ro :=
  St.close_row (r := kidR h) (by rw [kidR_sz]; exact H)
/-- A node of a tree of this height, behind a pointer. -/
def nodeR (h : Nat) : Rdr Nd := mkR (kidR h)
/-- A node that is owned. -/
def nodeA (h : Nat) (b : Nat) (x : Nd) : Asn := elem (nodeR h) x [.pointer (some ⟨b, 0, none⟩)]

theorem elem_node {c : Ctx} {w : World} {Own Ro : List Asn} {h : Nat} {x : Nd} {cs : List Value} (H : St c w (elem (nodeR h) x cs :: Own) Ro) : ∃ b, cs = [.pointer (some ⟨b, 0, none⟩)] ∧ St c w (nodeA h b x :: Own) Ro := by
  obtain ⟨S, b, vk, vt, vc, e, _⟩ := H.has (A := elem (nodeR h) x cs) (by simp)
  subst e
  exact ⟨b, rfl, H⟩
theorem node_open {c : Ctx} {w : World} {Own Ro : List Asn} {h b : Nat} {x : Nd} (H : St c w (nodeA h b x :: Own) Ro) : ∃ vk vt vc, St c w (nodeL (kidR h) b vk vt vc x ++ Own) Ro := by
  obtain ⟨⟨vk, vt, vc⟩, H⟩ := H.ex (ι := Value × Value × Value) (B := fun v => grp (nodeL (kidR h) b v.1 v.2.1 v.2.2 x)) fun S ⟨b', vk, vt, vc, e, hS⟩ => by
    simp only [List.cons.injEq, Value.pointer.injEq, Option.some.injEq, Addr.mk.injEq, and_true] at e
    subst e
    exact ⟨(vk, vt, vc), hS⟩
  exact ⟨vk, vt, vc, H.ungrp⟩
theorem node_close {c : Ctx} {w : World} {Own Ro : List Asn} {h b : Nat} {x : Nd} {vk vt vc : Value} (H : St c w (nodeL (kidR h) b vk vt vc x ++ Own) Ro) : St c w (nodeA h b x :: Own) Ro :=
  (H.grp (nodeL (kidR h) b vk vt vc x)).conv fun S hS => ⟨S, ⟨b, vk, vt, vc, rfl, hS⟩, fun _ h => h⟩

/-- One of the kids is taken out, and put back. -/
theorem kid_out {c : Ctx} {w : World} {Own Ro : List Asn} {h k : Nat} {kids : List Nd} {x : Nd} {ps : List Value} (H : St c w (hang (nodeR h) kids ps :: Own) Ro) (hx : kids[k]? = some x) :
    ∃ b, ps[k]? = some (.pointer (some ⟨b, 0, none⟩)) ∧ ps.length = kids.length ∧ St c w (nodeA h b x :: hang (nodeR h) (kids.take k) (ps.take k) :: hang (nodeR h) (kids.drop (k + 1)) (ps.drop (k + 1)) :: Own) Ro := by
  have hl : ps.length = kids.length * 1 := H.hang_len
  rw [Nat.mul_one] at hl
  obtain ⟨hlt, he⟩ := List.getElem?_eq_some_iff.1 hx
  have hd : kids = kids.take k ++ (x :: kids.drop (k + 1)) := by rw [← he, ← List.drop_eq_getElem_cons hlt, List.take_append_drop]
  rw [hd] at H
  have H1 := H.hang_cut
  have htl : (kids.take k).length = k := by rw [List.length_take]; omega
  rw [htl] at H1
  change St c w (hang (nodeR h) (kids.take k) (ps.take (k * 1)) :: hang (nodeR h) (x :: kids.drop (k + 1)) (ps.drop (k * 1)) :: Own) Ro at H1
  rw [Nat.mul_one] at H1
  have H2 := (H1.to (i := 1) rfl).hang_out
  obtain ⟨b, e, H3⟩ := elem_node H2
  change (ps.drop k).take 1 = _ at e
  change St c w (nodeA h b x :: hang (nodeR h) (kids.drop (k + 1)) ((ps.drop k).drop 1) :: hang (nodeR h) (kids.take k) (ps.take k) :: Own) Ro at H3
  rw [List.drop_drop] at H3
  refine ⟨b, ?_, hl, H3.perm (.cons _ (.swap _ _ _))⟩
  have := congrArg (·[0]?) e
  simpa using this
theorem kid_in {c : Ctx} {w : World} {Own Ro : List Asn} {h k b : Nat} {kids : List Nd} {x : Nd} {ps : List Value} (hl : ps.length = kids.length) (hp : ps[k]? = some (.pointer (some ⟨b, 0, none⟩)))
    (H : St c w (nodeA h b x :: hang (nodeR h) (kids.take k) (ps.take k) :: hang (nodeR h) (kids.drop (k + 1)) (ps.drop (k + 1)) :: Own) Ro) : St c w (hang (nodeR h) (kids.set k x) ps :: Own) Ro := by
  obtain ⟨hlt, he⟩ := List.getElem?_eq_some_iff.1 hp
  have H1 := (H.to (i := 2) rfl)
  have H2 := ((H1.to (i := 1) rfl).hang_in.to (i := 1) rfl).hang_join
  have e1 : kids.take k ++ (x :: kids.drop (k + 1)) = kids.set k x := by rw [List.set_eq_take_append_cons_drop, if_pos (by omega)]
  have e2 : ps.take k ++ ([.pointer (some ⟨b, 0, none⟩)] ++ ps.drop (k + 1)) = ps := by
    rw [← he]
    show ps.take k ++ (ps[k] :: ps.drop (k + 1)) = ps
    rw [← List.drop_eq_getElem_cons hlt, List.take_append_drop]
  rw [e1, e2] at H2
  exact H2

/-! ### A parent and one of its kids -/
theorem kidR_succ (h : Nat) : kidR (h + 1) = nodeR h := rfl
theorem parent_open {c : Ctx} {w : World} {Own Ro : List Asn} {h b k : Nat} {x y : Nd} (H : St c w (nodeA (h + 1) b x :: Own) Ro) (hy : x.kids[k]? = some y) :
    ∃ vk vt vc ps bk, ps[k]? = some (.pointer (some ⟨bk, 0, none⟩)) ∧ ps.length = x.kids.length ∧
      St c w (nodeA h bk y :: hang (nodeR h) (x.kids.take k) (ps.take k) :: hang (nodeR h) (x.kids.drop (k + 1)) (ps.drop (k + 1)) :: raw 82 1 vc x.kids.length ps :: blk b 88 [vk, vt, vc] :: raw 3 1 vk x.keys.length (kC x.keys) :: raw 9 1 vt x.texts.length (tC x.texts) :: Own) Ro := by
  obtain ⟨vk, vt, vc, H⟩ := node_open H
  obtain ⟨ps, hps, H⟩ := kids_open (H.to (i := 3) rfl)
  rw [kidR_succ] at H
  obtain ⟨bk, hp, _, H⟩ := kid_out (H.to (i := 1) rfl) hy
  exact ⟨vk, vt, vc, ps, bk, hp, hps, H⟩
theorem parent_close {c : Ctx} {w : World} {Own Ro : List Asn} {h b bk k n : Nat} {y : Nd} {keys : List Int} {texts : List ByteArray} {kids : List Nd} {vk vt vc : Value} {ps : List Value} (hp : ps[k]? = some (.pointer (some ⟨bk, 0, none⟩))) (hl : ps.length = kids.length) (hn : n = kids.length)
    (H : St c w (nodeA h bk y :: hang (nodeR h) (kids.take k) (ps.take k) :: hang (nodeR h) (kids.drop (k + 1)) (ps.drop (k + 1)) :: raw 82 1 vc n ps :: blk b 88 [vk, vt, vc] :: raw 3 1 vk keys.length (kC keys) :: raw 9 1 vt texts.length (tC texts) :: Own) Ro) :
    St c w (nodeA (h + 1) b (.mk keys texts (kids.set k y)) :: Own) Ro := by
  have H := kid_in hl hp H
  rw [← kidR_succ] at H
  subst hn
  have e : kids.length = (kids.set k y).length := by simp
  have H : St c w (row 82 (kidR (h + 1)) vc (kids.set k y) :: _) Ro := kids_close (by rw [← e]; exact H.to (i := 1) rfl)
  exact node_close (x := .mk keys texts (kids.set k y)) (H.bring [1, 2, 3, 0] rfl)
/-- The cells of a row of single cells. -/
theorem raw_at {c : Ctx} {w : World} {Own Ro : List Asn} {e n cap : Nat} {a : Option Addr} {cs : List Value} (H : St c w Own Ro) (hm : raw e 1 (.slice a n cap) n cs ∈ Own ++ Ro) (hn : 0 < n) : ∃ g o, a = some ⟨g, o, none⟩ ∧ ∀ j v, cs[j]? = some v → w.cell? ⟨g, o + j * 1, none⟩ = some v := by
  obtain ⟨S, hS⟩ := H.has hm
  rcases hS.at_ with ⟨_, h, _⟩ | ⟨g, o, cap', cur, h1, h2, h3, h4, h5, h6, h7⟩
  · omega
  · simp only [Value.slice.injEq] at h1
    refine ⟨g, o, h1.1, fun j v hj => ?_⟩
    have hc : CellsAt w ⟨g, o, none⟩ cs := cellsAt_list (l := cur.toList) (by simpa using h2) (by rw [hS.len]; exact h6)
    have := hc j v hj
    rw [Addr.add_lit] at this
    rwa [Nat.mul_one]
theorem raw_cell {c : Ctx} {w : World} {Own Ro : List Asn} {e n cap g o j : Nat} {cs : List Value} {v : Value} (H : St c w Own Ro) (hm : raw e 1 (.slice (some ⟨g, o, none⟩) n cap) n cs ∈ Own ++ Ro) (hj : cs[j]? = some v) : Holds w (cellA ⟨g, o + j * 1, none⟩ v) := by
  have hn : 0 < n := by
    obtain ⟨S, hS⟩ := H.has hm
    have h1 := hS.len
    have h2 := (List.getElem?_eq_some_iff.1 hj).1
    omega
  obtain ⟨g', o', e, h⟩ := raw_at H hm hn
  simp only [Option.some.injEq, Addr.mk.injEq] at e
  obtain ⟨rfl, rfl, _⟩ := e
  exact cellA_of (h j v hj)
theorem raw_form {c : Ctx} {w : World} {Own Ro : List Asn} {e sz n : Nat} {v : Value} {cs : List Value} (H : St c w Own Ro) (hm : raw e sz v n cs ∈ Own ++ Ro) : ∃ a cap, v = .slice a n cap ∧ n ≤ cap ∧ cap ≤ 9223372036854775807 := by
  obtain ⟨S, hS⟩ := H.has hm
  obtain ⟨a, cap, h, h1, h2⟩ := hS.form
  exact ⟨a, cap, h, h1, by simpa [maxLen] using h2⟩

/-! ### Reading -/
theorem node_read {w : World} {h b : Nat} {x : Nd} (H : Holds w (nodeA h b x)) : ∃ vk vt vc, Holds w (blk b 88 [vk, vt, vc]) ∧ Holds w (raw 3 1 vk x.keys.length (kC x.keys)) ∧ Holds w (raw 9 1 vt x.texts.length (tC x.texts)) ∧ Holds w (row 82 (kidR h) vc x.kids) := by
  obtain ⟨S, b', vk, vt, vc, e, hS⟩ := H
  simp only [List.cons.injEq, Value.pointer.injEq, Option.some.injEq, Addr.mk.injEq, and_true] at e
  subst e
  exact ⟨vk, vt, vc, Sep.mem' hS (by simp), Sep.mem' hS (by simp), Sep.mem' hS (by simp), Sep.mem' hS (by simp)⟩
theorem keys_rd {w : World} {v : Value} {l : List Int} (h : Holds w (raw 3 1 v l.length (kC l))) : ∃ a c, v = .slice a l.length c ∧ Holds w (rd i64 a c l) := by
  obtain ⟨S, hS⟩ := h
  exact row_rd (e := 3) (rr := i64) ⟨S, kC l, S, fun _ => False, hS, flat_elems _, fun b => by simp, fun b _ h => h⟩
theorem texts_rd {w : World} {v : Value} {l : List ByteArray} (h : Holds w (raw 9 1 v l.length (tC l))) : ∃ a c, v = .slice a l.length c ∧ Holds w (rd strR a c l) := by
  obtain ⟨S, hS⟩ := h
  exact row_rd (e := 9) (rr := strR) ⟨S, tC l, S, fun _ => False, hS, flat_elems _, fun b => by simp, fun b _ h => h⟩
theorem kid_read {w : World} {h k o cap b : Nat} {kids : List Nd} {x : Nd} (H : Holds w (rd (nodeR h) (some ⟨b, o, none⟩) cap kids)) (hx : kids[k]? = some x) : ∃ bk, w.cell? ⟨b, o + k * 1, none⟩ = some (.pointer (some ⟨bk, 0, none⟩)) ∧ Holds w (nodeA h bk x) := by
  obtain ⟨S, cs, ⟨S', hR, hs⟩, hc, _⟩ := H.elem hx
  obtain ⟨bk, vk, vt, vc, e, hS⟩ := hR
  subst e
  exact ⟨bk, Holds.cell hc, S', bk, vk, vt, vc, rfl, hS⟩

/-! ### Search -/
/-- Where a key is, or would be. -/
def posF (keys : List Int) (key : Int) : Nat := keys.findIdx fun y => decide (key ≤ y)
def hasF' (keys : List Int) (key : Int) : Bool := decide (keys[posF keys key]? = some key)
theorem posF_le (keys : List Int) (key : Int) : posF keys key ≤ keys.length := List.findIdx_le_length
theorem posF_eq {keys : List Int} {key : Int} {k : Nat} (hk : k ≤ keys.length) (h1 : ∀ j y, j < k → keys[j]? = some y → y < key) (h2 : ∀ y, keys[k]? = some y → key ≤ y) : posF keys key = k := by
  unfold posF
  rcases Nat.lt_or_ge k keys.length with hlt | hge
  · refine (List.findIdx_eq hlt).2 ⟨by simpa using h2 _ (List.getElem?_eq_getElem hlt), fun j hj => ?_⟩
    have := h1 j _ hj (List.getElem?_eq_getElem (by omega))
    simpa using this
  · have : k = keys.length := by omega
    subst this
    rw [List.findIdx_eq_length]
    intro y hy
    obtain ⟨j, hj, rfl⟩ := List.mem_iff_getElem.1 hy
    have := h1 j _ hj (List.getElem?_eq_getElem hj)
    simpa using this

theorem search_ok (w : World) (n : Nat) (hn : n ≤ 1073741824) (fid : Nat) (caps : Array Value) (f : Nat → Bool) (hcall : ∀ (a : Array Value) (w : World), (callFunc fid a).run Try.prog w = .ok (.enter fid a) w) (hmono : ∀ i j, i ≤ j → j < n → f i = true → f j = true)
    (hf : ∀ j, j < n → ∀ w', Pure w w' → Calls Try.prog fid (#[] ++ [Value.int .i64 (j : Int)].toArray ++ caps) w' (Ret fun v w'' => Pure w' w'' ∧ v = .bool (f j))) :
    Calls Try.prog 99 #[.int .i64 (n : Int), .func (.func fid) #[] caps] w (Ret fun v w' => Pure w w' ∧ ∃ k : Nat, v = .int .i64 k ∧ k ≤ n ∧ (∀ j, j < k → f j = false) ∧ ∀ j, k ≤ j → j < n → f j = true) := by
  refine calls_W (args := [_, _]) Try.func99 rfl Try.ntmps99 rfl ?_
  (repeat (first | refine WO.run tabOk rfl rfl ?_ | refine WO.nil ?_ | refine WO.skip rfl rfl rfl ?_ | refine WO.pu tabOk rfl rfl rfl rfl ?_ | refine W.seq ?_ | refine W.region ?_ | refine W.block ?_ | refine W.skip ?_ | refine W.exit ?_))
  refine W.loopS [1, 5, 6] (fun s : Nat × Nat => [(1, .func (.func fid) #[] caps), (5, .int .i64 s.1), (6, .int .i64 s.2)])
    (fun s w' => s.1 ≤ s.2 ∧ s.2 ≤ n ∧ (∀ j, j < s.1 → f j = false) ∧ (∀ j, s.2 ≤ j → j < n → f j = true) ∧ Pure w w') (fun s => s.2 - s.1) (0, n) rfl
    ⟨Nat.zero_le _, Nat.le_refl _, fun j hj => (by omega), fun j h1 h2 => (by omega), Pure.refl w⟩ ?_
  rintro ⟨i, j⟩ w1 ⟨hij, hj, hlo, hhi, hp⟩
  simp only at hij hj hlo hhi
  (repeat (first | refine WO.run tabOk rfl rfl ?_ | refine WO.nil ?_ | refine WO.skip rfl rfl rfl ?_ | refine WO.pu tabOk rfl rfl rfl rfl ?_ | refine W.seq ?_ | refine W.region ?_ | refine W.block ?_ | refine W.skip ?_ | refine W.exit ?_))
  refine W.cond rfl (fun hlt => ?_) (fun hge => ?_)
  · have hlt : i < j := by simpa using hlt
    (repeat (first | refine WO.run tabOk rfl rfl ?_ | refine WO.nil ?_ | refine WO.skip rfl rfl rfl ?_ | refine WO.pu tabOk rfl rfl rfl rfl ?_ | refine W.seq ?_ | refine W.region ?_ | refine W.block ?_ | refine W.skip ?_ | refine W.exit ?_))
    refine WO.pv rfl rfl rfl (PureV.add rfl rfl rfl (by omega) (by omega)) ?_
    refine WO.pv rfl rfl rfl (PureV.convI tabOk rfl rfl rfl rfl rfl rfl (wrapU64_in (by omega) (by omega))) ?_
    refine WO.pv rfl rfl rfl (PureV.shrU rfl rfl rfl (by omega) (by omega)) ?_
    refine WO.pv rfl rfl rfl (PureV.convI tabOk rfl rfl rfl rfl rfl rfl (wrap64_in (by simp; omega) (by simp; omega))) ?_
    obtain ⟨m, hm⟩ : ∃ m : Nat, ((i : Int) + j) / 2 ^ (1 : Int).toNat = m := ⟨(i + j) / 2, by simp⟩
    have hm1 : i ≤ m ∧ m < j := by simp at hm; omega
    rw [hm]
    (repeat (first | refine WO.run tabOk rfl rfl ?_ | refine WO.nil ?_ | refine WO.skip rfl rfl rfl ?_ | refine WO.pu tabOk rfl rfl rfl rfl ?_ | refine W.seq ?_ | refine W.region ?_ | refine W.block ?_ | refine W.skip ?_ | refine W.exit ?_))
    refine WO.one rfl rfl rfl (OpW.callv (first := #[]) (cap := caps) rfl rfl hcall rfl (Calls.ret (hf m (by omega) _ hp) ?_))
    rintro _ w2 ⟨hp2, rfl⟩
    (repeat (first | refine WO.run tabOk rfl rfl ?_ | refine WO.nil ?_ | refine WO.skip rfl rfl rfl ?_ | refine WO.pu tabOk rfl rfl rfl rfl ?_ | refine W.seq ?_ | refine W.region ?_ | refine W.block ?_ | refine W.skip ?_ | refine W.exit ?_))
    refine W.cond rfl (fun he => ?_) (fun hne => ?_)
    · (repeat (first | refine WO.run tabOk rfl rfl ?_ | refine WO.nil ?_ | refine WO.skip rfl rfl rfl ?_ | refine WO.pu tabOk rfl rfl rfl rfl ?_ | refine W.seq ?_ | refine W.region ?_ | refine W.block ?_ | refine W.skip ?_ | refine W.exit ?_))
      refine WO.pv rfl rfl rfl (PureV.addN rfl rfl rfl (by omega)) ?_
      (repeat (first | refine WO.run tabOk rfl rfl ?_ | refine WO.nil ?_ | refine WO.skip rfl rfl rfl ?_ | refine WO.pu tabOk rfl rfl rfl rfl ?_ | refine W.seq ?_ | refine W.region ?_ | refine W.block ?_ | refine W.skip ?_ | refine W.exit ?_))
      simp at he
      refine ⟨(m + 1, j), rfl, ⟨by simp only; omega, hj, fun k hk => ?_, hhi, hp.trans hp2⟩, by simp only; omega⟩
      cases hfk : f k with
      | false => rfl
      | true =>
        have := hmono k m (by simp only at hk; omega) (by omega) hfk
        rw [he] at this; cases this
    · (repeat (first | refine WO.run tabOk rfl rfl ?_ | refine WO.nil ?_ | refine WO.skip rfl rfl rfl ?_ | refine WO.pu tabOk rfl rfl rfl rfl ?_ | refine W.seq ?_ | refine W.region ?_ | refine W.block ?_ | refine W.skip ?_ | refine W.exit ?_))
      simp at hne
      refine ⟨(i, m), rfl, ⟨by simp only; omega, by simp only; omega, hlo, fun k hk hkn => ?_, hp.trans hp2⟩, by simp only; omega⟩
      exact hmono m k hk hkn hne
  · simp at hge
    obtain rfl : i = j := by omega
    (repeat (first | refine WO.run tabOk rfl rfl ?_ | refine WO.nil ?_ | refine WO.skip rfl rfl rfl ?_ | refine WO.pu tabOk rfl rfl rfl rfl ?_ | refine W.seq ?_ | refine W.region ?_ | refine W.block ?_ | refine W.skip ?_ | refine W.exit ?_))
    exact W.ret (ret1 Try.results99 rfl ⟨_, rfl, hp, i, rfl, hj, hlo, hhi⟩)

theorem searchIntsF_ok (w : World) (j : Nat) (a : Option Addr) (c : Nat) (keys : List Int) (key : Int) (y : Int) (b2 b3 : Nat) (hy : keys[j]? = some y) (hH : Holds w (rd i64 a c keys)) (h2 : Holds w (blk b2 30 [.slice a keys.length c])) (h3 : Holds w (blk b3 3 [.int .i64 key])) :
    Calls Try.prog 100 (#[] ++ [Value.int .i64 (j : Int)].toArray ++ #[.pointer (some ⟨b2, 0, none⟩), .pointer (some ⟨b3, 0, none⟩)]) w (Ret fun v w' => Pure w w' ∧ v = .bool (decide (key ≤ y))) := by
  show Calls Try.prog 100 #[Value.int .i64 (j : Int), .pointer (some ⟨b2, 0, none⟩), .pointer (some ⟨b3, 0, none⟩)] w _
  refine calls_W (args := [_, _, _]) Try.func100 rfl Try.ntmps100 rfl ?_
  have hlt := (List.getElem?_eq_some_iff.1 hy).1
  obtain ⟨b, o, rfl⟩ := hH.addr (by omega)
  (repeat (first | refine WO.run tabOk rfl rfl ?_ | refine WO.nil ?_ | refine WO.skip rfl rfl rfl ?_ | refine WO.pu tabOk rfl rfl rfl rfl ?_ | refine W.seq ?_ | refine W.region ?_ | refine W.block ?_ | refine W.skip ?_ | refine W.exit ?_))
  refine W.regionD [0, 3, 4] (HA [blk b2 30 [.slice (some ⟨b, o, none⟩) keys.length c], blk b3 3 [.int .i64 key], rd i64 (some ⟨b, o, none⟩) c keys]) [0, 1, 2, 3, 4, 5, 6] rfl (by kernel_rfl) (fun _ _ _ h => h) ?_
  have hp := Pure.drew w
  have hA : HA [blk b2 30 [.slice (some ⟨b, o, none⟩) keys.length c], blk b3 3 [.int .i64 key], rd i64 (some ⟨b, o, none⟩) c keys] w.drew := HA.cons (h2.pure hp) (HA.cons (h3.pure hp) (HA.cons (hH.pure hp) (HA.nil _)))
  (repeat (first | refine WD.run tabOk rfl rfl ?_ | refine WD.hv rfl rfl rfl rfl rfl hA (HeldV.load1 tabOk rfl rfl rfl rfl (by (first | exact .head _ | exact .tail _ (.head _) | exact .tail _ (.tail _ (.head _)) | exact .tail _ (.tail _ (.tail _ (.head _))) | exact .tail _ (.tail _ (.tail _ (.tail _ (.head _)))) | exact .tail _ (.tail _ (.tail _ (.tail _ (.tail _ (.head _))))) | exact .tail _ (.tail _ (.tail _ (.tail _ (.tail _ (.tail _ (.head _)))))) | exact .tail _ (.tail _ (.tail _ (.tail _ (.tail _ (.tail _ (.tail _ (.head _))))))))) rfl) ?_ | refine WD.hv rfl rfl rfl rfl rfl hA (HeldV.loadA tabOk rfl rfl rfl rfl (by (first | exact .head _ | exact .tail _ (.head _) | exact .tail _ (.tail _ (.head _)) | exact .tail _ (.tail _ (.tail _ (.head _))) | exact .tail _ (.tail _ (.tail _ (.tail _ (.head _)))) | exact .tail _ (.tail _ (.tail _ (.tail _ (.tail _ (.head _))))) | exact .tail _ (.tail _ (.tail _ (.tail _ (.tail _ (.tail _ (.head _)))))) | exact .tail _ (.tail _ (.tail _ (.tail _ (.tail _ (.tail _ (.tail _ (.head _))))))))) rfl rfl) ?_ | refine WD.pu tabOk rfl rfl rfl rfl rfl rfl ?_))
  refine WD.pv rfl rfl rfl rfl rfl (PureV.idxN tabOk rfl rfl rfl rfl rfl rfl hlt) ?_
  (repeat (first | refine WD.run tabOk rfl rfl ?_ | refine WD.hv rfl rfl rfl rfl rfl hA (HeldV.load1 tabOk rfl rfl rfl rfl (by (first | exact .head _ | exact .tail _ (.head _) | exact .tail _ (.tail _ (.head _)) | exact .tail _ (.tail _ (.tail _ (.head _))) | exact .tail _ (.tail _ (.tail _ (.tail _ (.head _)))) | exact .tail _ (.tail _ (.tail _ (.tail _ (.tail _ (.head _))))) | exact .tail _ (.tail _ (.tail _ (.tail _ (.tail _ (.tail _ (.head _)))))) | exact .tail _ (.tail _ (.tail _ (.tail _ (.tail _ (.tail _ (.tail _ (.head _))))))))) rfl) ?_ | refine WD.hv rfl rfl rfl rfl rfl hA (HeldV.loadA tabOk rfl rfl rfl rfl (by (first | exact .head _ | exact .tail _ (.head _) | exact .tail _ (.tail _ (.head _)) | exact .tail _ (.tail _ (.tail _ (.head _))) | exact .tail _ (.tail _ (.tail _ (.tail _ (.head _)))) | exact .tail _ (.tail _ (.tail _ (.tail _ (.tail _ (.head _))))) | exact .tail _ (.tail _ (.tail _ (.tail _ (.tail _ (.tail _ (.head _)))))) | exact .tail _ (.tail _ (.tail _ (.tail _ (.tail _ (.tail _ (.tail _ (.head _))))))))) rfl rfl) ?_ | refine WD.pu tabOk rfl rfl rfl rfl rfl rfl ?_))
  refine WD.hv rfl rfl rfl rfl rfl hA (HeldV.elem1 (i := j) (j := 0) tabOk rfl rfl rfl rfl (.tail _ (.tail _ (.head _))) hy rfl rfl) ?_
  (repeat (first | refine WD.run tabOk rfl rfl ?_ | refine WD.hv rfl rfl rfl rfl rfl hA (HeldV.load1 tabOk rfl rfl rfl rfl (by (first | exact .head _ | exact .tail _ (.head _) | exact .tail _ (.tail _ (.head _)) | exact .tail _ (.tail _ (.tail _ (.head _))) | exact .tail _ (.tail _ (.tail _ (.tail _ (.head _)))) | exact .tail _ (.tail _ (.tail _ (.tail _ (.tail _ (.head _))))) | exact .tail _ (.tail _ (.tail _ (.tail _ (.tail _ (.tail _ (.head _)))))) | exact .tail _ (.tail _ (.tail _ (.tail _ (.tail _ (.tail _ (.tail _ (.head _))))))))) rfl) ?_ | refine WD.hv rfl rfl rfl rfl rfl hA (HeldV.loadA tabOk rfl rfl rfl rfl (by (first | exact .head _ | exact .tail _ (.head _) | exact .tail _ (.tail _ (.head _)) | exact .tail _ (.tail _ (.tail _ (.head _))) | exact .tail _ (.tail _ (.tail _ (.tail _ (.head _)))) | exact .tail _ (.tail _ (.tail _ (.tail _ (.tail _ (.head _))))) | exact .tail _ (.tail _ (.tail _ (.tail _ (.tail _ (.tail _ (.head _)))))) | exact .tail _ (.tail _ (.tail _ (.tail _ (.tail _ (.tail _ (.tail _ (.head _))))))))) rfl rfl) ?_ | refine WD.pu tabOk rfl rfl rfl rfl rfl rfl ?_))
  (repeat (first | refine WD.run tabOk rfl rfl ?_ | refine WD.nil ?_))
  (repeat (first | refine WO.run tabOk rfl rfl ?_ | refine WO.nil ?_ | refine WO.skip rfl rfl rfl ?_ | refine WO.pu tabOk rfl rfl rfl rfl ?_ | refine W.seq ?_ | refine W.region ?_ | refine W.block ?_ | refine W.skip ?_ | refine W.exit ?_))
  exact W.ret (ret1 Try.results100 rfl ⟨_, rfl, hp, rfl⟩)

theorem sorted_get {l : List Int} (h : l.Pairwise (· < ·)) {i j : Nat} {x y : Int} (hx : l[i]? = some x) (hy : l[j]? = some y) (hij : i < j) : x < y := by
  obtain ⟨l1, e1⟩ := List.getElem?_eq_some_iff.1 hx
  obtain ⟨l2, e2⟩ := List.getElem?_eq_some_iff.1 hy
  have := List.pairwise_iff_getElem.1 h i j l1 l2 hij
  rwa [e1, e2] at this

theorem searchInts_ok (w : World) (a : Option Addr) (c : Nat) (keys : List Int) (key : Int) (hH : Holds w (rd i64 a c keys)) (hn : keys.length ≤ 1073741824) (hs : keys.Pairwise (· < ·)) :
    Calls Try.prog 78 #[.slice a keys.length c, .int .i64 key] w (Ret fun v w' => Pure w w' ∧ v = .int .i64 (posF keys key)) := by
  refine calls_W (args := [_, _]) Try.func78 rfl Try.ntmps78 rfl ?_
  have H := St.start [rd i64 a c keys] (w := w) (by simpa using hH)
  (repeat (first | refine W.seq ?_ | refine W.block ?_ | refine W.skip ?_ | refine W.exit ?_ | refine W.region ?_))
  refine WO.one rfl rfl rfl (OpW.box rfl rfl rfl H ?_); intro b2 w1 H1
  refine WO.one rfl rfl rfl (OpW.box rfl rfl rfl H1 ?_); intro b3 w2 H2
  (repeat (first | refine WO.run tabOk rfl rfl ?_ | refine WO.nil ?_ | refine WO.skip rfl rfl rfl ?_ | refine WO.pu tabOk rfl rfl rfl rfl ?_ | refine W.seq ?_ | refine W.region ?_ | refine W.block ?_ | refine W.skip ?_ | refine W.exit ?_ | refine WO.one rfl rfl rfl (OpW.load1 tabOk rfl rfl rfl rfl H2 (by (first | exact .head _ | exact .tail _ (.head _) | exact .tail _ (.tail _ (.head _)) | exact .tail _ (.tail _ (.tail _ (.head _))) | exact .tail _ (.tail _ (.tail _ (.tail _ (.head _)))) | exact .tail _ (.tail _ (.tail _ (.tail _ (.tail _ (.head _))))) | exact .tail _ (.tail _ (.tail _ (.tail _ (.tail _ (.tail _ (.head _)))))) | exact .tail _ (.tail _ (.tail _ (.tail _ (.tail _ (.tail _ (.tail _ (.head _))))))))) rfl ?_)))
  have k2 := H2.holds (A := blk b2 30 [.slice a keys.length c]) (by simp)
  have k3 := H2.holds (A := blk b3 3 [.int .i64 key]) (by simp)
  have kH := H2.holds (A := rd i64 a c keys) (by simp)
  refine WO.one rfl rfl rfl (OpW.call rfl Try.call99 rfl (Calls.ret (search_ok w2 keys.length hn 100 #[.pointer (some ⟨b2, 0, none⟩), .pointer (some ⟨b3, 0, none⟩)] (fun j => match keys[j]? with | some y => decide (key ≤ y) | none => false) Try.call100 ?_ ?_) ?_))
  · intro i j hij hj hi
    have ey := List.getElem?_eq_getElem hj
    have ex := List.getElem?_eq_getElem (l := keys) (i := i) (by omega)
    simp only [ex, ey, decide_eq_true_eq] at hi ⊢
    rcases Nat.eq_or_lt_of_le hij with rfl | h
    · exact hi
    · have := sorted_get hs ex ey h; omega
  · intro j hj w' hp
    have ey := List.getElem?_eq_getElem hj
    simp only [ey]
    exact searchIntsF_ok w' j a c keys key _ b2 b3 ey (kH.pure hp) (k2.pure hp) (k3.pure hp)
  rintro _ w3 ⟨hp3, k, rfl, hk, hlo, hhi⟩
  (repeat (first | refine WO.run tabOk rfl rfl ?_ | refine WO.nil ?_ | refine WO.skip rfl rfl rfl ?_ | refine WO.pu tabOk rfl rfl rfl rfl ?_ | refine W.seq ?_ | refine W.region ?_ | refine W.block ?_ | refine W.skip ?_ | refine W.exit ?_))
  refine W.ret (ret1 Try.results78 rfl ⟨_, rfl, H2.pure.trans hp3, ?_⟩)
  rw [posF_eq hk]
  · intro j y hj hy
    have := hlo j hj
    simp only [hy, decide_eq_false_iff_not] at this
    omega
  · intro y hy
    have := hhi k (Nat.le_refl _) (List.getElem?_eq_some_iff.1 hy).1
    simpa only [hy, decide_eq_true_eq] using this

theorem find_ok (w : World) (b : Nat) (vk vt vc : Value) (keys : List Int) (key : Int) (hb : Holds w (blk b 88 [vk, vt, vc])) (hk : Holds w (raw 3 1 vk keys.length (kC keys))) (hn : keys.length ≤ 1073741824) (hs : keys.Pairwise (· < ·)) :
    Calls Try.prog 40 #[.pointer (some ⟨b, 0, none⟩), .int .i64 key] w (Ret fun v w' => Pure w w' ∧ v = .tuple #[.int .i64 (posF keys key), .bool (hasF' keys key)]) := by
  refine calls_W (args := [_, _]) Try.func40 rfl Try.ntmps40 rfl ?_
  obtain ⟨a, c, rfl, hH⟩ := keys_rd hk
  have H := St.start [blk b 88 [.slice a keys.length c, vt, vc], rd i64 a c keys] (w := w) (by simpa using ⟨hb, hH⟩)
  (repeat (first | refine WO.run tabOk rfl rfl ?_ | refine WO.nil ?_ | refine WO.skip rfl rfl rfl ?_ | refine WO.pu tabOk rfl rfl rfl rfl ?_ | refine W.seq ?_ | refine W.region ?_ | refine W.block ?_ | refine W.skip ?_ | refine W.exit ?_ | refine WO.one rfl rfl rfl (OpW.load1 tabOk rfl rfl rfl rfl H (by (first | exact .head _ | exact .tail _ (.head _) | exact .tail _ (.tail _ (.head _)) | exact .tail _ (.tail _ (.tail _ (.head _))) | exact .tail _ (.tail _ (.tail _ (.tail _ (.head _)))) | exact .tail _ (.tail _ (.tail _ (.tail _ (.tail _ (.head _))))) | exact .tail _ (.tail _ (.tail _ (.tail _ (.tail _ (.tail _ (.head _)))))) | exact .tail _ (.tail _ (.tail _ (.tail _ (.tail _ (.tail _ (.tail _ (.head _))))))))) rfl ?_)))
  refine WO.one rfl rfl rfl (OpW.call rfl Try.call78 rfl (Calls.ret (searchInts_ok w a c keys key hH hn hs) ?_))
  rintro _ w1 ⟨hp1, rfl⟩
  have H := H.after hp1
  have hle := posF_le keys key
  (repeat (first | refine WO.run tabOk rfl rfl ?_ | refine WO.nil ?_ | refine WO.skip rfl rfl rfl ?_ | refine WO.pu tabOk rfl rfl rfl rfl ?_ | refine W.seq ?_ | refine W.region ?_ | refine W.block ?_ | refine W.skip ?_ | refine W.exit ?_))
  have out : ∀ w', Pure w w' → ∀ {t : Bool}, t = hasF' keys key → Pure w w' ∧ Value.tuple #[.int .i64 (posF keys key), .bool t] = .tuple #[.int .i64 (posF keys key), .bool (hasF' keys key)] := fun w' hp t ht => ⟨hp, by rw [ht]⟩
  by_cases hlt : posF keys key < keys.length
  · obtain ⟨bb, bo, rfl⟩ := hH.addr (by omega)
    have hx := List.getElem?_eq_getElem hlt
    generalize keys[posF keys key] = y at hx
    refine W.regionD [5, 12, 15] (HA [blk b 88 [.slice (some ⟨bb, bo, none⟩) keys.length c, vt, vc], rd i64 (some ⟨bb, bo, none⟩) c keys]) [0, 1, 2, 3, 4, 5, 6, 7, 8, 9, 10, 11, 12, 13, 14, 15, 16, 17, 18, 19, 20] rfl (by kernel_rfl) (fun _ _ _ h => h) ?_
    have H := H.drew
    have hA := H.ha (L := [blk b 88 [.slice (some ⟨bb, bo, none⟩) keys.length c, vt, vc], rd i64 (some ⟨bb, bo, none⟩) c keys]) (by simp)
    (repeat (first | refine WD.run tabOk rfl rfl ?_ | refine WD.hv rfl rfl rfl rfl rfl hA (HeldV.load1 tabOk rfl rfl rfl rfl (by (first | exact .head _ | exact .tail _ (.head _) | exact .tail _ (.tail _ (.head _)) | exact .tail _ (.tail _ (.tail _ (.head _))) | exact .tail _ (.tail _ (.tail _ (.tail _ (.head _)))) | exact .tail _ (.tail _ (.tail _ (.tail _ (.tail _ (.head _))))) | exact .tail _ (.tail _ (.tail _ (.tail _ (.tail _ (.tail _ (.head _)))))) | exact .tail _ (.tail _ (.tail _ (.tail _ (.tail _ (.tail _ (.tail _ (.head _))))))))) rfl) ?_ | refine WD.hv rfl rfl rfl rfl rfl hA (HeldV.loadA tabOk rfl rfl rfl rfl (by (first | exact .head _ | exact .tail _ (.head _) | exact .tail _ (.tail _ (.head _)) | exact .tail _ (.tail _ (.tail _ (.head _))) | exact .tail _ (.tail _ (.tail _ (.tail _ (.head _)))) | exact .tail _ (.tail _ (.tail _ (.tail _ (.tail _ (.head _))))) | exact .tail _ (.tail _ (.tail _ (.tail _ (.tail _ (.tail _ (.head _)))))) | exact .tail _ (.tail _ (.tail _ (.tail _ (.tail _ (.tail _ (.tail _ (.head _))))))))) rfl rfl) ?_ | refine WD.pu tabOk rfl rfl rfl rfl rfl rfl ?_))
    refine WD.caseG rfl rfl rfl (fun hg => ?_) (fun hg => ?_)
    rotate_left
    · simp at hg; omega
    (repeat (first | refine WD.run tabOk rfl rfl ?_ | refine WD.hv rfl rfl rfl rfl rfl hA (HeldV.load1 tabOk rfl rfl rfl rfl (by (first | exact .head _ | exact .tail _ (.head _) | exact .tail _ (.tail _ (.head _)) | exact .tail _ (.tail _ (.tail _ (.head _))) | exact .tail _ (.tail _ (.tail _ (.tail _ (.head _)))) | exact .tail _ (.tail _ (.tail _ (.tail _ (.tail _ (.head _))))) | exact .tail _ (.tail _ (.tail _ (.tail _ (.tail _ (.tail _ (.head _)))))) | exact .tail _ (.tail _ (.tail _ (.tail _ (.tail _ (.tail _ (.tail _ (.head _))))))))) rfl) ?_ | refine WD.hv rfl rfl rfl rfl rfl hA (HeldV.loadA tabOk rfl rfl rfl rfl (by (first | exact .head _ | exact .tail _ (.head _) | exact .tail _ (.tail _ (.head _)) | exact .tail _ (.tail _ (.tail _ (.head _))) | exact .tail _ (.tail _ (.tail _ (.tail _ (.head _)))) | exact .tail _ (.tail _ (.tail _ (.tail _ (.tail _ (.head _))))) | exact .tail _ (.tail _ (.tail _ (.tail _ (.tail _ (.tail _ (.head _)))))) | exact .tail _ (.tail _ (.tail _ (.tail _ (.tail _ (.tail _ (.tail _ (.head _))))))))) rfl rfl) ?_ | refine WD.pu tabOk rfl rfl rfl rfl rfl rfl ?_))
    refine WD.pv rfl rfl rfl rfl rfl (PureV.idxN tabOk rfl rfl rfl rfl rfl rfl hlt) ?_
    (repeat (first | refine WD.run tabOk rfl rfl ?_ | refine WD.hv rfl rfl rfl rfl rfl hA (HeldV.load1 tabOk rfl rfl rfl rfl (by (first | exact .head _ | exact .tail _ (.head _) | exact .tail _ (.tail _ (.head _)) | exact .tail _ (.tail _ (.tail _ (.head _))) | exact .tail _ (.tail _ (.tail _ (.tail _ (.head _)))) | exact .tail _ (.tail _ (.tail _ (.tail _ (.tail _ (.head _))))) | exact .tail _ (.tail _ (.tail _ (.tail _ (.tail _ (.tail _ (.head _)))))) | exact .tail _ (.tail _ (.tail _ (.tail _ (.tail _ (.tail _ (.tail _ (.head _))))))))) rfl) ?_ | refine WD.hv rfl rfl rfl rfl rfl hA (HeldV.loadA tabOk rfl rfl rfl rfl (by (first | exact .head _ | exact .tail _ (.head _) | exact .tail _ (.tail _ (.head _)) | exact .tail _ (.tail _ (.tail _ (.head _))) | exact .tail _ (.tail _ (.tail _ (.tail _ (.head _)))) | exact .tail _ (.tail _ (.tail _ (.tail _ (.tail _ (.head _))))) | exact .tail _ (.tail _ (.tail _ (.tail _ (.tail _ (.tail _ (.head _)))))) | exact .tail _ (.tail _ (.tail _ (.tail _ (.tail _ (.tail _ (.tail _ (.head _))))))))) rfl rfl) ?_ | refine WD.pu tabOk rfl rfl rfl rfl rfl rfl ?_))
    refine WD.hv rfl rfl rfl rfl rfl hA (HeldV.elem1 (i := posF keys key) (j := 0) tabOk rfl rfl rfl rfl (.tail _ (.head _)) hx rfl rfl) ?_
    (repeat (first | refine WD.run tabOk rfl rfl ?_ | refine WD.hv rfl rfl rfl rfl rfl hA (HeldV.load1 tabOk rfl rfl rfl rfl (by (first | exact .head _ | exact .tail _ (.head _) | exact .tail _ (.tail _ (.head _)) | exact .tail _ (.tail _ (.tail _ (.head _))) | exact .tail _ (.tail _ (.tail _ (.tail _ (.head _)))) | exact .tail _ (.tail _ (.tail _ (.tail _ (.tail _ (.head _))))) | exact .tail _ (.tail _ (.tail _ (.tail _ (.tail _ (.tail _ (.head _)))))) | exact .tail _ (.tail _ (.tail _ (.tail _ (.tail _ (.tail _ (.tail _ (.head _))))))))) rfl) ?_ | refine WD.hv rfl rfl rfl rfl rfl hA (HeldV.loadA tabOk rfl rfl rfl rfl (by (first | exact .head _ | exact .tail _ (.head _) | exact .tail _ (.tail _ (.head _)) | exact .tail _ (.tail _ (.tail _ (.head _))) | exact .tail _ (.tail _ (.tail _ (.tail _ (.head _)))) | exact .tail _ (.tail _ (.tail _ (.tail _ (.tail _ (.head _))))) | exact .tail _ (.tail _ (.tail _ (.tail _ (.tail _ (.tail _ (.head _)))))) | exact .tail _ (.tail _ (.tail _ (.tail _ (.tail _ (.tail _ (.tail _ (.head _))))))))) rfl rfl) ?_ | refine WD.pu tabOk rfl rfl rfl rfl rfl rfl ?_))
    (repeat (first | refine WD.run tabOk rfl rfl ?_ | refine WD.nil ?_))
    (repeat (first | refine WO.run tabOk rfl rfl ?_ | refine WO.nil ?_ | refine WO.skip rfl rfl rfl ?_ | refine WO.pu tabOk rfl rfl rfl rfl ?_ | refine W.seq ?_ | refine W.region ?_ | refine W.block ?_ | refine W.skip ?_ | refine W.exit ?_))
    refine W.ret (ret2 Try.results40 rfl rfl ⟨_, rfl, out _ H.pure ?_⟩)
    simp [hasF', hx, pickV]
  · refine W.regionD [5, 12, 15] (HA [blk b 88 [.slice a keys.length c, vt, vc]]) [0, 1, 2, 3, 4, 5, 6, 7, 8, 9, 10, 11, 12, 13, 14, 15, 16, 17, 18, 19, 20] rfl (by kernel_rfl) (fun _ _ _ h => h) ?_
    have H := H.drew
    have hA := H.ha (L := [blk b 88 [.slice a keys.length c, vt, vc]]) (by simp)
    (repeat (first | refine WD.run tabOk rfl rfl ?_ | refine WD.hv rfl rfl rfl rfl rfl hA (HeldV.load1 tabOk rfl rfl rfl rfl (by (first | exact .head _ | exact .tail _ (.head _) | exact .tail _ (.tail _ (.head _)) | exact .tail _ (.tail _ (.tail _ (.head _))) | exact .tail _ (.tail _ (.tail _ (.tail _ (.head _)))) | exact .tail _ (.tail _ (.tail _ (.tail _ (.tail _ (.head _))))) | exact .tail _ (.tail _ (.tail _ (.tail _ (.tail _ (.tail _ (.head _)))))) | exact .tail _ (.tail _ (.tail _ (.tail _ (.tail _ (.tail _ (.tail _ (.head _))))))))) rfl) ?_ | refine WD.hv rfl rfl rfl rfl rfl hA (HeldV.loadA tabOk rfl rfl rfl rfl (by (first | exact .head _ | exact .tail _ (.head _) | exact .tail _ (.tail _ (.head _)) | exact .tail _ (.tail _ (.tail _ (.head _))) | exact .tail _ (.tail _ (.tail _ (.tail _ (.head _)))) | exact .tail _ (.tail _ (.tail _ (.tail _ (.tail _ (.head _))))) | exact .tail _ (.tail _ (.tail _ (.tail _ (.tail _ (.tail _ (.head _)))))) | exact .tail _ (.tail _ (.tail _ (.tail _ (.tail _ (.tail _ (.tail _ (.head _))))))))) rfl rfl) ?_ | refine WD.pu tabOk rfl rfl rfl rfl rfl rfl ?_))
    refine WD.caseG rfl rfl rfl (fun hg => ?_) (fun hg => ?_)
    · simp at hg; omega
    (repeat (first | refine WD.skip rfl rfl rfl rfl rfl ?_ | refine WD.skipS rfl rfl rfl rfl ‹HA _ _› ?_))
    (repeat (first | refine WD.run tabOk rfl rfl ?_ | refine WD.hv rfl rfl rfl rfl rfl hA (HeldV.load1 tabOk rfl rfl rfl rfl (by (first | exact .head _ | exact .tail _ (.head _) | exact .tail _ (.tail _ (.head _)) | exact .tail _ (.tail _ (.tail _ (.head _))) | exact .tail _ (.tail _ (.tail _ (.tail _ (.head _)))) | exact .tail _ (.tail _ (.tail _ (.tail _ (.tail _ (.head _))))) | exact .tail _ (.tail _ (.tail _ (.tail _ (.tail _ (.tail _ (.head _)))))) | exact .tail _ (.tail _ (.tail _ (.tail _ (.tail _ (.tail _ (.tail _ (.head _))))))))) rfl) ?_ | refine WD.hv rfl rfl rfl rfl rfl hA (HeldV.loadA tabOk rfl rfl rfl rfl (by (first | exact .head _ | exact .tail _ (.head _) | exact .tail _ (.tail _ (.head _)) | exact .tail _ (.tail _ (.tail _ (.head _))) | exact .tail _ (.tail _ (.tail _ (.tail _ (.head _)))) | exact .tail _ (.tail _ (.tail _ (.tail _ (.tail _ (.head _))))) | exact .tail _ (.tail _ (.tail _ (.tail _ (.tail _ (.tail _ (.head _)))))) | exact .tail _ (.tail _ (.tail _ (.tail _ (.tail _ (.tail _ (.tail _ (.head _))))))))) rfl rfl) ?_ | refine WD.pu tabOk rfl rfl rfl rfl rfl rfl ?_))
    (repeat (first | refine WD.run tabOk rfl rfl ?_ | refine WD.nil ?_))
    (repeat (first | refine WO.run tabOk rfl rfl ?_ | refine WO.nil ?_ | refine WO.skip rfl rfl rfl ?_ | refine WO.pu tabOk rfl rfl rfl rfl ?_ | refine W.seq ?_ | refine W.region ?_ | refine W.block ?_ | refine W.skip ?_ | refine W.exit ?_))
    refine W.ret (ret2 Try.results40 rfl rfl ⟨_, rfl, out _ H.pure ?_⟩)
    have : keys[posF keys key]? = none := List.getElem?_eq_none (by omega)
    simp [hasF', this, pickV]
end Go.Proofs.Ytnghaidnbicjjaa
