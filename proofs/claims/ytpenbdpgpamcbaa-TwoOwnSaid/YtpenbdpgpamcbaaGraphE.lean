/- graph: Parts; the library's SortFunc over parts. Conditions: each fact's own premises. -/
import Derived.Test.YtpenbdpgpamcbaaGraphC
import Derived.Test.YtpenbdpgpamcbaaGraphW
import Derived.Test.YtpenbdpgpamcbaaGwAnti
set_option linter.unusedVariables false
set_option linter.unusedSimpArgs false
set_option maxRecDepth 20000
namespace Go.Proofs.Ytpenbdpgpamcbaa
open Go Gw
attribute [local irreducible] W WO WD

/-! ### What hangs on a row, in another order -/
theorem elems_perm {α ι : Type} {r : Rdr α} {w : World} (hsz : r.sz = 1) (f : ι → α) (g : ι → Value) {l l' : List ι} (hp : l.Perm l') : ∀ {S : Nat → Prop}, Elems r w (l.map f) (l.map g) S → Elems r w (l'.map f) (l'.map g) S := by
  have one : ∀ (x : ι) (l : List ι) (c1 c2 : List Value), g x :: l.map g = c1 ++ c2 → c1.length = r.sz → c1 = [g x] ∧ c2 = l.map g := by
    intro x l c1 c2 h hl
    rw [hsz] at hl
    obtain ⟨v, rfl⟩ := List.length_eq_one_iff.1 hl
    simp at h
    exact ⟨by rw [h.1], h.2.symm⟩
  induction hp with
  | nil => exact fun h => h
  | cons x _ ih =>
    rintro S ⟨c1, c2, S1, S2, h, h1, h2, h3, h4⟩
    obtain ⟨rfl, rfl⟩ := one _ _ _ _ h (r.len h1)
    exact ⟨[g x], _, S1, S2, rfl, h1, ih h2, h3, h4⟩
  | swap x y l =>
    rintro S ⟨c1, c2, S1, S2, h, h1, ⟨d1, d2, T1, T2, k, k1, k2, k3, k4⟩, h3, h4⟩
    obtain ⟨rfl, rfl⟩ := one y (x :: l) _ _ h (r.len h1)
    obtain ⟨rfl, rfl⟩ := one x l _ _ k (r.len k1)
    refine ⟨[g x], g y :: l.map g, T1, fun b => S1 b ∨ T2 b, rfl, k1, ⟨[g y], l.map g, S1, T2, rfl, h1, k2, fun _ => Iff.rfl, fun b hb hc => h4 b hb ((k3 b).2 (.inr hc))⟩, fun b => ?_, fun b hb hc => ?_⟩
    · rw [h3 b, k3 b]; constructor
      · rintro (h | h | h) <;> simp [h]
      · rintro (h | h | h) <;> simp [h]
    · rcases hc with hc | hc
      · exact h4 b hc ((k3 b).2 (.inl hb))
      · exact k4 b hb hc
  | trans _ _ ih1 ih2 => exact fun h => ih2 (ih1 h)

theorem finRange_map_get {α : Type} (l : List α) : (List.finRange l.length).map (fun i => l[i]) = l := by
  apply List.ext_getElem
  · simp
  · intro i h1 h2
    simp

/-- The comparison of two parts by their first. -/
theorem byFirst_ok (w : World) (a1 a2 : Option Addr) (c1 c2 : Nat) (x y : List Nat) (p q : Nat) (h1 : Holds w (rd natR a1 c1 x)) (h2 : Holds w (rd natR a2 c2 y)) (hp : x[0]? = some p) (hq : y[0]? = some q) (hpm : p ≤ 1000000) (hqm : q ≤ 1000000) :
    Calls Try.prog 140 #[.slice a1 x.length c1, .slice a2 y.length c2] w (Ret fun v w' => w' = w.drew ∧ v = .int .i64 ((p : Int) - (q : Int))) := by
  refine calls_W (args := [_, _]) Try.func140 rfl Try.ntmps140 rfl ?_
  obtain ⟨b1, o1, rfl⟩ := h1.addr (List.getElem?_eq_some_iff.1 hp).1
  obtain ⟨b2, o2, rfl⟩ := h2.addr (List.getElem?_eq_some_iff.1 hq).1
  (repeat (first | refine WO.run tabOk rfl rfl ?_ | refine WO.nil ?_ | refine WO.skip rfl rfl rfl ?_ | refine WO.pu tabOk rfl rfl rfl rfl ?_ | refine W.seq ?_ | refine W.region ?_ | refine W.block ?_ | refine W.skip ?_ | refine W.exit ?_))
  have hA : HA [rd natR (some ⟨b1, o1, none⟩) c1 x, rd natR (some ⟨b2, o2, none⟩) c2 y] w.drew := HA.cons (h1.pure (Pure.drew w)) (HA.cons (h2.pure (Pure.drew w)) (HA.nil _))
  refine W.regionD [2, 5] (HA [rd natR (some ⟨b1, o1, none⟩) c1 x, rd natR (some ⟨b2, o2, none⟩) c2 y]) [0, 1, 2, 3, 4, 5, 6, 7] rfl (by kernel_rfl) (fun _ _ _ h => h) ?_
  (repeat (first | refine WD.run tabOk rfl rfl ?_ | refine WD.hv rfl rfl rfl rfl rfl hA (HeldV.load1 tabOk rfl rfl rfl rfl (by (repeat (first | exact .head _ | refine .tail _ ?_))) rfl) ?_ | refine WD.hv rfl rfl rfl rfl rfl hA (HeldV.loadA tabOk rfl rfl rfl rfl (by (repeat (first | exact .head _ | refine .tail _ ?_))) rfl rfl) ?_ | refine WD.pu tabOk rfl rfl rfl rfl rfl rfl ?_))
  refine WD.pv rfl rfl rfl rfl rfl (PureV.idxN (i := 0) tabOk rfl rfl rfl rfl rfl rfl (List.getElem?_eq_some_iff.1 hp).1) ?_
  refine WD.hv rfl rfl rfl rfl rfl hA (HeldV.elem1 (i := 0) (j := 0) tabOk rfl rfl rfl rfl (.head _) hp rfl rfl) ?_
  (repeat (first | refine WD.run tabOk rfl rfl ?_ | refine WD.hv rfl rfl rfl rfl rfl hA (HeldV.load1 tabOk rfl rfl rfl rfl (by (repeat (first | exact .head _ | refine .tail _ ?_))) rfl) ?_ | refine WD.hv rfl rfl rfl rfl rfl hA (HeldV.loadA tabOk rfl rfl rfl rfl (by (repeat (first | exact .head _ | refine .tail _ ?_))) rfl rfl) ?_ | refine WD.pu tabOk rfl rfl rfl rfl rfl rfl ?_))
  refine WD.pv rfl rfl rfl rfl rfl (PureV.idxN (i := 0) tabOk rfl rfl rfl rfl rfl rfl (List.getElem?_eq_some_iff.1 hq).1) ?_
  refine WD.hv rfl rfl rfl rfl rfl hA (HeldV.elem1 (i := 0) (j := 0) tabOk rfl rfl rfl rfl (.tail _ (.head _)) hq rfl rfl) ?_
  refine WD.pv rfl rfl rfl rfl rfl (PureV.sub rfl rfl rfl (by omega) (by omega)) ?_
  (repeat (first | refine WD.run tabOk rfl rfl ?_ | refine WD.hv rfl rfl rfl rfl rfl hA (HeldV.load1 tabOk rfl rfl rfl rfl (by (repeat (first | exact .head _ | refine .tail _ ?_))) rfl) ?_ | refine WD.hv rfl rfl rfl rfl rfl hA (HeldV.loadA tabOk rfl rfl rfl rfl (by (repeat (first | exact .head _ | refine .tail _ ?_))) rfl rfl) ?_ | refine WD.pu tabOk rfl rfl rfl rfl rfl rfl ?_))
  (repeat (first | refine WD.run tabOk rfl rfl ?_ | refine WD.nil ?_))
  exact W.ret (ret1 Try.results140 rfl ⟨_, rfl, rfl, rfl⟩)

theorem sortParts_ok (c : Ctx) (w : World) (Own Ro : List Asn) (v : Value) (xs : List (List Nat)) (H : St c w (row 31 (Rdr.own 3 natR) v xs :: Own) Ro) (hne : ∀ x ∈ xs, x ≠ []) (hm : ∀ x ∈ xs, ∀ p ∈ x, p ≤ 1000000) (hl : xs.length ≤ 1000000) :
    Calls Try.prog 139 #[v, .func (.func 140) #[] #[]] w (Ret fun u w' => u = .tuple #[] ∧ ∃ ys : List (List Nat), ys.Perm xs ∧ ys.Pairwise (fun a b => a.headD 0 ≤ b.headD 0) ∧ St c w' (row 31 (Rdr.own 3 natR) v ys :: Own) Ro) := by
  obtain ⟨cs, H1⟩ := H.open_row
  rcases H1.open_raw with ⟨rfl, h, _, H2⟩ | ⟨g, o, cap, cur, rfl, H2, hcur, hnc, hcm, hfit⟩
  · have hx : xs = [] := List.eq_nil_of_length_eq_zero h
    subst hx
    refine (sh.slices_SortFunc_none (α := Nat) none 0 _ w).mono ?_
    rintro e w' ⟨rfl, rfl⟩
    exact ⟨_, rfl, rfl, [], .refl _, .nil, H2.drop.add_nil _ _⟩
  by_cases hz : xs.length = 0
  · have hx : xs = [] := List.eq_nil_of_length_eq_zero hz
    subst hx
    refine (sh.slices_SortFunc_none (α := Nat) _ _ _ w).mono ?_
    rintro e w' ⟨rfl, rfl⟩
    exact ⟨_, rfl, rfl, [], .refl _, .nil, H⟩
  have hcl := (H2.to (i := 1) rfl).hang_cells
  have : Inhabited (Fin xs.length) := ⟨⟨0, by omega⟩⟩
  let enc : Fin xs.length → Value := fun i => cs[i]'(by omega)
  let fst : Fin xs.length → Nat := fun i => xs[i].headD 0
  let cf : Fin xs.length → Fin xs.length → Int := fun i j => (fst i : Int) - (fst j : Int)
  let d : List (Fin xs.length) := List.finRange xs.length
  have hdl : d.length = xs.length := by simp [d]
  have hdx : d.map (fun i => xs[i]) = xs := finRange_map_get xs
  have hdc : d.map enc = cs := by
    apply List.ext_getElem
    · simp [d, hcl]
    · intro i h1 h2
      simp [d, enc]
  have hg := H2.blk_heap (b := g) (e := 31) (l := cur) (by simp)
  have hwin : (cur.drop o).take d.length = d.map enc := by
    have h0 : xs.length * (Rdr.own 3 natR).sz = xs.length := Nat.mul_one _
    rw [h0] at hcur
    rw [hdl, hdc]; exact hcur
  have hH := row_holds (enc := enc) (d := d) hg hwin
  have hone : OneCell enc := by
    intro i
    obtain ⟨S, hS⟩ := H2.has (A := hang (Rdr.own 3 natR) xs cs) (by simp)
    exact Elems.one hS _ (List.getElem_mem _)
  have hO : Go.Sort.SWO (ltOf cf) := ⟨fun x => by simp [ltOf, cf], fun x y z h1 h2 => by simp [ltOf, cf] at h1 h2 ⊢; omega, fun x y z h1 h2 => by simp [ltOf, cf] at h1 h2 ⊢; omega⟩
  have hfit1 : o + cap ≤ cur.length := by
    have h1 : cap * (Rdr.own 3 natR).sz = cap := Nat.mul_one _
    rw [h1] at hfit; exact hfit
  have hfit' : o + xs.length ≤ cur.length := by omega
  have hcmp : CmpLays1 Try.prog 140 #[] enc cf g o d.toArray.size w := by
    intro m' os dk hs x y
    have hdk : dk.size = xs.length := by rw [hs]; simp [hdl]
    have H3 := H2.sorted (enc := enc) (d0 := d) (d' := dk) (o := o) (by omega) m' os
    have rdr : ∀ x : Fin xs.length, ∃ a1 c1, enc x = .slice a1 xs[x].length c1 ∧ Holds (Go.Sort.grow (Go.Sort.putRow enc (Go.Sort.ahead w m') g o dk) os) (rd natR a1 c1 xs[x]) ∧ xs[x][0]? = some (fst x) ∧ fst x ≤ 1000000 := by
      intro x
      obtain ⟨S, hS⟩ := H3.has (A := hang (Rdr.own 3 natR) xs cs) (by simp)
      have hx : xs[x.1]? = some xs[x] := List.getElem?_eq_getElem x.2
      obtain ⟨S1, S2, ⟨v, hv, hO⟩, _⟩ := Elems.at hS hx
      obtain ⟨a1, c1, rfl, hr⟩ := hO.read
      have hv2 : enc x = .slice a1 xs[x].length c1 := by
        have h1 : (List.take (Rdr.own 3 natR).sz (List.drop (x.1 * (Rdr.own 3 natR).sz) cs))[0]? = some (.slice a1 xs[x].length c1) := by rw [hv]; rfl
        rw [List.getElem?_take, if_pos (by show 0 < 1; omega), List.getElem?_drop] at h1
        have h2 : x.1 * (Rdr.own 3 natR).sz + 0 = x.1 := Nat.mul_one _
        rw [h2, List.getElem?_eq_getElem (by omega)] at h1
        exact Option.some.inj h1
      have hxm : xs[x] ∈ xs := List.getElem_mem _
      have hxn := hne _ hxm
      obtain ⟨p, l, hpl⟩ : ∃ p l, xs[x] = p :: l := by
        cases h : xs[x] with
        | nil => exact absurd h hxn
        | cons p l => exact ⟨p, l, rfl⟩
      refine ⟨a1, c1, hv2, ⟨_, hr⟩, ?_, ?_⟩
      · show xs[x][0]? = some (xs[x].headD 0)
        rw [hpl]; rfl
      · show xs[x].headD 0 ≤ _
        have := hm _ hxm p (by rw [hpl]; simp)
        rw [hpl]; exact this
    obtain ⟨a1, c1, e1, r1, q1, m1⟩ := rdr x
    obtain ⟨a2, c2, e2, r2, q2, m2⟩ := rdr y
    rw [e1, e2]
    refine (byFirst_ok _ a1 a2 c1 c2 _ _ _ _ r1 r2 q1 q2 m1 m2).mono ?_
    rintro e' w' ⟨v', rfl, rfl, rfl⟩
    exact ⟨rfl, 1, #[], by simp [sortWorld, Go.Sort.grow, World.drew, World.drewN]⟩
  have hk := sh.slices_SortFunc enc hone cf hO 140 #[] g o cap d.toArray w Try.call140 hcmp hH (Array.getElem?_eq_some_iff.1 hg).1 (by simp [hdl]; omega)
  have e : (#[Value.slice (some ⟨g, o, none⟩) xs.length cap, .func (.func 140) #[] #[]] : Array Value) = #[Value.slice (some ⟨g, o, none⟩) d.toArray.size cap, .func (.func 140) #[] #[]] := by simp [hdl]
  rw [e]
  refine hk.mono ?_
  rintro e' w' ⟨rfl, d', n', os, hperm, hsort, rfl⟩
  obtain ⟨hds, _, hpe⟩ := hperm
  have hds' : d'.size = xs.length := by rw [hds]; simp [hdl]
  have hσ : d'.toList.Perm d := by
    have e1 : d'.extract 0 d.toArray.size = d' := by rw [← hds]; simp
    have e2 : d.toArray.extract 0 d.toArray.size = d.toArray := by simp
    rw [e1, e2] at hpe; simpa using hpe
  have H3 := H2.sorted (enc := enc) (d0 := d) (d' := d') (o := o) (by omega) n' os
  have hσl : d'.toList.length = xs.length := by simp [hds']
  refine ⟨_, rfl, rfl, d'.toList.map (fun i => xs[i]), ?_, ?_, ?_⟩
  · have := hσ.map (fun i : Fin xs.length => xs[i])
    rwa [hdx] at this
  · rw [List.pairwise_map, List.pairwise_iff_getElem]
    intro i j hi hj hij
    have h := hsort i j (Nat.zero_le _) hij (by simp [hdl]; omega)
    simp only [ltOf, cf, fst, decide_eq_false_iff_not] at h
    rw [getElem!_pos d' i (by omega), getElem!_pos d' j (by omega)] at h
    simp only [Array.getElem_toList]
    omega
  · have H4 : St c _ (hang (Rdr.own 3 natR) (d'.toList.map fun i => xs[i]) (d'.toList.map enc) :: blk g 31 _ :: Own) Ro := (H3.to (i := 1) rfl).conv fun S hS => ⟨S, by
      refine elems_perm rfl (fun i : Fin xs.length => xs[i]) enc hσ.symm ?_
      rw [hdx, hdc]; exact hS, fun _ h => h⟩
    have hσc : (d'.toList.map enc).length = xs.length := by simp [hds']
    have H5 := (H4.to (i := 1) rfl).close_raw (sz := 1) (n := xs.length) (o := o) (cap := cap) (cs := d'.toList.map enc) hnc hcm (by rw [spliceL_len _ _ _ (by omega)]; omega)
      (by rw [Nat.mul_one]; exact window_set (cs := cs) (by have := hcur; rwa [show xs.length * (Rdr.own 3 natR).sz = xs.length from Nat.mul_one _] at this) hcl hσc hfit') (fun u hu => by
        obtain ⟨i, _, rfl⟩ := List.mem_map.1 hu
        exact hone i)
    have hyl : (d'.toList.map fun i => xs[i]).length = xs.length := by simp [hds']
    generalize (d'.toList.map fun i => xs[i]) = ys at H5 hyl ⊢
    have H6 : St c (Go.Sort.grow (Go.Sort.putRow enc (Go.Sort.ahead w n') g o d') os) (raw 31 (Rdr.own 3 natR).sz (.slice (some ⟨g, o, none⟩) xs.length cap) ys.length (d'.toList.map enc) :: hang (Rdr.own 3 natR) ys (d'.toList.map enc) :: Own) Ro := by rw [hyl]; exact H5
    exact H6.close_row

/-! ### Parts -/
structure PartsOk (n : Nat) (E : List (Int × Int)) (p : List (List Nat)) : Prop where
  ne : ∀ l ∈ p, l ≠ [] ∧ l.Pairwise (· ≤ ·)
  nd : p.flatten.Nodup
  mem : ∀ a, a ∈ p.flatten ↔ a < n
  scc : ∀ l ∈ p, ∀ a ∈ l, ∀ b, b ∈ l ↔ RchE E a b ∧ RchE E b a
  srt : p.Pairwise fun a b => a.headD 0 ≤ b.headD 0

theorem TInv.start (n : Nat) (to : List (List Nat)) : TInv n to [] ⟨List.replicate n 0, List.replicate n 0, [], [], 0⟩ := by
  have h0 : ∀ a, (List.replicate n 0).getD a 0 = 0 := fun a => by
    simp only [List.getD_eq_getElem?_getD, List.getElem?_replicate]; split <;> rfl
  refine { lw := by simp, ll := by simp, tm := fun a => by rw [Tj.wh, h0]; exact Nat.le_refl _, nd := by simp, mem := fun a => by rw [Tj.wh, h0]; simp, ord := by simp, gs := by simp, closed := by simp, black := fun a b h => absurd (h0 a) h, scc := by simp, gpath := by simp, toG := by simp, ne := by simp }
theorem TInv.finish {n : Nat} {E : List (Int × Int)} {to : List (List Nat)} {s : Tj} (hE : NextOk n E to) (h : TInv n to [] s) (hv : ∀ a, a < n → s.wh a ≠ 0) {ys : List (List Nat)} (hp : ys.Perm s.parts) (hs : ys.Pairwise fun a b => a.headD 0 ≤ b.headD 0) : PartsOk n E ys := by
  have hst : s.stk = [] := by
    cases hst : s.stk with
    | nil => rfl
    | cons a l => obtain ⟨x, hx, _⟩ := h.toG a (by rw [hst]; simp); cases hx
  have hfl : ys.flatten.Perm s.parts.flatten := hp.flatten
  have hnd := h.nd
  rw [hst, List.nil_append] at hnd
  refine ⟨fun l hl => h.ne l (hp.mem_iff.1 hl), hfl.nodup_iff.2 hnd, fun a => ?_, fun l hl a ha b => ?_, hs⟩
  · have := h.mem a
    rw [hst, List.nil_append] at this
    rw [hfl.mem_iff, this]
    refine ⟨fun h2 => ?_, hv a⟩
    rcases Nat.lt_or_ge a n with h3 | h3
    · exact h3
    · refine absurd ?_ h2
      rw [Tj.wh, List.getD_eq_getElem?_getD, List.getElem?_eq_none (by rw [h.lw]; exact h3)]; rfl
  · rw [h.scc l (hp.mem_iff.1 hl) a ha b, hE.rch, hE.rch]

def PartsPost (w w' : World) (n : Int) (E : List (Int × Int)) (v : Value) : Prop :=
  ∃ pv e, v = .tuple #[pv, .int .i64 e] ∧ ((e ≠ 0 ∧ ¬ GOk n E ∧ pv = .slice none 0 0 ∧ Pure w w') ∨ (e = 0 ∧ GOk n E ∧ ∃ p, PartsOk n.toNat E p ∧ St (at0 w) w' [row 31 (Rdr.own 3 natR) pv p] []))

theorem parts_ok (w : World) (n : Int) (a : Option Addr) (c : Nat) (E : List (Int × Int)) (hH : Holds w (rd edgeR a c E)) :
    Calls Try.prog 117 #[.int .i64 n, .slice a E.length c] w (Ret fun v w' => PartsPost w w' n E v) := by
  refine calls_W (args := [_, _]) Try.func117 rfl Try.ntmps117 rfl ?_
  have H0 := St.start [] (w := w) (by simp)
  (repeat (first | refine WO.run tabOk rfl rfl ?_ | refine WO.nil ?_ | refine WO.skip rfl rfl rfl ?_ | refine WO.pu tabOk rfl rfl rfl rfl ?_ | refine W.seq ?_ | refine W.region ?_ | refine W.block ?_ | refine W.skip ?_ | refine W.exit ?_))
  refine WO.one rfl rfl rfl (OpW.call rfl Try.call41 rfl (Calls.ret (gcheck_ok _ n a c E hH) ?_))
  rintro _ w2 ⟨hp2, e, rfl, he⟩
  have H2 := H0.after hp2
  (repeat (first | refine WO.run tabOk rfl rfl ?_ | refine WO.nil ?_ | refine WO.skip rfl rfl rfl ?_ | refine WO.pu tabOk rfl rfl rfl rfl ?_ | refine W.seq ?_ | refine W.region ?_ | refine W.block ?_ | refine W.skip ?_ | refine W.exit ?_))
  refine W.cond rfl (fun h1 => ?_) (fun h1 => ?_)
  · (repeat (first | refine WO.run tabOk rfl rfl ?_ | refine WO.nil ?_ | refine WO.skip rfl rfl rfl ?_ | refine WO.pu tabOk rfl rfl rfl rfl ?_ | refine W.seq ?_ | refine W.region ?_ | refine W.block ?_ | refine W.skip ?_ | refine W.exit ?_))
    simp at h1
    exact W.ret (ret2 Try.results117 rfl rfl ⟨_, rfl, _, _, rfl, .inl ⟨h1, fun h => h1 (he.2 h), rfl, H2.pure⟩⟩)
  simp at h1
  have hG := he.1 h1
  subst h1
  clear he
  obtain ⟨k, rfl⟩ := Int.eq_ofNat_of_zero_le hG.lo
  have hk60 := hG.hi
  have hEl := hG.len
  (repeat (first | refine WO.run tabOk rfl rfl ?_ | refine WO.nil ?_ | refine WO.skip rfl rfl rfl ?_ | refine WO.pu tabOk rfl rfl rfl rfl ?_ | refine W.seq ?_ | refine W.region ?_ | refine W.block ?_ | refine W.skip ?_ | refine W.exit ?_))
  refine W.regionA [] (HA []) (.anti [0, 1, 3, 5] [2, 4, 6] (.fin [7, 8, 9])) rfl (by kernel_rfl) (fun _ _ _ h => h) ?_
  refine WFA.mid (fun r w' => ∃ to v gw gl, NextOk k E to ∧ Env.keep r [0, 17, 19, 21] = [(0, .int .i64 (k : Int)), (17, v), (19, .slice (some ⟨gw, 0, none⟩) k k), (21, .slice (some ⟨gl, 0, none⟩) k k)] ∧
    St (at0 w) w' [row 31 (Rdr.own 3 natR) v to, blk gw 3 ((List.replicate k 0).flatMap encN), blk gl 3 ((List.replicate k 0).flatMap encN)] []) ?_ ?_
  rotate_left
  · have H3 := H2.drew
    have hH3 := (hH.pure hp2).pure (Pure.drew w2)
    clear H2 hp2
    (repeat refine WD.pu tabOk rfl rfl rfl rfl rfl rfl ?_)
    refine WD.nil ?_
    intro i hi
    have hi : i = 2 ∨ i = 4 ∨ i = 6 := by simpa using hi
    rcases hi with rfl | rfl | rfl
    · refine WD.oneS rfl rfl rfl rfl rfl (OpW.call rfl Try.call42 rfl (Calls.ret (next_ok _ k a c E (hH3) hG) ?_))
      rintro v w4 ⟨to, hE, K⟩
      have H4 := H3.take K
      refine ⟨HA.nil _, ?_⟩
      refine WD.nil ?_

      intro i hi
      have hi : i = 4 ∨ i = 6 := by simpa using hi
      rcases hi with rfl | rfl
      · refine WD.oneS rfl rfl rfl rfl rfl (OpW.makeN tabOk rfl rfl rfl rfl zero3 rfl rfl rfl (by omega) (by simp only [maxLen]; omega) H4 ?_)
        intro gw w5 H5
        rw [rep_nat] at H5
        refine ⟨HA.nil _, ?_⟩
        refine WD.nil ?_

        intro i hi
        obtain rfl : i = 6 := by simpa using hi
        refine WD.oneS rfl rfl rfl rfl rfl (OpW.makeN tabOk rfl rfl rfl rfl zero3 rfl rfl rfl (by omega) (by simp only [maxLen]; omega) H5 ?_)
        intro gl w6 H6
        rw [rep_nat] at H6
        refine ⟨HA.nil _, ?_⟩
        refine WD.nil ?_

        exact ⟨to, _, gw, gl, hE, rfl, H6.bring [2, 1, 0] rfl⟩
      · refine WD.oneS rfl rfl rfl rfl rfl (OpW.makeN tabOk rfl rfl rfl rfl zero3 rfl rfl rfl (by omega) (by simp only [maxLen]; omega) H4 ?_)
        intro gl w5 H5
        rw [rep_nat] at H5
        refine ⟨HA.nil _, ?_⟩
        refine WD.nil ?_

        intro i hi
        obtain rfl : i = 4 := by simpa using hi
        refine WD.oneS rfl rfl rfl rfl rfl (OpW.makeN tabOk rfl rfl rfl rfl zero3 rfl rfl rfl (by omega) (by simp only [maxLen]; omega) H5 ?_)
        intro gw w6 H6
        rw [rep_nat] at H6
        refine ⟨HA.nil _, ?_⟩
        refine WD.nil ?_

        exact ⟨to, _, gw, gl, hE, rfl, H6.bring [2, 0, 1] rfl⟩
    · refine WD.oneS rfl rfl rfl rfl rfl (OpW.makeN tabOk rfl rfl rfl rfl zero3 rfl rfl rfl (by omega) (by simp only [maxLen]; omega) H3 ?_)
      intro gw w4 H4
      rw [rep_nat] at H4
      refine ⟨HA.nil _, ?_⟩
      refine WD.nil ?_

      intro i hi
      have hi : i = 2 ∨ i = 6 := by simpa using hi
      rcases hi with rfl | rfl
      · refine WD.oneS rfl rfl rfl rfl rfl (OpW.call rfl Try.call42 rfl (Calls.ret (next_ok _ k a c E (hH.pure H4.pure) hG) ?_))
        rintro v w5 ⟨to, hE, K⟩
        have H5 := H4.take K
        refine ⟨HA.nil _, ?_⟩
        refine WD.nil ?_

        intro i hi
        obtain rfl : i = 6 := by simpa using hi
        refine WD.oneS rfl rfl rfl rfl rfl (OpW.makeN tabOk rfl rfl rfl rfl zero3 rfl rfl rfl (by omega) (by simp only [maxLen]; omega) H5 ?_)
        intro gl w6 H6
        rw [rep_nat] at H6
        refine ⟨HA.nil _, ?_⟩
        refine WD.nil ?_

        exact ⟨to, _, gw, gl, hE, rfl, H6.bring [1, 2, 0] rfl⟩
      · refine WD.oneS rfl rfl rfl rfl rfl (OpW.makeN tabOk rfl rfl rfl rfl zero3 rfl rfl rfl (by omega) (by simp only [maxLen]; omega) H4 ?_)
        intro gl w5 H5
        rw [rep_nat] at H5
        refine ⟨HA.nil _, ?_⟩
        refine WD.nil ?_

        intro i hi
        obtain rfl : i = 2 := by simpa using hi
        refine WD.oneS rfl rfl rfl rfl rfl (OpW.call rfl Try.call42 rfl (Calls.ret (next_ok _ k a c E (hH.pure H5.pure) hG) ?_))
        rintro v w6 ⟨to, hE, K⟩
        have H6 := H5.take K
        refine ⟨HA.nil _, ?_⟩
        refine WD.nil ?_

        exact ⟨to, _, gw, gl, hE, rfl, H6.bring [0, 2, 1] rfl⟩
    · refine WD.oneS rfl rfl rfl rfl rfl (OpW.makeN tabOk rfl rfl rfl rfl zero3 rfl rfl rfl (by omega) (by simp only [maxLen]; omega) H3 ?_)
      intro gl w4 H4
      rw [rep_nat] at H4
      refine ⟨HA.nil _, ?_⟩
      refine WD.nil ?_

      intro i hi
      have hi : i = 2 ∨ i = 4 := by simpa using hi
      rcases hi with rfl | rfl
      · refine WD.oneS rfl rfl rfl rfl rfl (OpW.call rfl Try.call42 rfl (Calls.ret (next_ok _ k a c E (hH.pure H4.pure) hG) ?_))
        rintro v w5 ⟨to, hE, K⟩
        have H5 := H4.take K
        refine ⟨HA.nil _, ?_⟩
        refine WD.nil ?_

        intro i hi
        obtain rfl : i = 4 := by simpa using hi
        refine WD.oneS rfl rfl rfl rfl rfl (OpW.makeN tabOk rfl rfl rfl rfl zero3 rfl rfl rfl (by omega) (by simp only [maxLen]; omega) H5 ?_)
        intro gw w6 H6
        rw [rep_nat] at H6
        refine ⟨HA.nil _, ?_⟩
        refine WD.nil ?_

        exact ⟨to, _, gw, gl, hE, rfl, H6.bring [1, 0, 2] rfl⟩
      · refine WD.oneS rfl rfl rfl rfl rfl (OpW.makeN tabOk rfl rfl rfl rfl zero3 rfl rfl rfl (by omega) (by simp only [maxLen]; omega) H4 ?_)
        intro gw w5 H5
        rw [rep_nat] at H5
        refine ⟨HA.nil _, ?_⟩
        refine WD.nil ?_

        intro i hi
        obtain rfl : i = 2 := by simpa using hi
        refine WD.oneS rfl rfl rfl rfl rfl (OpW.call rfl Try.call42 rfl (Calls.ret (next_ok _ k a c E (hH.pure H5.pure) hG) ?_))
        rintro v w6 ⟨to, hE, K⟩
        have H6 := H5.take K
        refine ⟨HA.nil _, ?_⟩
        refine WD.nil ?_

        exact ⟨to, _, gw, gl, hE, rfl, H6.bring [0, 1, 2] rfl⟩
  rintro r w4 ⟨to, v, gw, gl, hE, hr, H4⟩
  refine WD.less ?_ (Env.get_keep r [0, 17, 19, 21])
  rw [hr]
  clear hr H2 hp2
  obtain ⟨ta, tc, rfl, H5⟩ := H4.toRead
  clear H4
  refine WD.pv rfl rfl rfl rfl rfl (PureV.build tabOk rfl rfl rfl zero202 (l := [.slice ta to.length tc, .slice (some ⟨gw, 0, none⟩) k k, .slice (some ⟨gl, 0, none⟩) k k, .slice none 0 0, .slice none 0 0, .int .i64 0]) rfl) ?_
  refine WD.oneS rfl rfl rfl rfl rfl (OpW.box rfl rfl rfl H5 ?_)
  intro bw w6 H6
  refine ⟨HA.nil _, ?_⟩
  (repeat refine WD.pu tabOk rfl rfl rfl rfl rfl rfl ?_)
  (repeat (first | refine WD.run tabOk rfl rfl ?_ | refine WD.nil ?_))
  have H7 := (((H6.add_nil 3 natR).add_nil 31 (Rdr.own 3 natR)).bring [2, 3, 4, 1, 0] rfl)
  have hW : WalkSt (at0 w) w6 bw gw gl ta tc k to ⟨List.replicate k 0, List.replicate k 0, [], [], 0⟩ [rd (Rdr.rd natR) ta tc to] := ⟨_, _, H7⟩
  clear H5 H6 H7
  (repeat (first | refine WO.run tabOk rfl rfl ?_ | refine WO.nil ?_ | refine WO.skip rfl rfl rfl ?_ | refine WO.pu tabOk rfl rfl rfl rfl ?_ | refine W.seq ?_ | refine W.region ?_ | refine W.block ?_ | refine W.skip ?_ | refine W.exit ?_))
  have hS0 : Sz k ⟨List.replicate k 0, List.replicate k 0, [], [], 0⟩ := ⟨by simp, rfl⟩
  refine W.loopS [7, 24, 25] (fun s : Nat × Tj => [(7, .pointer (some ⟨bw, 0, none⟩)), (24, .int .i64 (k : Int)), (25, .int .i64 (s.1 : Int))])
    (fun s w' => s.1 ≤ k ∧ TInv k to [] s.2 ∧ Sz k s.2 ∧ (∀ a, a < s.1 → s.2.wh a ≠ 0) ∧ WalkSt (at0 w) w' bw gw gl ta tc k to s.2 [rd (Rdr.rd natR) ta tc to]) (fun s => k - s.1) (0, ⟨List.replicate k 0, List.replicate k 0, [], [], 0⟩) rfl ⟨Nat.zero_le _, TInv.start k to, hS0, fun a ha => by omega, hW⟩ ?_
  clear hW hS0
  rintro ⟨i, s⟩ w7 ⟨hi, hI, hS, hv, vs, vp, H⟩
  simp only at hi hI hS hv H
  have hlw := hI.lw
  (repeat (first | refine WO.run tabOk rfl rfl ?_ | refine WO.nil ?_ | refine WO.skip rfl rfl rfl ?_ | refine WO.pu tabOk rfl rfl rfl rfl ?_ | refine W.seq ?_ | refine W.region ?_ | refine W.block ?_ | refine W.skip ?_ | refine W.exit ?_))
  refine W.cond rfl (fun hlt => ?_) (fun hge => ?_)
  · have hlt : i < k := by simpa using hlt
    have cell : (s.whn.flatMap encN)[0 + i * 1]? = some (.int .i64 ((s.whn.getD i 0 : Nat) : Int)) := by
      have h : i < s.whn.length := by omega
      rw [Nat.zero_add, Nat.mul_one]; exact encN_at (by rw [List.getElem?_eq_getElem h, List.getD_eq_getElem?_getD, List.getElem?_eq_getElem h]; rfl)
    (repeat (first | refine WO.run tabOk rfl rfl ?_ | refine WO.nil ?_ | refine WO.skip rfl rfl rfl ?_ | refine WO.pu tabOk rfl rfl rfl rfl ?_ | refine W.seq ?_ | refine W.region ?_ | refine W.block ?_ | refine W.skip ?_ | refine W.exit ?_ | refine WO.one rfl rfl rfl (OpW.load1 tabOk rfl rfl rfl rfl H (by (repeat (first | exact .head _ | refine .tail _ ?_))) rfl ?_)))
    refine WO.pv rfl rfl rfl (PureV.idxN tabOk rfl rfl rfl rfl rfl rfl hlt) ?_
    refine WO.one rfl rfl rfl (OpW.loadB tabOk rfl rfl rfl rfl H (.tail _ (.head _)) cell ?_)
    (repeat (first | refine WO.run tabOk rfl rfl ?_ | refine WO.nil ?_ | refine WO.skip rfl rfl rfl ?_ | refine WO.pu tabOk rfl rfl rfl rfl ?_ | refine W.seq ?_ | refine W.region ?_ | refine W.block ?_ | refine W.skip ?_ | refine W.exit ?_))
    refine W.cond rfl (fun hz => ?_) (fun hz => ?_)
    · have hz : s.wh i = 0 := by simp only [decide_eq_true_eq] at hz; show s.whn.getD i 0 = 0; omega
      (repeat (first | refine WO.run tabOk rfl rfl ?_ | refine WO.nil ?_ | refine WO.skip rfl rfl rfl ?_ | refine WO.pu tabOk rfl rfl rfl rfl ?_ | refine W.seq ?_ | refine W.region ?_ | refine W.block ?_ | refine W.skip ?_ | refine W.exit ?_))
      refine WO.one rfl rfl rfl (OpW.call rfl Try.call138 rfl (Calls.ret (visit_ok hE hG bw gw gl ta tc k (at0 w) w7 _ s [] i (by omega) ⟨vs, vp, H⟩ (by simp) hI hS hlt hz (fun y hy => nomatch hy)) ?_))
      rintro _ w8 ⟨rfl, s2, hV, hS2, hW2⟩
      (repeat (first | refine WO.run tabOk rfl rfl ?_ | refine WO.nil ?_ | refine WO.skip rfl rfl rfl ?_ | refine WO.pu tabOk rfl rfl rfl rfl ?_ | refine W.seq ?_ | refine W.region ?_ | refine W.block ?_ | refine W.skip ?_ | refine W.exit ?_))
      refine WO.pv rfl rfl rfl (PureV.addN (n := i) rfl rfl rfl (by omega)) ?_
      (repeat (first | refine WO.run tabOk rfl rfl ?_ | refine WO.nil ?_ | refine WO.skip rfl rfl rfl ?_ | refine WO.pu tabOk rfl rfl rfl rfl ?_ | refine W.seq ?_ | refine W.region ?_ | refine W.block ?_ | refine W.skip ?_ | refine W.exit ?_))
      refine ⟨(i + 1, s2), rfl, ⟨by simp only; omega, hV.inv, hS2, fun a ha => ?_, hW2⟩, by simp only; omega⟩
      rcases Nat.lt_succ_iff_lt_or_eq.1 ha with h | rfl
      · simp only; rw [hV.keepW a (hv a h)]; exact hv a h
      · exact hV.vis
    · have hz : s.wh i ≠ 0 := by simp only [decide_eq_false_iff_not] at hz; intro e; apply hz; have e : s.whn.getD i 0 = 0 := e; rw [e]; rfl
      (repeat (first | refine WO.run tabOk rfl rfl ?_ | refine WO.nil ?_ | refine WO.skip rfl rfl rfl ?_ | refine WO.pu tabOk rfl rfl rfl rfl ?_ | refine W.seq ?_ | refine W.region ?_ | refine W.block ?_ | refine W.skip ?_ | refine W.exit ?_))
      refine WO.pv rfl rfl rfl (PureV.addN (n := i) rfl rfl rfl (by omega)) ?_
      (repeat (first | refine WO.run tabOk rfl rfl ?_ | refine WO.nil ?_ | refine WO.skip rfl rfl rfl ?_ | refine WO.pu tabOk rfl rfl rfl rfl ?_ | refine W.seq ?_ | refine W.region ?_ | refine W.block ?_ | refine W.skip ?_ | refine W.exit ?_))
      refine ⟨(i + 1, s), rfl, ⟨by simp only; omega, hI, hS, fun a ha => ?_, vs, vp, H⟩, by simp only; omega⟩
      rcases Nat.lt_succ_iff_lt_or_eq.1 ha with h | rfl
      · exact hv a h
      · exact hz
  · have hik : i = k := by simp at hge; omega
    subst hik
    have hszl := hS.len
    have hszt := hS.tot
    have hpl := flat_len fun p hp => (hI.ne p hp).1
    have hall : ∀ x ∈ s.parts, ∀ p ∈ x, p < i := fun x hx p hp => by
      have h1 := hI.part_vis (a := p) (List.mem_flatten.2 ⟨x, hx, hp⟩)
      rcases Nat.lt_or_ge p i with h3 | h3
      · exact h3
      · refine absurd ?_ h1
        rw [Tj.wh, List.getD_eq_getElem?_getD, List.getElem?_eq_none (by rw [hlw]; exact h3)]; rfl
    (repeat (first | refine WO.run tabOk rfl rfl ?_ | refine WO.nil ?_ | refine WO.skip rfl rfl rfl ?_ | refine WO.pu tabOk rfl rfl rfl rfl ?_ | refine W.seq ?_ | refine W.region ?_ | refine W.block ?_ | refine W.skip ?_ | refine W.exit ?_ | refine WO.one rfl rfl rfl (OpW.load1 tabOk rfl rfl rfl rfl H (by (repeat (first | exact .head _ | refine .tail _ ?_))) rfl ?_)))
    refine WO.one rfl rfl rfl (OpW.call rfl Try.call139 rfl (Calls.ret (sortParts_ok _ _ _ _ vp s.parts (H.to (i := 4) rfl) (fun x hx => (hI.ne x hx).1) (fun x hx p hp => by have := hall x hx p hp; omega) (by omega)) ?_))
    rintro _ w8 ⟨rfl, ys, hperm, hsrt, H8⟩
    (repeat (first | refine WO.run tabOk rfl rfl ?_ | refine WO.nil ?_ | refine WO.skip rfl rfl rfl ?_ | refine WO.pu tabOk rfl rfl rfl rfl ?_ | refine W.seq ?_ | refine W.region ?_ | refine W.block ?_ | refine W.skip ?_ | refine W.exit ?_ | refine WO.one rfl rfl rfl (OpW.load1 tabOk rfl rfl rfl rfl H8 (by (repeat (first | exact .head _ | refine .tail _ ?_))) rfl ?_)))
    exact W.ret (ret2 Try.results117 rfl rfl ⟨_, rfl, _, _, rfl, .inr ⟨rfl, hG, ys, hI.finish hE hv hperm hsrt, (H8.first).ro (fun A hA => nomatch hA)⟩⟩)

section
variable {n : Nat} {E : List (Int × Int)} {p : List (List Nat)} (h : PartsOk n E p)
include h
theorem PartsOk.apart {i j a : Nat} {l m : List Nat} (hi : p[i]? = some l) (hj : p[j]? = some m) (ha : a ∈ l) (hb : a ∈ m) : i = j := by
  obtain ⟨hi', rfl⟩ := List.getElem?_eq_some_iff.1 hi
  obtain ⟨hj', rfl⟩ := List.getElem?_eq_some_iff.1 hj
  have h2 := List.pairwise_iff_getElem.1 (List.pairwise_flatten.1 h.nd).2
  rcases Nat.lt_trichotomy i j with hij | hij | hij
  · exact absurd rfl (h2 i j hi' hj' hij a ha a hb)
  · exact hij
  · exact absurd rfl (h2 j i hj' hi' hij a hb a ha)
theorem PartsOk.nodup {l : List Nat} (hl : l ∈ p) : l.Nodup := (List.pairwise_flatten.1 h.nd).1 l hl
theorem PartsOk.total : p.flatten.length = n := by
  have := ((List.perm_ext_iff_of_nodup h.nd List.nodup_range).2 fun a => by rw [h.mem a, List.mem_range]).length_eq
  rwa [List.length_range] at this
theorem PartsOk.count : p.length ≤ n := by
  have := flat_len fun l hl => (h.ne l hl).1
  rw [h.total] at this; exact this
theorem PartsOk.is {l m : List Nat} (hl : l ∈ p) (hm : m.Nodup) (hs : m.Pairwise (· ≤ ·)) (he : ∀ a, a ∈ l ↔ a ∈ m) : l = m :=
  List.Perm.eq_of_pairwise (le := (· ≤ ·)) (fun a b _ _ h1 h2 => Nat.le_antisymm h1 h2) (h.ne l hl).2 hs ((List.perm_ext_iff_of_nodup (h.nodup hl) hm).2 he)
end

end Go.Proofs.Ytpenbdpgpamcbaa
