/- graph: Order. Conditions: each fact's own premises. -/
import Derived.Test.YtpenbdpgpamcbaaGraphW
set_option linter.unusedVariables false
set_option linter.unusedSimpArgs false
set_option maxRecDepth 20000
namespace Go.Proofs.Ytpenbdpgpamcbaa
open Go Gw
attribute [local irreducible] W WO WD

/-! ### Integers in a block -/
def encZ (x : Int) : List Value := [.int .i64 x]
theorem encZ_map (l : List Int) : l.flatMap encZ = l.map (Value.int .i64) := by
  induction l with
  | nil => rfl
  | cons x l ih => rw [List.flatMap_cons, ih]; rfl
theorem encZ_len (l : List Int) : (l.flatMap encZ).length = l.length := by rw [encZ_map, List.length_map]
theorem encZ_at {l : List Int} {i : Nat} (h : i < l.length) : (l.flatMap encZ)[0 + i * 1]? = some (.int .i64 (l.getD i 0)) := by
  rw [Nat.zero_add, Nat.mul_one, encZ_map, List.getElem?_map, List.getElem?_eq_getElem h, List.getD_eq_getElem?_getD, List.getElem?_eq_getElem h]; rfl
theorem encZ_set {l : List Int} {i : Nat} (x : Int) (hi : i < l.length) : spliceL (l.flatMap encZ) (0 + i * 1) (cellsL (.int .i64 x)) = (l.set i x).flatMap encZ := by
  rw [Nat.zero_add, Nat.mul_one, encZ_map, encZ_map, List.map_set]
  exact spliceOne (by simpa using hi)
theorem rep_int (n : Nat) : List.replicate n (Value.int .i64 0) = (List.replicate n 0).flatMap encZ := by
  rw [encZ_map, List.map_replicate]
theorem getD_setZ (l : List Int) (i j : Nat) (v : Int) (hi : i < l.length) : (l.set i v).getD j 0 = if i = j then v else l.getD j 0 := by
  simp only [List.getD_eq_getElem?_getD, List.getElem?_set]
  by_cases e : i = j
  · subst e; simp [hi]
  · simp [e]

/-! ### Kahn -/
/-- Whoever has one behind it, all within a list: there is a loop. -/
theorem loop_of {E : List (Int × Int)} : ∀ (m : Nat) (S : List Nat), S.length ≤ m → S ≠ [] → (∀ x ∈ S, ∃ k ∈ S, ((k : Int), (x : Int)) ∈ E) → ∃ a, PlusE E a a
  | 0, S, hm, hne, _ => absurd (List.eq_nil_of_length_eq_zero (by omega)) hne
  | m + 1, S, hm, hne, hp => by
    classical
    obtain ⟨x, hx⟩ := List.exists_mem_of_ne_nil S hne
    by_cases hc : PlusE E x x
    · exact ⟨x, hc⟩
    have hlt : (S.filter fun y => decide (PlusE E y x)).length < S.length := by
      have := List.length_filter_lt_length_iff_exists (p := fun y => decide (PlusE E y x)) (l := S)
      exact this.2 ⟨x, hx, by simp [hc]⟩
    refine loop_of m (S.filter fun y => decide (PlusE E y x)) (by omega) ?_ ?_
    · obtain ⟨k, hk, he⟩ := hp x hx
      intro h0
      have : k ∈ S.filter fun y => decide (PlusE E y x) := List.mem_filter.2 ⟨hk, decide_eq_true ⟨x, he, .refl x⟩⟩
      rw [h0] at this; cases this
    · intro y hy
      obtain ⟨hy1, hy2⟩ := List.mem_filter.1 hy
      obtain ⟨k, hk, he⟩ := hp y hy1
      refine ⟨k, List.mem_filter.2 ⟨hk, ?_⟩, he⟩
      have : PlusE E y x := by simpa using hy2
      exact decide_eq_true (⟨y, he, this.rch⟩ : PlusE E k x)

structure Topo (n : Nat) (E : List (Int × Int)) (xs : List Nat) : Prop where
  len : xs.length = n
  nd : xs.Nodup
  lt : ∀ a ∈ xs, a < n
  ord : ∀ a b : Nat, ((a : Int), (b : Int)) ∈ E → ∃ i j : Nat, i < j ∧ xs[i]? = some a ∧ xs[j]? = some b
theorem Topo.noloop {n : Nat} {E : List (Int × Int)} {xs : List Nat} (h : Topo n E xs) {a : Nat} : ¬ PlusE E a a := by
  have inj : ∀ {i j a : Nat}, xs[i]? = some a → xs[j]? = some a → i = j := fun {i j a} hi hj => by
    obtain ⟨hi', rfl⟩ := List.getElem?_eq_some_iff.1 hi
    obtain ⟨hj', e⟩ := List.getElem?_eq_some_iff.1 hj
    exact ((List.getElem_inj h.nd).1 e).symm
  have key : ∀ {a b : Nat}, RchE E a b → a = b ∨ ∃ i j : Nat, i < j ∧ xs[i]? = some a ∧ xs[j]? = some b := by
    intro a b hr
    induction hr with
    | refl a => exact .inl rfl
    | @step a b c e _ ih =>
      obtain ⟨i, j, hij, hi, hj⟩ := h.ord _ _ e
      rcases ih with rfl | ⟨i2, j2, hij2, hi2, hj2⟩
      · exact .inr ⟨i, j, hij, hi, hj⟩
      · have := inj hj hi2; subst this
        exact .inr ⟨i, j2, by omega, hi, hj2⟩
  rintro ⟨c, h1, h2⟩
  obtain ⟨i, j, hij, hi, hj⟩ := h.ord _ _ h1
  rcases key h2 with rfl | ⟨i2, j2, hij2, hi2, hj2⟩
  · have := inj hi hj; omega
  · have := inj hj hi2; have := inj hj2 hi; omega

theorem nodup_lt_len : ∀ {n : Nat} {l : List Nat}, l.Nodup → (∀ x ∈ l, x < n) → l.length ≤ n
  | 0, l, _, h => by
    cases l with
    | nil => simp
    | cons x l => have := h x (by simp); omega
  | n + 1, l, hd, h => by
    have h1 := nodup_lt_len (n := n) (l := l.filter fun x => decide (x ≠ n)) (hd.filter _) fun x hx => by
      obtain ⟨h1, h2⟩ := List.mem_filter.1 hx
      have := h x h1
      simp at h2; omega
    have h2 : l.length ≤ (l.filter fun x => decide (x ≠ n)).length + 1 := by
      by_cases hm : n ∈ l
      · have e := (List.perm_cons_erase hm).length_eq
        have e2 : (l.erase n).length ≤ (l.filter fun x => decide (x ≠ n)).length := by
          rw [hd.erase_eq_filter]
          refine Nat.le_of_eq (congrArg List.length (List.filter_congr fun x _ => ?_))
          rw [Bool.eq_iff_iff]; simp [bne]
        simp at e; omega
      · have e : l.filter (fun x => decide (x ≠ n)) = l := List.filter_eq_self.2 fun x hx => by simp; rintro rfl; exact hm hx
        rw [e]; omega
    omega
theorem flatten_le {K : Nat} : ∀ {L : List (List Nat)}, (∀ l ∈ L, l.length ≤ K) → L.flatten.length ≤ L.length * K
  | [], _ => by simp
  | l :: L, h => by
    have h1 := h l (by simp)
    have h2 := flatten_le (L := L) fun m hm => h m (List.mem_cons_of_mem _ hm)
    rw [List.flatten_cons, List.length_append, List.length_cons, Nat.add_mul, Nat.one_mul]; omega

structure KInv (n : Nat) (to : List (List Nat)) (out : List Nat) (rem : List (List Nat)) (ah : List Int) : Prop where
  lt0 : to.length = n
  la : ah.length = n
  lr : rem.length = n
  nd : out.Nodup
  lt : ∀ a ∈ out, a < n
  row : ∀ k l, rem[k]? = some l → (k ∈ out ∧ l = []) ∨ (k ∉ out ∧ to[k]? = some l)
  cnt : ∀ x, x < n → x ∉ out → ah.getD x 0 = (rem.flatten.count x : Int)
  neg : ∀ x, x < n → x ∈ out → ah.getD x 0 = -1
  closed : ∀ x ∈ out, x ∉ rem.flatten
  topo : ∀ (i k : Nat), out[i]? = some k → ∀ a, Ed to a k → ∃ j, j < i ∧ out[j]? = some a
theorem KInv.start {n : Nat} {to : List (List Nat)} {ah : List Int} (hl : to.length = n) (ha : ah.length = n) (hc : ∀ x, x < n → ah.getD x 0 = (to.flatten.count x : Int)) : KInv n to [] to ah :=
  ⟨hl, ha, hl, .nil, (fun _ h => nomatch h), fun k l h => .inr ⟨by simp, h⟩, fun x hx _ => hc x hx, fun x _ h => (nomatch h), (fun _ h => nomatch h), fun i k h => by simp at h⟩

theorem count_clear {rem : List (List Nat)} {k : Nat} {l : List Nat} (h : rem[k]? = some l) (x : Nat) : (rem.set k []).flatten.count x + l.count x = rem.flatten.count x := by
  obtain ⟨hk, rfl⟩ := List.getElem?_eq_some_iff.1 h
  rw [List.set_eq_take_append_cons_drop, if_pos hk]
  have e : rem = rem.take k ++ rem[k] :: rem.drop (k + 1) := by rw [← List.drop_eq_getElem_cons hk, List.take_append_drop]
  conv => rhs; rw [e]
  simp only [List.flatten_append, List.flatten_cons, List.nil_append, List.count_append]
  omega

/-- Within the taking of k: its first i edges are struck. -/
structure KStep (n : Nat) (out : List Nat) (rem : List (List Nat)) (k : Nat) (l : List Nat) (i : Nat) (ah : List Int) : Prop where
  la : ah.length = n
  cnt : ∀ x, x < n → x ∉ out → x ≠ k → ah.getD x 0 = (rem.flatten.count x : Int) - ((l.take i).count x : Int)
  neg : ∀ x, x < n → (x ∈ out ∨ x = k) → ah.getD x 0 = -1

section
variable {n : Nat} {to rem : List (List Nat)} {out l : List Nat} {ah : List Int} {k : Nat}
theorem KInv.free (h : KInv n to out rem ah) (hk : k < n) (h0 : ah.getD k 0 = 0) : k ∉ out ∧ rem[k]? = to[k]? ∧ k ∉ rem.flatten := by
  have h1 : k ∉ out := fun hm => by rw [h.neg k hk hm] at h0; omega
  refine ⟨h1, ?_, ?_⟩
  · have hkr : k < rem.length := by rw [h.lr]; exact hk
    rcases h.row k _ (List.getElem?_eq_getElem hkr) with ⟨h2, _⟩ | ⟨_, h3⟩
    · exact absurd h2 h1
    · rw [List.getElem?_eq_getElem hkr, h3]
  · have := h.cnt k hk h1
    rw [h0] at this
    exact List.count_eq_zero.1 (by omega)
theorem KInv.take (h : KInv n to out rem ah) (hk : k < n) (h0 : ah.getD k 0 = 0) : KStep n out rem k l 0 (ah.set k (-1)) := by
  have hs : ∀ j, (ah.set k (-1)).getD j 0 = if k = j then -1 else ah.getD j 0 := fun j => getD_setZ _ _ _ _ (by rw [h.la]; exact hk)
  refine ⟨by simp [h.la], fun x hx hxo hxk => ?_, fun x hx hor => ?_⟩
  · rw [hs, if_neg (Ne.symm hxk), h.cnt x hx hxo]; simp
  · rw [hs]; split
    · rfl
    · rename_i e; exact h.neg x hx (hor.resolve_right fun e2 => e e2.symm)
theorem KStep.step {i : Nat} (h : KStep n out rem k l i ah) {x : Nat} (hx : l[i]? = some x) (hxn : x < n) (hxo : x ∉ out) (hxk : x ≠ k) : KStep n out rem k l (i + 1) (ah.set x (ah.getD x 0 - 1)) := by
  have hs : ∀ j, (ah.set x (ah.getD x 0 - 1)).getD j 0 = if x = j then ah.getD x 0 - 1 else ah.getD j 0 := fun j => getD_setZ _ _ _ _ (by rw [h.la]; exact hxn)
  refine ⟨by simp [h.la], fun y hy hyo hyk => ?_, fun y hy hor => ?_⟩
  · rw [hs, takeSnoc hx, List.count_append]
    by_cases e : x = y
    · subst e; rw [if_pos rfl, h.cnt x hy hyo hyk]; simp; omega
    · rw [if_neg e, h.cnt y hy hyo hyk, List.count_cons_of_ne e]; simp
  · rw [hs, if_neg ?_]
    · exact h.neg y hy hor
    · rintro rfl; exact hor.elim hxo hxk
theorem KInv.close {ah0 : List Int} (hI : KInv n to out rem ah0) (hk : k < n) (h0 : ah0.getD k 0 = 0) (hl : rem[k]? = some l) (h : KStep n out rem k l l.length ah) : KInv n to (out ++ [k]) (rem.set k []) ah := by
  obtain ⟨hko, hkr, hkf⟩ := hI.free hk h0
  have hkl : k < rem.length := by rw [hI.lr]; exact hk
  refine ⟨hI.lt0, h.la, by simp [hI.lr], ?_, fun a ha => ?_, fun j m hm => ?_, fun x hx hxo => ?_, fun x hx hxo => ?_, fun x hx hxf => ?_, fun i b hb a hab => ?_⟩
  · refine List.nodup_append.2 ⟨hI.nd, by simp, fun a ha b hb => ?_⟩
    simp at hb; subst hb; rintro rfl; exact hko ha
  · rcases List.mem_append.1 ha with ha | ha
    · exact hI.lt a ha
    · simp at ha; subst ha; exact hk
  · rw [List.getElem?_set] at hm
    by_cases e : k = j
    · subst e; rw [if_pos rfl, if_pos hkl] at hm; cases hm; exact .inl ⟨by simp, rfl⟩
    · rw [if_neg e] at hm
      rcases hI.row j m hm with ⟨h1, h2⟩ | ⟨h1, h2⟩
      · exact .inl ⟨List.mem_append.2 (.inl h1), h2⟩
      · exact .inr ⟨fun hm => (List.mem_append.1 hm).elim h1 fun h => e (List.mem_singleton.1 h).symm, h2⟩
  · have hxo' : x ∉ out ∧ x ≠ k := ⟨fun h => hxo (List.mem_append.2 (.inl h)), fun e => hxo (by simp [e])⟩
    rw [h.cnt x hx hxo'.1 hxo'.2, List.take_length]
    have := count_clear hl x
    omega
  · refine h.neg x hx ?_
    rcases List.mem_append.1 hxo with h | h
    · exact .inl h
    · exact .inr (by simpa using h)
  · have hsub : x ∈ rem.flatten := by
      have := count_clear hl x
      have h1 := List.count_pos_iff.2 hxf
      exact List.count_pos_iff.1 (by omega)
    rcases List.mem_append.1 hx with hx | hx
    · exact hI.closed x hx hsub
    · simp at hx; subst hx; exact hkf hsub
  · rcases Nat.lt_or_ge i out.length with hi | hi
    · rw [List.getElem?_append_left hi] at hb
      obtain ⟨j, hj, hja⟩ := hI.topo i b hb a hab
      exact ⟨j, hj, by rw [List.getElem?_append_left (by omega)]; exact hja⟩
    · have hib : i = out.length ∧ b = k := by
        rw [List.getElem?_append_right hi] at hb
        have := (List.getElem?_eq_some_iff.1 hb).1
        simp at this
        have hi0 : i - out.length = 0 := by omega
        rw [hi0] at hb; simp at hb
        exact ⟨by omega, hb.symm⟩
      obtain ⟨rfl, rfl⟩ := hib
      -- who goes to k has been taken
      obtain ⟨m, hm, hbm⟩ := hab
      have han : a ∈ out := by
        apply Classical.byContradiction
        intro hao
        have hal : a < rem.length := by
          have := (List.getElem?_eq_some_iff.1 hm).1
          rw [hI.lt0] at this; rw [hI.lr]; exact this
        rcases hI.row a _ (List.getElem?_eq_getElem hal) with ⟨h1, _⟩ | ⟨_, h2⟩
        · exact hao h1
        · rw [hm] at h2
          refine hkf (List.mem_flatten.2 ⟨m, ?_, hbm⟩)
          cases h2
          exact List.getElem_mem _
      obtain ⟨j, hj, hja⟩ := List.mem_iff_getElem.1 han
      exact ⟨j, hj, by rw [List.getElem?_append_left hj, List.getElem?_eq_getElem hj, hja]⟩
theorem KInv.stuck {E : List (Int × Int)} (hE : NextOk n E to) (h : KInv n to out rem ah) (hlt : out.length < n) (hno : ∀ x, x < n → ah.getD x 0 ≠ 0) : ∃ a, PlusE E a a := by
  refine loop_of _ ((List.range n).filter fun x => decide (x ∉ out)) (Nat.le_refl _) (fun h0 => ?_) fun x hx => ?_
  · have hall : ∀ x, x ∈ out ↔ x ∈ List.range n := fun x => by
      refine ⟨fun hx => List.mem_range.2 (h.lt x hx), fun hx => ?_⟩
      apply Classical.byContradiction
      intro hn
      have : x ∈ (List.range n).filter fun x => decide (x ∉ out) := List.mem_filter.2 ⟨hx, by simpa using hn⟩
      rw [h0] at this; cases this
    have := ((List.perm_ext_iff_of_nodup h.nd List.nodup_range).2 hall).length_eq
    rw [List.length_range] at this; omega
  · obtain ⟨hxn, hxo⟩ := List.mem_filter.1 hx
    have hxn := List.mem_range.1 hxn
    have hxo : x ∉ out := by simpa using hxo
    have hc := h.cnt x hxn hxo
    have hp : 0 < rem.flatten.count x := by have := hno x hxn; omega
    obtain ⟨l, hl, hxl⟩ := List.mem_flatten.1 (List.count_pos_iff.1 hp)
    obtain ⟨k, hk, rfl⟩ := List.mem_iff_getElem.1 hl
    rcases h.row k _ (List.getElem?_eq_getElem hk) with ⟨_, h2⟩ | ⟨h1, h2⟩
    · rw [h2] at hxl; cases hxl
    · refine ⟨k, List.mem_filter.2 ⟨List.mem_range.2 (by rw [← h.lr]; exact hk), by simpa using h1⟩, ?_⟩
      exact (hE.ed k x).1 ⟨_, h2, hxl⟩
theorem KInv.done {E : List (Int × Int)} (hE : NextOk n E to) (hG : GOk n E) (h : KInv n to out rem ah) (hlen : out.length = n) : Topo n E out := by
  refine ⟨hlen, h.nd, h.lt, fun a b hab => ?_⟩
  have hb := (hG.ok _ hab).2.2.2
  have hbo : b ∈ out := by
    apply Classical.byContradiction
    intro hn
    have hnd : (b :: out).Nodup := List.nodup_cons.2 ⟨hn, h.nd⟩
    have := nodup_lt_len (n := n) hnd fun x hx => by
      rcases List.mem_cons.1 hx with rfl | hx
      · simp at hb; omega
      · exact h.lt x hx
    simp at this; omega
  obtain ⟨j, hj, rfl⟩ := List.mem_iff_getElem.1 hbo
  obtain ⟨i, hij, hi⟩ := h.topo j _ (List.getElem?_eq_getElem hj) a ((hE.ed a _).2 hab)
  exact ⟨i, j, hij, hi, List.getElem?_eq_getElem hj⟩
theorem KInv.bound {K : Nat} (h : KInv n to out rem ah) (hK : ∀ l ∈ to, l.length ≤ K) : rem.flatten.length ≤ n * K := by
  rw [← h.lr]
  refine flatten_le fun l hl => ?_
  obtain ⟨k, hk, rfl⟩ := List.mem_iff_getElem.1 hl
  rcases h.row k _ (List.getElem?_eq_getElem hk) with ⟨_, h2⟩ | ⟨_, h2⟩
  · rw [h2]; exact Nat.zero_le _
  · exact hK _ (List.mem_of_getElem? h2)
end

def OrderPost (w w' : World) (n : Int) (E : List (Int × Int)) (v : Value) : Prop :=
  ∃ ov e, v = .tuple #[ov, .int .i64 e] ∧ ((e ≠ 0 ∧ ¬ GOk n E ∧ ov = .slice none 0 0 ∧ Pure w w') ∨ (e = 11 ∧ GOk n E ∧ (∃ a, PlusE E a a) ∧ ov = .slice none 0 0 ∧ Pure w w') ∨
    (e = 0 ∧ GOk n E ∧ ∃ xs, Topo n.toNat E xs ∧ St (at0 w) w' [row 3 natR ov xs] []))

def intR : Rdr Int := Rdr.flat 1 encZ (fun _ => rfl) (fun x v hv => by simp [encZ] at hv; subst hv; rfl)
theorem intR_i64 : intR = i64 := rfl

theorem order_ok (w : World) (n : Int) (a : Option Addr) (c : Nat) (E : List (Int × Int)) (hH : Holds w (rd edgeR a c E)) :
    Calls Try.prog 23 #[.int .i64 n, .slice a E.length c] w (Ret fun v w' => OrderPost w w' n E v) := by
  refine calls_W (args := [_, _]) Try.func23 rfl Try.ntmps23 rfl ?_
  have H0 := St.start [] (w := w) (by simp)
  (repeat (first | refine WO.run tabOk rfl rfl ?_ | refine WO.nil ?_ | refine WO.skip rfl rfl rfl ?_ | refine WO.pu tabOk rfl rfl rfl rfl ?_ | refine W.seq ?_ | refine W.region ?_ | refine W.block ?_ | refine W.skip ?_ | refine W.exit ?_))
  refine WO.one rfl rfl rfl (OpW.call rfl Try.call41 rfl (Calls.ret (gcheck_ok _ n a c E hH) ?_))
  rintro _ w2 ⟨hp2, e, rfl, he⟩
  have H2 := H0.after hp2
  (repeat (first | refine WO.run tabOk rfl rfl ?_ | refine WO.nil ?_ | refine WO.skip rfl rfl rfl ?_ | refine WO.pu tabOk rfl rfl rfl rfl ?_ | refine W.seq ?_ | refine W.region ?_ | refine W.block ?_ | refine W.skip ?_ | refine W.exit ?_))
  refine W.cond rfl (fun h1 => ?_) (fun h1 => ?_)
  · (repeat (first | refine WO.run tabOk rfl rfl ?_ | refine WO.nil ?_ | refine WO.skip rfl rfl rfl ?_ | refine WO.pu tabOk rfl rfl rfl rfl ?_ | refine W.seq ?_ | refine W.region ?_ | refine W.block ?_ | refine W.skip ?_ | refine W.exit ?_))
    simp at h1
    exact W.ret (ret2 Try.results23 rfl rfl ⟨_, rfl, _, _, rfl, .inl ⟨h1, fun h => h1 (he.2 h), rfl, H2.pure⟩⟩)
  simp at h1
  have hG := he.1 h1
  subst h1
  clear he
  obtain ⟨k, rfl⟩ := Int.eq_ofNat_of_zero_le hG.lo
  have hk60 : k ≤ 60 := by have := hG.hi; omega
  have hEl := hG.len
  (repeat (first | refine WO.run tabOk rfl rfl ?_ | refine WO.nil ?_ | refine WO.skip rfl rfl rfl ?_ | refine WO.pu tabOk rfl rfl rfl rfl ?_ | refine W.seq ?_ | refine W.region ?_ | refine W.block ?_ | refine W.skip ?_ | refine W.exit ?_))
  refine WO.one rfl rfl rfl (OpW.call rfl Try.call42 rfl (Calls.ret (next_ok _ k a c E (hH.pure hp2) hG) ?_))
  rintro v3 w3 ⟨to, hE, K3⟩
  obtain ⟨ta, tc, rfl, H3⟩ := (H2.take K3).toRead
  clear K3 H2 hp2 H0
  have hto := hE.len
  (repeat (first | refine WO.run tabOk rfl rfl ?_ | refine WO.nil ?_ | refine WO.skip rfl rfl rfl ?_ | refine WO.pu tabOk rfl rfl rfl rfl ?_ | refine W.seq ?_ | refine W.region ?_ | refine W.block ?_ | refine W.skip ?_ | refine W.exit ?_))
  refine WO.one rfl rfl rfl (OpW.makeN tabOk rfl rfl rfl rfl zero3 rfl rfl rfl (by omega) (by simp only [maxLen]; omega) H3 ?_)
  intro g w4 H4
  rw [rep_int] at H4
  (repeat (first | refine WO.run tabOk rfl rfl ?_ | refine WO.nil ?_ | refine WO.skip rfl rfl rfl ?_ | refine WO.pu tabOk rfl rfl rfl rfl ?_ | refine W.seq ?_ | refine W.region ?_ | refine W.block ?_ | refine W.skip ?_ | refine W.exit ?_))
  have hshort : ∀ l ∈ to, l.length ≤ 2000 := fun l hl => by have := hE.short l hl; omega
  have htf : ∀ i, (to.take i).flatten.length ≤ k * 2000 := fun i => by
    refine Nat.le_trans (flatten_le fun l hl => hshort l (List.mem_of_mem_take hl)) (Nat.mul_le_mul_right _ ?_)
    rw [List.length_take]; omega
  have h0 : ∀ x, (List.replicate k (0 : Int)).getD x 0 = 0 := fun x => by simp only [List.getD_eq_getElem?_getD, List.getElem?_replicate]; split <;> rfl
  refine W.loopS [0, 7, 8, 28, 29, 30] (fun s : Nat × List Int => [(0, .int .i64 (k : Int)), (7, .slice ta to.length tc), (8, .slice (some ⟨g, 0, none⟩) k k), (28, .slice ta to.length tc), (29, .int .i64 (to.length : Int)), (30, .int .i64 (s.1 : Int))])
    (fun s w' => s.1 ≤ to.length ∧ s.2.length = k ∧ (∀ x, x < k → s.2.getD x 0 = ((to.take s.1).flatten.count x : Int)) ∧ St (at0 w) w' [blk g 3 (s.2.flatMap encZ)] [rd (Rdr.rd natR) ta tc to]) (fun s => to.length - s.1) (0, List.replicate k 0) rfl ⟨Nat.zero_le _, by simp, fun x _ => by simp only; rw [h0]; simp, H4⟩ ?_
  clear H4 H3 h0
  rintro ⟨i, ah⟩ w5 ⟨hi, hal, hac, H⟩
  simp only at hi hal hac H
  (repeat (first | refine WO.run tabOk rfl rfl ?_ | refine WO.nil ?_ | refine WO.skip rfl rfl rfl ?_ | refine WO.pu tabOk rfl rfl rfl rfl ?_ | refine W.seq ?_ | refine W.region ?_ | refine W.block ?_ | refine W.skip ?_ | refine W.exit ?_))
  refine W.cond rfl (fun hlt => ?_) (fun hge => ?_)
  · have hlt : i < to.length := by simpa using hlt
    have hl := List.getElem?_eq_getElem hlt
    generalize to[i] = l at hl
    have hlm : l ∈ to := List.mem_of_getElem? hl
    have hls := hshort l hlm
    obtain ⟨tb, tof, a1, c1, rfl, hcell, H1⟩ := H.roSub (List.mem_cons_self ..) hl
    (repeat (first | refine WO.run tabOk rfl rfl ?_ | refine WO.nil ?_ | refine WO.skip rfl rfl rfl ?_ | refine WO.pu tabOk rfl rfl rfl rfl ?_ | refine W.seq ?_ | refine W.region ?_ | refine W.block ?_ | refine W.skip ?_ | refine W.exit ?_))
    refine WO.pv rfl rfl rfl (PureV.idxN tabOk rfl rfl rfl rfl rfl rfl (by omega)) ?_
    refine WO.one rfl rfl rfl (OpW.loadc tabOk rfl rfl rfl rfl hcell ?_)
    (repeat (first | refine WO.run tabOk rfl rfl ?_ | refine WO.nil ?_ | refine WO.skip rfl rfl rfl ?_ | refine WO.pu tabOk rfl rfl rfl rfl ?_ | refine W.seq ?_ | refine W.region ?_ | refine W.block ?_ | refine W.skip ?_ | refine W.exit ?_))
    have hti := htf i
    refine W.loopS [0, 7, 8, 28, 29, 30, 34, 35, 36] (fun s : Nat × List Int => [(0, .int .i64 (k : Int)), (7, .slice (some ⟨tb, tof, none⟩) to.length tc), (8, .slice (some ⟨g, 0, none⟩) k k), (28, .slice (some ⟨tb, tof, none⟩) to.length tc), (29, .int .i64 (to.length : Int)), (30, .int .i64 (i : Int)), (34, .slice a1 l.length c1), (35, .int .i64 (l.length : Int)), (36, .int .i64 (s.1 : Int))])
      (fun s w' => s.1 ≤ l.length ∧ s.2.length = k ∧ (∀ x, x < k → s.2.getD x 0 = ((to.take i).flatten.count x : Int) + ((l.take s.1).count x : Int)) ∧ St (at0 w) w' [blk g 3 (s.2.flatMap encZ)] [rd natR a1 c1 l, rd (Rdr.rd natR) (some ⟨tb, tof, none⟩) tc to]) (fun s => l.length - s.1) (0, ah) rfl ⟨Nat.zero_le _, hal, fun x hx => (hac x hx).trans (by simp), H1⟩ ?_
    clear H1 H hcell hac hal
    rintro ⟨t, ah⟩ w6 ⟨ht, hal, hac, H⟩
    simp only at ht hal hac H
    (repeat (first | refine WO.run tabOk rfl rfl ?_ | refine WO.nil ?_ | refine WO.skip rfl rfl rfl ?_ | refine WO.pu tabOk rfl rfl rfl rfl ?_ | refine W.seq ?_ | refine W.region ?_ | refine W.block ?_ | refine W.skip ?_ | refine W.exit ?_))
    refine W.cond rfl (fun hltt => ?_) (fun hget => ?_)
    · have hltt : t < l.length := by simpa using hltt
      have hR : Holds w6 (rd natR a1 c1 l) := H.holds (by simp)
      obtain ⟨lb, lo, rfl⟩ := hR.addr (by omega)
      have hx := List.getElem?_eq_getElem hltt
      generalize l[t] = x at hx
      have hxk : x < k := hE.lt hG hlm (List.mem_of_getElem? hx)
      have hv := hac x hxk
      have c1' := List.count_le_length (a := x) (l := (to.take i).flatten)
      have c2' := List.count_le_length (a := x) (l := l.take t)
      have c3' : (l.take t).length ≤ 2000 := by rw [List.length_take]; omega
      (repeat (first | refine WO.run tabOk rfl rfl ?_ | refine WO.nil ?_ | refine WO.skip rfl rfl rfl ?_ | refine WO.pu tabOk rfl rfl rfl rfl ?_ | refine W.seq ?_ | refine W.region ?_ | refine W.block ?_ | refine W.skip ?_ | refine W.exit ?_))
      refine WO.pv rfl rfl rfl (PureV.idxN tabOk rfl rfl rfl rfl rfl rfl (by omega)) ?_
      refine WO.one rfl rfl rfl (OpW.elem1 (i := t) (j := 0) tabOk rfl rfl rfl rfl hR hx rfl rfl ?_)
      (repeat (first | refine WO.run tabOk rfl rfl ?_ | refine WO.nil ?_ | refine WO.skip rfl rfl rfl ?_ | refine WO.pu tabOk rfl rfl rfl rfl ?_ | refine W.seq ?_ | refine W.region ?_ | refine W.block ?_ | refine W.skip ?_ | refine W.exit ?_))
      refine WO.pv rfl rfl rfl (PureV.idxN tabOk rfl rfl rfl rfl rfl rfl hxk) ?_
      refine WO.one rfl rfl rfl (OpW.loadB tabOk rfl rfl rfl rfl H (.head _) (encZ_at (l := ah) (i := x) (by omega)) ?_)
      refine WO.pv rfl rfl rfl (PureV.add rfl rfl rfl (by omega) (by omega)) ?_
      refine WO.pv rfl rfl rfl (PureV.idxN tabOk rfl rfl rfl rfl rfl rfl hxk) ?_
      refine WO.act rfl rfl (OpW.storeB (i := 0) tabOk rfl rfl rfl rfl H rfl (v := .int .i64 (ah.getD x 0 + 1)) (by intro u hu; simp [cellsL] at hu; subst hu; rfl) rfl (by rw [encZ_len]; simp [cellsL]; omega) ?_)
      intro w7 H7
      rw [encZ_set _ (by omega)] at H7
      (repeat (first | refine WO.run tabOk rfl rfl ?_ | refine WO.nil ?_ | refine WO.skip rfl rfl rfl ?_ | refine WO.pu tabOk rfl rfl rfl rfl ?_ | refine W.seq ?_ | refine W.region ?_ | refine W.block ?_ | refine W.skip ?_ | refine W.exit ?_))
      refine WO.pv rfl rfl rfl (PureV.addN (n := t) rfl rfl rfl (by omega)) ?_
      (repeat (first | refine WO.run tabOk rfl rfl ?_ | refine WO.nil ?_ | refine WO.skip rfl rfl rfl ?_ | refine WO.pu tabOk rfl rfl rfl rfl ?_ | refine W.seq ?_ | refine W.region ?_ | refine W.block ?_ | refine W.skip ?_ | refine W.exit ?_))
      refine ⟨(t + 1, ah.set x (ah.getD x 0 + 1)), rfl, ⟨by simp only; omega, by simp [hal], fun y hy => ?_, H7⟩, by simp only; omega⟩
      simp only
      rw [getD_setZ _ _ _ _ (by omega), takeSnoc hx, List.count_append]
      by_cases e : x = y
      · subst e; rw [if_pos rfl, hv]; simp; omega
      · rw [if_neg e, hac y hy, List.count_cons_of_ne e]; simp
    · have htl : t = l.length := by simp at hget; omega
      subst htl
      (repeat (first | refine WO.run tabOk rfl rfl ?_ | refine WO.nil ?_ | refine WO.skip rfl rfl rfl ?_ | refine WO.pu tabOk rfl rfl rfl rfl ?_ | refine W.seq ?_ | refine W.region ?_ | refine W.block ?_ | refine W.skip ?_ | refine W.exit ?_))
      refine WO.pv rfl rfl rfl (PureV.addN (n := i) rfl rfl rfl (by omega)) ?_
      (repeat (first | refine WO.run tabOk rfl rfl ?_ | refine WO.nil ?_ | refine WO.skip rfl rfl rfl ?_ | refine WO.pu tabOk rfl rfl rfl rfl ?_ | refine W.seq ?_ | refine W.region ?_ | refine W.block ?_ | refine W.skip ?_ | refine W.exit ?_))
      refine ⟨(i + 1, ah), rfl, ⟨by simp only; omega, hal, fun x hx => ?_, H.ro (by simp)⟩, by simp only; omega⟩
      simp only
      rw [hac x hx, takeSnoc hl, List.flatten_append, List.count_append, List.take_length]; simp
  have hik : i = to.length := by simp at hge; omega
  subst hik
  rw [List.take_length] at hac
  have hK0 : KInv k to [] to ah := KInv.start hto hal hac
  clear hac hal
  (repeat (first | refine WO.run tabOk rfl rfl ?_ | refine WO.nil ?_ | refine WO.skip rfl rfl rfl ?_ | refine WO.pu tabOk rfl rfl rfl rfl ?_ | refine W.seq ?_ | refine W.region ?_ | refine W.block ?_ | refine W.skip ?_ | refine W.exit ?_))
  refine W.loopS [0, 7, 8, 13] (fun s : List Nat × List (List Nat) × List Int × Value => [(0, .int .i64 (k : Int)), (7, .slice ta to.length tc), (8, .slice (some ⟨g, 0, none⟩) k k), (13, s.2.2.2)])
    (fun s w' => KInv k to s.1 s.2.1 s.2.2.1 ∧ s.1.length ≤ k ∧ St (at0 w) w' [row 3 natR s.2.2.2 s.1, blk g 3 (s.2.2.1.flatMap encZ)] [rd (Rdr.rd natR) ta tc to]) (fun s => k - s.1.length) ([], to, ah, .slice none 0 0) rfl ⟨hK0, Nat.zero_le _, H.add_nil _ _⟩ ?_
  clear H hK0
  rintro ⟨out, rem, ah, vo⟩ w8 ⟨hK, hol, H⟩
  simp only at hK hol H
  have hal := hK.la
  obtain ⟨oa, oc, rfl, hor⟩ := row_rd (H.holds (A := row 3 natR vo out) (by simp))
  (repeat (first | refine WO.run tabOk rfl rfl ?_ | refine WO.nil ?_ | refine WO.skip rfl rfl rfl ?_ | refine WO.pu tabOk rfl rfl rfl rfl ?_ | refine W.seq ?_ | refine W.region ?_ | refine W.block ?_ | refine W.skip ?_ | refine W.exit ?_))
  refine W.cond rfl (fun hlt => ?_) (fun hge => ?_)
  · have hlt : out.length < k := by simpa using hlt
    have hR : Holds w8 (rd i64 (some ⟨g, 0, none⟩) k ah) := by
      have h := flat_blk (sz := 1) (enc := encZ) (hl := fun _ => rfl) (h1 := fun x v hv => by simp [encZ] at hv; subst hv; rfl) (l := ah) (H.holds (A := blk g 3 (ah.flatMap encZ)) (by simp)) (by omega)
      rw [hal] at h
      exact h
    have hidx := idxI_ok w8 (some ⟨g, 0, none⟩) k ah 0 hR
    rw [hal] at hidx
    (repeat (first | refine WO.run tabOk rfl rfl ?_ | refine WO.nil ?_ | refine WO.skip rfl rfl rfl ?_ | refine WO.pu tabOk rfl rfl rfl rfl ?_ | refine W.seq ?_ | refine W.region ?_ | refine W.block ?_ | refine W.skip ?_ | refine W.exit ?_))
    refine WO.one rfl rfl rfl (OpW.call rfl Try.call10 rfl (Calls.ret hidx ?_))
    rintro _ w9 ⟨hp9, rfl⟩
    have H9 := H.after hp9
    clear H hR hidx hor
    (repeat (first | refine WO.run tabOk rfl rfl ?_ | refine WO.nil ?_ | refine WO.skip rfl rfl rfl ?_ | refine WO.pu tabOk rfl rfl rfl rfl ?_ | refine W.seq ?_ | refine W.region ?_ | refine W.block ?_ | refine W.skip ?_ | refine W.exit ?_))
    rcases idxF_cases (fun x => decide (0 = x)) ah with ⟨hm1, hno⟩ | ⟨x, y, hix, hxy, hy0, _⟩
    · rw [hm1]
      refine W.cond_t rfl ?_
      (repeat (first | refine WO.run tabOk rfl rfl ?_ | refine WO.nil ?_ | refine WO.skip rfl rfl rfl ?_ | refine WO.pu tabOk rfl rfl rfl rfl ?_ | refine W.seq ?_ | refine W.region ?_ | refine W.block ?_ | refine W.skip ?_ | refine W.exit ?_))
      refine W.ret (ret2 Try.results23 rfl rfl ⟨_, rfl, _, _, rfl, .inr (.inl ⟨rfl, hG, hK.stuck hE hlt fun x hx => ?_, rfl, H9.pure⟩)⟩)
      have hx' : x < ah.length := by omega
      have := hno _ (List.getElem_mem hx')
      simp only [decide_eq_false_iff_not] at this
      intro e
      rw [List.getD_eq_getElem?_getD, List.getElem?_eq_getElem hx'] at e
      exact this e.symm
    · rw [hix]
      have hxl := (List.getElem?_eq_some_iff.1 hxy).1
      have hxk : x < k := by omega
      have hx0 : ah.getD x 0 = 0 := by
        simp only [decide_eq_true_eq] at hy0
        rw [List.getD_eq_getElem?_getD, hxy, ← hy0]; rfl
      refine W.cond rfl (fun h => by simp at h; omega) (fun _ => ?_)
      obtain ⟨hxo, hrx, hxf⟩ := hK.free hxk hx0
      have hl := List.getElem?_eq_getElem (l := to) (i := x) (by omega)
      generalize to[x]'_ = l at hl
      have hlm : l ∈ to := List.mem_of_getElem? hl
      have hls := hshort l hlm
      rw [hl] at hrx
      have hlr : l ∈ rem := List.mem_of_getElem? hrx
      have hbd := hK.bound hshort
      (repeat (first | refine WO.run tabOk rfl rfl ?_ | refine WO.nil ?_ | refine WO.skip rfl rfl rfl ?_ | refine WO.pu tabOk rfl rfl rfl rfl ?_ | refine W.seq ?_ | refine W.region ?_ | refine W.block ?_ | refine W.skip ?_ | refine W.exit ?_))
      refine WO.pv rfl rfl rfl (PureV.idxN tabOk rfl rfl rfl rfl rfl rfl hxk) ?_
      refine WO.act rfl rfl (OpW.storeB (i := 1) tabOk rfl rfl rfl rfl H9 rfl (v := .int .i64 (-1)) (by intro u hu; simp [cellsL] at hu; subst hu; rfl) rfl (by rw [encZ_len]; simp [cellsL]; omega) ?_)
      intro w10 H10
      rw [encZ_set _ (by omega)] at H10
      have hS0 := hK.take (l := l) hxk hx0
      obtain ⟨tb, tof, a1, c1, rfl, hcell, H11⟩ := H10.roSub (List.mem_cons_self ..) hl
      (repeat (first | refine WO.run tabOk rfl rfl ?_ | refine WO.nil ?_ | refine WO.skip rfl rfl rfl ?_ | refine WO.pu tabOk rfl rfl rfl rfl ?_ | refine W.seq ?_ | refine W.region ?_ | refine W.block ?_ | refine W.skip ?_ | refine W.exit ?_))
      refine WO.pv rfl rfl rfl (PureV.idxN tabOk rfl rfl rfl rfl rfl rfl (by omega)) ?_
      refine WO.one rfl rfl rfl (OpW.loadc tabOk rfl rfl rfl rfl hcell ?_)
      (repeat (first | refine WO.run tabOk rfl rfl ?_ | refine WO.nil ?_ | refine WO.skip rfl rfl rfl ?_ | refine WO.pu tabOk rfl rfl rfl rfl ?_ | refine W.seq ?_ | refine W.region ?_ | refine W.block ?_ | refine W.skip ?_ | refine W.exit ?_))
      refine W.loopS [0, 7, 8, 13, 14, 62, 63, 64] (fun s : Nat × List Int => [(0, .int .i64 (k : Int)), (7, .slice (some ⟨tb, tof, none⟩) to.length tc), (8, .slice (some ⟨g, 0, none⟩) k k), (13, .slice oa out.length oc), (14, .int .i64 (x : Int)), (62, .slice a1 l.length c1), (63, .int .i64 (l.length : Int)), (64, .int .i64 (s.1 : Int))])
        (fun s w' => s.1 ≤ l.length ∧ KStep k out rem x l s.1 s.2 ∧ St (at0 w) w' [blk g 3 (s.2.flatMap encZ), row 3 natR (.slice oa out.length oc) out] [rd natR a1 c1 l, rd (Rdr.rd natR) (some ⟨tb, tof, none⟩) tc to]) (fun s => l.length - s.1) (0, ah.set x (-1)) rfl ⟨Nat.zero_le _, hS0, H11⟩ ?_
      clear H9 H10 H11 hcell hS0
      rintro ⟨t, ah2⟩ w11 ⟨ht, hS, H⟩
      simp only at ht hS H
      have hal2 := hS.la
      (repeat (first | refine WO.run tabOk rfl rfl ?_ | refine WO.nil ?_ | refine WO.skip rfl rfl rfl ?_ | refine WO.pu tabOk rfl rfl rfl rfl ?_ | refine W.seq ?_ | refine W.region ?_ | refine W.block ?_ | refine W.skip ?_ | refine W.exit ?_))
      refine W.cond rfl (fun hltt => ?_) (fun hget => ?_)
      · have hltt : t < l.length := by simpa using hltt
        have hR : Holds w11 (rd natR a1 c1 l) := H.holds (by simp)
        obtain ⟨lb, lo, rfl⟩ := hR.addr (by omega)
        have hy := List.getElem?_eq_getElem hltt
        generalize l[t] = z at hy
        have hzl := List.mem_of_getElem? hy
        have hzf : z ∈ rem.flatten := List.mem_flatten.2 ⟨l, hlr, hzl⟩
        have hzk : z < k := hE.lt hG hlm hzl
        have hzo : z ∉ out := fun hm => hK.closed z hm hzf
        have hzx : z ≠ x := fun e => hxf (e ▸ hzf)
        have hv := hS.cnt z hzk hzo hzx
        have c1' := List.count_le_length (a := z) (l := rem.flatten)
        have c2' := List.count_le_length (a := z) (l := l.take t)
        have c3' : (l.take t).length ≤ 2000 := by rw [List.length_take]; omega
        have c4' : k * 2000 ≤ 120000 := by omega
        (repeat (first | refine WO.run tabOk rfl rfl ?_ | refine WO.nil ?_ | refine WO.skip rfl rfl rfl ?_ | refine WO.pu tabOk rfl rfl rfl rfl ?_ | refine W.seq ?_ | refine W.region ?_ | refine W.block ?_ | refine W.skip ?_ | refine W.exit ?_))
        refine WO.pv rfl rfl rfl (PureV.idxN tabOk rfl rfl rfl rfl rfl rfl (by omega)) ?_
        refine WO.one rfl rfl rfl (OpW.elem1 (i := t) (j := 0) tabOk rfl rfl rfl rfl hR hy rfl rfl ?_)
        (repeat (first | refine WO.run tabOk rfl rfl ?_ | refine WO.nil ?_ | refine WO.skip rfl rfl rfl ?_ | refine WO.pu tabOk rfl rfl rfl rfl ?_ | refine W.seq ?_ | refine W.region ?_ | refine W.block ?_ | refine W.skip ?_ | refine W.exit ?_))
        refine WO.pv rfl rfl rfl (PureV.idxN tabOk rfl rfl rfl rfl rfl rfl hzk) ?_
        refine WO.one rfl rfl rfl (OpW.loadB tabOk rfl rfl rfl rfl H (.head _) (encZ_at (l := ah2) (i := z) (by omega)) ?_)
        refine WO.pv rfl rfl rfl (PureV.sub rfl rfl rfl (by omega) (by omega)) ?_
        refine WO.pv rfl rfl rfl (PureV.idxN tabOk rfl rfl rfl rfl rfl rfl hzk) ?_
        refine WO.act rfl rfl (OpW.storeB (i := 0) tabOk rfl rfl rfl rfl H rfl (v := .int .i64 (ah2.getD z 0 - 1)) (by intro u hu; simp [cellsL] at hu; subst hu; rfl) rfl (by rw [encZ_len]; simp [cellsL]; omega) ?_)
        intro w12 H12
        rw [encZ_set _ (by omega)] at H12
        (repeat (first | refine WO.run tabOk rfl rfl ?_ | refine WO.nil ?_ | refine WO.skip rfl rfl rfl ?_ | refine WO.pu tabOk rfl rfl rfl rfl ?_ | refine W.seq ?_ | refine W.region ?_ | refine W.block ?_ | refine W.skip ?_ | refine W.exit ?_))
        refine WO.pv rfl rfl rfl (PureV.addN (n := t) rfl rfl rfl (by omega)) ?_
        (repeat (first | refine WO.run tabOk rfl rfl ?_ | refine WO.nil ?_ | refine WO.skip rfl rfl rfl ?_ | refine WO.pu tabOk rfl rfl rfl rfl ?_ | refine W.seq ?_ | refine W.region ?_ | refine W.block ?_ | refine W.skip ?_ | refine W.exit ?_))
        exact ⟨(t + 1, ah2.set z (ah2.getD z 0 - 1)), rfl, ⟨by simp only; omega, hS.step hy hzk hzo hzx, H12⟩, by simp only; omega⟩
      · have htl : t = l.length := by simp at hget; omega
        subst htl
        (repeat (first | refine WO.run tabOk rfl rfl ?_ | refine WO.nil ?_ | refine WO.skip rfl rfl rfl ?_ | refine WO.pu tabOk rfl rfl rfl rfl ?_ | refine W.seq ?_ | refine W.region ?_ | refine W.block ?_ | refine W.skip ?_ | refine W.exit ?_))
        refine WO.one rfl rfl rfl (OpW.buildSlice tabOk rfl rfl rfl rfl zero3 rfl rfl (l := [.int .i64 (x : Int)]) rfl H ?_)
        intro b9 w12 H12
        have hsh := shows_blk (sz := 1) (m := 1) (e := 3) (l := [.int .i64 (x : Int)]) H12 (b := b9) (by simp) rfl (by intro u hu; simp at hu; subst hu; rfl)
        have H13 := (H12.to (i := 2) rfl).nat_open
        refine WO.one rfl rfl rfl (OpW.append tabOk rfl rfl rfl zero3 rfl rfl rfl rfl H13 hsh (by omega) (by simp only [maxLen]; omega) ?_)
        intro v' w13 H14 _
        have e1 : out.flatMap encN ++ [.int .i64 (x : Int)] = (out ++ [x]).flatMap encN := by simp [encN]
        have e2 : out.length + 1 = (out ++ [x]).length := by simp
        rw [e1, e2] at H14
        (repeat (first | refine WO.run tabOk rfl rfl ?_ | refine WO.nil ?_ | refine WO.skip rfl rfl rfl ?_ | refine WO.pu tabOk rfl rfl rfl rfl ?_ | refine W.seq ?_ | refine W.region ?_ | refine W.block ?_ | refine W.skip ?_ | refine W.exit ?_))
        refine ⟨(out ++ [x], rem.set x [], ah2, v'), rfl, ⟨hK.close hxk hx0 hrx hS, by simp only; simp; omega, (((H14.nat_close.bring [0, 2] rfl).bring [2] rfl).drop).ro (by simp)⟩, by simp only; simp; omega⟩
  · have hok : out.length = k := by simp at hge; omega
    (repeat (first | refine WO.run tabOk rfl rfl ?_ | refine WO.nil ?_ | refine WO.skip rfl rfl rfl ?_ | refine WO.pu tabOk rfl rfl rfl rfl ?_ | refine W.seq ?_ | refine W.region ?_ | refine W.block ?_ | refine W.skip ?_ | refine W.exit ?_))
    refine W.ret (ret2 Try.results23 rfl rfl ⟨_, rfl, _, _, rfl, .inr (.inr ⟨rfl, hG, out, ?_, (H.first).ro (fun A hA => nomatch hA)⟩)⟩)
    exact hK.done hE hG hok
end Go.Proofs.Ytpenbdpgpamcbaa
