/- The operations whose value hangs on no world, by evaluation; the rules for those with a side condition. Conditions: the table of types is the program's. -/
import Derived.Test.YtpenbdpgpamcbaaGwDraw
import Derived.WalkSpells
set_option linter.unusedVariables false
set_option linter.unusedSimpArgs false
namespace Go.Proofs.Ytpenbdpgpamcbaa.Gw
open Go

inductive TK where
  | other | bool | int (k : IntKind) | str | ptr (e : Nat) | sl (e : Nat) | ar (n e : Nat) | st (fs : List (Nat × Nat × Bool)) | map (k e : Nat) | tuple
  deriving DecidableEq
structure TI where
  k : TK
  size : Nat
  bytes : Nat
  deriving DecidableEq

def aggD : TypeDesc → Bool | .struct _ | .array .. => true | _ => false
def sizeT (P : Program) (t : Nat) : Nat := match P.info? t with | some i => i.size | none => 0
def aggT (P : Program) (t : Nat) : Bool := match P.underlying t with | some d => aggD d | none => false
def kOf (P : Program) (t : Nat) : TK := match P.underlying t with
  | some .bool => .bool | some (.int k) => .int k | some .string => .str | some (.pointer e) => .ptr e | some (.slice e) => .sl e | some (.array n e) => .ar n e
  | some (.struct fs) => (match fs.toList.all fun f => (P.underlying f.type).isSome with | true => .st (fs.toList.map fun f => (f.offset, sizeT P f.type, aggT P f.type)) | false => .other) | some (.map k e) => .map k e | some (.tuple _) => .tuple | _ => .other
def TI.of (P : Program) (t : Nat) : TI := ⟨kOf P t, sizeT P t, match P.info? t with | some i => i.bytes | none => 0⟩

def nth {α : Type} : List α → Nat → Option α
  | [], _ => none
  | a :: _, 0 => some a
  | _ :: l, n + 1 => nth l n

structure TabOk (P : Program) (T : List TI) : Prop where
  ok : ∀ t i, nth T t = some i → TI.of P t = i ∧ (P.info? t).isSome = true

def tabFrom (P : Program) : List TI → Nat → Bool
  | [], _ => true
  | i :: l, t => decide (TI.of P t = i) && (P.info? t).isSome && tabFrom P l (t + 1)
theorem tabFrom_spec (P : Program) : ∀ (l : List TI) (k : Nat), tabFrom P l k = true → ∀ t i, nth l t = some i → TI.of P (k + t) = i ∧ (P.info? (k + t)).isSome = true
  | [], _, _, t, i, h => by simp [nth] at h
  | j :: l, k, hk, t, i, h => by
    simp only [tabFrom, Bool.and_eq_true, decide_eq_true_eq] at hk
    cases t with
    | zero => simp [nth] at h; subst h; exact hk.1
    | succ t => have := tabFrom_spec P l (k + 1) hk.2 t i h; rwa [show k + 1 + t = k + (t + 1) by omega] at this
theorem TabOk.of {P : Program} {T : List TI} (h : tabFrom P T 0 = true) : TabOk P T := ⟨fun t i hi => by have := tabFrom_spec P T 0 h t i hi; rwa [Nat.zero_add] at this⟩

section
variable {P : Program} {T : List TI} (hT : TabOk P T)
include hT
theorem TabOk.k {t : Nat} {i : TI} (h : nth T t = some i) : kOf P t = i.k := by have := (hT.ok t i h).1; rw [← this]; rfl
theorem TabOk.size {t : Nat} {i : TI} (h : nth T t = some i) : ∃ j, P.info? t = some j ∧ j.size = i.size ∧ j.bytes = i.bytes := by
  obtain ⟨h1, h2⟩ := hT.ok t i h
  obtain ⟨j, hj⟩ := Option.isSome_iff_exists.1 h2
  refine ⟨j, hj, ?_, ?_⟩ <;> (rw [← h1]; simp [TI.of, sizeT, hj])
omit hT
theorem kOf_bool {t : Nat} (h : kOf P t = .bool) : P.underlying t = some (.bool) := by
  unfold kOf at h; split at h <;> first | (split at h <;> cases h; done) | simp_all
theorem kOf_int {t : Nat} {k : IntKind} (h : kOf P t = .int k) : P.underlying t = some (.int k) := by
  unfold kOf at h; split at h <;> first | (split at h <;> cases h; done) | simp_all
theorem kOf_str {t : Nat} (h : kOf P t = .str) : P.underlying t = some (.string) := by
  unfold kOf at h; split at h <;> first | (split at h <;> cases h; done) | simp_all
theorem kOf_sl {t : Nat} {e : Nat} (h : kOf P t = .sl e) : P.underlying t = some (.slice e) := by
  unfold kOf at h; split at h <;> first | (split at h <;> cases h; done) | simp_all
theorem kOf_ptr {t : Nat} {e : Nat} (h : kOf P t = .ptr e) : P.underlying t = some (.pointer e) := by
  unfold kOf at h; split at h <;> first | (split at h <;> cases h; done) | simp_all
theorem kOf_ar {t : Nat} {n e : Nat} (h : kOf P t = .ar n e) : P.underlying t = some (.array n e) := by
  unfold kOf at h; split at h <;> first | (split at h <;> cases h; done) | simp_all
theorem kOf_st {t : Nat} {l : List (Nat × Nat × Bool)} (h : kOf P t = .st l) : ∃ fs, P.underlying t = some (.struct fs) ∧ fs.toList.map (fun f => (f.offset, sizeT P f.type, aggT P f.type)) = l ∧ ∀ f ∈ fs.toList, (P.underlying f.type).isSome = true := by
  unfold kOf at h; split at h <;> try (simp at h; done)
  rename_i fs hu
  split at h <;> try (simp at h; done)
  rename_i hall
  simp at h
  exact ⟨fs, hu, h, fun f hf => List.all_eq_true.1 hall f hf⟩
end

/-! ### Values -/
def pickV (t : Bool) : Value → Value → Value
  | .bool x, .bool y => .bool (cond t x y)
  | a, b => match t with | true => a | false => b
theorem pickV_eq (t : Bool) (a b : Value) : pickV t a b = if t then a else b := by
  unfold pickV; split <;> cases t <;> simp

def kindEq : IntKind → IntKind → Bool
  | .i8, .i8 | .i16, .i16 | .i32, .i32 | .i64, .i64 | .u8, .u8 | .u16, .u16 | .u32, .u32 | .u64, .u64 => true
  | _, _ => false
theorem kindEq_eq {a b : IntKind} (h : kindEq a b = true) : a = b := by cases a <;> cases b <;> first | rfl | (simp [kindEq] at h)

/-- Sums that are sure to lie within an int stay bare only where a rule of its own says so: here each is wrapped. -/
def binV : BinOp → TK → Value → Value → Option Value
  | .eql, _, .int k a, .int k' b => match kindEq k k' with | true => some (.bool (decide (a = b))) | false => none
  | .neq, _, .int k a, .int k' b => match kindEq k k' with | true => some (.bool (!decide (a = b))) | false => none
  | .lss, _, .int k a, .int k' b => match kindEq k k' with | true => some (.bool (decide (a < b))) | false => none
  | .leq, _, .int k a, .int k' b => match kindEq k k' with | true => some (.bool (decide (a ≤ b))) | false => none
  | .gtr, _, .int k a, .int k' b => match kindEq k k' with | true => some (.bool (decide (b < a))) | false => none
  | .geq, _, .int k a, .int k' b => match kindEq k k' with | true => some (.bool (decide (b ≤ a))) | false => none
  | .and, _, .int k a, .int k' b => match kindEq k k' with | true => some (.int k (bits .and k a b)) | false => none
  | .or, _, .int k a, .int k' b => match kindEq k k' with | true => some (.int k (bits .or k a b)) | false => none
  | .xor, _, .int k a, .int k' b => match kindEq k k' with | true => some (.int k (bits .xor k a b)) | false => none
  | .eql, _, .string a, .string b => some (.bool (decide (a = b)))
  | .neq, _, .string a, .string b => some (.bool (!decide (a = b)))
  | .eql, .sl _, .slice a _ _, .slice none _ _ => some (.bool a.isNone)
  | .neq, .sl _, .slice a _ _, .slice none _ _ => some (.bool (!a.isNone))
  | .eql, .ptr _, .pointer a, .pointer none => some (.bool a.isNone)
  | .neq, .ptr _, .pointer a, .pointer none => some (.bool (!a.isNone))
  | .eql, .bool, .bool a, .bool b => some (.bool (a == b))
  | .neq, .bool, .bool a, .bool b => some (.bool (!(a == b)))
  | _, _, _, _ => none

def unV : UnOp → Value → Option Value
  | .not, .bool b => some (.bool (!b))
  | _, _ => none

/-- The cells of a list, written out. -/
def laid : List Value → (List Value → Option Value) → Option Value
  | [], k => k []
  | v :: l, k => laid l fun l' => k (v :: l')
theorem laid_eq : ∀ (l : List Value) (k : List Value → Option Value), laid l k = k l
  | [], _ => rfl
  | v :: l, k => by simp [laid, laid_eq l]

def evL (ev : Operand → Option Value) : List Operand → (List Value → Option Value) → Option Value
  | [], k => k []
  | x :: l, k => match ev x with
    | some v => evL ev l fun l' => k (v :: l')
    | none => none
theorem evL_some {ev : Operand → Option Value} {ev' : Operand → Value} (h : ∀ x v, ev x = some v → ev' x = v) : ∀ (l : List Operand) (k : List Value → Option Value) (u : Value), evL ev l k = some u → k (l.map ev') = some u
  | [], k, u, hu => hu
  | x :: l, k, u, hu => by
    simp only [evL] at hu
    cases hx : ev x with
    | none => rw [hx] at hu; cases hu
    | some v => rw [hx] at hu; have := evL_some h l _ u hu; rw [← h x v hx] at this; exact this

/-- Struct values out of all their fields, each of one cell, or whole. -/
def flat : List (Nat × Nat × Bool) → List Value → Option (List Value)
  | [], [] => some []
  | (_, s, true) :: fs, .agg cs :: vs => match Nat.beq cs.size s with
    | true => match flat fs vs with | some l => some (cs.toList ++ l) | none => none
    | false => none
  | (_, _, false) :: fs, v :: vs => match flat fs vs with | some l => some (v :: l) | none => none
  | _, _ => none

def pureOp (T : List TI) (ev : Operand → Option Value) : Op → Option Value
  | .move x | .assign x => ev x
  | .pick c a b => match ev c with
    | some (.bool t) => match ev a with
      | some va => match ev b with
        | some vb => some (pickV t va vb)
        | none => none
      | none => none
    | _ => none
  | .binOp op t x y _ => match ev x with
    | some vx => match ev y with
      | some vy => match nth T t with
        | some ⟨tk, _, _⟩ => binV op tk vx vy
        | none => none
      | none => none
    | none => none
  | .unOp op _ x => match ev x with
    | some vx => unV op vx
    | none => none
  | .nilCheck x => match ev x with
    | some (.pointer (some a)) => some (.pointer (some a))
    | _ => none
  | .fieldAddr s x f => match ev x with
    | some (.pointer (some ⟨b, o, none⟩)) => match nth T s with
      | some ⟨.st fs, _, _⟩ => match nth fs f with
        | some (off, s + 1, _) => some (.pointer (some ⟨b, o + off, none⟩))
        | _ => none
      | _ => none
    | _ => none
  | .field t x f => match ev x with
    | some (.agg cs) => match nth T t with
      | some ⟨.st fs, _, _⟩ => match nth fs f with
        | some (off, _, false) => nth cs.toList off
        | some (off, s, true) => some (.agg (cs.extract off (off + s)))
        | none => none
      | _ => none
    | _ => none
  | .extract x i => match ev x with
    | some (.tuple vs) => nth vs.toList i
    | _ => none
  | .makeFunc fn first captured => evL ev first.toList fun f => evL ev captured.toList fun c => some (.func fn f.toArray c.toArray)
  | .call ⟨.builtin .len, args, ts⟩ => match args.toList with
    | [x] => match ev x with
      | some (.slice _ n _) => match ts.toList with
        | [t] => match nth T t with
          | some ⟨.sl _, _, _⟩ => some (.int .i64 n)
          | _ => none
        | _ => none
      | some (.string s) => match ts.toList with
        | [t] => match nth T t with
          | some ⟨.str, _, _⟩ => some (.int .i64 s.size)
          | _ => none
        | _ => none
      | _ => none
    | _ => none
  | .call ⟨.builtin .cap, args, ts⟩ => match args.toList with
    | [x] => match ev x with
      | some (.slice _ _ c) => match ts.toList with
        | [t] => match nth T t with
          | some ⟨.sl _, _, _⟩ => some (.int .i64 c)
          | _ => none
        | _ => none
      | _ => none
    | _ => none
  | .call ⟨.builtin .min, args, _⟩ => match args.toList with
    | [x, y] => match ev x with
      | some (.int k a) => match ev y with
        | some (.int k' b) => some (.int k (min a b))
        | _ => none
      | _ => none
    | _ => none
  | .call ⟨.builtin .max, args, _⟩ => match args.toList with
    | [x, y] => match ev x with
      | some (.int k a) => match ev y with
        | some (.int k' b) => some (.int k (max a b))
        | _ => none
      | _ => none
    | _ => none
  | _ => none

theorem nth_getElem? {α : Type} : ∀ (l : List α) (i : Nat), nth l i = l[i]?
  | [], i => by simp [nth]
  | a :: l, 0 => by simp [nth]
  | a :: l, i + 1 => by simp [nth, nth_getElem? l i]

section
variable {P : Program} {T : List TI}

theorem toList_inj {a b : ByteArray} (h : a.toList = b.toList) : a = b := by
  have h1 := beq_toListBytes a b
  rw [h] at h1
  simp only [BEq.rfl] at h1
  obtain ⟨⟨x⟩⟩ := a
  obtain ⟨⟨y⟩⟩ := b
  have h2 : ((⟨x⟩ : Array UInt8) == ⟨y⟩) = true := h1
  simp at h2
  rw [h2]
theorem beq_bytes (a b : ByteArray) : (a.toList == b.toList) = decide (a = b) := by
  by_cases h : a = b
  · subst h; simp
  · simp only [h, decide_false, beq_eq_false_iff_ne]; exact fun e => h (toList_inj e)

theorem binV_sound {op : BinOp} {x y v : Value} {t : TypeId} (h : binV op (kOf P t) x y = some v) (X Y : Operand) (w : World) : (do eqGuard op t X Y x y; binOp op t x y : Sem Value).run P w = .ok v w := by
  generalize htk : kOf P t = tk at h
  unfold binV at h
  split at h
  case h_1 => split at h <;> simp at h; rename_i hk; obtain rfl := kindEq_eq hk; subst h; simp [go_sem]; rfl
  case h_2 => split at h <;> simp at h; rename_i hk; obtain rfl := kindEq_eq hk; subst h; simp [go_sem]; rfl
  case h_3 => split at h <;> simp at h; rename_i hk; obtain rfl := kindEq_eq hk; subst h; simp [go_sem]
  case h_4 => split at h <;> simp at h; rename_i hk; obtain rfl := kindEq_eq hk; subst h; simp [go_sem]
  case h_5 => split at h <;> simp at h; rename_i hk; obtain rfl := kindEq_eq hk; subst h; simp [go_sem]
  case h_6 => split at h <;> simp at h; rename_i hk; obtain rfl := kindEq_eq hk; subst h; simp [go_sem]
  case h_7 => split at h <;> simp at h; rename_i hk; obtain rfl := kindEq_eq hk; subst h; simp [go_sem]
  case h_8 => split at h <;> simp at h; rename_i hk; obtain rfl := kindEq_eq hk; subst h; simp [go_sem]
  case h_9 => split at h <;> simp at h; rename_i hk; obtain rfl := kindEq_eq hk; subst h; simp [go_sem]
  case h_10 => simp at h; subst h; simp only [eqGuard_at_string, Sem.run_bind, Sem.run_pure, Result.andThen_ok]; simp [binOp, Op.stringOp, beq_bytes]
  case h_11 => simp at h; subst h; simp only [eqGuard_at_string, Sem.run_bind, Sem.run_pure, Result.andThen_ok]; simp [binOp, Op.stringOp, beq_bytes]
  case h_12 => simp at h; subst h; simp only [eqGuard_at_slice, Sem.run_bind, Sem.run_pure, Result.andThen_ok]; exact Lib.run_eql_slice_nil w _ _ _ _ _ _ _ (kOf_sl htk)
  case h_13 => simp at h; subst h; simp only [eqGuard_at_slice, Sem.run_bind, Sem.run_pure, Result.andThen_ok]; simpa using Go.run_neq_slice_nil_any w _ _ _ _ _ _ _ (kOf_sl htk)
  case h_14 => simp at h; subst h; simp only [eqGuard_at_pointer, Sem.run_bind, Sem.run_pure, Result.andThen_ok]; exact run_eql_pointer_nil w _ _ (by rw [kOf_ptr htk]; simp [Program.pointee, kOf_ptr htk])
  case h_15 => simp at h; subst h; simp only [eqGuard_at_pointer, Sem.run_bind, Sem.run_pure, Result.andThen_ok]; simpa using run_neq_pointer_nil w _ _ (by rw [kOf_ptr htk]; simp [Program.pointee, kOf_ptr htk])
  case h_16 => simp at h; subst h; simp only [eqGuard_at_bool, Sem.run_bind, Sem.run_pure, Result.andThen_ok]; exact run_eql_bool w _ _ _ (kOf_bool htk)
  case h_17 => simp at h; subst h; simp only [eqGuard_at_bool, Sem.run_bind, Sem.run_pure, Result.andThen_ok]; exact run_neq_bool w _ _ _ (kOf_bool htk)
  case h_18 => cases h

theorem unV_sound {op : UnOp} {x v : Value} (h : unV op x = some v) (w : World) : (Op.unary op x).run P w = .ok v w := by
  unfold unV at h
  split at h
  · simp at h; subst h; rfl
  · cases h

theorem pureOp_sound (hT : TabOk P T) {o : Oper} {r : Env} {v : Value} (h : pureOp T (Env.ev r) o.op = some v) {ev : Operand → Value} (hev : ∀ x u, Env.ev r x = some u → ev x = u) (w : World) : (execOp ev o).run P w = .ok (.value v) w := by
  obtain ⟨dst, op, type, pos, after, guard⟩ := o
  simp only at h
  unfold pureOp at h
  split at h
  case h_1 x => simp [execOp, hev _ _ h]
  case h_2 x => simp [execOp, hev _ _ h]
  case h_3 c a b =>
    split at h <;> try cases h
    rename_i t hc
    split at h <;> try cases h
    rename_i va ha
    split at h <;> try cases h
    rename_i vb hb
    simp [execOp, hev _ _ hc, hev _ _ ha, hev _ _ hb, pickV_eq, asBool]
  case h_4 op t x y _ =>
    split at h <;> try cases h
    rename_i vx hx
    split at h <;> try cases h
    rename_i vy hy
    split at h <;> try cases h
    rename_i tk _ _ ht
    have hk := hT.k ht
    simp only at hk
    subst hk
    have := binV_sound h x y w
    simp only [execOp, hev _ _ hx, hev _ _ hy, Sem.run_bind, Sem.run_pure]
    simp only [Sem.run_bind] at this
    rw [this]; rfl
  case h_5 op _ x =>
    split at h <;> try cases h
    rename_i vx hx
    simp [execOp, hev _ _ hx, unV_sound h]
  case h_6 x =>
    split at h <;> try cases h
    rename_i a hx
    simp [execOp, hev _ _ hx]
  case h_7 s x f =>
    split at h <;> try cases h
    rename_i b o hx
    split at h <;> try cases h
    rename_i fs _ _ ht
    split at h <;> try cases h
    rename_i off sz _ hf
    obtain ⟨gs, hu, hm, hall⟩ := kOf_st (hT.k ht)
    rw [nth_getElem?, ← hm, List.getElem?_map] at hf
    cases hg : gs.toList[f]? with
    | none => rw [hg] at hf; simp at hf
    | some fd =>
      rw [hg] at hf
      simp at hf
      obtain ⟨rfl, hsz, _⟩ := hf
      have hg' : gs[f]? = some fd := by rw [← hg]; simp
      have hs0 : sizeT P fd.type ≠ 0 := by omega
      have hi : ∃ i, P.info? fd.type = some i ∧ i.size ≠ 0 := by
        unfold sizeT at hs0
        cases hi : P.info? fd.type with
        | none => rw [hi] at hs0; simp at hs0
        | some i => rw [hi] at hs0; exact ⟨i, rfl, hs0⟩
      obtain ⟨i, hi, hi0⟩ := hi
      simp [execOp, hev _ _ hx, Instr.fieldAt, run_underlying hu, hg', Instr.sureAddr, fieldPlace, sizeOf, typeInfo, hi, hi0, Addr.add_lit]
  case h_8 t x f =>
    split at h <;> try cases h
    rename_i cs hx
    split at h <;> try cases h
    rename_i fs _ _ ht
    obtain ⟨gs, hu, hm, hall⟩ := kOf_st (hT.k ht)
    have key : ∀ a b c, nth fs f = some (a, b, c) → ∃ fd, gs[f]? = some fd ∧ fd.offset = a ∧ sizeT P fd.type = b ∧ aggT P fd.type = c := by
      intro a b c hf
      rw [nth_getElem?, ← hm, List.getElem?_map] at hf
      cases hg : gs.toList[f]? with
      | none => rw [hg] at hf; simp at hf
      | some fd =>
        rw [hg] at hf
        simp at hf
        exact ⟨fd, by rw [← hg]; simp, hf.1, hf.2.1, hf.2.2⟩
    have agg : ∀ (t : Nat) (w : World) (b : Bool) (d : TypeDesc), P.underlying t = some d → aggD d = b → (isAgg t).run P w = .ok b w := by
      intro t w b d hd hb
      subst hb
      simp only [isAgg, Sem.run_bind, run_underlying hd, Result.andThen_ok]
      cases d <;> rfl
    have part : ∀ (fd : Field) (b : Bool), gs[f]? = some fd → aggT P fd.type = b → ∃ d, P.underlying fd.type = some d ∧ aggD d = b := by
      intro fd b hg h
      have hmem : fd ∈ gs.toList := Array.mem_toList_iff.2 (Array.mem_of_getElem? hg)
      obtain ⟨d, hd⟩ := Option.isSome_iff_exists.1 (hall fd hmem)
      unfold aggT at h
      rw [hd] at h
      exact ⟨d, hd, h⟩
    split at h
    · rename_i off sz hf
      obtain ⟨fd, hg, rfl, _, hag⟩ := key _ _ _ hf
      obtain ⟨d, hd, hdd⟩ := part fd _ hg hag
      rw [nth_getElem?] at h
      have h' : cs[fd.offset]? = some v := by simpa using h
      simp [execOp, hev _ _ hx, Instr.field, run_underlying hu, hg, asAgg, part, Go.part, agg _ _ _ _ hd hdd, h']
    · rename_i off s hf
      obtain ⟨fd, hg, rfl, hsz, hag⟩ := key _ _ _ hf
      obtain ⟨d, hd, hdd⟩ := part fd _ hg hag
      simp at h
      subst h
      have hi : ∃ i, P.info? fd.type = some i ∧ i.size = s := by
        unfold sizeT at hsz
        unfold Program.underlying at hd
        cases hi : P.info? fd.type with
        | none => rw [hi] at hd; simp at hd
        | some i => rw [hi] at hsz; exact ⟨i, rfl, hsz⟩
      obtain ⟨i, hi, hi0⟩ := hi
      simp [execOp, hev _ _ hx, Instr.field, run_underlying hu, hg, asAgg, Go.part, agg _ _ _ _ hd hdd, sizeOf, typeInfo, hi, hi0]
    · cases h
  case h_9 x i =>
    split at h <;> try cases h
    rename_i vs hx
    rw [nth_getElem?] at h
    have h' : vs[i]? = some v := by simpa using h
    simp [execOp, hev _ _ hx, Instr.extract, h']
  case h_10 fn first captured =>
    have h1 := evL_some hev _ _ _ h
    have h2 := evL_some hev _ _ _ h1
    simp at h2
    subst h2
    simp only [execOp, Instr.makeFunc, Sem.run_bind, Sem.run_pure, Result.andThen_ok]
    have q : ∀ a : Array Operand, (a.toList.map ev).toArray = a.map ev := fun a => Array.ext' (by simp)
    rw [q, q]
  case h_11 args ts =>
    split at h <;> try cases h
    rename_i x hargs
    split at h <;> try cases h
    · rename_i a n c hx
      split at h <;> try cases h
      rename_i t hts
      split at h <;> try cases h
      rename_i e _ _ ht
      have hu := kOf_sl (hT.k ht)
      obtain rfl : args = #[x] := by rw [← Array.toList_inj]; exact hargs
      obtain rfl : ts = #[t] := by rw [← Array.toList_inj]; exact hts
      have hl := run_len_slice (P := P) w t type a n c (by simp [Program.elem, hu])
      simp [execOp, resolve, invoke, builtin, hev _ _ hx, hl, goInt]
    · rename_i s hx
      split at h <;> try cases h
      rename_i t hts
      split at h <;> try cases h
      rename_i _ _ ht
      have hu := kOf_str (hT.k ht)
      obtain rfl : args = #[x] := by rw [← Array.toList_inj]; exact hargs
      obtain rfl : ts = #[t] := by rw [← Array.toList_inj]; exact hts
      simp [execOp, resolve, invoke, builtin, hev _ _ hx, Builtin.len_, run_underlying hu, goInt]
  case h_12 args ts =>
    split at h <;> try cases h
    rename_i x hargs
    split at h <;> try cases h
    rename_i a n c hx
    split at h <;> try cases h
    rename_i t hts
    split at h <;> try cases h
    rename_i e _ _ ht
    have hu := kOf_sl (hT.k ht)
    obtain rfl : args = #[x] := by rw [← Array.toList_inj]; exact hargs
    obtain rfl : ts = #[t] := by rw [← Array.toList_inj]; exact hts
    have hl := run_cap_slice (P := P) w t type a n c (by simp [Program.elem, hu])
    simp [execOp, resolve, invoke, builtin, hev _ _ hx, hl, goInt]
  case h_13 args ts =>
    split at h <;> try cases h
    rename_i x y hargs
    split at h <;> try cases h
    rename_i k a hx
    split at h <;> try cases h
    rename_i k' b hy
    obtain rfl : args = #[x, y] := by rw [← Array.toList_inj]; exact hargs
    simp [execOp, resolve, invoke, builtin, hev _ _ hx, hev _ _ hy, run_min_int2]
    omega
  case h_14 args ts =>
    split at h <;> try cases h
    rename_i x y hargs
    split at h <;> try cases h
    rename_i k a hx
    split at h <;> try cases h
    rename_i k' b hy
    obtain rfl : args = #[x, y] := by rw [← Array.toList_inj]; exact hargs
    simp [execOp, resolve, invoke, builtin, hev _ _ hx, hev _ _ hy, run_max_int2]
    omega
  case h_15 => cases h
end
end Go.Proofs.Ytpenbdpgpamcbaa.Gw
