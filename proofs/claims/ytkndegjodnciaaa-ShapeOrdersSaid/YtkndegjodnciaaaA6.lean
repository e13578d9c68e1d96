/- The calculus, sixth part: stepping rules; made by gen6.py. -/
import Derived.Test.YtkndegjodnciaaaA5
set_option linter.unusedVariables false
namespace Go.Proofs.Ytkndegjodnciaaa
namespace SC
def Pure (P : Program) (op : Op) (ty : TypeId) (e : Env) (v : Value) : Prop := ∀ w, Does P op ty e w v w
section
variable {P : Program} {ty : TypeId} {e : Env} {x y z : Operand} {v u : Value} {t t' : TypeId} {d : TypeDesc} {sz : Nat} {zv : Value} {by_ : Nat} {ag : Bool}
theorem p_move (h : ev e x = some v) : Pure P (.move x) ty e v := fun _ => does_move h
theorem p_assign (h : ev e x = some v) : Pure P (.assign x) ty e v := fun _ => does_assign h
theorem p_pick_t (h : ev e x = some (.bool true)) (h1 : ev e y = some v) : Pure P (.pick x y z) ty e v := fun _ => does_pick_t h h1
theorem p_pick_f (h : ev e x = some (.bool false)) (h1 : ev e z = some v) : Pure P (.pick x y z) ty e v := fun _ => does_pick_f h h1
theorem p_extract {vs : Array Value} {i : Nat} (h : ev e x = some (.tuple vs)) (h1 : vs[i]? = some v) : Pure P (.extract x i) ty e v := fun _ => does_extract h h1
theorem p_nil {p : Addr} (h : ev e x = some (.pointer (some p))) : Pure P (.nilCheck x) ty e (.pointer (some p)) := fun _ => does_nil h
theorem p_addW {k : IntKind} {a b : Int} (h : ev e x = some (.int k a)) (h1 : ev e y = some (.int k b)) : Pure P (.binOp .add t x y t') ty e (.int k (k.wrap (a + b))) := fun _ => does_addW h h1
theorem p_subW {k : IntKind} {a b : Int} (h : ev e x = some (.int k a)) (h1 : ev e y = some (.int k b)) : Pure P (.binOp .sub t x y t') ty e (.int k (k.wrap (a - b))) := fun _ => does_subW h h1
theorem p_mulW {k : IntKind} {a b : Int} (h : ev e x = some (.int k a)) (h1 : ev e y = some (.int k b)) : Pure P (.binOp .mul t x y t') ty e (.int k (k.wrap (a * b))) := fun _ => does_mulW h h1
theorem p_add {a b : Int} (h : ev e x = some (.int .i64 a)) (h1 : ev e y = some (.int .i64 b)) (h2 : -9223372036854775808 ≤ a + b) (h3 : a + b ≤ 9223372036854775807) : Pure P (.binOp .add t x y t') ty e (.int .i64 (a + b)) := fun _ => does_add h h1 h2 h3
theorem p_sub {a b : Int} (h : ev e x = some (.int .i64 a)) (h1 : ev e y = some (.int .i64 b)) (h2 : -9223372036854775808 ≤ a - b) (h3 : a - b ≤ 9223372036854775807) : Pure P (.binOp .sub t x y t') ty e (.int .i64 (a - b)) := fun _ => does_sub h h1 h2 h3
theorem p_mul {a b : Int} (h : ev e x = some (.int .i64 a)) (h1 : ev e y = some (.int .i64 b)) (h2 : -9223372036854775808 ≤ a * b) (h3 : a * b ≤ 9223372036854775807) : Pure P (.binOp .mul t x y t') ty e (.int .i64 (a * b)) := fun _ => does_mul h h1 h2 h3
theorem p_quo {a b : Int} (h : ev e x = some (.int .i64 a)) (h1 : ev e y = some (.int .i64 b)) (h2 : 0 ≤ a) (h3 : a ≤ 9223372036854775807) (h4 : 0 < b) : Pure P (.binOp .quo t x y t') ty e (.int .i64 (a / b)) := fun _ => does_quo h h1 h2 h3 h4
theorem p_remT {a b : Int} (h : ev e x = some (.int .i64 a)) (h1 : ev e y = some (.int .i64 b)) (h4 : b ≠ 0) : Pure P (.binOp .rem t x y t') ty e (.int .i64 (a.tmod b)) := fun _ => does_remT h h1 h4
theorem p_rem {a b : Int} (h : ev e x = some (.int .i64 a)) (h1 : ev e y = some (.int .i64 b)) (h2 : 0 ≤ a) (h4 : 0 < b) : Pure P (.binOp .rem t x y t') ty e (.int .i64 (a % b)) := fun _ => does_rem h h1 h2 h4
theorem p_shr1 {a : Int} {k : IntKind} (h : ev e x = some (.int .i64 a)) (h1 : ev e y = some (.int k 1)) : Pure P (.binOp .shr t x y t') ty e (.int .i64 (a / 2)) := fun _ => does_shr1 h h1
theorem p_and1 {a : Int} (h : ev e x = some (.int .i64 a)) (h1 : ev e y = some (.int .i64 1)) : Pure P (.binOp .and t x y t') ty e (.int .i64 (a % 2)) := fun _ => does_and1 h h1
theorem p_xor1 {a : Int} (h : ev e x = some (.int .i64 a)) (h1 : ev e y = some (.int .i64 1)) (h2 : -9223372036854775808 ≤ a) (h3 : a ≤ 9223372036854775807) : Pure P (.binOp .xor t x y t') ty e (.int .i64 (a + 1 - 2 * (a % 2))) := fun _ => does_xor1 h h1 h2 h3
theorem p_or01 {a b : Int} (h : ev e x = some (.int .i64 a)) (h1 : ev e y = some (.int .i64 b)) (h0 : a % 2 = 0) (hb : 0 ≤ b) (hb1 : b ≤ 1) (h2 : -9223372036854775808 ≤ a) (h3 : a ≤ 9223372036854775807) : Pure P (.binOp .or t x y t') ty e (.int .i64 (a + b)) := fun _ => does_or01 h h1 h0 hb hb1 h2 h3
theorem p_xor01 {a b : Int} (h : ev e x = some (.int .i64 a)) (h1 : ev e y = some (.int .i64 b)) (hb : 0 ≤ b) (hb1 : b ≤ 1) (h2 : -9223372036854775808 ≤ a) (h3 : a ≤ 9223372036854775807) : Pure P (.binOp .xor t x y t') ty e (.int .i64 (xorb a b)) := fun _ => does_xor01 h h1 hb hb1 h2 h3
theorem p_lss {k : IntKind} {a b : Int} (h : ev e x = some (.int k a)) (h1 : ev e y = some (.int k b)) (c : Bool) (hc : decide (a < b) = c) : Pure P (.binOp .lss t x y t') ty e (.bool c) := fun _ => does_lss h h1 c hc
theorem p_leq {k : IntKind} {a b : Int} (h : ev e x = some (.int k a)) (h1 : ev e y = some (.int k b)) (c : Bool) (hc : decide (a ≤ b) = c) : Pure P (.binOp .leq t x y t') ty e (.bool c) := fun _ => does_leq h h1 c hc
theorem p_gtr {k : IntKind} {a b : Int} (h : ev e x = some (.int k a)) (h1 : ev e y = some (.int k b)) (c : Bool) (hc : decide (b < a) = c) : Pure P (.binOp .gtr t x y t') ty e (.bool c) := fun _ => does_gtr h h1 c hc
theorem p_geq {k : IntKind} {a b : Int} (h : ev e x = some (.int k a)) (h1 : ev e y = some (.int k b)) (c : Bool) (hc : decide (b ≤ a) = c) : Pure P (.binOp .geq t x y t') ty e (.bool c) := fun _ => does_geq h h1 c hc
theorem p_eql {k : IntKind} {a b : Int} (h : ev e x = some (.int k a)) (h1 : ev e y = some (.int k b)) (c : Bool) (hc : decide (a = b) = c) : Pure P (.binOp .eql t x y t') ty e (.bool c) := fun _ => does_eql h h1 c hc
theorem p_neq {k : IntKind} {a b : Int} (h : ev e x = some (.int k a)) (h1 : ev e y = some (.int k b)) (c : Bool) (hc : decide (a ≠ b) = c) : Pure P (.binOp .neq t x y t') ty e (.bool c) := fun _ => does_neq h h1 c hc
theorem p_eqB {a b : Bool} (hu : P.underlying t = some .bool) (h : ev e x = some (.bool a)) (h1 : ev e y = some (.bool b)) : Pure P (.binOp .eql t x y t') ty e (.bool (a == b)) := fun _ => does_eqB hu h h1
theorem p_neqB {a b : Bool} (hu : P.underlying t = some .bool) (h : ev e x = some (.bool a)) (h1 : ev e y = some (.bool b)) : Pure P (.binOp .neq t x y t') ty e (.bool (a != b)) := fun _ => does_neqB hu h h1
theorem p_not {a : Bool} (h : ev e x = some (.bool a)) : Pure P (.unOp .not t x) ty e (.bool (!a)) := fun _ => does_not h
theorem p_eqS {a b : ByteArray} (h : ev e x = some (.string a)) (h1 : ev e y = some (.string b)) (c : Bool) (hc : (a.toList == b.toList) = c) : Pure P (.binOp .eql t x y t') ty e (.bool c) := fun _ => does_eqS h h1 c hc
theorem p_neqS {a b : ByteArray} (h : ev e x = some (.string a)) (h1 : ev e y = some (.string b)) (c : Bool) (hc : (!(a.toList == b.toList)) = c) : Pure P (.binOp .neq t x y t') ty e (.bool c) := fun _ => does_neqS h h1 c hc
theorem p_eqP0 {t0 : TypeId} {p : Option Addr} (hu : P.underlying t = some (.pointer t0)) (h : ev e x = some (.pointer p)) (h1 : ev e y = some (.pointer none)) : Pure P (.binOp .eql t x y t') ty e (.bool p.isNone) := fun _ => does_eqP0 hu h h1
theorem p_eqL0 {t0 : TypeId} {A : Option Addr} {l c : Nat} (hu : P.underlying t = some (.slice t0)) (h : ev e x = some (.slice A l c)) (h1 : ev e y = some (.slice none 0 0)) : Pure P (.binOp .eql t x y t') ty e (.bool A.isNone) := fun _ => does_eqL0 hu h h1
theorem p_fieldAddr {fs : Array Field} {sz : Nat} {z : Value} {by_ : Nat} {ag : Bool} [T : Ty P t (.struct fs) sz z by_ ag] {f : Field} {i : Nat} {d1 : TypeDesc} {s1 : Nat} {z1 : Value} {b1 : Nat} {a1 : Bool} {b o : Nat} (h : ev e x = some (.pointer (some ⟨b, o, none⟩))) (hf : fs[i]? = some f) (T1 : Ty P f.type d1 s1 z1 b1 a1) (hs : Nat.beq s1 0 = false) : Pure P (.fieldAddr t x i) ty e (.pointer (some ⟨b, o + f.offset, none⟩)) := fun _ => does_fieldAddr h hf T1 hs
theorem p_field {i off : Nat} [F : Fld P t i off] {b o : Nat} (h : ev e x = some (.pointer (some ⟨b, o, none⟩))) : Pure P (.fieldAddr t x i) ty e (.pointer (some ⟨b, o + off, none⟩)) := fun _ => does_field h
theorem p_fieldP {i off : Nat} [F : Fld P t i off] {p : Addr} (h : ev e x = some (.pointer (some p))) : Pure P (.fieldAddr t x i) ty e (.pointer (some (p.add off))) := fun _ => does_fieldP h
theorem p_indexP {t0 : TypeId} {sz : Nat} {z : Value} {by_ : Nat} {ag : Bool} (hu : P.underlying t = some (.slice t0)) {d0 : TypeDesc} [T : Ty P t0 d0 sz z by_ ag] {p : Addr} {n c : Nat} {i : Int} {k : IntKind} (h : ev e x = some (.slice (some p) n c)) (h1 : ev e y = some (.int k i)) (h0 : 0 ≤ i) (h2 : i < n) : Pure P (.indexAddr t x y) ty e (.pointer (some (p.add (i.toNat * sz)))) := fun _ => does_indexP hu h h1 h0 h2
theorem p_indexAddr {t0 : TypeId} {sz : Nat} {z : Value} {by_ : Nat} {ag : Bool} (hu : P.underlying t = some (.slice t0)) {d0 : TypeDesc} [T : Ty P t0 d0 sz z by_ ag] {b o n c : Nat} {i : Int} {k : IntKind} (h : ev e x = some (.slice (some ⟨b, o, none⟩) n c)) (h1 : ev e y = some (.int k i)) (h0 : 0 ≤ i) (h2 : i < n) : Pure P (.indexAddr t x y) ty e (.pointer (some ⟨b, o + i.toNat * sz, none⟩)) := fun _ => does_indexAddr hu h h1 h0 h2
theorem p_len {t0 : TypeId} {A : Option Addr} {n c : Nat} (hu : P.underlying t = some (.slice t0)) (h : ev e x = some (.slice A n c)) : Pure P (.call { callee := .builtin .len, args := #[x], argTypes := #[t] }) ty e (.int .i64 (n : Int)) := fun _ => does_len hu h
theorem p_lenS {s : ByteArray} (hu : P.underlying t = some .string) (h : ev e x = some (.string s)) : Pure P (.call { callee := .builtin .len, args := #[x], argTypes := #[t] }) ty e (.int .i64 (s.size : Int)) := fun _ => does_lenS hu h
theorem p_cap {t0 : TypeId} {A : Option Addr} {n c : Nat} (hu : P.underlying t = some (.slice t0)) (h : ev e x = some (.slice A n c)) : Pure P (.call { callee := .builtin .cap, args := #[x], argTypes := #[t] }) ty e (.int .i64 (c : Int)) := fun _ => does_cap hu h
theorem p_max {a b : Int} (h : ev e x = some (.int .i64 a)) (h1 : ev e y = some (.int .i64 b)) : Pure P (.call { callee := .builtin .max, args := #[x, y], argTypes := #[t, t'] }) ty e (.int .i64 (max a b)) := fun _ => does_max h h1
theorem p_min {a b : Int} (h : ev e x = some (.int .i64 a)) (h1 : ev e y = some (.int .i64 b)) : Pure P (.call { callee := .builtin .min, args := #[x, y], argTypes := #[t, t'] }) ty e (.int .i64 (min a b)) := fun _ => does_min h h1
theorem p_makeFunc {fn : Go.Fn} {cap : Array Operand} {vs : List Value} (h : cap.toList.map (ev e) = vs.map some) : Pure P (.makeFunc fn #[] cap) ty e (.func fn #[] vs.toArray) := fun _ => does_makeFunc h
theorem p_sliceTo {t0 : TypeId} (hu : P.underlying t = some (.slice t0)) (T : Ty P t0 d sz zv by_ ag) {A : Option Addr} {n c : Nat} {k : IntKind} {i : Int} (h : ev e x = some (.slice A n c)) (h1 : ev e y = some (.int k i)) (h0 : 0 ≤ i) (h2 : i ≤ c) : Pure P (.slice t x none (some y) none) ty e (.slice A i.toNat c) := fun _ => does_sliceTo hu T h h1 h0 h2
theorem p_indexS {s : ByteArray} (hu : P.underlying t = some .string) {k : IntKind} {i : Int} (h : ev e x = some (.string s)) (h1 : ev e y = some (.int k i)) (h0 : 0 ≤ i) (h2 : i < s.size) : Pure P (.index t x y) ty e (.int .u8 ((s.data.toList.map fun b => (b.toNat : Int)).getD i.toNat 0)) := fun _ => does_indexS hu h h1 h0 h2
end
/-! ### quiet operations, worked out; tests -/
def pv : Op → Env → Option (Value × Prop)
  | .move x, e => match ev e x with | some v => some (v, True) | none => none
  | .assign x, e => match ev e x with | some v => some (v, True) | none => none
  | .nilCheck x, e => match ev e x with | some (.pointer (some p)) => some (.pointer (some p), True) | _ => none
  | .pick x y z, e => match ev e x with
    | some (.bool true) => (match ev e y with | some v => some (v, True) | none => none)
    | some (.bool false) => (match ev e z with | some v => some (v, True) | none => none)
    | _ => none
  | .binOp .add _ x y _, e => match ev e x, ev e y with | some (.int .i64 a), some (.int .i64 b) => some (.int .i64 (a + b), -9223372036854775808 ≤ a + b ∧ a + b ≤ 9223372036854775807) | _, _ => none
  | .binOp .sub _ x y _, e => match ev e x, ev e y with | some (.int .i64 a), some (.int .i64 b) => some (.int .i64 (a - b), -9223372036854775808 ≤ a - b ∧ a - b ≤ 9223372036854775807) | _, _ => none
  | .binOp .mul _ x y _, e => match ev e x, ev e y with | some (.int .i64 a), some (.int .i64 b) => some (.int .i64 (a * b), -9223372036854775808 ≤ a * b ∧ a * b ≤ 9223372036854775807) | _, _ => none
  | .binOp .quo _ x y _, e => match ev e x, ev e y with | some (.int .i64 a), some (.int .i64 b) => some (.int .i64 (a / b), 0 ≤ a ∧ a ≤ 9223372036854775807 ∧ 0 < b) | _, _ => none
  | .binOp .rem _ x y _, e => match ev e x, ev e y with | some (.int .i64 a), some (.int .i64 b) => some (.int .i64 (a % b), 0 ≤ a ∧ 0 < b) | _, _ => none
  | .binOp .shr _ x y _, e => match ev e x, ev e y with | some (.int .i64 a), some (.int _ b) => some (.int .i64 (a / 2), b = 1) | _, _ => none
  | .binOp .and _ x y _, e => match ev e x, ev e y with | some (.int .i64 a), some (.int .i64 b) => some (.int .i64 (a % 2), b = 1) | _, _ => none
  | .binOp .xor _ x y _, e => match ev e x, ev e y with | some (.int .i64 a), some (.int .i64 b) => some (.int .i64 (a + 1 - 2 * (a % 2)), b = 1 ∧ -9223372036854775808 ≤ a ∧ a ≤ 9223372036854775807) | _, _ => none
  | .unOp .not _ x, e => match ev e x with | some (.bool a) => some (.bool (!a), True) | _ => none
  | .extract x i, e => match ev e x with | some (.tuple vs) => (match vs.toList[i]? with | some v => some (v, True) | none => none) | _ => none
  | _, _ => none
theorem pv_pure {P : Program} {op : Op} {ty : TypeId} {e : Env} {v : Value} {C : Prop} (h : pv op e = some (v, C)) (hc : C) : Pure P op ty e v := by
  unfold pv at h
  split at h
  · split at h <;> cases h
    exact p_move (by assumption)
  · split at h <;> cases h
    exact p_assign (by assumption)
  · split at h <;> cases h
    exact p_nil (by assumption)
  · split at h
    · split at h <;> cases h
      exact p_pick_t (by assumption) (by assumption)
    · split at h <;> cases h
      exact p_pick_f (by assumption) (by assumption)
    · cases h
  · split at h <;> cases h
    exact p_add (by assumption) (by assumption) hc.1 hc.2
  · split at h <;> cases h
    exact p_sub (by assumption) (by assumption) hc.1 hc.2
  · split at h <;> cases h
    exact p_mul (by assumption) (by assumption) hc.1 hc.2
  · split at h <;> cases h
    exact p_quo (by assumption) (by assumption) hc.1 hc.2.1 hc.2.2
  · split at h <;> cases h
    exact p_rem (by assumption) (by assumption) hc.1 hc.2
  · split at h <;> cases h
    subst hc
    exact p_shr1 (by assumption) (by assumption)
  · split at h <;> cases h
    subst hc
    exact p_and1 (by assumption) (by assumption)
  · split at h <;> cases h
    obtain ⟨rfl, h1, h2⟩ := hc
    exact p_xor1 (by assumption) (by assumption) h1 h2
  · split at h <;> cases h
    exact p_not (by assumption)
  · split at h
    · rename_i vs h1
      split at h <;> cases h
      rename_i h2
      exact p_extract h1 (by simpa using h2)
    · cases h
  · cases h
def cv : Op → Env → Option (Prop × Prop)
  | .binOp .lss _ x y _, e => match ev e x, ev e y with | some (.int k a), some (.int k' b) => some (k' = k, a < b) | _, _ => none
  | .binOp .leq _ x y _, e => match ev e x, ev e y with | some (.int k a), some (.int k' b) => some (k' = k, a ≤ b) | _, _ => none
  | .binOp .gtr _ x y _, e => match ev e x, ev e y with | some (.int k a), some (.int k' b) => some (k' = k, b < a) | _, _ => none
  | .binOp .geq _ x y _, e => match ev e x, ev e y with | some (.int k a), some (.int k' b) => some (k' = k, b ≤ a) | _, _ => none
  | .binOp .eql _ x y _, e => match ev e x, ev e y with | some (.int k a), some (.int k' b) => some (k' = k, a = b) | _, _ => none
  | .binOp .neq _ x y _, e => match ev e x, ev e y with | some (.int k a), some (.int k' b) => some (k' = k, a ≠ b) | _, _ => none
  | _, _ => none
theorem cv_pure {P : Program} {op : Op} {ty : TypeId} {e : Env} {E C : Prop} (h : cv op e = some (E, C)) (hE : E) : (C → Pure P op ty e (.bool true)) ∧ (¬ C → Pure P op ty e (.bool false)) := by
  unfold cv at h
  split at h <;> first
    | (cases h; done)
    | (split at h <;> cases h
       subst hE
       first
         | exact ⟨fun hc => p_lss (by assumption) (by assumption) true (decide_eq_true hc), fun hc => p_lss (by assumption) (by assumption) false (decide_eq_false hc)⟩
         | exact ⟨fun hc => p_leq (by assumption) (by assumption) true (decide_eq_true hc), fun hc => p_leq (by assumption) (by assumption) false (decide_eq_false hc)⟩
         | exact ⟨fun hc => p_gtr (by assumption) (by assumption) true (decide_eq_true hc), fun hc => p_gtr (by assumption) (by assumption) false (decide_eq_false hc)⟩
         | exact ⟨fun hc => p_geq (by assumption) (by assumption) true (decide_eq_true hc), fun hc => p_geq (by assumption) (by assumption) false (decide_eq_false hc)⟩
         | exact ⟨fun hc => p_eql (by assumption) (by assumption) true (decide_eq_true hc), fun hc => p_eql (by assumption) (by assumption) false (decide_eq_false hc)⟩
         | exact ⟨fun hc => p_neq (by assumption) (by assumption) true (decide_eq_true hc), fun hc => p_neq (by assumption) (by assumption) false (decide_eq_false hc)⟩)
/-! ### turning points, returns, sequences -/
theorem wg {l : List Oper} {e : Env} {j : Nat} {b : Bool} {d : Nat} {c yes : Bool} (h1 : gslot l j = some d) (h2 : look e d = some (.bool c)) (h3 : yes = (c == b)) : Wants l e (some (j, b)) yes := ⟨d, c, h1, h2, h3⟩
theorem Chg.dr {w w' : World} {S : Nat → Prop} (h : Chg w w' S) : Chg w w'.drew S := ⟨h.os, h.tape, h.output, h.size, h.block⟩
theorem Chg.al {w w' : World} {S : Nat → Prop} (o : Obj) (h : Chg w w' S) : Chg w (w'.alloc o) S := h.trans (Chg.alloc w' o S) fun _ _ h => h
theorem Chg.any {w w' : World} {S : Nat → Prop} (h : Chg w w' none_) : Chg w w' S := h.mono fun _ h => h.elim
def evs (e : Env) : List Operand → Option (List Value)
  | [] => some []
  | x :: r => match ev e x, evs e r with
    | some v, some vs => some (v :: vs)
    | _, _ => none
theorem evs_map {e : Env} : ∀ {l : List Operand} {vs : List Value}, evs e l = some vs → l.map (ev e) = vs.map some
  | [], vs, h => by cases h; rfl
  | x :: r, vs, h => by
    unfold evs at h
    split at h <;> cases h
    rename_i v us h1 h2
    simp only [List.map_cons, h1, evs_map h2]
theorem lo {S : Prop} {b : Bool} (h : b = true) : b = false → S := fun h' => by rw [h] at h'; cases h'
theorem WC_seqK {P : Program} {n : Nat} {x y : Code} {Q : Post} {e : Env} {w : World} (h : ∀ K : Env → World → Prop, (∀ e w, WC P n y Q e w → K e w) → WC P n x (thenQ K Q) e w) : WC P n (.seq x y) Q e w := WC_seq (h _ fun _ _ h => h)
theorem WL_turn {P : Program} {n : Nat} {all rest : List Oper} {K : Env → World → Prop} {e : Env} {w : World} (I : World → Prop) (hI : I w) (h : ∀ w1, I w1 → WL P n all K rest e w1) : WL P n all K rest e w := h w hI
theorem WS_turn {P : Program} {n : Nat} {all : List Oper} {S : World → Prop} {K : Env → World → Prop} {r : List (Nat × Bool)} {e : Env} {w : World} (I : World → Prop) (hI : I w) (h : ∀ w1, I w1 → WS P n all S K r e w1) : WS P n all S K r e w := h w hI
theorem WC_turn {P : Program} {n : Nat} {c : Code} {Q : Post} {e : Env} {w : World} (I : World → Prop) (hI : I w) (h : ∀ w1, I w1 → WC P n c Q e w1) : WC P n c Q e w := h w hI
section rets
variable {R : Value → World → Prop} {e : Env} {w : World} {a b c : Nat} {u v x : Value}
theorem ret0 (hr : R (.tuple #[]) w) : retQ [] R .ret e w := ⟨[], rfl, hr⟩
theorem ret0n (hr : R (.tuple #[]) w) : retQ [] R .normal e w := ⟨[], rfl, hr⟩
theorem ret1 (h : look e a = some v) (hr : R v w) : retQ [a] R .ret e w := ⟨[v], by simp [h], hr⟩
theorem ret2 (h : look e a = some v) (h1 : look e b = some u) (hr : R (.tuple #[v, u]) w) : retQ [a, b] R .ret e w := ⟨[v, u], by simp [h, h1], hr⟩
theorem ret3 (h : look e a = some v) (h1 : look e b = some u) (h2 : look e c = some x) (hr : R (.tuple #[v, u, x]) w) : retQ [a, b, c] R .ret e w := ⟨[v, u, x], by simp [h, h1, h2], hr⟩
end rets
/-! ### plain regions: the guard first, then the operation -/
def WX (P : Program) (n : Nat) (all : List Oper) (K : Env → World → Prop) (rest : List Oper) (d : Option Tmp) (op : Op) (ty : TypeId) (e : Env) (w : World) : Prop :=
  ∀ pos af g, Wants all e g true → slotOk n d = true → WL P n all K (⟨d, op, ty, pos, af, g⟩ :: rest) e w
section plain
variable {P : Program} {n : Nat} {all rest : List Oper} {K : Env → World → Prop} {e : Env} {w : World} {d : Option Tmp} {op : Op} {ty : TypeId} {pos : String} {af : Array Edge} {v : Value} {x y : Operand} {t t' : TypeId} {td : TypeDesc} {sz : Nat} {zv : Value} {by_ : Nat} {ag : Bool}
theorem WL_on0 (hd : slotOk n d = true) (h : WX P n all K rest d op ty e w) : WL P n all K (⟨d, op, ty, pos, af, none⟩ :: rest) e w := h _ _ _ rfl hd
theorem WL_onG {j : Nat} {b c : Bool} {d' : Nat} (h1 : gslot all j = some d') (h2 : look e d' = some (.bool c)) (h3 : (c == b) = true) (hd : slotOk n d = true) (h : WX P n all K rest d op ty e w) : WL P n all K (⟨d, op, ty, pos, af, some (j, b)⟩ :: rest) e w := h _ _ _ (wg h1 h2 h3.symm) hd
theorem WL_noG {j : Nat} {b c : Bool} {d' : Nat} (h1 : gslot all j = some d') (h2 : look e d' = some (.bool c)) (h3 : (c == b) = false) (hd : slotOk n d = true) (h : WL P n all K rest (push d undef e) w) : WL P n all K (⟨d, op, ty, pos, af, some (j, b)⟩ :: rest) e w := WL_off (wg h1 h2 h3.symm) hd h
theorem WX_turn (I : World → Prop) (hI : I w) (h : ∀ w1, I w1 → WX P n all K rest d op ty e w1) : WX P n all K rest d op ty e w := h w hI
theorem X_does {w' : World} (h : Does P op ty e w v w') (hr : WL P n all K rest (push d v e) w') : WX P n all K rest d op ty e w := fun _ _ _ hg hd => WL_does hg hd h hr
theorem X_doesU {w' : World} (h : DoesU P op ty e w w') (hr : WL P n all K rest (push d undef e) w') : WX P n all K rest d op ty e w := fun _ _ _ hg hd => WL_doesU hg hd h hr
theorem X_pure (h : Pure P op ty e v) (hr : WL P n all K rest (push d v e) w) : WX P n all K rest d op ty e w := X_does (h w) hr
theorem X_call {f : FuncId} {args : List Value} {R : Value → World → Prop} (h : Enters P op ty e f args) (hc : CV P f args w R) (hr : ∀ v w', R v w' → WL P n all K rest (push d v e) w') : WX P n all K rest d op ty e w := fun _ _ _ hg hd => WL_call hg hd h hc hr
theorem X_fn {f : FuncId} [F : Go.Proofs.Ytkndegjodnciaaa.SC.Fn P f] {args : Array Operand} {ats : Array TypeId} {vs : List Value} {R : Value → World → Prop} (h : evs e args.toList = some vs) (hc : CV P f vs w R) (hr : ∀ v w', R v w' → WL P n all K rest (push d v e) w') : WX P n all K rest d (.call { callee := .value (.func f), args := args, argTypes := ats }) ty e w := X_call (enters (evs_map h)) hc hr
theorem X_fnC {f : FuncId} [F : Go.Proofs.Ytkndegjodnciaaa.SC.Fn P f] {args : Array Operand} {ats : Array TypeId} {vs : List Value} {cap : Array Value} {R : Value → World → Prop} (hx : ev e x = some (.func (.func f) #[] cap)) (h : evs e args.toList = some vs) (hc : CV P f (vs ++ cap.toList) w R) (hr : ∀ v w', R v w' → WL P n all K rest (push d v e) w') : WX P n all K rest d (.call { callee := .value x, args := args, argTypes := ats }) ty e w := X_call (entersC hx (evs_map h)) hc hr
theorem X_pv {C : Prop} (h : pv op e = some (v, C)) (hc : C) (hr : WL P n all K rest (push d v e) w) : WX P n all K rest d op ty e w := X_pure (pv_pure h hc) hr
theorem X_cmpT {E C : Prop} (h : cv op e = some (E, C)) (hE : E) (hc : C) (hr : WL P n all K rest (push d (.bool true) e) w) : WX P n all K rest d op ty e w := X_pure ((cv_pure h hE).1 hc) hr
theorem X_cmpF {E C : Prop} (h : cv op e = some (E, C)) (hE : E) (hc : ¬ C) (hr : WL P n all K rest (push d (.bool false) e) w) : WX P n all K rest d op ty e w := X_pure ((cv_pure h hE).2 hc) hr
theorem X_cmp {E C : Prop} (h : cv op e = some (E, C)) (hE : E) (ht : C → WL P n all K rest (push d (.bool true) e) w) (hf : ¬ C → WL P n all K rest (push d (.bool false) e) w) : WX P n all K rest d op ty e w := by
  by_cases hc : C
  · exact X_cmpT h hE hc (ht hc)
  · exact X_cmpF h hE hc (hf hc)
theorem X_field {i off : Nat} [F : Fld P t i off] {b o : Nat} (h : ev e x = some (.pointer (some ⟨b, o, none⟩))) (hr : WL P n all K rest (push d (.pointer (some ⟨b, o + off, none⟩)) e) w) : WX P n all K rest d (.fieldAddr t x i) ty e w := X_pure (p_field h) hr
theorem X_loadR [T : Ty P t td sz zv by_ false] {b o : Nat} {t1 : TypeId} {cs : List Value} (h : ev e x = some (.pointer (some ⟨b, o, none⟩))) (hb : Blk w b t1 cs) (hv : cs[o]? = some v) (hr : WL P n all K rest (push d v e) w) : WX P n all K rest d (.load t x) ty e w := X_does (does_load1 h hb hv) hr
theorem X_loadW [T : Ty P t td sz zv by_ true] {b : Nat} {t1 : TypeId} {cs : List Value} (h : ev e x = some (.pointer (some ⟨b, 0, none⟩))) (hb : Blk w b t1 cs) (hl : cs.length = sz) (hr : WL P n all K rest (push d (.agg cs.toArray) e) w) : WX P n all K rest d (.load t x) ty e w := X_does (does_loadB h hb hl) hr
theorem X_loadA [T : Ty P t td sz zv by_ true] {b o : Nat} (cs : List Value) (h : ev e x = some (.pointer (some ⟨b, o, none⟩))) (hl : cs.length = sz) (hb : ∀ j u, cs[j]? = some u → w.cell? ⟨b, o + j, none⟩ = some u) (hr : WL P n all K rest (push d (.agg cs.toArray) e) w) : WX P n all K rest d (.load t x) ty e w := X_does (does_loadR cs h hl hb) hr
theorem X_loadC [T : Ty P t td sz zv by_ false] {p : Addr} (h : ev e x = some (.pointer (some p))) (hb : w.cell? p = some v) (hr : WL P n all K rest (push d v e) w) : WX P n all K rest d (.load t x) ty e w := X_does (does_loadC h hb) hr
theorem X_len {t0 : TypeId} {A : Option Addr} {m c : Nat} [T : Ty P t (.slice t0) sz zv by_ ag] (h : ev e x = some (.slice A m c)) (hr : WL P n all K rest (push d (.int .i64 (m : Int)) e) w) : WX P n all K rest d (.call { callee := .builtin .len, args := #[x], argTypes := #[t] }) ty e w := X_pure (p_len T.und h) hr
theorem X_cap {t0 : TypeId} {A : Option Addr} {m c : Nat} [T : Ty P t (.slice t0) sz zv by_ ag] (h : ev e x = some (.slice A m c)) (hr : WL P n all K rest (push d (.int .i64 (c : Int)) e) w) : WX P n all K rest d (.call { callee := .builtin .cap, args := #[x], argTypes := #[t] }) ty e w := X_pure (p_cap T.und h) hr
theorem X_lenS {s : ByteArray} [T : Ty P t .string sz zv by_ ag] (h : ev e x = some (.string s)) (hr : WL P n all K rest (push d (.int .i64 (s.size : Int)) e) w) : WX P n all K rest d (.call { callee := .builtin .len, args := #[x], argTypes := #[t] }) ty e w := X_pure (p_lenS T.und h) hr
theorem X_max {a b : Int} (h : ev e x = some (.int .i64 a)) (h1 : ev e y = some (.int .i64 b)) (hr : WL P n all K rest (push d (.int .i64 (max a b)) e) w) : WX P n all K rest d (.call { callee := .builtin .max, args := #[x, y], argTypes := #[t, t'] }) ty e w := X_pure (p_max h h1) hr
theorem X_min {a b : Int} (h : ev e x = some (.int .i64 a)) (h1 : ev e y = some (.int .i64 b)) (hr : WL P n all K rest (push d (.int .i64 (min a b)) e) w) : WX P n all K rest d (.call { callee := .builtin .min, args := #[x, y], argTypes := #[t, t'] }) ty e w := X_pure (p_min h h1) hr
theorem X_eqB {a b : Bool} [T : Ty P t .bool sz zv by_ ag] (h : ev e x = some (.bool a)) (h1 : ev e y = some (.bool b)) (hr : WL P n all K rest (push d (.bool (a == b)) e) w) : WX P n all K rest d (.binOp .eql t x y t') ty e w := X_pure (p_eqB T.und h h1) hr
theorem X_neqB {a b : Bool} [T : Ty P t .bool sz zv by_ ag] (h : ev e x = some (.bool a)) (h1 : ev e y = some (.bool b)) (hr : WL P n all K rest (push d (.bool (a != b)) e) w) : WX P n all K rest d (.binOp .neq t x y t') ty e w := X_pure (p_neqB T.und h h1) hr
theorem X_eqP {t0 : TypeId} {p : Option Addr} [T : Ty P t (.pointer t0) sz zv by_ ag] (h : ev e x = some (.pointer p)) (h1 : ev e y = some (.pointer none)) (hr : WL P n all K rest (push d (.bool p.isNone) e) w) : WX P n all K rest d (.binOp .eql t x y t') ty e w := X_pure (p_eqP0 T.und h h1) hr
theorem X_eqL {t0 : TypeId} {A : Option Addr} {m c : Nat} [T : Ty P t (.slice t0) sz zv by_ ag] (h : ev e x = some (.slice A m c)) (h1 : ev e y = some (.slice none 0 0)) (hr : WL P n all K rest (push d (.bool A.isNone) e) w) : WX P n all K rest d (.binOp .eql t x y t') ty e w := X_pure (p_eqL0 T.und h h1) hr
theorem X_index {t0 : TypeId} {b o m c : Nat} {i : Int} {k : IntKind} {sz1 by1 : Nat} {zv1 : Value} {ag1 : Bool} [T : Ty P t (.slice t0) sz zv by_ ag] [T1 : Ty P t0 td sz1 zv1 by1 ag1] (h : ev e x = some (.slice (some ⟨b, o, none⟩) m c)) (h1 : ev e y = some (.int k i)) (h0 : 0 ≤ i) (h2 : i < m) (hr : WL P n all K rest (push d (.pointer (some ⟨b, o + i.toNat * sz1, none⟩)) e) w) : WX P n all K rest d (.indexAddr t x y) ty e w := X_pure (p_indexAddr T.und h h1 h0 h2) hr
theorem X_append {t0 : TypeId} (base : Nat) [U : Ty P t (.slice t0) 1 (.slice none 0 0) 24 false] [T : Ty P t0 td sz zv by_ ag] {m : Nat} {xs : List Value} {b j c : Nat} {news : List Value} {t1 : TypeId} (h : ev e x = some v) (h1 : ev e y = some (.slice (some ⟨b, 0, none⟩) j c)) (hown : w.ownsRow base t0 sz v m xs) (hb : Blk w b t1 news)
    (hl : news.length = j * sz) (hzs : zv.cells.size = sz) (hsz : 0 < sz) (ho : ∀ u ∈ news, u.oneCell' = true) (hby : (m + j) * by_ ≤ 140737488355328) (hby1 : 1 ≤ by_) (hbase : base ≤ w.heap.size)
    (hr : ∀ v' w', w'.ownsRow base t0 sz v' (m + j) (xs ++ news) → Chg w w' (fun k => v.ownBlock = some k) → (v'.ownBlock = v.ownBlock ∨ v'.ownBlock = some w.heap.size) → (v' = .slice none 0 0 ↔ v = .slice none 0 0 ∧ j = 0) → WL P n all K rest (push d v' e) w') :
    WX P n all K rest d (.call { callee := .builtin .append, args := #[x, y], argTypes := #[t, t] }) ty e w := by
  obtain ⟨v', w', hd, h2, h3, h4, h5⟩ := does_append (P := P) (ty := ty) base U.und T hzs hsz h hown h1 hl hb ho hby hby1 hbase
  exact X_does hd (hr v' w' h2 h3 h4 h5)
theorem X_appendC {t0 : TypeId} (base : Nat) [U : Ty P t (.slice t0) 1 (.slice none 0 0) 24 false] [T : Ty P t0 td sz zv by_ ag] {m : Nat} {xs : List Value} {b j c : Nat} {news : List Value} (h : ev e x = some v) (h1 : ev e y = some (.slice (some ⟨b, 0, none⟩) j c)) (hown : w.ownsRow base t0 sz v m xs) (hb : ∀ j u, news[j]? = some u → w.cell? ⟨b, j, none⟩ = some u)
    (hl : news.length = j * sz) (hzs : zv.cells.size = sz) (hsz : 0 < sz) (ho : ∀ u ∈ news, u.oneCell' = true) (hby : (m + j) * by_ ≤ 140737488355328) (hby1 : 1 ≤ by_) (hbase : base ≤ w.heap.size)
    (hr : ∀ v' w', w'.ownsRow base t0 sz v' (m + j) (xs ++ news) → Chg w w' (fun k => v.ownBlock = some k) → (v'.ownBlock = v.ownBlock ∨ v'.ownBlock = some w.heap.size) → (v' = .slice none 0 0 ↔ v = .slice none 0 0 ∧ j = 0) → WL P n all K rest (push d v' e) w') :
    WX P n all K rest d (.call { callee := .builtin .append, args := #[x, y], argTypes := #[t, t] }) ty e w := by
  obtain ⟨v', w', hd, h2, h3, h4, h5⟩ := does_appendC (P := P) (ty := ty) base U.und T hzs hsz h hown h1 hl hb ho hby hby1 hbase
  exact X_does hd (hr v' w' h2 h3 h4 h5)
theorem X_indexP {t0 : TypeId} {p : Addr} {m c : Nat} {i : Int} {k : IntKind} {sz1 by1 : Nat} {zv1 : Value} {ag1 : Bool} [T : Ty P t (.slice t0) sz zv by_ ag] [T1 : Ty P t0 td sz1 zv1 by1 ag1] (h : ev e x = some (.slice (some p) m c)) (h1 : ev e y = some (.int k i)) (h0 : 0 ≤ i) (h2 : i < m) (hr : WL P n all K rest (push d (.pointer (some (p.add (i.toNat * sz1)))) e) w) : WX P n all K rest d (.indexAddr t x y) ty e w := X_pure (p_indexP T.und h h1 h0 h2) hr
theorem X_fieldP {i off : Nat} [F : Fld P t i off] {p : Addr} (h : ev e x = some (.pointer (some p))) (hr : WL P n all K rest (push d (.pointer (some (p.add off))) e) w) : WX P n all K rest d (.fieldAddr t x i) ty e w := X_pure (p_fieldP h) hr
theorem X_loadAP [T : Ty P t td sz zv by_ true] {p : Addr} (cs : List Value) (h : ev e x = some (.pointer (some p))) (hl : cs.length = sz) (hb : ∀ j u, cs[j]? = some u → w.cell? (p.add j) = some u) (hr : WL P n all K rest (push d (.agg cs.toArray) e) w) : WX P n all K rest d (.load t x) ty e w := X_does (does_loadRP cs h hl hb) hr
theorem X_alloc [T : Ty P t td sz zv by_ ag] (hr : WL P n all K rest (push d (.pointer (some ⟨w.heap.size, 0, none⟩)) e) (w.alloc (.cells zv.cells t))) : WX P n all K rest d (.alloc t) ty e w := X_does does_alloc hr
theorem X_box (h : ev e x = some v) (hr : WL P n all K rest (push d (.pointer (some ⟨w.heap.size, 0, none⟩)) e) (w.alloc (.cells v.cells t))) : WX P n all K rest d (.box t x) ty e w := X_does (does_box h) hr
theorem X_makeMap (hr : WL P n all K rest (push d (.map (some w.heap.size)) e) (w.alloc (.map #[] 0))) : WX P n all K rest d (.makeMap t none) ty e w := X_does (does_makeMap none rfl) hr
end plain
/-! ### regions that draw -/
def OX (P : Program) (n : Nat) (all : List Oper) (S : World → Prop) (K : Env → World → Prop) (i : Nat) (q : Bool) (r : List (Nat × Bool)) (d : Option Tmp) (op : Op) (ty : TypeId) (e : Env) (w : World) : Prop :=
  ∀ pos af g, Wants all e g true → slotOk n d = true → WO P n all S K i q r ⟨d, op, ty, pos, af, g⟩ e w
section draws
variable {P : Program} {n : Nat} {all : List Oper} {K : Env → World → Prop} {S : World → Prop} {r : List (Nat × Bool)} {i : Nat} {q : Bool} {e : Env} {w : World} {d : Option Tmp} {op : Op} {ty : TypeId} {pos : String} {af : Array Edge} {v : Value} {x y : Operand} {t t' : TypeId} {td : TypeDesc} {sz : Nat} {zv : Value} {by_ : Nat} {ag : Bool}
theorem WO_on0 (hd : slotOk n d = true) (h : OX P n all S K i q r d op ty e w) : WO P n all S K i q r ⟨d, op, ty, pos, af, none⟩ e w := h _ _ _ rfl hd
theorem WO_onG {j : Nat} {b c : Bool} {d' : Nat} (h1 : gslot all j = some d') (h2 : look e d' = some (.bool c)) (h3 : (c == b) = true) (hd : slotOk n d = true) (h : OX P n all S K i q r d op ty e w) : WO P n all S K i q r ⟨d, op, ty, pos, af, some (j, b)⟩ e w := h _ _ _ (wg h1 h2 h3.symm) hd
theorem WO_noG {j : Nat} {b c : Bool} {d' : Nat} (h1 : gslot all j = some d') (h2 : look e d' = some (.bool c)) (h3 : (c == b) = false) (hd : slotOk n d = true) (hS : S w) (h : WS P n all S K r (push d undef e) w) : WO P n all S K i q r ⟨d, op, ty, pos, af, some (j, b)⟩ e w := WO_off (wg h1 h2 h3.symm) hd hS h
theorem OX_cut {S' : World → Prop} (hc : loose .any all.toArray i = true) (h : OX P n all S' K i false r d op ty e w) : OX P n all S K i false r d op ty e w := fun pos af g hg hd => WO_cut hc (h pos af g hg hd)
theorem OX_turn (I : World → Prop) (hI : I w) (h : ∀ w1, I w1 → OX P n all S K i q r d op ty e w1) : OX P n all S K i q r d op ty e w := h w hI
theorem O_quiet (h : ∀ w, S w → Does P op ty e w v w) (hS : S w) (hr : WS P n all S K r (push d v e) w) : OX P n all S K i true r d op ty e w := fun _ _ _ hg hd => WO_quiet hg hd hS h hr
theorem O_pure (h : Pure P op ty e v) (hS : S w) (hr : WS P n all S K r (push d v e) w) : OX P n all S K i true r d op ty e w := O_quiet (fun w _ => h w) hS hr
theorem O_does {w' : World} (h : Does P op ty e w v w') (hS : loose .any all.toArray i = false → S w') (hr : WS P n all S K r (push d v e) w') : OX P n all S K i false r d op ty e w := fun _ _ _ hg hd => WO_does hg hd h hS hr
theorem O_doesU {w' : World} (h : DoesU P op ty e w w') (hS : loose .any all.toArray i = false → S w') (hr : WS P n all S K r (push d undef e) w') : OX P n all S K i false r d op ty e w := fun _ _ _ hg hd => WO_doesU hg hd h hS hr
theorem O_call {f : FuncId} {args : List Value} {R : Value → World → Prop} (h : Enters P op ty e f args) (hc : CV P f args w R) (hS : ∀ v w', R v w' → loose .any all.toArray i = false → S w') (hr : ∀ v w', R v w' → WS P n all S K r (push d v e) w') : OX P n all S K i false r d op ty e w := fun _ _ _ hg hd => WO_call hg hd h hc hS hr
theorem O_fn {f : FuncId} [F : Go.Proofs.Ytkndegjodnciaaa.SC.Fn P f] {args : Array Operand} {ats : Array TypeId} {vs : List Value} {R : Value → World → Prop} (h : evs e args.toList = some vs) (hc : CV P f vs w R) (hr : ∀ v w', R v w' → (loose .any all.toArray i = false → S w') ∧ WS P n all S K r (push d v e) w') : OX P n all S K i false r d (.call { callee := .value (.func f), args := args, argTypes := ats }) ty e w := O_call (enters (evs_map h)) hc (fun v w' h => (hr v w' h).1) (fun v w' h => (hr v w' h).2)
theorem O_fnC {f : FuncId} [F : Go.Proofs.Ytkndegjodnciaaa.SC.Fn P f] {args : Array Operand} {ats : Array TypeId} {vs : List Value} {R : Value → World → Prop} (h : evs e args.toList = some vs) (hc : CV P f vs w R) (hcut : loose .any all.toArray i = true) (hr : ∀ v w', R v w' → ∃ S', WS P n all S' K r (push d v e) w') : OX P n all S K i false r d (.call { callee := .value (.func f), args := args, argTypes := ats }) ty e w := fun pos af g hg hd ho => WS_callC ho hg hd (enters (evs_map h)) hc hcut hr
theorem O_pv {C : Prop} (h : pv op e = some (v, C)) (hc : C) (hS : S w) (hr : WS P n all S K r (push d v e) w) : OX P n all S K i true r d op ty e w := O_pure (pv_pure h hc) hS hr
theorem O_pvL {C : Prop} (h : pv op e = some (v, C)) (hc : C) (hS : loose .any all.toArray i = false → S w) (hr : WS P n all S K r (push d v e) w) : OX P n all S K i false r d op ty e w := O_does (pv_pure h hc w) hS hr
theorem O_cmpT {E C : Prop} (h : cv op e = some (E, C)) (hE : E) (hc : C) (hS : S w) (hr : WS P n all S K r (push d (.bool true) e) w) : OX P n all S K i true r d op ty e w := O_pure ((cv_pure h hE).1 hc) hS hr
theorem O_cmpF {E C : Prop} (h : cv op e = some (E, C)) (hE : E) (hc : ¬ C) (hS : S w) (hr : WS P n all S K r (push d (.bool false) e) w) : OX P n all S K i true r d op ty e w := O_pure ((cv_pure h hE).2 hc) hS hr
theorem O_cmp {E C : Prop} (h : cv op e = some (E, C)) (hE : E) (hS : S w) (ht : C → WS P n all S K r (push d (.bool true) e) w) (hf : ¬ C → WS P n all S K r (push d (.bool false) e) w) : OX P n all S K i true r d op ty e w := by
  by_cases hc : C
  · exact O_cmpT h hE hc hS (ht hc)
  · exact O_cmpF h hE hc hS (hf hc)
theorem O_field {j off : Nat} [F : Fld P t j off] {b o : Nat} (h : ev e x = some (.pointer (some ⟨b, o, none⟩))) (hS : S w) (hr : WS P n all S K r (push d (.pointer (some ⟨b, o + off, none⟩)) e) w) : OX P n all S K i true r d (.fieldAddr t x j) ty e w := O_pure (p_field h) hS hr
theorem O_loadR [T : Ty P t td sz zv by_ false] {b o : Nat} {t1 : TypeId} {cs : List Value} (h : ev e x = some (.pointer (some ⟨b, o, none⟩))) (hb : ∀ w, S w → Blk w b t1 cs) (hv : cs[o]? = some v) (hS : S w) (hr : WS P n all S K r (push d v e) w) : OX P n all S K i true r d (.load t x) ty e w := O_quiet (fun w hw => does_load1 h (hb w hw) hv) hS hr
theorem O_loadW [T : Ty P t td sz zv by_ true] {b : Nat} {t1 : TypeId} {cs : List Value} (h : ev e x = some (.pointer (some ⟨b, 0, none⟩))) (hb : ∀ w, S w → Blk w b t1 cs) (hl : cs.length = sz) (hS : S w) (hr : WS P n all S K r (push d (.agg cs.toArray) e) w) : OX P n all S K i true r d (.load t x) ty e w := O_quiet (fun w hw => does_loadB h (hb w hw) hl) hS hr
theorem O_loadA [T : Ty P t td sz zv by_ true] {b o : Nat} (cs : List Value) (h : ev e x = some (.pointer (some ⟨b, o, none⟩))) (hl : cs.length = sz) (hb : ∀ w, S w → ∀ j u, cs[j]? = some u → w.cell? ⟨b, o + j, none⟩ = some u) (hS : S w) (hr : WS P n all S K r (push d (.agg cs.toArray) e) w) : OX P n all S K i true r d (.load t x) ty e w := O_quiet (fun w hw => does_loadR cs h hl (hb w hw)) hS hr
theorem O_indexP {t0 : TypeId} {p : Addr} {m c : Nat} {j : Int} {k : IntKind} {sz1 by1 : Nat} {zv1 : Value} {ag1 : Bool} [T : Ty P t (.slice t0) sz zv by_ ag] [T1 : Ty P t0 td sz1 zv1 by1 ag1] (h : ev e x = some (.slice (some p) m c)) (h1 : ev e y = some (.int k j)) (h0 : 0 ≤ j) (h2 : j < m) (hS : S w) (hr : WS P n all S K r (push d (.pointer (some (p.add (j.toNat * sz1)))) e) w) : OX P n all S K i true r d (.indexAddr t x y) ty e w := O_pure (p_indexP T.und h h1 h0 h2) hS hr
theorem O_fieldP {j off : Nat} [F : Fld P t j off] {p : Addr} (h : ev e x = some (.pointer (some p))) (hS : S w) (hr : WS P n all S K r (push d (.pointer (some (p.add off))) e) w) : OX P n all S K i true r d (.fieldAddr t x j) ty e w := O_pure (p_fieldP h) hS hr
theorem O_loadAP [T : Ty P t td sz zv by_ true] {p : Addr} (cs : List Value) (h : ev e x = some (.pointer (some p))) (hl : cs.length = sz) (hb : ∀ w, S w → ∀ j u, cs[j]? = some u → w.cell? (p.add j) = some u) (hS : S w) (hr : WS P n all S K r (push d (.agg cs.toArray) e) w) : OX P n all S K i true r d (.load t x) ty e w := O_quiet (fun w hw => does_loadRP cs h hl (hb w hw)) hS hr
theorem O_loadC [T : Ty P t td sz zv by_ false] {p : Addr} (h : ev e x = some (.pointer (some p))) (hb : ∀ w, S w → w.cell? p = some v) (hS : S w) (hr : WS P n all S K r (push d v e) w) : OX P n all S K i true r d (.load t x) ty e w := O_quiet (fun w hw => does_loadC h (hb w hw)) hS hr
theorem O_len {t0 : TypeId} {A : Option Addr} {m c : Nat} [T : Ty P t (.slice t0) sz zv by_ ag] (h : ev e x = some (.slice A m c)) (hS : S w) (hr : WS P n all S K r (push d (.int .i64 (m : Int)) e) w) : OX P n all S K i true r d (.call { callee := .builtin .len, args := #[x], argTypes := #[t] }) ty e w := O_pure (p_len T.und h) hS hr
theorem O_lenS {s : ByteArray} [T : Ty P t .string sz zv by_ ag] (h : ev e x = some (.string s)) (hS : S w) (hr : WS P n all S K r (push d (.int .i64 (s.size : Int)) e) w) : OX P n all S K i true r d (.call { callee := .builtin .len, args := #[x], argTypes := #[t] }) ty e w := O_pure (p_lenS T.und h) hS hr
theorem O_eqB {a b : Bool} [T : Ty P t .bool sz zv by_ ag] (h : ev e x = some (.bool a)) (h1 : ev e y = some (.bool b)) (hS : S w) (hr : WS P n all S K r (push d (.bool (a == b)) e) w) : OX P n all S K i true r d (.binOp .eql t x y t') ty e w := O_pure (p_eqB T.und h h1) hS hr
theorem O_neqB {a b : Bool} [T : Ty P t .bool sz zv by_ ag] (h : ev e x = some (.bool a)) (h1 : ev e y = some (.bool b)) (hS : S w) (hr : WS P n all S K r (push d (.bool (a != b)) e) w) : OX P n all S K i true r d (.binOp .neq t x y t') ty e w := O_pure (p_neqB T.und h h1) hS hr
theorem O_index {t0 : TypeId} {b o m c : Nat} {j : Int} {k : IntKind} {sz1 by1 : Nat} {zv1 : Value} {ag1 : Bool} [T : Ty P t (.slice t0) sz zv by_ ag] [T1 : Ty P t0 td sz1 zv1 by1 ag1] (h : ev e x = some (.slice (some ⟨b, o, none⟩) m c)) (h1 : ev e y = some (.int k j)) (h0 : 0 ≤ j) (h2 : j < m) (hS : S w) (hr : WS P n all S K r (push d (.pointer (some ⟨b, o + j.toNat * sz1, none⟩)) e) w) : OX P n all S K i true r d (.indexAddr t x y) ty e w := O_pure (p_indexAddr T.und h h1 h0 h2) hS hr
theorem O_append {t0 : TypeId} (base : Nat) [U : Ty P t (.slice t0) 1 (.slice none 0 0) 24 false] [T : Ty P t0 td sz zv by_ ag] {m : Nat} {xs : List Value} {b j c : Nat} {news : List Value} {t1 : TypeId} (h : ev e x = some v) (h1 : ev e y = some (.slice (some ⟨b, 0, none⟩) j c)) (hown : w.ownsRow base t0 sz v m xs) (hb : Blk w b t1 news)
    (hl : news.length = j * sz) (hzs : zv.cells.size = sz) (hsz : 0 < sz) (ho : ∀ u ∈ news, u.oneCell' = true) (hby : (m + j) * by_ ≤ 140737488355328) (hby1 : 1 ≤ by_) (hbase : base ≤ w.heap.size)
    (hr : ∀ v' w', w'.ownsRow base t0 sz v' (m + j) (xs ++ news) → Chg w w' (fun k => v.ownBlock = some k) → (v'.ownBlock = v.ownBlock ∨ v'.ownBlock = some w.heap.size) → (v' = .slice none 0 0 ↔ v = .slice none 0 0 ∧ j = 0) → (loose .any all.toArray i = false → S w') ∧ WS P n all S K r (push d v' e) w') :
    OX P n all S K i false r d (.call { callee := .builtin .append, args := #[x, y], argTypes := #[t, t] }) ty e w := by
  obtain ⟨v', w', hd, h2, h3, h4, h5⟩ := does_append (P := P) (ty := ty) base U.und T hzs hsz h hown h1 hl hb ho hby hby1 hbase
  exact O_does hd (hr v' w' h2 h3 h4 h5).1 (hr v' w' h2 h3 h4 h5).2
end draws
end SC
end Go.Proofs.Ytkndegjodnciaaa
