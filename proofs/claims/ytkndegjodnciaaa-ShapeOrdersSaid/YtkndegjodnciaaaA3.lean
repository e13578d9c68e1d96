/- The calculus, third part: what single operations do. -/
import Derived.Test.YtkndegjodnciaaaA2
import Derived.WalkSpells
import Derived.Maps.Own
set_option linter.unusedVariables false
set_option linter.unusedSimpArgs false
namespace Go.Proofs.Ytkndegjodnciaaa
namespace SC

/-- What is known of a type. -/
class Ty (P : Program) (t : TypeId) (d : outParam TypeDesc) (sz : outParam Nat) (z : outParam Value) (bytes : outParam Nat) (agg : outParam Bool) : Prop where
  und : P.underlying t = some d
  info : (P.info? t).map (fun i => (i.zero, i.size, i.bytes)) = some (some z, sz, bytes)
  zero : ∀ w, (zeroValue t).run P w = .ok z w
  size : ∀ w, (sizeOf t).run P w = .ok sz w
  agg : ∀ w, (isAgg t).run P w = .ok agg w
class Fn (P : Program) (f : FuncId) : Prop where
  call : ∀ args w, (callFunc f args).run P w = .ok (.enter f args) w
/-- Where a field of a struct lies. -/
class Fld (P : Program) (t : TypeId) (i : Nat) (off : outParam Nat) : Prop where
  place : ∃ fs f s, P.underlying t = some (.struct fs) ∧ fs[i]? = some f ∧ f.offset = off ∧ (∀ w, (sizeOf f.type).run P w = .ok s w) ∧ s ≠ 0
theorem w0 {l : List Oper} {e : Env} : Wants l e none true := rfl

section
variable {P : Program} {ty : TypeId} {e : Env} {w : World} {x y z : Operand} {v u : Value} {t t' : TypeId}
theorem does_move (h : ev e x = some v) : Does P (.move x) ty e w v w := by
  intro ρ dst pos af g hρ; simp [execOp, hρ x v h]
theorem does_assign (h : ev e x = some v) : Does P (.assign x) ty e w v w := by
  intro ρ dst pos af g hρ; simp [execOp, hρ x v h]
theorem does_pick_t (h : ev e x = some (.bool true)) (h1 : ev e y = some v) : Does P (.pick x y z) ty e w v w := by
  intro ρ dst pos af g hρ; simp [execOp, hρ _ _ h, hρ _ _ h1, asBool]
theorem does_pick_f (h : ev e x = some (.bool false)) (h1 : ev e z = some v) : Does P (.pick x y z) ty e w v w := by
  intro ρ dst pos af g hρ; simp [execOp, hρ _ _ h, hρ _ _ h1, asBool]
theorem does_extract {vs : Array Value} {i : Nat} (h : ev e x = some (.tuple vs)) (h1 : vs[i]? = some v) : Does P (.extract x i) ty e w v w := by
  intro ρ dst pos af g hρ; simp [execOp, hρ _ _ h, Instr.extract, h1]
theorem does_nil {p : Addr} (h : ev e x = some (.pointer (some p))) : Does P (.nilCheck x) ty e w (.pointer (some p)) w := by
  intro ρ dst pos af g hρ; simp [execOp, hρ _ _ h]
theorem wrap64_id {n : Int} (h1 : -9223372036854775808 ≤ n) (h2 : n ≤ 9223372036854775807) : IntKind.i64.wrap n = n := by rw [IntKind.wrap_i64]; omega
theorem does_addW {k : IntKind} {a b : Int} (h : ev e x = some (.int k a)) (h1 : ev e y = some (.int k b)) : Does P (.binOp .add t x y t') ty e w (.int k (k.wrap (a + b))) w := by
  intro ρ dst pos af g hρ; simp [execOp, hρ _ _ h, hρ _ _ h1, eqGuard, binOp, Op.intArith]
theorem does_subW {k : IntKind} {a b : Int} (h : ev e x = some (.int k a)) (h1 : ev e y = some (.int k b)) : Does P (.binOp .sub t x y t') ty e w (.int k (k.wrap (a - b))) w := by
  intro ρ dst pos af g hρ; simp [execOp, hρ _ _ h, hρ _ _ h1, eqGuard, binOp, Op.intArith]
theorem does_mulW {k : IntKind} {a b : Int} (h : ev e x = some (.int k a)) (h1 : ev e y = some (.int k b)) : Does P (.binOp .mul t x y t') ty e w (.int k (k.wrap (a * b))) w := by
  intro ρ dst pos af g hρ; simp [execOp, hρ _ _ h, hρ _ _ h1, eqGuard, binOp, Op.intArith]
theorem does_add {a b : Int} (h : ev e x = some (.int .i64 a)) (h1 : ev e y = some (.int .i64 b)) (h2 : -9223372036854775808 ≤ a + b) (h3 : a + b ≤ 9223372036854775807) : Does P (.binOp .add t x y t') ty e w (.int .i64 (a + b)) w := by
  have := does_addW (P := P) (ty := ty) (w := w) (t := t) (t' := t') h h1; rwa [wrap64_id h2 h3] at this
theorem does_sub {a b : Int} (h : ev e x = some (.int .i64 a)) (h1 : ev e y = some (.int .i64 b)) (h2 : -9223372036854775808 ≤ a - b) (h3 : a - b ≤ 9223372036854775807) : Does P (.binOp .sub t x y t') ty e w (.int .i64 (a - b)) w := by
  have := does_subW (P := P) (ty := ty) (w := w) (t := t) (t' := t') h h1; rwa [wrap64_id h2 h3] at this
theorem does_mul {a b : Int} (h : ev e x = some (.int .i64 a)) (h1 : ev e y = some (.int .i64 b)) (h2 : -9223372036854775808 ≤ a * b) (h3 : a * b ≤ 9223372036854775807) : Does P (.binOp .mul t x y t') ty e w (.int .i64 (a * b)) w := by
  have := does_mulW (P := P) (ty := ty) (w := w) (t := t) (t' := t') h h1; rwa [wrap64_id h2 h3] at this
theorem does_quo {a b : Int} (h : ev e x = some (.int .i64 a)) (h1 : ev e y = some (.int .i64 b)) (h2 : 0 ≤ a) (h3 : a ≤ 9223372036854775807) (h4 : 0 < b) : Does P (.binOp .quo t x y t') ty e w (.int .i64 (a / b)) w := by
  intro ρ dst pos af g hρ
  have h5 : a.tdiv b = a / b := Int.tdiv_eq_ediv_of_nonneg h2
  have h6 : 0 ≤ a / b := Int.ediv_nonneg h2 (by omega)
  have h7 : a / b ≤ a := Int.ediv_le_self b h2
  have h8 : b ≠ 0 := by omega
  simp [execOp, hρ _ _ h, hρ _ _ h1, eqGuard, binOp, Op.intDiv, h8, h5, wrap64_id (n := a / b) (by omega) (by omega)]
theorem does_remT {a b : Int} (h : ev e x = some (.int .i64 a)) (h1 : ev e y = some (.int .i64 b)) (h4 : b ≠ 0) : Does P (.binOp .rem t x y t') ty e w (.int .i64 (a.tmod b)) w := by
  intro ρ dst pos af g hρ
  simp [execOp, hρ _ _ h, hρ _ _ h1, eqGuard, binOp, Op.intDiv, h4]
theorem does_rem {a b : Int} (h : ev e x = some (.int .i64 a)) (h1 : ev e y = some (.int .i64 b)) (h2 : 0 ≤ a) (h4 : 0 < b) : Does P (.binOp .rem t x y t') ty e w (.int .i64 (a % b)) w := by
  have := does_remT (P := P) (ty := ty) (w := w) (t := t) (t' := t') h h1 (by omega); rwa [Int.tmod_eq_emod_of_nonneg h2] at this
theorem does_shr1 {a : Int} {k : IntKind} (h : ev e x = some (.int .i64 a)) (h1 : ev e y = some (.int k 1)) : Does P (.binOp .shr t x y t') ty e w (.int .i64 (a / 2)) w := by
  intro ρ dst pos af g hρ
  have : a.fdiv 2 = a / 2 := Int.fdiv_eq_ediv_of_nonneg a (by decide)
  simp [execOp, hρ _ _ h, hρ _ _ h1, eqGuard, binOp, Op.shift, IntKind.bits, this]
theorem ofInt_nat (a : Int) : ((BitVec.ofInt 64 a).toNat : Int) = a % 18446744073709551616 := by rw [BitVec.toNat_ofInt]; omega
theorem bv_and1 (a : Int) : IntKind.i64.wrap ((BitVec.ofInt 64 a &&& 1#64).toNat : Int) = a % 2 := by
  have h2 : (BitVec.ofInt 64 a &&& 1#64).toNat = (BitVec.ofInt 64 a).toNat % 2 := by simp [BitVec.toNat_and, Nat.and_one_is_mod]
  rw [h2, IntKind.wrap_i64]
  have h3 := ofInt_nat a
  omega
theorem nat_xor1 (n : Nat) : n ^^^ 1 = n + 1 - 2 * (n % 2) := by
  have h1 : (n ^^^ 1) / 2 = n / 2 := by rw [Nat.xor_div_two]; simp
  have h2 : (n ^^^ 1) % 2 = (n + 1) % 2 := by
    have := Nat.xor_mod_two_eq_one (a := n) (b := 1)
    omega
  omega
theorem bv_xor1 (a : Int) (h1 : -9223372036854775808 ≤ a) (h2 : a ≤ 9223372036854775807) : IntKind.i64.wrap ((BitVec.ofInt 64 a ^^^ 1#64).toNat : Int) = a + 1 - 2 * (a % 2) := by
  have h3 := ofInt_nat a
  have h4 : (BitVec.ofInt 64 a ^^^ 1#64).toNat = (BitVec.ofInt 64 a).toNat + 1 - 2 * ((BitVec.ofInt 64 a).toNat % 2) := by rw [BitVec.toNat_xor]; exact nat_xor1 _
  rw [h4, IntKind.wrap_i64]
  omega
theorem nat_or01 (n b : Nat) (hn : n % 2 = 0) (hb : b ≤ 1) : n ||| b = n + b := by
  have h1 : (n ||| b) / 2 = n / 2 := by rw [Nat.or_div_two]; have : b / 2 = 0 := by omega
                                        rw [this]; simp
  have h2 : (n ||| b) % 2 = 1 ↔ n % 2 = 1 ∨ b % 2 = 1 := Nat.or_mod_two_eq_one ..
  omega
theorem bv_or01 (a b : Int) (h0 : a % 2 = 0) (hb : 0 ≤ b) (hb1 : b ≤ 1) (h1 : -9223372036854775808 ≤ a) (h2 : a ≤ 9223372036854775807) : IntKind.i64.wrap ((BitVec.ofInt 64 a ||| BitVec.ofInt 64 b).toNat : Int) = a + b := by
  have h3 := ofInt_nat a
  have h5 := ofInt_nat b
  have h4 : (BitVec.ofInt 64 a ||| BitVec.ofInt 64 b).toNat = (BitVec.ofInt 64 a).toNat + (BitVec.ofInt 64 b).toNat := by rw [BitVec.toNat_or]; exact nat_or01 _ _ (by omega) (by omega)
  rw [h4, IntKind.wrap_i64]
  omega
def xorb (a b : Int) : Int := if b = 0 then a else a + 1 - 2 * (a % 2)
theorem bv_xor01 (a b : Int) (hb : 0 ≤ b) (hb1 : b ≤ 1) (h1 : -9223372036854775808 ≤ a) (h2 : a ≤ 9223372036854775807) : IntKind.i64.wrap ((BitVec.ofInt 64 a ^^^ BitVec.ofInt 64 b).toNat : Int) = xorb a b := by
  unfold xorb
  by_cases h : b = 0
  · subst h
    rw [if_pos rfl]
    have h3 := ofInt_nat a
    have h4 : (BitVec.ofInt 64 a ^^^ BitVec.ofInt 64 0).toNat = (BitVec.ofInt 64 a).toNat := by simp
    rw [h4, IntKind.wrap_i64]
    omega
  · obtain rfl : b = 1 := by omega
    rw [if_neg (by decide)]
    exact bv_xor1 a h1 h2
theorem does_and1 {a : Int} (h : ev e x = some (.int .i64 a)) (h1 : ev e y = some (.int .i64 1)) : Does P (.binOp .and t x y t') ty e w (.int .i64 (a % 2)) w := by
  intro ρ dst pos af g hρ
  have := bv_and1 a
  simp only [execOp, hρ _ _ h, hρ _ _ h1, eqGuard, binOp, Op.intBits, IntKind.bits]
  simp
  exact this
theorem does_xor1 {a : Int} (h : ev e x = some (.int .i64 a)) (h1 : ev e y = some (.int .i64 1)) (h2 : -9223372036854775808 ≤ a) (h3 : a ≤ 9223372036854775807) : Does P (.binOp .xor t x y t') ty e w (.int .i64 (a + 1 - 2 * (a % 2))) w := by
  intro ρ dst pos af g hρ
  have := bv_xor1 a h2 h3
  simp only [execOp, hρ _ _ h, hρ _ _ h1, eqGuard, binOp, Op.intBits, IntKind.bits]
  simp
  exact this
theorem does_or01 {a b : Int} (h : ev e x = some (.int .i64 a)) (h1 : ev e y = some (.int .i64 b)) (h0 : a % 2 = 0) (hb : 0 ≤ b) (hb1 : b ≤ 1) (h2 : -9223372036854775808 ≤ a) (h3 : a ≤ 9223372036854775807) : Does P (.binOp .or t x y t') ty e w (.int .i64 (a + b)) w := by
  intro ρ dst pos af g hρ
  have := bv_or01 a b h0 hb hb1 h2 h3
  simp only [execOp, hρ _ _ h, hρ _ _ h1, eqGuard, binOp, Op.intBits, IntKind.bits]
  simp
  exact this
theorem does_xor01 {a b : Int} (h : ev e x = some (.int .i64 a)) (h1 : ev e y = some (.int .i64 b)) (hb : 0 ≤ b) (hb1 : b ≤ 1) (h2 : -9223372036854775808 ≤ a) (h3 : a ≤ 9223372036854775807) : Does P (.binOp .xor t x y t') ty e w (.int .i64 (xorb a b)) w := by
  intro ρ dst pos af g hρ
  have := bv_xor01 a b hb hb1 h2 h3
  simp only [execOp, hρ _ _ h, hρ _ _ h1, eqGuard, binOp, Op.intBits, IntKind.bits]
  simp
  exact this
/-! ### comparisons: the value as a Bool -/
theorem does_lss {k : IntKind} {a b : Int} (h : ev e x = some (.int k a)) (h1 : ev e y = some (.int k b)) (c : Bool) (hc : decide (a < b) = c) : Does P (.binOp .lss t x y t') ty e w (.bool c) w := by
  subst hc; intro ρ dst pos af g hρ; simp [execOp, hρ _ _ h, hρ _ _ h1, eqGuard, binOp, Op.intCmp]
theorem does_leq {k : IntKind} {a b : Int} (h : ev e x = some (.int k a)) (h1 : ev e y = some (.int k b)) (c : Bool) (hc : decide (a ≤ b) = c) : Does P (.binOp .leq t x y t') ty e w (.bool c) w := by
  subst hc; intro ρ dst pos af g hρ; simp [execOp, hρ _ _ h, hρ _ _ h1, eqGuard, binOp, Op.intCmp]
theorem does_gtr {k : IntKind} {a b : Int} (h : ev e x = some (.int k a)) (h1 : ev e y = some (.int k b)) (c : Bool) (hc : decide (b < a) = c) : Does P (.binOp .gtr t x y t') ty e w (.bool c) w := by
  subst hc; intro ρ dst pos af g hρ; simp [execOp, hρ _ _ h, hρ _ _ h1, eqGuard, binOp, Op.intCmp]
theorem does_geq {k : IntKind} {a b : Int} (h : ev e x = some (.int k a)) (h1 : ev e y = some (.int k b)) (c : Bool) (hc : decide (b ≤ a) = c) : Does P (.binOp .geq t x y t') ty e w (.bool c) w := by
  subst hc; intro ρ dst pos af g hρ; simp [execOp, hρ _ _ h, hρ _ _ h1, eqGuard, binOp, Op.intCmp]
theorem does_eql {k : IntKind} {a b : Int} (h : ev e x = some (.int k a)) (h1 : ev e y = some (.int k b)) (c : Bool) (hc : decide (a = b) = c) : Does P (.binOp .eql t x y t') ty e w (.bool c) w := by
  subst hc; intro ρ dst pos af g hρ; simp [execOp, hρ _ _ h, hρ _ _ h1, eqGuard, binOp, Op.intCmp, Bool.beq_eq_decide_eq]
theorem does_neq {k : IntKind} {a b : Int} (h : ev e x = some (.int k a)) (h1 : ev e y = some (.int k b)) (c : Bool) (hc : decide (a ≠ b) = c) : Does P (.binOp .neq t x y t') ty e w (.bool c) w := by
  subst hc; intro ρ dst pos af g hρ; simp [execOp, hρ _ _ h, hρ _ _ h1, eqGuard, binOp, Op.intCmp, bne, Bool.beq_eq_decide_eq]
theorem equal_bool {P : Program} {t : TypeId} (hu : P.underlying t = some .bool) (a b : Bool) (w : World) : (Op.equal t (.bool a) (.bool b)).run P w = .ok (a == b) w := by
  unfold Op.equal
  rw [show Op.maxDepth = 9999 + 1 from rfl, Op.equalIn]
  simp [run_underlying hu]
theorem equal_ptr0 {P : Program} {t t0 : TypeId} (hu : P.underlying t = some (.pointer t0)) (p : Option Addr) (w : World) : (Op.equal t (.pointer p) (.pointer none)).run P w = .ok p.isNone w := by
  unfold Op.equal
  rw [show Op.maxDepth = 9999 + 1 from rfl, Op.equalIn]
  cases p <;> simp [run_underlying hu]
theorem equal_nil {P : Program} {t t0 : TypeId} (hu : P.underlying t = some (.slice t0)) (A : Option Addr) (l c : Nat) (w : World) : (Op.equal t (.slice A l c) (.slice none 0 0)).run P w = .ok A.isNone w := by
  unfold Op.equal
  rw [show Op.maxDepth = 9999 + 1 from rfl, Op.equalIn]
  cases A <;> simp [run_underlying hu]
theorem does_eqB {a b : Bool} (hu : P.underlying t = some .bool) (h : ev e x = some (.bool a)) (h1 : ev e y = some (.bool b)) : Does P (.binOp .eql t x y t') ty e w (.bool (a == b)) w := by
  intro ρ dst pos af g hρ; simp [execOp, hρ _ _ h, hρ _ _ h1, eqGuard, binOp, equal_bool hu]
theorem does_neqB {a b : Bool} (hu : P.underlying t = some .bool) (h : ev e x = some (.bool a)) (h1 : ev e y = some (.bool b)) : Does P (.binOp .neq t x y t') ty e w (.bool (a != b)) w := by
  intro ρ dst pos af g hρ; simp [execOp, hρ _ _ h, hρ _ _ h1, eqGuard, binOp, equal_bool hu, bne]
theorem does_not {a : Bool} (h : ev e x = some (.bool a)) : Does P (.unOp .not t x) ty e w (.bool (!a)) w := by
  intro ρ dst pos af g hρ; simp [execOp, hρ _ _ h, Op.unary]
theorem does_eqS {a b : ByteArray} (h : ev e x = some (.string a)) (h1 : ev e y = some (.string b)) (c : Bool) (hc : (a.toList == b.toList) = c) : Does P (.binOp .eql t x y t') ty e w (.bool c) w := by
  subst hc; intro ρ dst pos af g hρ; simp [execOp, hρ _ _ h, hρ _ _ h1, eqGuard, binOp, Op.stringOp]
theorem does_neqS {a b : ByteArray} (h : ev e x = some (.string a)) (h1 : ev e y = some (.string b)) (c : Bool) (hc : (!(a.toList == b.toList)) = c) : Does P (.binOp .neq t x y t') ty e w (.bool c) w := by
  subst hc; intro ρ dst pos af g hρ; simp [execOp, hρ _ _ h, hρ _ _ h1, eqGuard, binOp, Op.stringOp]
theorem does_eqP0 {t0 : TypeId} {p : Option Addr} (hu : P.underlying t = some (.pointer t0)) (h : ev e x = some (.pointer p)) (h1 : ev e y = some (.pointer none)) : Does P (.binOp .eql t x y t') ty e w (.bool p.isNone) w := by
  intro ρ dst pos af g hρ
  simp [execOp, hρ _ _ h, hρ _ _ h1, eqGuard, binOp, equal_ptr0 hu]
theorem does_eqL0 {t0 : TypeId} {A : Option Addr} {l c : Nat} (hu : P.underlying t = some (.slice t0)) (h : ev e x = some (.slice A l c)) (h1 : ev e y = some (.slice none 0 0)) : Does P (.binOp .eql t x y t') ty e w (.bool A.isNone) w := by
  intro ρ dst pos af g hρ
  simp [execOp, hρ _ _ h, hρ _ _ h1, eqGuard, binOp, equal_nil hu]
/-! ### addresses -/
theorem add_at (b o k : Nat) : (⟨b, o, none⟩ : Addr).add k = ⟨b, o + k, none⟩ := by unfold Addr.add; split <;> simp_all
theorem does_fieldAddr {fs : Array Field} {sz : Nat} {z : Value} {by_ : Nat} {ag : Bool} [T : Ty P t (.struct fs) sz z by_ ag] {f : Field} {i : Nat} {d1 : TypeDesc} {s1 : Nat} {z1 : Value} {b1 : Nat} {a1 : Bool} {b o : Nat}
    (h : ev e x = some (.pointer (some ⟨b, o, none⟩))) (hf : fs[i]? = some f) (T1 : Ty P f.type d1 s1 z1 b1 a1) (hs : Nat.beq s1 0 = false) : Does P (.fieldAddr t x i) ty e w (.pointer (some ⟨b, o + f.offset, none⟩)) w := by
  intro ρ dst pos af g hρ
  have h0 : s1 ≠ 0 := fun hh => by subst hh; simp at hs
  simp [execOp, hρ _ _ h, Instr.fieldAt, run_underlying T.und, hf, Instr.sureAddr, fieldPlace, T1.size, h0, add_at]
theorem does_field {i off : Nat} [F : Fld P t i off] {b o : Nat} (h : ev e x = some (.pointer (some ⟨b, o, none⟩))) : Does P (.fieldAddr t x i) ty e w (.pointer (some ⟨b, o + off, none⟩)) w := by
  intro ρ dst pos af g hρ
  obtain ⟨fs, f, s, h1, h2, rfl, h3, h4⟩ := F.place
  simp [execOp, hρ _ _ h, Instr.fieldAt, run_underlying h1, h2, Instr.sureAddr, fieldPlace, h3, h4, add_at]
theorem does_fieldP {i off : Nat} [F : Fld P t i off] {p : Addr} (h : ev e x = some (.pointer (some p))) : Does P (.fieldAddr t x i) ty e w (.pointer (some (p.add off))) w := by
  intro ρ dst pos af g hρ
  obtain ⟨fs, f, s, h1, h2, rfl, h3, h4⟩ := F.place
  simp [execOp, hρ _ _ h, Instr.fieldAt, run_underlying h1, h2, Instr.sureAddr, fieldPlace, h3, h4]
theorem does_indexP {t0 : TypeId} {sz : Nat} {z : Value} {by_ : Nat} {ag : Bool} (hu : P.underlying t = some (.slice t0)) {d0 : TypeDesc} [T : Ty P t0 d0 sz z by_ ag] {p : Addr} {n c : Nat} {i : Int} {k : IntKind}
    (h : ev e x = some (.slice (some p) n c)) (h1 : ev e y = some (.int k i)) (h0 : 0 ≤ i) (h2 : i < n) : Does P (.indexAddr t x y) ty e w (.pointer (some (p.add (i.toNat * sz)))) w := by
  intro ρ dst pos af g hρ
  simp [execOp, hρ _ _ h, hρ _ _ h1, Instr.indexAt, asIntOf, run_underlying hu, h0, h2, T.size]
theorem does_indexAddr {t0 : TypeId} {sz : Nat} {z : Value} {by_ : Nat} {ag : Bool} (hu : P.underlying t = some (.slice t0)) {d0 : TypeDesc} [T : Ty P t0 d0 sz z by_ ag] {b o n c : Nat} {i : Int} {k : IntKind}
    (h : ev e x = some (.slice (some ⟨b, o, none⟩) n c)) (h1 : ev e y = some (.int k i)) (h0 : 0 ≤ i) (h2 : i < n) : Does P (.indexAddr t x y) ty e w (.pointer (some ⟨b, o + i.toNat * sz, none⟩)) w := by
  intro ρ dst pos af g hρ
  simp [execOp, hρ _ _ h, hρ _ _ h1, Instr.indexAt, asIntOf, run_underlying hu, h0, h2, T.size, add_at]
end
end SC
end Go.Proofs.Ytkndegjodnciaaa
