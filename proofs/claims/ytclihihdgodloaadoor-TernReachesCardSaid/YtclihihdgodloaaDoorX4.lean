/- Texts of this seat, one behind the other: T3 T4 T5 T6 T7 T8 O9 T9 T2 T10 T11 T12 T13 T14 T15 N16 T16 O1 O2 O3 O4 O5 O6 O7 O8 O10 O11 O12 O13 O15 O18 T17. -/
import Derived.Test.YtclihihdgodloaaDoorX3
import Derived.Laws.CopyRow
import Derived.Test.YtclihihdgodloaaDoorRows
import Derived.Test.YtclihihdgodloaaDoorTie
import Derived.ProofKit
import Derived.LaidMore
import Derived.OpenShut
import Derived.Stop.Joined
import Derived.Shelf.Spec.SlicesGrow
section
/- math/bits.Mul64, Mul; copy; slices.Repeat at numbers. -/
set_option linter.unusedVariables false
set_option linter.unusedSimpArgs false
namespace Go.Proofs.YtclihihdgodloaaDoor
namespace SC
open Go.Proofs
section
variable {P : Program} {n : Nat} {all : List Oper} {K : Env → Mm → Prop} {m : Md} {e : Env} {Γ Γ' : Mm} {d : Option Tmp} {ty t t' t0 : TypeId} {x y : Operand}
theorem p_uintX {a : Int} (h : ev e x = some (nu a)) : Pure Tryd.prog (.convert 3 55 x) ty e (.int .u64 (a % 18446744073709551616)) := by
  unfold Pure Does
  intro w ρ dst pos af g hρ
  have hw : IntKind.u64.wrap a = a % 18446744073709551616 := by rw [IntKind.wrap_u64]
  simp [execOp, hρ _ _ h, convert, Conv.intToInt, run_underlying Tryd.underlying3, run_underlying Tryd.underlying55, hw]
theorem G_uintX {a : Int} (h : ev e x = some (nu a)) (h0 : 0 ≤ a) (h1 : a ≤ 9223372036854775807) (hr : GN Tryd.prog n all K m (push d (.int .u64 a) e) Γ) : GX Tryd.prog n all K m d (.convert 3 55 x) ty e Γ :=
  GX_pure (p_uintX h) (by rw [Int.emod_eq_of_lt h0 (by omega)]; exact hr)
theorem p_ofuX {a : Int} (h : ev e x = some (.int .u64 a)) (h0 : 0 ≤ a) (h1 : a ≤ 9223372036854775807) : Pure Tryd.prog (.convert 55 3 x) ty e (nu a) := by
  unfold Pure Does
  intro w ρ dst pos af g hρ
  have hw : IntKind.i64.wrap a = a := by rw [IntKind.wrap_i64]; omega
  simp [execOp, hρ _ _ h, convert, Conv.intToInt, run_underlying Tryd.underlying3, run_underlying Tryd.underlying55, hw]
theorem G_ofuX {a : Int} (h : ev e x = some (.int .u64 a)) (h0 : 0 ≤ a) (h1 : a ≤ 9223372036854775807) (hr : GN Tryd.prog n all K m (push d (nu a) e) Γ) : GX Tryd.prog n all K m d (.convert 55 3 x) ty e Γ := GX_pure (p_ofuX h h0 h1) hr
theorem p_shrX {a : Int} (h : ev e x = some (.int .u64 a)) (h1 : ev e y = some (.int .u64 32)) (h2 : 0 ≤ a) (h3 : a < 4294967296) : Pure P (.binOp .shr t x y t') ty e (.int .u64 0) := by
  intro w ρ dst pos af g hρ
  have h5 : a.fdiv (2 ^ (min (32 : Int).toNat IntKind.u64.bits)) = 0 := by
    have e : (2 : Int) ^ (min (32 : Int).toNat IntKind.u64.bits) = 4294967296 := by decide
    rw [e, Int.fdiv_eq_ediv_of_nonneg _ (by decide)]
    omega
  simp [execOp, hρ _ _ h, hρ _ _ h1, eqGuard, binOp, Op.shift]
  exact h5
theorem p_andX {a : Int} (h : ev e x = some (.int .u64 a)) (h1 : ev e y = some (.int .u64 4294967295)) (h2 : 0 ≤ a) (h3 : a < 4294967296) : Pure P (.binOp .and t x y t') ty e (.int .u64 a) := by
  intro w ρ dst pos af g hρ
  have h5 : IntKind.u64.wrap (BitVec.ofInt IntKind.u64.bits a &&& BitVec.ofInt IntKind.u64.bits 4294967295).toNat = a := by
    obtain ⟨k, rfl⟩ : ∃ k : Nat, a = (k : Int) := ⟨a.toNat, by omega⟩
    have e1 : (BitVec.ofInt IntKind.u64.bits (k : Int) &&& BitVec.ofInt IntKind.u64.bits 4294967295).toNat = k := by
      rw [BitVec.toNat_and]
      have e2 : (BitVec.ofInt IntKind.u64.bits (k : Int)).toNat = k := by
        show (BitVec.ofInt 64 (k : Int)).toNat = k
        rw [BitVec.toNat_ofInt]
        omega
      have e3 : (BitVec.ofInt IntKind.u64.bits 4294967295).toNat = 2 ^ 32 - 1 := by decide
      rw [e2, e3, Nat.and_two_pow_sub_one_eq_mod]
      omega
    rw [e1, IntKind.wrap_u64]
    omega
  simp [execOp, hρ _ _ h, hρ _ _ h1, eqGuard, binOp, Op.intBits]
  exact h5
theorem p_mulX {a b : Int} (h : ev e x = some (.int .u64 a)) (h1 : ev e y = some (.int .u64 b)) (h2 : 0 ≤ a * b) (h3 : a * b < 18446744073709551616) : Pure P (.binOp .mul t x y t') ty e (.int .u64 (a * b)) := by
  intro w ρ dst pos af g hρ
  have h5 : IntKind.u64.wrap (a * b) = a * b := by rw [IntKind.wrap_u64, Int.emod_eq_of_lt h2 h3]
  simp [execOp, hρ _ _ h, hρ _ _ h1, eqGuard, binOp, Op.intArith, h5]
theorem p_addX {a b : Int} (h : ev e x = some (.int .u64 a)) (h1 : ev e y = some (.int .u64 b)) (h2 : 0 ≤ a + b) (h3 : a + b < 18446744073709551616) : Pure P (.binOp .add t x y t') ty e (.int .u64 (a + b)) := by
  intro w ρ dst pos af g hρ
  have h5 : IntKind.u64.wrap (a + b) = a + b := by rw [IntKind.wrap_u64, Int.emod_eq_of_lt h2 h3]
  simp [execOp, hρ _ _ h, hρ _ _ h1, eqGuard, binOp, Op.intArith, h5]
theorem G_shrX {a : Int} (h : ev e x = some (.int .u64 a)) (h1 : ev e y = some (.int .u64 32)) (h2 : 0 ≤ a) (h3 : a < 4294967296) (hr : GN P n all K m (push d (.int .u64 0) e) Γ) : GX P n all K m d (.binOp .shr t x y t') ty e Γ := GX_pure (p_shrX h h1 h2 h3) hr
theorem G_andX {a : Int} (h : ev e x = some (.int .u64 a)) (h1 : ev e y = some (.int .u64 4294967295)) (h2 : 0 ≤ a) (h3 : a < 4294967296) (hr : GN P n all K m (push d (.int .u64 a) e) Γ) : GX P n all K m d (.binOp .and t x y t') ty e Γ := GX_pure (p_andX h h1 h2 h3) hr
theorem G_mulX {a b : Int} (h : ev e x = some (.int .u64 a)) (h1 : ev e y = some (.int .u64 b)) (h2 : 0 ≤ a * b) (h3 : a * b < 18446744073709551616) (hr : GN P n all K m (push d (.int .u64 (a * b)) e) Γ) : GX P n all K m d (.binOp .mul t x y t') ty e Γ := GX_pure (p_mulX h h1 h2 h3) hr
theorem G_addX {a b : Int} (h : ev e x = some (.int .u64 a)) (h1 : ev e y = some (.int .u64 b)) (h2 : 0 ≤ a + b) (h3 : a + b < 18446744073709551616) (hr : GN P n all K m (push d (.int .u64 (a + b)) e) Γ) : GX P n all K m d (.binOp .add t x y t') ty e Γ := GX_pure (p_addX h h1 h2 h3) hr
/-! ### copy -/
theorem does_copy {td : TypeDesc} {zv : Value} {by_ : Nat} {ag : Bool} {w : World} {tt : TypeId} {b o dl dc sl sc : Nat} {a : Addr} {cur : Array Value} {cs : List Value} (hu : P.underlying t = some (.slice t0)) (T : Ty P t0 td 1 zv by_ ag) (h : ev e x = some (.slice (some ⟨b, o, none⟩) dl dc)) (h1 : ev e y = some (.slice (some a) sl sc)) (hg : w.heap[b]? = some (.cells cur tt (0, 0))) (hn : cs.length = Nat.min sl dl)
    (hsrc : ∀ j v, cs[j]? = some v → w.cell? (a.add j) = some v) (hfit : o + cs.length ≤ cur.size) (ho : ∀ v ∈ cs, v.oneCell' = true) :
    Does P (.call { callee := .builtin .copy, args := #[x, y], argTypes := #[t, t'] }) ty e w (.int .i64 (cs.length : Int)) (w.setRow b (cur.toList.take o ++ cs ++ cur.toList.drop (o + cs.length)).toArray) := by
  intro ρ dst pos af g hρ
  have hs : (P.info? t0).map (·.size) = some 1 := by
    have := T.info
    cases hq : P.info? t0 with
    | none => rw [hq] at this; cases this
    | some i =>
      rw [hq] at this
      simp only [Option.map_some, Option.some.injEq, Prod.mk.injEq] at this
      rw [Option.map_some, this.2.1]
  have hrun := run_copy_row P w t t' ty t0 b o dl dc a sl sc cur tt cs hu hs hg hn hsrc hfit ho
  simp [execOp, resolve, hρ _ _ h, hρ _ _ h1, invoke, builtin, hrun, goInt]
theorem flat_nu (l : List Int) : l.flatMap icell = l.map fun i => nu i := by
  induction l with
  | nil => rfl
  | cons a l ih => rw [List.flatMap_cons, List.map_cons, ih]; rfl
theorem vec_copy {w : World} {tt : TypeId} {b c o : Nat} {l xs : List Int} (h : w.ownsRow 0 tt 1 (.slice (some ⟨b, 0, none⟩) l.length c) l.length (l.flatMap icell)) (hf : o + xs.length ≤ l.length) :
    ∃ cur : Array Value, w.heap[b]? = some (.cells cur tt (0, 0)) ∧ o + xs.length ≤ cur.size ∧ (w.setRow b (cur.toList.take o ++ (xs.map fun i => nu i) ++ cur.toList.drop (o + xs.length)).toArray).ownsRow 0 tt 1 (.slice (some ⟨b, 0, none⟩) l.length c) l.length ((l.take o ++ xs ++ l.drop (o + xs.length)).flatMap icell) := by
  rcases h.2 with ⟨hv, hn⟩ | ⟨g, cap, cur, hv, h0, hcur, hcap, hm, hs, ht⟩
  · cases hv
  · cases hv
    rw [flat_nu, Nat.mul_one] at ht
    have hcl : cur.toList = (l.map fun i => nu i) ++ cur.toList.drop l.length := by rw [← ht, List.take_append_drop]
    have hlen : cur.toList.length = cur.size := Array.length_toList
    generalize cur.toList.drop l.length = rest at hcl
    have e1 : cur.toList.take o ++ (xs.map fun i => nu i) ++ cur.toList.drop (o + xs.length) = ((l.take o ++ xs ++ l.drop (o + xs.length)).map fun i => nu i) ++ rest := by
      rw [hcl, List.take_append_of_le_length (by rw [List.length_map]; omega), List.drop_append_of_le_length (by rw [List.length_map]; omega)]
      simp only [List.map_append, List.map_take, List.map_drop, List.append_assoc]
    have e2 : (l.take o ++ xs ++ l.drop (o + xs.length)).length = l.length := by simp; omega
    refine ⟨cur, hcur, by omega, by rw [flat_nu, List.length_map, e2, Nat.mul_one], .inr ⟨b, c, _, rfl, Nat.zero_le _, setRow_heap w b cur _ tt (0, 0) hcur, hcap, hm, ?_, ?_⟩⟩
    · rw [e1, List.size_toArray, List.length_append, List.length_map, e2, ← hs, ← hlen, hcl, List.length_append, List.length_map]
    · rw [flat_nu, e1, List.toList_toArray, Nat.mul_one, List.take_append_of_le_length (by rw [List.length_map, e2]; exact Nat.le_refl _), List.take_of_length_le (by rw [List.length_map, e2]; exact Nat.le_refl _)]
theorem G_copyI {td : TypeDesc} {zv zv1 : Value} {by_ by1 sz1 : Nat} {ag ag1 : Bool} {b c o dl dc sl sc : Nat} {l xs : List Int} {A : Addr} [U : Ty P t (.slice t0) sz1 zv1 by1 ag1] [T : Ty P t0 td 1 zv by_ ag] (hm : wrOk all m = true) (h : ev e x = some (.slice (some ⟨b, o, none⟩) dl dc)) (h1 : ev e y = some (.slice (some A) sl sc))
    (hU : Upd Γ (.vec icell 1 t0 (some ⟨b, 0, none⟩) c l) (.vec icell 1 t0 (some ⟨b, 0, none⟩) c (l.take o ++ xs ++ l.drop (o + xs.length))) Γ') (hn : xs.length = Nat.min sl dl) (hsrc : Rd Γ icell 1 (some A) xs) (hf : o + xs.length ≤ l.length)
    (hr : GN P n all K m (push d (nu xs.length) e) Γ') : GX P n all K m d (.call { callee := .builtin .copy, args := #[x, y], argTypes := #[t, t'] }) ty e Γ :=
  GX_acts (R := fun v Γ1 => v = nu xs.length ∧ Γ1 = Γ') hm (fun Δ w M => by
    have hb : (Ent.vec icell 1 t0 (some ⟨b, 0, none⟩) c l).ok w := by obtain ⟨R, p, _⟩ := hU.perm; exact M.right.ok _ (p.mem_iff.2 (by simp))
    obtain ⟨cur, hcur, hfit, hown⟩ := vec_copy (xs := xs) hb hf
    have hs := hsrc w M.right
    have hd := does_copy (t' := t') (ty := ty) U.und T h h1 hcur (cs := xs.map fun i => nu i) (by rw [List.length_map]; exact hn) (fun j v hj => by
      rw [List.getElem?_map] at hj
      rcases hg : xs[j]? with _ | z
      · rw [hg] at hj; cases hj
      · rw [hg] at hj
        have hj2 := (List.getElem?_eq_some_iff.1 hg)
        obtain ⟨hlt, he⟩ := hj2
        have := hs.at (i := (j : Int)) (j := 0) (by omega) (by omega) (u := v) (by rw [gt_nat hlt, he]; simpa [icell] using hj)
        rw [add_zero] at this
        simpa [At] using this) (by rw [List.length_map]; exact hfit) (fun v hv => by
      obtain ⟨z, _, rfl⟩ := List.mem_map.1 hv
      rfl)
    rw [List.length_map] at hd
    refine .inl ⟨_, _, hd, Γ', ?_, rfl, rfl⟩
    have hown' : (Ent.vec icell 1 t0 (some ⟨b, 0, none⟩) c (l.take o ++ xs ++ l.drop (o + xs.length))).ok (w.setRow b (cur.toList.take o ++ (xs.map fun i => nu i) ++ cur.toList.drop (o + xs.length)).toArray) := by
      show World.ownsRow _ _ _ _ _ _ _
      rw [show (l.take o ++ xs ++ l.drop (o + xs.length)).length = l.length by simp; omega]
      exact hown
    exact Mem.upd hU M (Chg.setRow w b _ (S := fun k => k = b) rfl) (fun k _ h => by subst h; rfl) hown' fun k hk => .inl hk) fun v Γ1 ⟨e1, e2⟩ => by rw [e1, e2]; exact hr
theorem G_copyIP {j : Nat} {A' : List Fl} {Θ Θ' : Mm} {r : List PStep} {td : TypeDesc} {zv zv1 : Value} {by_ by1 sz1 : Nat} {ag ag1 : Bool} {b c o dl dc sl sc : Nat} {l xs : List Int} {A : Addr} [U : Ty P t (.slice t0) sz1 zv1 by1 ag1] [T : Ty P t0 td 1 zv by_ ag] (h : ev e x = some (.slice (some ⟨b, o, none⟩) dl dc)) (h1 : ev e y = some (.slice (some A) sl sc))
    (hU : Upd Θ (.vec icell 1 t0 (some ⟨b, 0, none⟩) c l) (.vec icell 1 t0 (some ⟨b, 0, none⟩) c (l.take o ++ xs ++ l.drop (o + xs.length))) Θ') (hn : xs.length = Nat.min sl dl) (hsrc : Rd Θ icell 1 (some A) xs) (hf : o + xs.length ≤ l.length)
    (hr : GS P n all K A' Θ' r (push d (nu xs.length) e) Γ) : GX P n all K (.c j A' Θ r) d (.call { callee := .builtin .copy, args := #[x, y], argTypes := #[t, t'] }) ty e Γ := fun pos af g ho hg hd hA =>
  GS_priv (R := fun v Θ1 N => v = nu xs.length ∧ Θ1 = Θ' ∧ N = []) ho hg hd hA (fun Δ w M => by
    have hU' := hU.left (Γ := Γ)
    have hb : (Ent.vec icell 1 t0 (some ⟨b, 0, none⟩) c l).ok w := by obtain ⟨R, p, _⟩ := hU'.perm; exact M.right.ok _ (p.mem_iff.2 (by simp))
    obtain ⟨cur, hcur, hfit, hown⟩ := vec_copy (xs := xs) hb hf
    have hs := hsrc w M.right.left
    have hd := does_copy (t' := t') (ty := ty) U.und T h h1 hcur (cs := xs.map fun i => nu i) (by rw [List.length_map]; exact hn) (fun j v hj => by
      rw [List.getElem?_map] at hj
      rcases hg : xs[j]? with _ | z
      · rw [hg] at hj; cases hj
      · rw [hg] at hj
        have hj2 := (List.getElem?_eq_some_iff.1 hg)
        obtain ⟨hlt, he⟩ := hj2
        have := hs.at (i := (j : Int)) (j := 0) (by omega) (by omega) (u := v) (by rw [gt_nat hlt, he]; simpa [icell] using hj)
        rw [add_zero] at this
        simpa [At] using this) (by rw [List.length_map]; exact hfit) (fun v hv => by
      obtain ⟨z, _, rfl⟩ := List.mem_map.1 hv
      rfl)
    rw [List.length_map] at hd
    refine .inl ⟨_, _, hd, Θ', [], ?_, rfl, rfl, rfl⟩
    have hown' : (Ent.vec icell 1 t0 (some ⟨b, 0, none⟩) c (l.take o ++ xs ++ l.drop (o + xs.length))).ok (w.setRow b (cur.toList.take o ++ (xs.map fun i => nu i) ++ cur.toList.drop (o + xs.length)).toArray) := by
      show World.ownsRow _ _ _ _ _ _ _
      rw [show (l.take o ++ xs ++ l.drop (o + xs.length)).length = l.length by simp; omega]
      exact hown
    exact Mem.upd hU' M (Chg.setRow w b _ (S := fun k => k = b) rfl) (fun k _ h => by subst h; rfl) hown' fun k hk => .inl hk) fun v Θ1 N ⟨e1, e2, e3⟩ => by rw [e1, e2, e3]; exact hr
theorem G_slF {td : TypeDesc} {zv zv1 : Value} {by_ by1 sz1 : Nat} {ag ag1 : Bool} [U : Ty P t (.slice t0) sz1 zv1 by1 ag1] [T : Ty P t0 td 1 zv by_ ag] {b k c i : Nat} {ik : IntKind} (h : ev e x = some (.slice (some ⟨b, 0, none⟩) k c)) (h1 : ev e y = some (.int ik (i : Int))) (h0 : i < k) (h2 : k ≤ c)
    (hr : GN P n all K m (push d (.slice (some ⟨b, i, none⟩) (k - i) (c - i)) e) Γ) : GX P n all K m d (.slice t x (some y) none none) ty e Γ :=
  GX_pure (p_sliceFrom U.und T h h1 h0 h2) (by
    have e : (some (⟨b, 0, none⟩ : Addr)).map (·.add (i * 1)) = some ⟨b, i, none⟩ := by rw [Option.map_some, add_at, Nat.mul_one, Nat.zero_add]
    rw [e]
    exact hr)
theorem G_slT {td : TypeDesc} {zv zv1 : Value} {by_ by1 sz1 : Nat} {sz : Nat} {ag ag1 : Bool} [U : Ty P t (.slice t0) sz1 zv1 by1 ag1] [T : Ty P t0 td sz zv by_ ag] {A : Option Addr} {k c i : Nat} {ik : IntKind} (h : ev e x = some (.slice A k c)) (h1 : ev e y = some (.int ik (i : Int))) (h2 : i ≤ c)
    (hr : GN P n all K m (push d (.slice A i c) e) Γ) : GX P n all K m d (.slice t x none (some y) none) ty e Γ :=
  GX_pure (p_sliceTo U.und T h h1 (by omega) (by omega)) hr
end
theorem RowA.pre {w : World} {A : Option Addr} {xs ys : List Int} (h : RowA w icell 1 A (xs ++ ys)) : RowA w icell 1 A xs := fun k hk => by
  obtain ⟨p, hp, he⟩ := h k (by rw [List.length_append]; omega)
  refine ⟨p, hp, fun j u hj => he j u ?_⟩
  rwa [List.getElem_append_left hk]
theorem Rd.pre {Γ : Mm} {t : TypeId} {A : Option Addr} {c : Nat} {l xs ys : List Int} (hi : In Γ (.vec icell 1 t A c l)) (e : l = xs ++ ys) : Rd Γ icell 1 A xs := fun w M => RowA.pre (ys := ys) (by rw [← e]; exact hi.row M)
theorem Rd.emp {Γ : Mm} {A : Option Addr} : Rd Γ icell 1 A [] := fun w _ => RowA.emp
attribute [local irreducible] WC WL WX WS WO OX Does DoesU Enters CV Pure thenQ blockQ retQ Wants retQC GC GL GS GX RdB thenG blockG retG Rd At gt CVN CVM
set_option maxRecDepth 100000
theorem Mul64_cv {w : World} {k : Int} (h0 : 0 ≤ k) (h1 : k < 4294967296) : CVN Tryd.prog 95 [.int .u64 1, .int .u64 k] w fun v N => N = [] ∧ ∃ hi lo : Int, v = .tuple #[.int .u64 hi, .int .u64 lo] ∧ hi = 0 ∧ lo = k := by
  refine CVN.enter 51 [4, 5] Tryd.func95 rfl rfl rfl (by decide) rfl ?_
  repeat' (first
|(apply G_shrX;eq_refl;eq_refl;omega;omega)
|(apply G_andX;eq_refl;eq_refl;omega;omega)
|(apply G_mulX;eq_refl;eq_refl;omega;omega)
|(apply G_addX;eq_refl;eq_refl;omega;omega)
|(apply GC_seqK;intro K hK)
|(apply hK;clear hK K)
|(apply GC_region)
|(apply GL_nil)
|(apply thenG_normal)
|(apply GC_ret)
|(apply retG2;eq_refl;eq_refl)
|(apply GL_on;eq_refl;eq_refl)
|(apply G_pv;eq_refl;first|exact trivial|omega))
  exact ⟨[], (by repeat first | exact Wk.nil | exact Wk.refl | (apply Wk.cons; (focus ((repeat first | exact Rem.here | apply Rem.there | apply Rem.skip); done))) | apply Wk.nilv | apply Wk.last | apply Wk.drop), rfl, _, _, rfl, by omega, by omega⟩
theorem Mul_cv {w : World} {k : Int} (h0 : 0 ≤ k) (h1 : k < 4294967296) : CVN Tryd.prog 76 [.int .u64 1, .int .u64 k] w fun v N => N = [] ∧ v = .tuple #[.int .u64 0, .int .u64 k] := by
  have hm : ∀ w', CVN Tryd.prog 95 [.int .u64 1, .int .u64 k] w' _ := fun w' => Mul64_cv h0 h1
  refine CVN.enter 30 [4, 5] Tryd.func76 rfl rfl rfl (by decide) rfl ?_
  repeat' (first
|(apply G_call;eq_refl;eq_refl;(exact fun w' _ => hm w');rintro _ _ ⟨rfl, hi, lo, rfl, rfl, rfl⟩)
|(apply GC_seqK;intro K hK)
|(apply hK;clear hK K)
|(apply GC_region)
|(apply GL_nil)
|(apply thenG_normal)
|(apply GC_ret)
|(apply GC_skip)
|(apply GC_if_false;eq_refl)
|(apply retG2;eq_refl;eq_refl)
|(apply GL_on;eq_refl;eq_refl)
|(apply G_pv;eq_refl;first|exact trivial|omega))
  exact ⟨[], (by repeat first | exact Wk.nil | exact Wk.refl | (apply Wk.cons; (focus ((repeat first | exact Rem.here | apply Rem.there | apply Rem.skip); done))) | apply Wk.nilv | apply Wk.last | apply Wk.drop), rfl, rfl⟩
theorem rep_copy {v : Int} {q p : Nat} (h : p ≤ q) : (List.replicate p v ++ List.replicate (q - p) 0).take p ++ List.replicate (min p (q - p)) v ++ (List.replicate p v ++ List.replicate (q - p) (0 : Int)).drop (p + (List.replicate (min p (q - p)) v).length) = List.replicate (p + min p (q - p)) v ++ List.replicate (q - (p + min p (q - p))) 0 := by
  rw [List.take_append_of_le_length (by rw [List.length_replicate]; exact Nat.le_refl _), List.take_of_length_le (by rw [List.length_replicate]; exact Nat.le_refl _), List.length_replicate]
  rw [List.drop_append, List.length_replicate, List.drop_eq_nil_of_le (by rw [List.length_replicate]; omega), List.nil_append, List.drop_replicate, List.replicate_append_replicate]
  congr 2
  omega
set_option maxHeartbeats 800000 in
theorem Repeat_cv {w : World} {A : Addr} {k : Nat} {v : Int} {q : Nat} (hA : RowA w icell 1 (some A) [v]) (h1 : q ≤ 1000000) : CVN Tryd.prog 49 [.slice (some A) 1 k, nu q] w fun r N => ∃ b, r = .slice (some ⟨b, 0, none⟩) (List.replicate q v).length q ∧ N = [.vec icell 1 3 (some ⟨b, 0, none⟩) q (List.replicate q v)] := by
  have hm : ∀ w', CVN Tryd.prog 76 [.int .u64 1, .int .u64 (q : Int)] w' _ := fun w' => Mul_cv (by omega) (by omega)
  refine CVN.enter 48 [4] Tryd.func49 rfl rfl rfl (by decide) rfl ?_
  rcases q with _ | q
  · repeat' (first
|(apply G_uintX;eq_refl;omega;omega)
|(apply G_ofuX;eq_refl;omega;omega)
|(apply G_call;eq_refl;eq_refl;(exact fun w' _ => hm w');rintro _ _ ⟨rfl, rfl⟩)
|(apply G_makeI icell;eq_refl;eq_refl;omega;eq_refl;omega;decide;intro b)
|(apply G_copyI (xs := []);(first|exact wr_p|kernel_rfl);eq_refl;eq_refl;(repeat first|exact Upd.here|apply Upd.there|apply Upd.skip);decide;(exact Rd.emp);exact Nat.zero_le _)
|(apply GC_seqK;intro K hK)
|(apply hK;clear hK K)
|(apply GC_block)
|(apply GC_region)
|(apply GL_nil)
|(apply thenG_normal)
|(apply GC_skip)
|(apply GC_if_false;eq_refl)
|(apply GL_on;eq_refl;eq_refl)
|(apply G_pv;eq_refl;first|exact trivial|omega)
|(apply G_cmpF;eq_refl;eq_refl;omega)
|(apply G_len;eq_refl))
    refine GC_loopK [7] (fun p : Nat => [(8, nu p)]) (fun p => [.vec icell 1 3 (some ⟨b, 0, none⟩) 0 [], .old w none_]) (fun p => p = 0) (fun p => p) 0 (by repeat first | exact Pick.nil | (apply Pick.cons; eq_refl)) (by repeat first | exact trivial | refine ⟨rfl, ?_⟩) (by repeat first | exact Wk.nil | exact Wk.refl | (apply Wk.cons; (focus ((repeat first | exact Rem.here | apply Rem.there | apply Rem.skip); done))) | apply Wk.nilv | apply Wk.last | apply Wk.drop) rfl ?_
    rintro p rfl
    repeat' (first
|(apply GC_seqK;intro K hK)
|(apply hK;clear hK K)
|(clear hK K;apply hK;clear hK K)
|(apply GC_region)
|(apply GL_nil)
|(apply thenG_normal)
|(apply thenG_exit)
|(apply blockG_hit)
|(apply GC_ret)
|(apply GC_exit)
|(apply GC_if_false;eq_refl)
|(apply retG1;eq_refl)
|(apply GL_on;eq_refl;eq_refl)
|(apply G_pv;eq_refl;first|exact trivial|omega)
|(apply G_cmpF;eq_refl;eq_refl;omega)
|(apply G_len;eq_refl))
    exact ⟨[.vec icell 1 3 (some ⟨b, 0, none⟩) 0 []], (by repeat first | exact Wk.nil | exact Wk.refl | (apply Wk.cons; (focus ((repeat first | exact Rem.here | apply Rem.there | apply Rem.skip); done))) | apply Wk.nilv | apply Wk.last | apply Wk.drop), b, rfl, rfl⟩
  · repeat' (first
|(apply G_uintX;eq_refl;omega;omega)
|(apply G_ofuX;eq_refl;omega;omega)
|(apply G_call;eq_refl;eq_refl;(exact fun w' _ => hm w');rintro _ _ ⟨rfl, rfl⟩)
|(apply G_makeI icell;eq_refl;eq_refl;omega;eq_refl;omega;decide;intro b)
|(apply G_copyI (xs := [v]);(first|exact wr_p|kernel_rfl);eq_refl;eq_refl;(repeat first|exact Upd.here|apply Upd.there|apply Upd.skip);(exact (Nat.min_eq_left (Nat.le_add_left 1 q)).symm);(apply Rd.old;(repeat first|exact In.here|apply In.there|apply In.skip);exact hA);(rw [List.length_replicate];exact Nat.le_add_left 1 q))
|(apply GC_seqK;intro K hK)
|(apply hK;clear hK K)
|(apply GC_block)
|(apply GC_region)
|(apply GL_nil)
|(apply thenG_normal)
|(apply GC_skip)
|(apply GC_if_false;eq_refl)
|(apply GL_on;eq_refl;eq_refl)
|(apply G_pv;eq_refl;first|exact trivial|omega)
|(apply G_cmpF;eq_refl;eq_refl;omega)
|(apply G_len;eq_refl))
    refine GC_loopK [7] (fun p : Nat => [(8, nu p)]) (fun p => [.vec icell 1 3 (some ⟨b, 0, none⟩) (q + 1) (List.replicate p v ++ List.replicate (q + 1 - p) 0), .old w none_]) (fun p => 1 ≤ p ∧ p ≤ q + 1) (fun p => q + 1 - p) 1 (by repeat first | exact Pick.nil | (apply Pick.cons; eq_refl)) (by repeat first | exact trivial | refine ⟨rfl, ?_⟩) (by repeat first | exact Wk.nil | exact Wk.refl | (apply Wk.cons; (focus ((repeat first | exact Rem.here | apply Rem.there | apply Rem.skip); done))) | apply Wk.nilv | apply Wk.last | apply Wk.drop) ⟨Nat.le_refl _, by omega⟩ ?_
    rintro p ⟨p1, p2⟩
    rcases Nat.lt_or_ge p (q + 1) with hlt | hge
    · have e9 := rep_copy (v := v) (q := q + 1) (p := p) (by omega)
      have hlen : (List.replicate (min p (q + 1 - p)) v).length = min p (q + 1 - p) := List.length_replicate
      have hx : List.replicate p v ++ List.replicate (q + 1 - p) 0 = List.replicate (min p (q + 1 - p)) v ++ (List.replicate (p - min p (q + 1 - p)) v ++ List.replicate (q + 1 - p) 0) := by rw [← List.append_assoc, List.replicate_append_replicate, show min p (q + 1 - p) + (p - min p (q + 1 - p)) = p by omega]
      repeat' (first
|(apply GC_drawsP (id := 9) (C := [.vec icell 1 3 (some ⟨b, 0, none⟩) (q + 1) (List.replicate p v ++ List.replicate (q + 1 - p) 0)]) [.q 0, .q 1, .q 2, .q 3, .q 4, .q 5, .q 6, .c 7, .q 8, .q 9];exact mixed;kernel_rfl;kernel_rfl;(repeat first|exact Rems.nil|(apply Rems.cons;(focus ((repeat first|exact Rem.here|apply Rem.there|apply Rem.skip);done)))))
|(apply GS_nilP)
|(apply G_copyIP (xs := List.replicate (min p (q + 1 - p)) v);eq_refl;eq_refl;(repeat first|exact Upd.here|apply Upd.there|apply Upd.skip);(rw [List.length_replicate];rfl);(apply Rd.pre;(repeat first|exact In.here|apply In.there|apply In.skip);exact hx);(simp only [List.length_replicate, List.length_append];omega))
|(apply G_slF;eq_refl;eq_refl;(show p < q + 1;omega);exact Nat.le_refl _)
|(apply G_slT;eq_refl;eq_refl;(show p ≤ q + 1;omega))
|(apply GC_seqK;intro K hK)
|(apply hK;clear hK K)
|(apply GC_block)
|(apply GC_region)
|(apply GL_nil)
|(apply thenG_normal)
|(apply blockG_normal)
|(apply GC_skip)
|(apply GC_if_true;eq_refl)
|(apply GL_on;eq_refl;eq_refl)
|(apply GS_qon;eq_refl;eq_refl;eq_refl;eq_refl)
|(apply GS_con;eq_refl;eq_refl;eq_refl;eq_refl)
|(apply G_pv;eq_refl;first|exact trivial|omega)
|(apply G_cmpT;eq_refl;eq_refl;omega)
|(apply G_len;eq_refl))
      rw [e9, hlen]
      exact ⟨p + min p (q + 1 - p), (by repeat first | exact trivial | refine ⟨rfl, ?_⟩), (by repeat first | exact Wk.nil | exact Wk.refl | (apply Wk.cons; (focus ((repeat first | exact Rem.here | apply Rem.there | apply Rem.skip); done))) | apply Wk.nilv | apply Wk.last | apply Wk.drop), by omega, by omega⟩
    · obtain rfl : p = q + 1 := by omega
      rw [Nat.sub_self, List.replicate_zero, List.append_nil]
      repeat' (first
|(apply GC_seqK;intro K hK)
|(apply hK;clear hK K)
|(clear hK K;apply hK;clear hK K)
|(apply GC_region)
|(apply GL_nil)
|(apply thenG_normal)
|(apply thenG_exit)
|(apply blockG_hit)
|(apply GC_ret)
|(apply GC_exit)
|(apply GC_if_false;eq_refl)
|(apply retG1;eq_refl)
|(apply GL_on;eq_refl;eq_refl)
|(apply G_pv;eq_refl;first|exact trivial|omega)
|(apply G_cmpF;eq_refl;eq_refl;omega)
|(apply G_len;eq_refl))
      refine ⟨[.vec icell 1 3 (some ⟨b, 0, none⟩) (q + 1) (List.replicate (q + 1) v)], (by repeat first | exact Wk.nil | exact Wk.refl | (apply Wk.cons; (focus ((repeat first | exact Rem.here | apply Rem.there | apply Rem.skip); done))) | apply Wk.nilv | apply Wk.last | apply Wk.drop), b, ?_, rfl⟩
      rw [List.length_replicate]
      rfl
end SC
end Go.Proofs.YtclihihdgodloaaDoor
end
section
/- tern: of, isRow, values, next. -/
set_option linter.unusedVariables false
set_option linter.unusedSimpArgs false
namespace Go.Proofs.YtclihihdgodloaaDoor
namespace SC
open Go.Proofs
/-- What the tables hold. -/
structure TabG (w : World) : Prop where
  con : ∀ i : Nat, i < 3 → w.cell? ⟨0, i, none⟩ = some (nu (tnot i))
  both : ∀ i j : Nat, i < 3 → j < 3 → w.cell? ⟨1, i * 3 + j, none⟩ = some (nu (tand i j))
theorem TabG.chg {w w' : World} (H : TabG w) (hc : Chg w w' none_) : TabG w' := ⟨fun i hi => cel_chg (H.con i hi) hc id, fun i j hi hj => cel_chg (H.both i j hi hj) hc id⟩
theorem TabG.con' {w : World} (H : TabG w) {x : Int} (h : Is3 x) : w.cell? ⟨0, 0 + x.toNat * 1, none⟩ = some (nu (tnot x)) := by
  unfold Is3 at h
  have := H.con x.toNat (by omega)
  rwa [show ((x.toNat : Nat) : Int) = x by omega, show x.toNat = 0 + x.toNat * 1 by omega] at this
theorem TabG.both' {w : World} (H : TabG w) {x y : Int} (h : Is3 x) (h2 : Is3 y) : w.cell? ⟨1, 0 + x.toNat * 3 + y.toNat * 1, none⟩ = some (nu (tand x y)) := by
  unfold Is3 at h h2
  have := H.both x.toNat y.toNat (by omega) (by omega)
  rwa [show ((x.toNat : Nat) : Int) = x by omega, show ((y.toNat : Nat) : Int) = y by omega, show x.toNat * 3 + y.toNat = 0 + x.toNat * 3 + y.toNat * 1 by omega] at this
section
variable {P : Program} {n : Nat} {all : List Oper} {K : Env → Mm → Prop} {m : Md} {e : Env} {Γ Γ' : Mm} {d : Option Tmp} {ty t t' t0 : TypeId} {x y : Operand}
theorem G_ixP {td : TypeDesc} {zv zv1 : Value} {by_ by1 sz1 sz : Nat} {ag ag1 : Bool} {b o mm : Nat} {i : Int} {k : IntKind} [U : Ty P t (.array mm t0) sz1 zv1 by1 ag1] [T : Ty P t0 td sz zv by_ ag] (h : ev e x = some (.pointer (some ⟨b, o, none⟩))) (h1 : ev e y = some (.int k i)) (h0 : 0 ≤ i) (h2 : i < mm)
    (hr : GN P n all K m (push d (.pointer (some ⟨b, o + i.toNat * sz, none⟩)) e) Γ) : GX P n all K m d (.indexAddr t x y) ty e Γ := GX_def (fun w M => does_indexA h h1 h0 h2) hr
end
attribute [local irreducible] WC WL WX WS WO OX Does DoesU Enters CV Pure thenQ blockQ retQ Wants retQC GC GL GS GX RdB thenG blockG retG Rd At gt CVN CVM
set_option maxRecDepth 100000
theorem of3_cv {w : World} {A : Option Addr} {k c : Nat} {v : List Int} {l : Int} (G : TabG w) (hA : RowA w icell 1 A v) (hk : k = v.length) (hv : Row3 v) (h0 : 0 ≤ l / 2) (h1 : l / 2 < v.length) (hl : v.length ≤ 1000000) : CVN Tryd.prog 43 [.slice A k c, nu l] w fun r N => N = [] ∧ r = nu (tl v l) := by
  have h3 := hv.gt h0 h1
  have hc := G.con' h3
  unfold tl
  have h3' := h3
  unfold Is3 at h3'
  refine CVN.enter 20 [4] Tryd.func43 rfl rfl rfl (by decide) rfl ?_
  by_cases ho : l % 2 = 1
  · rw [if_pos ho]
    repeat' (first
|(apply G_ixP;eq_refl;eq_refl;omega;omega)
|(apply G_ldC;eq_refl;(repeat first|exact In.here|apply In.there|apply In.skip);exact hc)
|(apply GC_seqK;intro K hK)
|(apply hK;clear hK K)
|(apply GC_region)
|(apply GL_nil)
|(apply thenG_normal)
|(apply thenG_ret)
|(apply GC_ret)
|(apply GC_if_true;eq_refl)
|(apply retG1;eq_refl)
|(apply GL_on;eq_refl;eq_refl)
|(apply G_pv;eq_refl;first|exact trivial|omega)
|(apply G_rd;eq_refl;(first|(apply Rd.own;(repeat first|exact In.here|apply In.there|apply In.skip);infer_instance)|(apply Rd.old;(repeat first|exact In.here|apply In.there|apply In.skip);assumption)|(apply Rd.oldR;(repeat first|exact In.here|apply In.there|apply In.skip);assumption)|exact Rd.nil|assumption);(case ih => infer_instance);omega;omega;eq_refl)
|(apply G_cmpT;eq_refl;eq_refl;omega)
|(apply G_ix;eq_refl;eq_refl;(first|(apply Rd.own;(repeat first|exact In.here|apply In.there|apply In.skip);infer_instance)|(apply Rd.old;(repeat first|exact In.here|apply In.there|apply In.skip);assumption)|(apply Rd.oldR;(repeat first|exact In.here|apply In.there|apply In.skip);assumption)|exact Rd.nil|assumption);(first|eq_refl|omega);omega;omega))
    exact ⟨[], (by repeat first | exact Wk.nil | exact Wk.refl | (apply Wk.cons; (focus ((repeat first | exact Rem.here | apply Rem.there | apply Rem.skip); done))) | apply Wk.nilv | apply Wk.last | apply Wk.drop), rfl, rfl⟩
  · rw [if_neg ho]
    repeat' (first
|(apply GC_seqK;intro K hK)
|(apply hK;clear hK K)
|(apply GC_region)
|(apply GL_nil)
|(apply thenG_normal)
|(apply GC_ret)
|(apply GC_skip)
|(apply GC_if_false;eq_refl)
|(apply retG1;eq_refl)
|(apply GL_on;eq_refl;eq_refl)
|(apply G_pv;eq_refl;first|exact trivial|omega)
|(apply G_rd;eq_refl;(first|(apply Rd.own;(repeat first|exact In.here|apply In.there|apply In.skip);infer_instance)|(apply Rd.old;(repeat first|exact In.here|apply In.there|apply In.skip);assumption)|(apply Rd.oldR;(repeat first|exact In.here|apply In.there|apply In.skip);assumption)|exact Rd.nil|assumption);(case ih => infer_instance);omega;omega;eq_refl)
|(apply G_cmpF;eq_refl;eq_refl;omega)
|(apply G_ix;eq_refl;eq_refl;(first|(apply Rd.own;(repeat first|exact In.here|apply In.there|apply In.skip);infer_instance)|(apply Rd.old;(repeat first|exact In.here|apply In.there|apply In.skip);assumption)|(apply Rd.oldR;(repeat first|exact In.here|apply In.there|apply In.skip);assumption)|exact Rd.nil|assumption);(first|eq_refl|omega);omega;omega))
    exact ⟨[], (by repeat first | exact Wk.nil | exact Wk.refl | (apply Wk.cons; (focus ((repeat first | exact Rem.here | apply Rem.there | apply Rem.skip); done))) | apply Wk.nilv | apply Wk.last | apply Wk.drop), rfl, rfl⟩
theorem isRow1_cv {w : World} {x : Int} : CVN Tryd.prog 86 [nu x] w fun v N => N = [] ∧ v = .bool (!(decide (0 ≤ x) && decide (x ≤ 2))) := by
  refine CVN.enter 9 [2] Tryd.func86 rfl rfl rfl (by decide) rfl ?_
  by_cases h0 : x < 0
  · rw [decide_eq_false (by omega : ¬ 0 ≤ x)]
    repeat' (first
|(apply GC_seqK;intro K hK)
|(apply hK;clear hK K)
|(apply GC_region)
|(apply GL_nil)
|(apply thenG_normal)
|(apply GC_ret)
|(apply retG1;eq_refl)
|(apply GL_on;eq_refl;eq_refl)
|(apply GL_off;eq_refl;eq_refl)
|(apply G_pv;eq_refl;first|exact trivial|omega)
|(apply G_cmpT;eq_refl;eq_refl;omega))
    exact ⟨[], (by repeat first | exact Wk.nil | exact Wk.refl | (apply Wk.cons; (focus ((repeat first | exact Rem.here | apply Rem.there | apply Rem.skip); done))) | apply Wk.nilv | apply Wk.last | apply Wk.drop), rfl, rfl⟩
  · rw [decide_eq_true (by omega : 0 ≤ x)]
    by_cases h1 : 2 < x
    · rw [decide_eq_false (by omega : ¬ x ≤ 2)]
      repeat' (first
|(apply GC_seqK;intro K hK)
|(apply hK;clear hK K)
|(apply GC_region)
|(apply GL_nil)
|(apply thenG_normal)
|(apply GC_ret)
|(apply retG1;eq_refl)
|(apply GL_on;eq_refl;eq_refl)
|(apply G_pv;eq_refl;first|exact trivial|omega)
|(apply G_cmpT;eq_refl;eq_refl;omega)
|(apply G_cmpF;eq_refl;eq_refl;omega))
      exact ⟨[], (by repeat first | exact Wk.nil | exact Wk.refl | (apply Wk.cons; (focus ((repeat first | exact Rem.here | apply Rem.there | apply Rem.skip); done))) | apply Wk.nilv | apply Wk.last | apply Wk.drop), rfl, rfl⟩
    · rw [decide_eq_true (by omega : x ≤ 2)]
      repeat' (first
|(apply GC_seqK;intro K hK)
|(apply hK;clear hK K)
|(apply GC_region)
|(apply GL_nil)
|(apply thenG_normal)
|(apply GC_ret)
|(apply retG1;eq_refl)
|(apply GL_on;eq_refl;eq_refl)
|(apply G_pv;eq_refl;first|exact trivial|omega)
|(apply G_cmpF;eq_refl;eq_refl;omega))
      exact ⟨[], (by repeat first | exact Wk.nil | exact Wk.refl | (apply Wk.cons; (focus ((repeat first | exact Rem.here | apply Rem.there | apply Rem.skip); done))) | apply Wk.nilv | apply Wk.last | apply Wk.drop), rfl, rfl⟩
/-- Are so many values? -/
def rowB (l : List Int) (k : Nat) : Bool := decide (l.length = k) && l.all fun x => decide (0 ≤ x) && decide (x ≤ 2)
theorem rowB_iff {l : List Int} {k : Nat} : rowB l k = true ↔ l.length = k ∧ Row3 l := by
  unfold rowB Row3 Is3
  rw [Bool.and_eq_true, decide_eq_true_iff, List.all_eq_true]
  simp only [Bool.and_eq_true, decide_eq_true_iff]
theorem isRow_cv {w : World} {A : Option Addr} {k : Nat} {l : List Int} {q : Nat} (hA : RowA w icell 1 A l) (hl : l.length ≤ 9223372036854775807) : CVN Tryd.prog 61 [.slice A l.length k, nu q] w fun v N => N = [] ∧ v = .bool (rowB l q) := by
  have hcf : ∀ Γ, In Γ (.old w none_) → ∀ w', Mem w' Γ → CVN Tryd.prog 41 [.slice A l.length k, .func (.func 86) #[] #[]] w' _ := fun Γ ho w' M => containsFunc_cv (f := 86) (cap := #[]) (p := fun x => !(decide (0 ≤ x) && decide (x ≤ 2))) (k := k) (hA.chg (ho.old M)) (by omega) fun x hx w2 hc => isRow1_cv
  refine CVN.enter 14 [4] Tryd.func61 rfl rfl rfl (by decide) rfl ?_
  by_cases hq : l.length = q
  · repeat' (first
|(apply G_call;eq_refl;eq_refl;(apply hcf;(repeat first|exact In.here|apply In.there|apply In.skip));rintro _ _ ⟨rfl, rfl⟩)
|(apply GC_seqK;intro K hK)
|(apply hK;clear hK K)
|(apply GC_region)
|(apply GL_nil)
|(apply thenG_normal)
|(apply GC_ret)
|(apply retG1;eq_refl)
|(apply GL_on;eq_refl;eq_refl)
|(apply G_pv;eq_refl;first|exact trivial|omega)
|(apply G_cmpT;eq_refl;eq_refl;omega)
|(apply G_len;eq_refl))
    refine ⟨[], (by repeat first | exact Wk.nil | exact Wk.refl | (apply Wk.cons; (focus ((repeat first | exact Rem.here | apply Rem.there | apply Rem.skip); done))) | apply Wk.nilv | apply Wk.last | apply Wk.drop), rfl, ?_⟩
    unfold rowB
    rw [decide_eq_true hq, Bool.true_and, List.all_eq_not_any_not]
  · repeat' (first
|(apply GC_seqK;intro K hK)
|(apply hK;clear hK K)
|(apply GC_region)
|(apply GL_nil)
|(apply thenG_normal)
|(apply GC_ret)
|(apply retG1;eq_refl)
|(apply GL_on;eq_refl;eq_refl)
|(apply GL_off;eq_refl;eq_refl)
|(apply G_pv;eq_refl;first|exact trivial|omega)
|(apply G_cmpF;eq_refl;eq_refl;omega)
|(apply G_len;eq_refl))
    refine ⟨[], (by repeat first | exact Wk.nil | exact Wk.refl | (apply Wk.cons; (focus ((repeat first | exact Rem.here | apply Rem.there | apply Rem.skip); done))) | apply Wk.nilv | apply Wk.last | apply Wk.drop), rfl, ?_⟩
    unfold rowB
    rw [decide_eq_false hq]
    rfl
end SC
end Go.Proofs.YtclihihdgodloaaDoor
end
section
/- tern: values, next, ready, looked, Values, Step. -/
set_option linter.unusedVariables false
set_option linter.unusedSimpArgs false
namespace Go.Proofs.YtclihihdgodloaaDoor
namespace SC
open Go.Proofs
theorem tB_of {c : Circ} {q : Nat} (hq : c.max = (q : Int)) : (List.replicate (q + 1) (2 : Int)).set (0 : Int).toNat 0 = tB c := by
  unfold tB
  rw [hq]
  rfl
attribute [local irreducible] WC WL WX WS WO OX Does DoesU Enters CV Pure thenQ blockQ retQ Wants retQC GC GL GS GX RdB thenG blockG retG Rd At gt CVN CVM
set_option maxRecDepth 100000
set_option maxHeartbeats 1600000 in
theorem valuesT_cv {w : World} {c : Circ} {h js : Hd} {p : Nat} {B S T : Option Addr} {k1 k2 k3 : Nat} {s r : List Int} (G : TabG w) (R : Right c) (hP : Blk w p 103 (rcells c h B k1)) (H : CirAt w c h js) (hB : RowA w icell 1 B (ordM c)) (hS : RowA w icell 1 S s) (hT : RowA w icell 1 T r) (hs : s.length = c.latches.length) (hr : r.length = c.inputs.length) (h3 : Row3 s) (h4 : Row3 r) :
    CVN Tryd.prog 45 [pt p, .slice S s.length k2, .slice T r.length k3] w fun v N => ∃ A' k', v = .slice A' (valT c s r).length k' ∧ N = [.vec icell 1 3 A' k' (valT c s r)] := by
  have hLat := H.latches
  have hInp := H.inputs
  have hAnd := H.ands
  have m0 := R.m0
  have m1 := R.m1
  have n1 := R.nIn
  have n2 := R.nLat
  have n3 := R.nAnd
  have n4 := R.ordLen
  obtain ⟨q, hq⟩ : ∃ q : Nat, c.max = (q : Int) := ⟨c.max.toNat, by omega⟩
  have hRep : ∀ Γ b, In Γ (.box b 3 [nu 2]) → ∀ w', Mem w' Γ → CVN Tryd.prog 49 [.slice (some ⟨b, 0, none⟩) 1 1, nu (c.max + 1)] w' fun r N => ∃ b, r = .slice (some ⟨b, 0, none⟩) (q + 1) (q + 1) ∧ N = [.vec icell 1 3 (some ⟨b, 0, none⟩) (q + 1) (List.replicate (q + 1) 2)] := fun Γ b hi w' M => by
    have := Repeat_cv (k := 1) (v := 2) (q := q + 1) (RowA.blk (l := [2]) (fun _ => rfl) (hi.box M)) (by omega)
    rw [List.length_replicate] at this
    rwa [hq]
  have hrl : (List.replicate (q + 1) (2 : Int)).length = q + 1 := List.length_replicate
  refine CVN.enter 101 [6] Tryd.func45 rfl rfl rfl (by decide) rfl ?_
  repeat' (first
|(apply G_call;eq_refl;eq_refl;(apply hRep;(repeat first|exact In.here|apply In.there|apply In.skip));rintro _ _ ⟨b1, rfl, rfl⟩)
|(apply GC_seqK;intro K hK)
|(apply hK;clear hK K)
|(apply GC_block)
|(apply GC_region)
|(apply GL_nil)
|(apply thenG_normal)
|(apply GL_on;eq_refl;eq_refl)
|(apply G_pv;eq_refl;first|exact trivial|omega)
|(apply G_field;eq_refl)
|(apply G_ldO;eq_refl;(repeat first|exact In.here|apply In.there|apply In.skip);assumption;eq_refl)
|(apply G_len;eq_refl)
|(apply G_ix;eq_refl;eq_refl;(first|(apply Rd.own;(repeat first|exact In.here|apply In.there|apply In.skip);infer_instance)|(apply Rd.old;(repeat first|exact In.here|apply In.there|apply In.skip);assumption)|(apply Rd.oldR;(repeat first|exact In.here|apply In.there|apply In.skip);assumption)|exact Rd.nil|assumption);(first|eq_refl|omega);omega;omega)
|(apply G_stV;(first|exact wr_p|kernel_rfl);eq_refl;eq_refl;eq_refl;eq_refl;(repeat first|exact Upd.here|apply Upd.there|apply Upd.skip);infer_instance;infer_instance;eq_refl;omega;(try simp only [List.length_set, List.length_append, List.length_replicate]);omega)
|(apply G_new (fun b => .slice (some ⟨b, 0, none⟩) 1 1);eq_refl;(intro _;apply buildS22_1 <;> eq_refl);intro _))
  rw [tB_of hq]
  have hb0 := tB_len (c := c) m0
  refine GC_loopK [0, 1, 2, 7, 29, 30] (fun s : Nat × List Int => [(31, nu s.1)]) (fun s => [.vec icell 1 3 (some ⟨b1, 0, none⟩) (q + 1) s.2, .old w none_]) (fun s => s.1 ≤ c.inputs.length ∧ s.2 = tIn c r s.1) (fun s => c.inputs.length - s.1) (0, _) (by repeat first | exact Pick.nil | (apply Pick.cons; eq_refl)) (by repeat first | exact trivial | refine ⟨rfl, ?_⟩) (by repeat first | exact Wk.nil | exact Wk.refl | (apply Wk.cons; (focus ((repeat first | exact Rem.here | apply Rem.there | apply Rem.skip); done))) | apply Wk.nilv | apply Wk.last | apply Wk.drop) ⟨Nat.zero_le _, rfl⟩ ?_
  rintro ⟨i, v⟩ ⟨hi, hv⟩
  dsimp only at hi hv ⊢
  have hlen : v.length = (c.max + 1).toNat := by rw [hv, tIn_len m0]
  rcases Nat.lt_or_ge i c.inputs.length with hlt | hge
  · have hd := R.inp (gt_mem (l := c.inputs) (i := (i : Int)) (by omega) (by omega))
    have hst := tIn_succ c r i
    rw [← hv] at hst
    unfold defR at hd
    repeat' (first
|(apply GC_seqK;intro K hK)
|(apply hK;clear hK K)
|(apply GC_block)
|(apply GC_region)
|(apply GL_nil)
|(apply thenG_normal)
|(apply blockG_normal)
|(apply GC_skip)
|(apply GC_if_true;eq_refl)
|(apply GL_on;eq_refl;eq_refl)
|(apply G_pv;eq_refl;first|exact trivial|omega)
|(apply G_rd;eq_refl;(first|(apply Rd.own;(repeat first|exact In.here|apply In.there|apply In.skip);infer_instance)|(apply Rd.old;(repeat first|exact In.here|apply In.there|apply In.skip);assumption)|(apply Rd.oldR;(repeat first|exact In.here|apply In.there|apply In.skip);assumption)|exact Rd.nil|assumption);(case ih => infer_instance);omega;omega;eq_refl)
|(apply G_cmpT;eq_refl;eq_refl;omega)
|(apply G_ix;eq_refl;eq_refl;(first|(apply Rd.own;(repeat first|exact In.here|apply In.there|apply In.skip);infer_instance)|(apply Rd.old;(repeat first|exact In.here|apply In.there|apply In.skip);assumption)|(apply Rd.oldR;(repeat first|exact In.here|apply In.there|apply In.skip);assumption)|exact Rd.nil|assumption);(first|eq_refl|omega);omega;omega)
|(apply G_stV;(first|exact wr_p|kernel_rfl);eq_refl;eq_refl;eq_refl;eq_refl;(repeat first|exact Upd.here|apply Upd.there|apply Upd.skip);infer_instance;infer_instance;eq_refl;omega;(try simp only [List.length_set, List.length_append, List.length_replicate]);omega))
    exact ⟨(i + 1, _), (by repeat first | exact trivial | refine ⟨rfl, ?_⟩), (by repeat first | exact Wk.nil | exact Wk.refl | (apply Wk.cons; (focus ((repeat first | exact Rem.here | apply Rem.there | apply Rem.skip); done))) | apply Wk.nilv | apply Wk.last | apply Wk.drop), ⟨hlt, hst.symm⟩, by simp only; omega⟩
  · obtain rfl : i = c.inputs.length := by omega
    have hvr : Row3 v := by rw [hv]; exact tIn_row h4 _ (by omega)
    repeat' (first
|(apply GC_seqK;intro K hK)
|(apply hK;clear hK K)
|(clear hK K;apply hK;clear hK K)
|(apply GC_block)
|(apply GC_region)
|(apply GL_nil)
|(apply thenG_normal)
|(apply thenG_exit)
|(apply blockG_hit)
|(apply GC_exit)
|(apply GC_if_false;eq_refl)
|(apply GL_on;eq_refl;eq_refl)
|(apply G_pv;eq_refl;first|exact trivial|omega)
|(apply G_field;eq_refl)
|(apply G_ldO;eq_refl;(repeat first|exact In.here|apply In.there|apply In.skip);assumption;eq_refl)
|(apply G_cmpF;eq_refl;eq_refl;omega)
|(apply G_len;eq_refl))
    refine GC_loopK [0, 1, 2, 7, 49, 50] (fun s : Nat × List Int => [(51, nu s.1)]) (fun s => [.vec icell 1 3 (some ⟨b1, 0, none⟩) (q + 1) s.2, .old w none_]) (fun t => t.1 ≤ c.latches.length ∧ t.2 = tLt c s v t.1) (fun s => c.latches.length - s.1) (0, _) (by repeat first | exact Pick.nil | (apply Pick.cons; eq_refl)) (by repeat first | exact trivial | refine ⟨rfl, ?_⟩) (by repeat first | exact Wk.nil | exact Wk.refl | (apply Wk.cons; (focus ((repeat first | exact Rem.here | apply Rem.there | apply Rem.skip); done))) | apply Wk.nilv | apply Wk.last | apply Wk.drop) ⟨Nat.zero_le _, rfl⟩ ?_
    rintro ⟨i, v2⟩ ⟨hi2, hv2⟩
    dsimp only at hi2 hv2 ⊢
    have hlen2 : v2.length = (c.max + 1).toNat := by rw [hv2, tLt_len, hlen]
    rcases Nat.lt_or_ge i c.latches.length with hlt | hge
    · have hd := (R.lat (gt_mem (l := c.latches) (i := (i : Int)) (by omega) (by omega))).1
      have hst := tLt_succ c s v i
      rw [← hv2] at hst
      unfold defR at hd
      repeat' (first
|(apply GC_seqK;intro K hK)
|(apply hK;clear hK K)
|(apply GC_block)
|(apply GC_region)
|(apply GL_nil)
|(apply thenG_normal)
|(apply blockG_normal)
|(apply GC_skip)
|(apply GC_if_true;eq_refl)
|(apply GL_on;eq_refl;eq_refl)
|(refine GC_draws (id := 11) [.q 0, .q 1, .q 2, .q 3, .q 4, .q 5, .q 6, .q 7, .q 8, .c 9] mixed (by kernel_rfl) (by kernel_rfl) ?_)
|(apply GS_nil)
|(apply GS_qon;eq_refl;eq_refl;eq_refl;eq_refl)
|(apply GS_con;eq_refl;eq_refl;eq_refl;eq_refl)
|(apply G_pv;eq_refl;first|exact trivial|omega)
|(apply G_field;eq_refl)
|(apply G_ld;eq_refl;(repeat first|exact In.here|apply In.there|apply In.skip);eq_refl)
|(apply G_rd;eq_refl;(first|(apply Rd.own;(repeat first|exact In.here|apply In.there|apply In.skip);infer_instance)|(apply Rd.old;(repeat first|exact In.here|apply In.there|apply In.skip);assumption)|(apply Rd.oldR;(repeat first|exact In.here|apply In.there|apply In.skip);assumption)|exact Rd.nil|assumption);(case ih => infer_instance);omega;omega;eq_refl)
|(apply G_rdW;eq_refl;(first|(apply Rd.own;(repeat first|exact In.here|apply In.there|apply In.skip);infer_instance)|(apply Rd.old;(repeat first|exact In.here|apply In.there|apply In.skip);assumption)|(apply Rd.oldR;(repeat first|exact In.here|apply In.there|apply In.skip);assumption)|exact Rd.nil|assumption);infer_instance;(case ih => infer_instance);omega;omega)
|(apply G_cmpT;eq_refl;eq_refl;omega)
|(apply G_ix;eq_refl;eq_refl;(first|(apply Rd.own;(repeat first|exact In.here|apply In.there|apply In.skip);infer_instance)|(apply Rd.old;(repeat first|exact In.here|apply In.there|apply In.skip);assumption)|(apply Rd.oldR;(repeat first|exact In.here|apply In.there|apply In.skip);assumption)|exact Rd.nil|assumption);(first|eq_refl|omega);omega;omega)
|(apply G_alloc;eq_refl;intro _)
|(apply G_stV;(first|exact wr_p|kernel_rfl);eq_refl;eq_refl;eq_refl;eq_refl;(repeat first|exact Upd.here|apply Upd.there|apply Upd.skip);infer_instance;infer_instance;eq_refl;omega;(try simp only [List.length_set, List.length_append, List.length_replicate]);omega)
|(apply G_stW;(first|exact wr_p|kernel_rfl);eq_refl;eq_refl;eq_refl;eq_refl;(repeat first|exact Upd.here|apply Upd.there|apply Upd.skip);eq_refl))
      exact ⟨(i + 1, _), (by repeat first | exact trivial | refine ⟨rfl, ?_⟩), (by repeat first | exact Wk.nil | exact Wk.refl | (apply Wk.cons; (focus ((repeat first | exact Rem.here | apply Rem.there | apply Rem.skip); done))) | apply Wk.nilv | apply Wk.last | apply Wk.drop), ⟨hlt, hst.symm⟩, by simp only; omega⟩
    · obtain rfl : i = c.latches.length := by omega
      have hvr2 : Row3 v2 := by rw [hv2]; exact tLt_row h3 hvr _ (by omega)
      repeat' (first
|(apply GC_seqK;intro K hK)
|(apply hK;clear hK K)
|(clear hK K;apply hK;clear hK K)
|(apply GC_block)
|(apply GC_region)
|(apply GL_nil)
|(apply thenG_normal)
|(apply thenG_exit)
|(apply blockG_hit)
|(apply GC_exit)
|(apply GC_if_false;eq_refl)
|(apply GL_on;eq_refl;eq_refl)
|(apply G_pv;eq_refl;first|exact trivial|omega)
|(apply G_field;eq_refl)
|(apply G_ldO;eq_refl;(repeat first|exact In.here|apply In.there|apply In.skip);assumption;eq_refl)
|(apply G_cmpF;eq_refl;eq_refl;omega)
|(apply G_len;eq_refl))
      refine GC_loopK [0, 7, 69, 70] (fun s : Nat × List Int => [(71, nu s.1)]) (fun s => [.vec icell 1 3 (some ⟨b1, 0, none⟩) (q + 1) s.2, .old w none_]) (fun t => t.1 ≤ (ordM c).length ∧ t.2 = tAn c (ordM c) v2 t.1) (fun s => (ordM c).length - s.1) (0, _) (by repeat first | exact Pick.nil | (apply Pick.cons; eq_refl)) (by repeat first | exact trivial | refine ⟨rfl, ?_⟩) (by repeat first | exact Wk.nil | exact Wk.refl | (apply Wk.cons; (focus ((repeat first | exact Rem.here | apply Rem.there | apply Rem.skip); done))) | apply Wk.nilv | apply Wk.last | apply Wk.drop) ⟨Nat.zero_le _, rfl⟩ ?_
      rintro ⟨i, v3⟩ ⟨hi3, hv3⟩
      dsimp only at hi3 hv3 ⊢
      have hlen3 : v3.length = (c.max + 1).toNat := by rw [hv3, tAn_len, hlen2]
      have hvr3 : Row3 v3 := by rw [hv3]; exact tAn_row hvr2 _
      rcases Nat.lt_or_ge i (ordM c).length with hlt | hge
      · have ho := R.ord (gt_mem (l := ordM c) (i := (i : Int)) (by omega) (by omega))
        have hst := tAn_succ c (ordM c) v2 i
        rw [← hv3] at hst
        obtain ⟨hd, hl1, hl2⟩ := R.gate (gt_mem (l := c.ands) ho.1 ho.2)
        have u1 := hl1.hasI hlen3
        have u2 := hl2.hasI hlen3
        unfold defR at hd
        have hof : ∀ Γ, In Γ (.old w none_) → In Γ (.vec icell 1 3 (some ⟨b1, 0, none⟩) (q + 1) v3) → ∀ l : Int, 0 ≤ l / 2 → l / 2 < v3.length → ∀ w', Mem w' Γ → CVN Tryd.prog 43 [.slice (some ⟨b1, 0, none⟩) (q + 1) (q + 1), nu l] w' fun r N => N = [] ∧ r = nu (tl v3 l) := fun Γ hi hv l g0 g1 w' M => of3_cv (G.chg (hi.old M)) (hv.row M) (by omega) hvr3 g0 g1 (by omega)
        have ho1 := fun Γ hi hv w' M => hof Γ hi hv _ u1.1 u1.2 w' M
        have ho2 := fun Γ hi hv w' M => hof Γ hi hv _ u2.1 u2.2 w' M
        have x3 := hvr3.tl u1.1 u1.2
        have y3 := hvr3.tl u2.1 u2.2
        have hbo := G.both' x3 y3
        generalize tl v3 (gt c.ands (gt (ordM c) (i : Int))).2.1 = x at *
        generalize tl v3 (gt c.ands (gt (ordM c) (i : Int))).2.2 = y at *
        have x3' := x3
        have y3' := y3
        unfold Is3 at x3' y3'
        repeat' (first
|(apply G_call;eq_refl;eq_refl;(apply ho1;(repeat first|exact In.here|apply In.there|apply In.skip);(repeat first|exact In.here|apply In.there|apply In.skip));rintro _ _ ⟨rfl, rfl⟩)
|(apply G_call;eq_refl;eq_refl;(apply ho2;(repeat first|exact In.here|apply In.there|apply In.skip);(repeat first|exact In.here|apply In.there|apply In.skip));rintro _ _ ⟨rfl, rfl⟩)
|(apply G_ixP;eq_refl;eq_refl;omega;omega)
|(apply G_ldC;eq_refl;(repeat first|exact In.here|apply In.there|apply In.skip);exact hbo)
|(apply GC_seqK;intro K hK)
|(apply hK;clear hK K)
|(apply GC_block)
|(apply GC_region)
|(apply GL_nil)
|(apply thenG_normal)
|(apply blockG_normal)
|(apply GC_skip)
|(apply GC_if_true;eq_refl)
|(apply GL_on;eq_refl;eq_refl)
|(refine GC_draws (id := 17) [.q 0, .q 1, .q 2, .q 3, .q 4, .q 5, .q 6, .q 8, .q 9, .q 10, .c 7, .q 12, .c 11, .q 13, .q 14, .q 15, .c 16] mixed (by kernel_rfl) (by kernel_rfl) ?_)
|(apply GS_nil)
|(apply GS_qon;eq_refl;eq_refl;eq_refl;eq_refl)
|(apply GS_con;eq_refl;eq_refl;eq_refl;eq_refl)
|(apply G_pv;eq_refl;first|exact trivial|omega)
|(apply G_field;eq_refl)
|(apply G_ld;eq_refl;(repeat first|exact In.here|apply In.there|apply In.skip);eq_refl)
|(apply G_ldO;eq_refl;(repeat first|exact In.here|apply In.there|apply In.skip);assumption;eq_refl)
|(apply G_rd;eq_refl;(first|(apply Rd.own;(repeat first|exact In.here|apply In.there|apply In.skip);infer_instance)|(apply Rd.old;(repeat first|exact In.here|apply In.there|apply In.skip);assumption)|(apply Rd.oldR;(repeat first|exact In.here|apply In.there|apply In.skip);assumption)|exact Rd.nil|assumption);(case ih => infer_instance);omega;omega;eq_refl)
|(apply G_rdW;eq_refl;(first|(apply Rd.own;(repeat first|exact In.here|apply In.there|apply In.skip);infer_instance)|(apply Rd.old;(repeat first|exact In.here|apply In.there|apply In.skip);assumption)|(apply Rd.oldR;(repeat first|exact In.here|apply In.there|apply In.skip);assumption)|exact Rd.nil|assumption);infer_instance;(case ih => infer_instance);omega;omega)
|(apply G_cmpT;eq_refl;eq_refl;omega)
|(apply G_ix;eq_refl;eq_refl;(first|(apply Rd.own;(repeat first|exact In.here|apply In.there|apply In.skip);infer_instance)|(apply Rd.old;(repeat first|exact In.here|apply In.there|apply In.skip);assumption)|(apply Rd.oldR;(repeat first|exact In.here|apply In.there|apply In.skip);assumption)|exact Rd.nil|assumption);(first|eq_refl|omega);omega;omega)
|(apply G_alloc;eq_refl;intro _)
|(apply G_stV;(first|exact wr_p|kernel_rfl);eq_refl;eq_refl;eq_refl;eq_refl;(repeat first|exact Upd.here|apply Upd.there|apply Upd.skip);infer_instance;infer_instance;eq_refl;omega;(try simp only [List.length_set, List.length_append, List.length_replicate]);omega)
|(apply G_stW;(first|exact wr_p|kernel_rfl);eq_refl;eq_refl;eq_refl;eq_refl;(repeat first|exact Upd.here|apply Upd.there|apply Upd.skip);eq_refl))
        exact ⟨(i + 1, _), (by repeat first | exact trivial | refine ⟨rfl, ?_⟩), (by repeat first | exact Wk.nil | exact Wk.refl | (apply Wk.cons; (focus ((repeat first | exact Rem.here | apply Rem.there | apply Rem.skip); done))) | apply Wk.nilv | apply Wk.last | apply Wk.drop), ⟨hlt, hst.symm⟩, by simp only; omega⟩
      · obtain rfl : i = (ordM c).length := by omega
        repeat' (first
|(apply GC_seqK;intro K hK)
|(apply hK;clear hK K)
|(clear hK K;apply hK;clear hK K)
|(apply GC_region)
|(apply GL_nil)
|(apply thenG_normal)
|(apply thenG_exit)
|(apply blockG_hit)
|(apply GC_ret)
|(apply GC_exit)
|(apply GC_if_false;eq_refl)
|(apply retG1;eq_refl)
|(apply GL_on;eq_refl;eq_refl)
|(apply G_pv;eq_refl;first|exact trivial|omega)
|(apply G_cmpF;eq_refl;eq_refl;omega))
        subst hv3 hv2 hv
        have e9 := valT_len m0 s r
        refine ⟨[.vec icell 1 3 (some ⟨b1, 0, none⟩) (q + 1) (valT c s r)], (by repeat first | exact Wk.nil | exact Wk.refl | (apply Wk.cons; (focus ((repeat first | exact Rem.here | apply Rem.there | apply Rem.skip); done))) | apply Wk.nilv | apply Wk.last | apply Wk.drop), some ⟨b1, 0, none⟩, q + 1, by rw [e9, hq]; rfl, rfl⟩
end SC
end Go.Proofs.YtclihihdgodloaaDoor
end
section
/- tern: ready, next, looked, Values, Step, resets, Resets. -/
set_option linter.unusedVariables false
set_option linter.unusedSimpArgs false
namespace Go.Proofs.YtclihihdgodloaaDoor
namespace SC
open Go.Proofs
/-- What ready answers. -/
def ReadyT (c : Circ) (h : Hd) (v : Value) (N : Mm) : Prop :=
  ((lookM c).2 ≠ 0 ∧ v = .tuple #[.pointer none, nu (lookM c).2] ∧ N = []) ∨ ((lookM c).2 = 0 ∧ ∃ p B k, v = .tuple #[pt p, nu 0] ∧ N = [.box p 103 (rcells c h B k), .vec icell 1 3 B k (ordM c)])
/-- What is wrong with rows. -/
noncomputable def twE (c : Circ) (s r : List Int) : Int := if (lookM c).2 ≠ 0 then (lookM c).2 else if (rowB s c.latches.length && rowB r c.inputs.length) = true then 0 else 80
theorem twE_look {c : Circ} {s r : List Int} (h : (lookM c).2 ≠ 0) : twE c s r = (lookM c).2 := if_pos h
theorem twE_ok {c : Circ} {s r : List Int} (h : (lookM c).2 = 0) (h1 : rowB s c.latches.length = true) (h2 : rowB r c.inputs.length = true) : twE c s r = 0 := by unfold twE; rw [if_neg (by omega), h1, h2]; rfl
theorem twE_no {c : Circ} {s r : List Int} (h : (lookM c).2 = 0) (h1 : (rowB s c.latches.length && rowB r c.inputs.length) = false) : twE c s r = 80 := by unfold twE; rw [if_neg (by omega), h1]; rfl
theorem twE_zero {c : Circ} {s r : List Int} (h : twE c s r = 0) : (lookM c).2 = 0 ∧ (s.length = c.latches.length ∧ Row3 s) ∧ r.length = c.inputs.length ∧ Row3 r := by
  unfold twE at h
  split at h
  · exact absurd h (by assumption)
  · split at h
    · rename_i h1 h2
      rw [Bool.and_eq_true] at h2
      exact ⟨by omega, rowB_iff.1 h2.1, rowB_iff.1 h2.2⟩
    · cases h
def LookedT (c : Circ) (h : Hd) (s r : List Int) (v : Value) (N : Mm) : Prop :=
  (twE c s r ≠ 0 ∧ v = .tuple #[.pointer none, .slice none 0 0, nu (twE c s r)] ∧ N = []) ∨
  (twE c s r = 0 ∧ ∃ p B k A k', v = .tuple #[pt p, .slice A (valT c s r).length k', nu 0] ∧ N = [.vec icell 1 3 A k' (valT c s r), .box p 103 (rcells c h B k), .vec icell 1 3 B k (ordM c)])
/-- A list of numbers and an error as an answer. -/
def IntsE (m : List Int) (ε : Int) (v : Value) (N : Mm) : Prop := ∃ A k, v = .tuple #[.slice A m.length k, nu ε] ∧ N = [.vec icell 1 3 A k m]
attribute [local irreducible] WC WL WX WS WO OX Does DoesU Enters CV Pure thenQ blockQ retQ Wants retQC GC GL GS GX RdB thenG blockG retG Rd At gt CVN CVM
set_option maxRecDepth 100000
theorem readyT_cv {w : World} {c : Circ} {h js : Hd} (H : CirIn w c h js) : CVN Tryd.prog 48 [.agg (ccells c h).toArray] w (ReadyT c h) := by
  have hord : ∀ Γ, In Γ (.old w none_) → ∀ w', Mem w' Γ → CVN Tryd.prog 75 [.agg (ccells c h).toArray] w' (OrdR c) := fun Γ hi w' M => have H' := H.chg (hi.old M); OrderG H'.at_ H'.sane
  refine CVN.enter 18 [2, 3] Tryd.func48 rfl rfl rfl (by decide) rfl ?_
  repeat' (first
|(apply G_call;eq_refl;eq_refl;(apply hord;(repeat first|exact In.here|apply In.there|apply In.skip));rintro _ _ (⟨he, rfl, rfl⟩|⟨he, A1, k1, rfl, rfl⟩))
|(apply GC_seqK;intro K hK)
|(apply hK;clear hK K)
|(apply GC_region)
|(apply GL_nil)
|(apply thenG_normal)
|(apply thenG_ret)
|(apply GC_ret)
|(apply GC_skip)
|(apply GC_if_true;eq_refl)
|(apply GC_if_false;eq_refl)
|(apply retG2;eq_refl;eq_refl)
|(apply GL_on;eq_refl;eq_refl)
|(apply G_pv;eq_refl;first|exact trivial|omega)
|(apply G_ldW;eq_refl;(repeat first|exact In.here|apply In.there|apply In.skip);eq_refl)
|(apply G_cmpT;eq_refl;eq_refl;omega)
|(apply G_cmpF;eq_refl;eq_refl;omega)
|(apply G_box;eq_refl;eq_refl;intro _)
|(apply GX_pure;apply build103_0_1 <;> eq_refl))
  · exact ⟨[], (by repeat first | exact Wk.nil | exact Wk.refl | (apply Wk.cons; (focus ((repeat first | exact Rem.here | apply Rem.there | apply Rem.skip); done))) | apply Wk.nilv | apply Wk.last | apply Wk.drop), .inl ⟨he, rfl, rfl⟩⟩
  · exact ⟨[.box _ 103 (rcells c h A1 k1), _], (by repeat first | exact Wk.nil | exact Wk.refl | (apply Wk.cons; (focus ((repeat first | exact Rem.here | apply Rem.there | apply Rem.skip); done))) | apply Wk.nilv | apply Wk.last | apply Wk.drop), .inr ⟨he, _, _, _, rfl, rfl⟩⟩
theorem nextT_cv {w : World} {c : Circ} {h js : Hd} {p : Nat} {B A : Option Addr} {k1 k : Nat} {v : List Int} (G : TabG w) (R : Right c) (hP : Blk w p 103 (rcells c h B k1)) (H : CirAt w c h js) (hA : RowA w icell 1 A v) (hv : Row3 v) (hl : v.length = (c.max + 1).toNat) :
    CVN Tryd.prog 52 [pt p, .slice A v.length k] w fun r N => ∃ A' k', r = .slice A' (nxtT c v).length k' ∧ N = [.vec icell 1 3 A' k' (nxtT c v)] := by
  have hLat := H.latches
  have hn := R.nLat
  have m1 := R.m1
  have fl0 : fillL (fun x : Tri => tl v x.2.1) c.latches 0 0 = List.replicate c.latches.length 0 := fillL_0
  refine CVN.enter 35 [4] Tryd.func52 rfl rfl rfl (by decide) rfl ?_
  repeat' (first
|(apply G_make icell;eq_refl;eq_refl;eq_refl;omega;decide;intro b1)
|(apply GC_seqK;intro K hK)
|(apply hK;clear hK K)
|(apply GC_block)
|(apply GC_region)
|(apply GL_nil)
|(apply thenG_normal)
|(apply GL_on;eq_refl;eq_refl)
|(apply G_pv;eq_refl;first|exact trivial|omega)
|(apply G_field;eq_refl)
|(apply G_ldO;eq_refl;(repeat first|exact In.here|apply In.there|apply In.skip);assumption;eq_refl)
|(apply G_len;eq_refl))
  refine GC_loopK [1, 5, 19, 20] (fun s : Nat × List Int => [(21, nu s.1)]) (fun s => [.vec icell 1 3 (some ⟨b1, 0, none⟩) c.latches.length s.2, .old w none_]) (fun s => s.1 ≤ c.latches.length ∧ s.2 = fillL (fun x => tl v x.2.1) c.latches 0 s.1) (fun s => c.latches.length - s.1) (0, List.replicate c.latches.length 0) (by repeat first | exact Pick.nil | (apply Pick.cons; eq_refl)) (by repeat first | exact trivial | refine ⟨rfl, ?_⟩) (by repeat first | exact Wk.nil | exact Wk.refl | (apply Wk.cons; (focus ((repeat first | exact Rem.here | apply Rem.there | apply Rem.skip); done))) | apply Wk.nilv | apply Wk.last | apply Wk.drop) ⟨Nat.zero_le _, fl0.symm⟩ ?_
  rintro ⟨i, out⟩ ⟨hi, hout⟩
  dsimp only at hi hout ⊢
  have hlen : out.length = c.latches.length := by rw [hout, fillL_len hi]
  rcases Nat.lt_or_ge i c.latches.length with hlt | hge
  · have u := (R.lat (gt_mem (l := c.latches) (i := (i : Int)) (by omega) (by omega))).2.1.hasI hl
    have hst := fillL_set (f := fun x : Tri => tl v x.2.1) (z := (0 : Int)) hlt
    rw [← hout] at hst
    have hof : ∀ Γ, In Γ (.old w none_) → ∀ w', Mem w' Γ → CVN Tryd.prog 43 [.slice A v.length k, nu (gt c.latches (i : Int)).2.1] w' _ := fun Γ ho w' M => of3_cv (G.chg (ho.old M)) (hA.chg (ho.old M)) rfl hv u.1 u.2 (by omega)
    repeat' (first
|(apply G_call;eq_refl;eq_refl;(apply hof;(repeat first|exact In.here|apply In.there|apply In.skip));rintro _ _ ⟨rfl, rfl⟩)
|(apply GC_seqK;intro K hK)
|(apply hK;clear hK K)
|(apply GC_block)
|(apply GC_region)
|(apply GL_nil)
|(apply thenG_normal)
|(apply blockG_normal)
|(apply GC_skip)
|(apply GC_if_true;eq_refl)
|(apply GL_on;eq_refl;eq_refl)
|(apply G_pv;eq_refl;first|exact trivial|omega)
|(apply G_field;eq_refl)
|(apply G_ld;eq_refl;(repeat first|exact In.here|apply In.there|apply In.skip);eq_refl)
|(apply G_rdW;eq_refl;(first|(apply Rd.own;(repeat first|exact In.here|apply In.there|apply In.skip);infer_instance)|(apply Rd.old;(repeat first|exact In.here|apply In.there|apply In.skip);assumption)|(apply Rd.oldR;(repeat first|exact In.here|apply In.there|apply In.skip);assumption)|exact Rd.nil|assumption);infer_instance;(case ih => infer_instance);omega;omega)
|(apply G_cmpT;eq_refl;eq_refl;omega)
|(apply G_ix;eq_refl;eq_refl;(first|(apply Rd.own;(repeat first|exact In.here|apply In.there|apply In.skip);infer_instance)|(apply Rd.old;(repeat first|exact In.here|apply In.there|apply In.skip);assumption)|(apply Rd.oldR;(repeat first|exact In.here|apply In.there|apply In.skip);assumption)|exact Rd.nil|assumption);(first|eq_refl|omega);omega;omega)
|(apply G_alloc;eq_refl;intro _)
|(apply G_stV;(first|exact wr_p|kernel_rfl);eq_refl;eq_refl;eq_refl;eq_refl;(repeat first|exact Upd.here|apply Upd.there|apply Upd.skip);infer_instance;infer_instance;eq_refl;omega;(try simp only [List.length_set, List.length_append, List.length_replicate]);omega)
|(apply G_stW;(first|exact wr_p|kernel_rfl);eq_refl;eq_refl;eq_refl;eq_refl;(repeat first|exact Upd.here|apply Upd.there|apply Upd.skip);eq_refl))
    exact ⟨(i + 1, _), (by repeat first | exact trivial | refine ⟨rfl, ?_⟩), (by repeat first | exact Wk.nil | exact Wk.refl | (apply Wk.cons; (focus ((repeat first | exact Rem.here | apply Rem.there | apply Rem.skip); done))) | apply Wk.nilv | apply Wk.last | apply Wk.drop), ⟨hlt, hst⟩, by simp only; omega⟩
  · rw [fillL_all hge] at hout
    repeat' (first
|(apply GC_seqK;intro K hK)
|(apply hK;clear hK K)
|(clear hK K;apply hK;clear hK K)
|(apply GC_region)
|(apply GL_nil)
|(apply thenG_normal)
|(apply thenG_exit)
|(apply blockG_hit)
|(apply GC_ret)
|(apply GC_exit)
|(apply GC_if_false;eq_refl)
|(apply retG1;eq_refl)
|(apply GL_on;eq_refl;eq_refl)
|(apply G_pv;eq_refl;first|exact trivial|omega)
|(apply G_cmpF;eq_refl;eq_refl;omega))
    have e1 : c.latches.length = (nxtT c v).length := by unfold nxtT; simp
    refine ⟨[.vec icell 1 3 (some ⟨b1, 0, none⟩) c.latches.length out], (by repeat first | exact Wk.nil | exact Wk.refl | (apply Wk.cons; (focus ((repeat first | exact Rem.here | apply Rem.there | apply Rem.skip); done))) | apply Wk.nilv | apply Wk.last | apply Wk.drop), some ⟨b1, 0, none⟩, c.latches.length, by rw [e1], by rw [hout]; rfl⟩
section
variable {w : World} {c : Circ} {h js : Hd} {S T : Option Addr} {k2 k3 : Nat} {s r : List Int} (G : TabG w) (H : CirIn w c h js) (hS : RowA w icell 1 S s) (hT : RowA w icell 1 T r) (hs : s.length ≤ 9223372036854775807) (hr : r.length ≤ 9223372036854775807)
include G H hS hT hs hr
theorem lookedT_cv : CVN Tryd.prog 39 [.agg (ccells c h).toArray, .slice S s.length k2, .slice T r.length k3] w (LookedT c h s r) := by
  have hrd : ∀ Γ, In Γ (.old w none_) → ∀ w', Mem w' Γ → CVN Tryd.prog 48 [.agg (ccells c h).toArray] w' (ReadyT c h) := fun Γ hi w' M => readyT_cv (H.chg (hi.old M))
  have hr1 : ∀ Γ, In Γ (.old w none_) → ∀ w', Mem w' Γ → CVN Tryd.prog 61 [.slice S s.length k2, nu c.latches.length] w' _ := fun Γ hi w' M => isRow_cv (hS.chg (hi.old M)) hs
  have hr2 : ∀ Γ, In Γ (.old w none_) → ∀ w', Mem w' Γ → CVN Tryd.prog 61 [.slice T r.length k3, nu c.inputs.length] w' _ := fun Γ hi w' M => isRow_cv (hT.chg (hi.old M)) hr
  have hvl : twE c s r = 0 → ∀ Γ p B k, In Γ (.old w none_) → In Γ (.box p 103 (rcells c h B k)) → In Γ (.vec icell 1 3 B k (ordM c)) → ∀ w', Mem w' Γ → CVN Tryd.prog 45 [pt p, .slice S s.length k2, .slice T r.length k3] w' _ := fun he Γ p B k hi hb hv w' M => by
    obtain ⟨z0, ⟨z1, z2⟩, z3, z4⟩ := twE_zero he
    have H' := H.chg (hi.old M)
    exact valuesT_cv (G.chg (hi.old M)) (right_of H'.at_ H'.sane z0) (hb.box M) H'.at_ (hv.row M) (hS.chg (hi.old M)) (hT.chg (hi.old M)) z1 z3 z2 z4
  have hInp := H.at_.inputs
  have hLat := H.at_.latches
  unfold LookedT
  refine CVN.enter 38 [6, 7, 8] Tryd.func39 rfl rfl rfl (by decide) rfl ?_
  by_cases he : (lookM c).2 = 0
  · cases h1 : rowB s c.latches.length
    · have e0 := twE_no (s := s) (r := r) he (by rw [h1]; rfl)
      rw [h1] at hr1
      rw [e0]
      repeat' (first
|(apply G_call;eq_refl;eq_refl;(apply hrd;(repeat first|exact In.here|apply In.there|apply In.skip));rintro _ _ (⟨he', rfl, rfl⟩|⟨_, p1, A1, k1, rfl, rfl⟩);(exact absurd he he'))
|(apply G_call;eq_refl;eq_refl;(apply hr1;(repeat first|exact In.here|apply In.there|apply In.skip));rintro _ _ ⟨rfl, rfl⟩)
|(apply GC_seqK;intro K hK)
|(apply hK;clear hK K)
|(apply GC_region)
|(apply GL_nil)
|(apply thenG_normal)
|(apply thenG_ret)
|(apply GC_ret)
|(apply GC_skip)
|(apply GC_if_true;eq_refl)
|(apply GC_if_false;eq_refl)
|(apply retG3;eq_refl;eq_refl;eq_refl)
|(apply GL_on;eq_refl;eq_refl)
|(apply GL_off;eq_refl;eq_refl)
|(apply G_pv;eq_refl;first|exact trivial|omega)
|(apply G_field;eq_refl)
|(apply G_ld;eq_refl;(repeat first|exact In.here|apply In.there|apply In.skip);eq_refl)
|(apply G_ldW;eq_refl;(repeat first|exact In.here|apply In.there|apply In.skip);eq_refl)
|(apply G_cmpF;eq_refl;eq_refl;omega)
|(apply G_len;eq_refl)
|(apply G_box;eq_refl;eq_refl;intro _))
      exact ⟨[], (by repeat first | exact Wk.nil | exact Wk.refl | (apply Wk.cons; (focus ((repeat first | exact Rem.here | apply Rem.there | apply Rem.skip); done))) | apply Wk.nilv | apply Wk.last | apply Wk.drop), .inl ⟨by decide, rfl, rfl⟩⟩
    · rw [h1] at hr1
      cases h2 : rowB r c.inputs.length
      · have e0 := twE_no (s := s) (r := r) he (by rw [h1, h2]; rfl)
        rw [h2] at hr2
        rw [e0]
        repeat' (first
|(apply G_call;eq_refl;eq_refl;(apply hrd;(repeat first|exact In.here|apply In.there|apply In.skip));rintro _ _ (⟨he', rfl, rfl⟩|⟨_, p1, A1, k1, rfl, rfl⟩);(exact absurd he he'))
|(apply G_call;eq_refl;eq_refl;(apply hr1;(repeat first|exact In.here|apply In.there|apply In.skip));rintro _ _ ⟨rfl, rfl⟩)
|(apply G_call;eq_refl;eq_refl;(apply hr2;(repeat first|exact In.here|apply In.there|apply In.skip));rintro _ _ ⟨rfl, rfl⟩)
|(apply GC_seqK;intro K hK)
|(apply hK;clear hK K)
|(apply GC_region)
|(apply GL_nil)
|(apply thenG_normal)
|(apply thenG_ret)
|(apply GC_ret)
|(apply GC_skip)
|(apply GC_if_true;eq_refl)
|(apply GC_if_false;eq_refl)
|(apply retG3;eq_refl;eq_refl;eq_refl)
|(apply GL_on;eq_refl;eq_refl)
|(apply G_pv;eq_refl;first|exact trivial|omega)
|(apply G_field;eq_refl)
|(apply G_ld;eq_refl;(repeat first|exact In.here|apply In.there|apply In.skip);eq_refl)
|(apply G_ldW;eq_refl;(repeat first|exact In.here|apply In.there|apply In.skip);eq_refl)
|(apply G_cmpF;eq_refl;eq_refl;omega)
|(apply G_len;eq_refl)
|(apply G_box;eq_refl;eq_refl;intro _))
        exact ⟨[], (by repeat first | exact Wk.nil | exact Wk.refl | (apply Wk.cons; (focus ((repeat first | exact Rem.here | apply Rem.there | apply Rem.skip); done))) | apply Wk.nilv | apply Wk.last | apply Wk.drop), .inl ⟨by decide, rfl, rfl⟩⟩
      · have e0 := twE_ok he h1 h2
        have hv := hvl e0
        rw [h2] at hr2
        rw [e0]
        repeat' (first
|(apply G_call;eq_refl;eq_refl;(apply hrd;(repeat first|exact In.here|apply In.there|apply In.skip));rintro _ _ (⟨he', rfl, rfl⟩|⟨_, p1, A1, k1, rfl, rfl⟩);(exact absurd he he'))
|(apply G_call;eq_refl;eq_refl;(apply hr1;(repeat first|exact In.here|apply In.there|apply In.skip));rintro _ _ ⟨rfl, rfl⟩)
|(apply G_call;eq_refl;eq_refl;(apply hr2;(repeat first|exact In.here|apply In.there|apply In.skip));rintro _ _ ⟨rfl, rfl⟩)
|(apply G_call;eq_refl;eq_refl;(apply hv;(repeat first|exact In.here|apply In.there|apply In.skip);(repeat first|exact In.here|apply In.there|apply In.skip);(repeat first|exact In.here|apply In.there|apply In.skip));rintro _ _ ⟨A2, k4, rfl, rfl⟩)
|(apply GC_seqK;intro K hK)
|(apply hK;clear hK K)
|(apply GC_region)
|(apply GL_nil)
|(apply thenG_normal)
|(apply GC_ret)
|(apply GC_skip)
|(apply GC_if_false;eq_refl)
|(apply retG3;eq_refl;eq_refl;eq_refl)
|(apply GL_on;eq_refl;eq_refl)
|(apply G_pv;eq_refl;first|exact trivial|omega)
|(apply G_field;eq_refl)
|(apply G_ld;eq_refl;(repeat first|exact In.here|apply In.there|apply In.skip);eq_refl)
|(apply G_ldW;eq_refl;(repeat first|exact In.here|apply In.there|apply In.skip);eq_refl)
|(apply G_cmpF;eq_refl;eq_refl;omega)
|(apply G_len;eq_refl)
|(apply G_box;eq_refl;eq_refl;intro _))
        exact ⟨[_, _, _], (by repeat first | exact Wk.nil | exact Wk.refl | (apply Wk.cons; (focus ((repeat first | exact Rem.here | apply Rem.there | apply Rem.skip); done))) | apply Wk.nilv | apply Wk.last | apply Wk.drop), .inr ⟨rfl, _, _, _, _, _, rfl, rfl⟩⟩
  · have e0 := twE_look (s := s) (r := r) he
    rw [e0]
    repeat' (first
|(apply G_call;eq_refl;eq_refl;(apply hrd;(repeat first|exact In.here|apply In.there|apply In.skip));rintro _ _ (⟨_, rfl, rfl⟩|⟨he', p1, A1, k1, rfl, rfl⟩);rotate_left;(exact absurd he' he))
|(apply GC_seqK;intro K hK)
|(apply hK;clear hK K)
|(apply GC_region)
|(apply GL_nil)
|(apply thenG_normal)
|(apply thenG_ret)
|(apply GC_ret)
|(apply GC_if_true;eq_refl)
|(apply retG3;eq_refl;eq_refl;eq_refl)
|(apply GL_on;eq_refl;eq_refl)
|(apply G_pv;eq_refl;first|exact trivial|omega)
|(apply G_ldW;eq_refl;(repeat first|exact In.here|apply In.there|apply In.skip);eq_refl)
|(apply G_cmpT;eq_refl;eq_refl;omega)
|(apply G_box;eq_refl;eq_refl;intro _))
    exact ⟨[], (by repeat first | exact Wk.nil | exact Wk.refl | (apply Wk.cons; (focus ((repeat first | exact Rem.here | apply Rem.there | apply Rem.skip); done))) | apply Wk.nilv | apply Wk.last | apply Wk.drop), .inl ⟨he, rfl, rfl⟩⟩
end
end SC
end Go.Proofs.YtclihihdgodloaaDoor
end
section
/- trestleref08: Not, And, Lit0, Values0, row, Values, step, Step. -/
set_option linter.unusedVariables false
set_option linter.unusedSimpArgs false
namespace Go.Proofs.YtclihihdgodloaaDoor
namespace SC
open Go.Proofs
attribute [local irreducible] WC WL WX WS WO OX Does DoesU Enters CV Pure thenQ blockQ retQ Wants retQC GC GL GS GX RdB thenG blockG retG Rd At gt CVN CVM
set_option maxRecDepth 100000
end SC
end Go.Proofs.YtclihihdgodloaaDoor
end
section
/- trestleref08: Values, step, Step; Resets, Join of both; Lit of both. -/
set_option linter.unusedVariables false
set_option linter.unusedSimpArgs false
namespace Go.Proofs.YtclihihdgodloaaDoor
namespace SC
open Go.Proofs
def rsF (x : Tri) : Int := if x.2.2 < 2 then x.2.2 else 2
theorem rsT_map (c : Circ) : rsT c = c.latches.map rsF := rfl
theorem joinT_fill {a b : List Int} {i : Nat} (h : i < a.length) : ((joinT a b).take i ++ a.drop i).set (i : Int).toNat (if gt a (i : Int) = gt b (i : Int) then gt a (i : Int) else 2) = (joinT a b).take (i + 1) ++ a.drop (i + 1) := by
  have hl := joinT_len a b
  have e := joinT_gt (a := a) (b := b) h
  rw [gt_nat (by omega)] at e
  rw [Int.toNat_natCast, ← e, List.set_append_right _ _ (by rw [List.length_take]; omega), List.length_take, show i - min i (joinT a b).length = 0 by omega, List.drop_eq_getElem_cons h, List.set_cons_zero, List.take_succ_eq_append_getElem (by omega), List.append_assoc]
  rfl
theorem joinT_keep {a b : List Int} {i : Nat} (h : i < a.length) (he : gt a (i : Int) = gt b (i : Int)) : (joinT a b).take i ++ a.drop i = (joinT a b).take (i + 1) ++ a.drop (i + 1) := by
  have hl := joinT_len a b
  have e := joinT_gt (a := a) (b := b) h
  rw [gt_nat (by omega), if_pos he, gt_nat h] at e
  rw [List.drop_eq_getElem_cons h, List.take_succ_eq_append_getElem (by omega), List.append_assoc, e]
  rfl
theorem joinG {a b : List Int} {i : Nat} (h : i < a.length) : gt ((joinT a b).take i ++ a.drop i) (i : Int) = gt a (i : Int) := by
  have hl := joinT_len a b
  have h2 : i < ((joinT a b).take i ++ a.drop i).length := by rw [List.length_append, List.length_take, List.length_drop]; omega
  rw [gt_nat h2, gt_nat h, List.getElem_append_right (by rw [List.length_take]; omega)]
  simp only [List.length_take, List.getElem_drop]
  congr 1
  omega
theorem joinG_len {a b : List Int} {i : Nat} (h : i ≤ a.length) : ((joinT a b).take i ++ a.drop i).length = a.length := by
  have hl := joinT_len a b
  rw [List.length_append, List.length_take, List.length_drop]
  omega
section
variable {P : Program} {n : Nat} {all : List Oper} {K : Env → Mm → Prop} {m : Md} {e : Env} {Γ Γ' : Mm} {d : Option Tmp} {ty t t' t0 : TypeId} {x y z : Operand}
end
attribute [local irreducible] WC WL WX WS WO OX Does DoesU Enters CV Pure thenQ blockQ retQ Wants retQC GC GL GS GX RdB thenG blockG retG Rd At gt CVN CVM
set_option maxRecDepth 100000
section
variable {w : World} {c : Circ} {h js : Hd} {S T : Option Addr} {k2 k3 : Nat} {s r : List Int} (H : CirIn w c h js) (hS : RowA w icell 1 S s) (hT : RowA w icell 1 T r) (hs : s.length ≤ 9223372036854775807) (hr : r.length ≤ 9223372036854775807)
include H hS hT hs hr
end
section
variable {w : World} {c : Circ} {h js : Hd} {S T : Option Addr} {k2 k3 : Nat} {s r : List Int} (H : CirIn w c h js) (hS : RowA w icell 1 S s) (hT : RowA w icell 1 T r) (hs : s.length ≤ 9223372036854775807) (hr : r.length ≤ 9223372036854775807)
include H hS hT hs hr
end
/-! ### Resets -/
theorem resetsP_cv {w : World} {c : Circ} {h js : Hd} (R : Right c) (H : CirAt w c h js) : CVN Tryd.prog 50 [.agg (ccells c h).toArray] w fun r N => ∃ A' k', r = .slice A' (rsT c).length k' ∧ N = [.vec icell 1 3 A' k' (rsT c)] := by
  have hLat := H.latches
  have hn := R.nLat
  have m1 := R.m1
  have fl0 : fillL rsF c.latches 0 0 = List.replicate c.latches.length 0 := fillL_0
  refine CVN.enter 31 [2] Tryd.func50 rfl rfl rfl (by decide) rfl ?_
  repeat' (first
|(apply G_make icell;eq_refl;eq_refl;eq_refl;omega;decide;intro b1)
|(apply GC_seqK;intro K hK)
|(apply hK;clear hK K)
|(apply GC_block)
|(apply GC_region)
|(apply GL_nil)
|(apply thenG_normal)
|(apply GL_on;eq_refl;eq_refl)
|(apply G_pv;eq_refl;first|exact trivial|omega)
|(apply G_field;eq_refl)
|(apply G_ld;eq_refl;(repeat first|exact In.here|apply In.there|apply In.skip);eq_refl)
|(apply G_len;eq_refl)
|(apply G_box;eq_refl;eq_refl;intro _))
  refine GC_loopK [3, 11, 12] (fun s : Nat × List Int => [(13, nu s.1)]) (fun s => [.vec icell 1 3 (some ⟨b1, 0, none⟩) c.latches.length s.2, .old w none_]) (fun s => s.1 ≤ c.latches.length ∧ s.2 = fillL rsF c.latches 0 s.1) (fun s => c.latches.length - s.1) (0, List.replicate c.latches.length 0) (by repeat first | exact Pick.nil | (apply Pick.cons; eq_refl)) (by repeat first | exact trivial | refine ⟨rfl, ?_⟩) (by repeat first | exact Wk.nil | exact Wk.refl | (apply Wk.cons; (focus ((repeat first | exact Rem.here | apply Rem.there | apply Rem.skip); done))) | apply Wk.nilv | apply Wk.last | apply Wk.drop) ⟨Nat.zero_le _, fl0.symm⟩ ?_
  rintro ⟨i, out⟩ ⟨hi, hout⟩
  dsimp only at hi hout ⊢
  have hlen : out.length = c.latches.length := by rw [hout, fillL_len hi]
  rcases Nat.lt_or_ge i c.latches.length with hlt | hge
  · have u := R.lat (gt_mem (l := c.latches) (i := (i : Int)) (by omega) (by omega))
    have hst := fillL_set (f := rsF) (z := (0 : Int)) hlt
    rw [← hout] at hst
    unfold rsF at hst
    have hl2 : (out.set (i : Int).toNat 2).length = c.latches.length := by rw [List.length_set]; exact hlen
    by_cases h2 : (gt c.latches (i : Int)).2.2 < 2
    · rw [if_pos h2] at hst
      repeat' (first
|(apply GC_seqK;intro K hK)
|(apply hK;clear hK K)
|(apply GC_block)
|(apply GC_region)
|(apply GL_nil)
|(apply thenG_normal)
|(apply blockG_normal)
|(apply GC_skip)
|(apply GC_if_true;eq_refl)
|(apply GL_on;eq_refl;eq_refl)
|(apply G_pv;eq_refl;first|exact trivial|omega)
|(apply G_field;eq_refl)
|(apply G_ld;eq_refl;(repeat first|exact In.here|apply In.there|apply In.skip);eq_refl)
|(apply G_rdW;eq_refl;(first|(apply Rd.own;(repeat first|exact In.here|apply In.there|apply In.skip);infer_instance)|(apply Rd.old;(repeat first|exact In.here|apply In.there|apply In.skip);assumption)|(apply Rd.oldR;(repeat first|exact In.here|apply In.there|apply In.skip);assumption)|exact Rd.nil|assumption);infer_instance;(case ih => infer_instance);omega;omega)
|(apply G_cmpT;eq_refl;eq_refl;omega)
|(apply G_ix;eq_refl;eq_refl;(first|(apply Rd.own;(repeat first|exact In.here|apply In.there|apply In.skip);infer_instance)|(apply Rd.old;(repeat first|exact In.here|apply In.there|apply In.skip);assumption)|(apply Rd.oldR;(repeat first|exact In.here|apply In.there|apply In.skip);assumption)|exact Rd.nil|assumption);(first|eq_refl|omega);omega;omega)
|(apply G_alloc;eq_refl;intro _)
|(apply G_stV;(first|exact wr_p|kernel_rfl);eq_refl;eq_refl;eq_refl;eq_refl;(repeat first|exact Upd.here|apply Upd.there|apply Upd.skip);infer_instance;infer_instance;eq_refl;omega;(try simp only [List.length_set, List.length_append, List.length_replicate]);omega)
|(apply G_stW;(first|exact wr_p|kernel_rfl);eq_refl;eq_refl;eq_refl;eq_refl;(repeat first|exact Upd.here|apply Upd.there|apply Upd.skip);eq_refl))
      exact ⟨(i + 1, _), (by repeat first | exact trivial | refine ⟨rfl, ?_⟩), (by repeat first | exact Wk.nil | exact Wk.refl | (apply Wk.cons; (focus ((repeat first | exact Rem.here | apply Rem.there | apply Rem.skip); done))) | apply Wk.nilv | apply Wk.last | apply Wk.drop), ⟨hlt, by rw [List.set_set]; exact hst⟩, by simp only; omega⟩
    · rw [if_neg h2] at hst
      repeat' (first
|(apply GC_seqK;intro K hK)
|(apply hK;clear hK K)
|(apply GC_block)
|(apply GC_region)
|(apply GL_nil)
|(apply thenG_normal)
|(apply blockG_normal)
|(apply GC_skip)
|(apply GC_if_true;eq_refl)
|(apply GC_if_false;eq_refl)
|(apply GL_on;eq_refl;eq_refl)
|(apply G_pv;eq_refl;first|exact trivial|omega)
|(apply G_field;eq_refl)
|(apply G_ld;eq_refl;(repeat first|exact In.here|apply In.there|apply In.skip);eq_refl)
|(apply G_rdW;eq_refl;(first|(apply Rd.own;(repeat first|exact In.here|apply In.there|apply In.skip);infer_instance)|(apply Rd.old;(repeat first|exact In.here|apply In.there|apply In.skip);assumption)|(apply Rd.oldR;(repeat first|exact In.here|apply In.there|apply In.skip);assumption)|exact Rd.nil|assumption);infer_instance;(case ih => infer_instance);omega;omega)
|(apply G_cmpT;eq_refl;eq_refl;omega)
|(apply G_cmpF;eq_refl;eq_refl;omega)
|(apply G_ix;eq_refl;eq_refl;(first|(apply Rd.own;(repeat first|exact In.here|apply In.there|apply In.skip);infer_instance)|(apply Rd.old;(repeat first|exact In.here|apply In.there|apply In.skip);assumption)|(apply Rd.oldR;(repeat first|exact In.here|apply In.there|apply In.skip);assumption)|exact Rd.nil|assumption);(first|eq_refl|omega);omega;omega)
|(apply G_alloc;eq_refl;intro _)
|(apply G_stV;(first|exact wr_p|kernel_rfl);eq_refl;eq_refl;eq_refl;eq_refl;(repeat first|exact Upd.here|apply Upd.there|apply Upd.skip);infer_instance;infer_instance;eq_refl;omega;(try simp only [List.length_set, List.length_append, List.length_replicate]);omega)
|(apply G_stW;(first|exact wr_p|kernel_rfl);eq_refl;eq_refl;eq_refl;eq_refl;(repeat first|exact Upd.here|apply Upd.there|apply Upd.skip);eq_refl))
      exact ⟨(i + 1, _), (by repeat first | exact trivial | refine ⟨rfl, ?_⟩), (by repeat first | exact Wk.nil | exact Wk.refl | (apply Wk.cons; (focus ((repeat first | exact Rem.here | apply Rem.there | apply Rem.skip); done))) | apply Wk.nilv | apply Wk.last | apply Wk.drop), ⟨hlt, hst⟩, by simp only; omega⟩
  · rw [fillL_all hge, ← rsT_map] at hout
    repeat' (first
|(apply GC_seqK;intro K hK)
|(apply hK;clear hK K)
|(clear hK K;apply hK;clear hK K)
|(apply GC_region)
|(apply GL_nil)
|(apply thenG_normal)
|(apply thenG_exit)
|(apply blockG_hit)
|(apply GC_ret)
|(apply GC_exit)
|(apply GC_if_false;eq_refl)
|(apply retG1;eq_refl)
|(apply GL_on;eq_refl;eq_refl)
|(apply G_pv;eq_refl;first|exact trivial|omega)
|(apply G_cmpF;eq_refl;eq_refl;omega))
    have e1 : c.latches.length = (rsT c).length := by unfold rsT; simp
    refine ⟨[.vec icell 1 3 (some ⟨b1, 0, none⟩) c.latches.length out], (by repeat first | exact Wk.nil | exact Wk.refl | (apply Wk.cons; (focus ((repeat first | exact Rem.here | apply Rem.there | apply Rem.skip); done))) | apply Wk.nilv | apply Wk.last | apply Wk.drop), some ⟨b1, 0, none⟩, c.latches.length, by rw [e1], by rw [hout]⟩
end SC
end Go.Proofs.YtclihihdgodloaaDoor
end
section
/- trestlebook: SameCnf, SpoilCnf; lists of numbers lent. -/
set_option linter.unusedVariables false
set_option linter.unusedSimpArgs false
namespace Go.Proofs.YtclihihdgodloaaDoor
namespace SC
open Go.Proofs
theorem In.rowL {Γ : Mm} {w : World} {t : TypeId} {A : Option Addr} {c : Nat} {l : List Int} (h : In Γ (.vec icell 1 t A c (l ++ [-77]))) (M : Mem w Γ) : RowA w icell 1 A l := RowA.left (h.row M)
attribute [local irreducible] WC WL WX WS WO OX Does DoesU Enters CV Pure thenQ blockQ retQ Wants retQC GC GL GS GX RdB thenG blockG retG Rd At gt CVN CVM
set_option maxRecDepth 100000
end SC
end Go.Proofs.YtclihihdgodloaaDoor
end
section
/- Join, Lit of both; settling. -/
set_option linter.unusedVariables false
set_option linter.unusedSimpArgs false
namespace Go.Proofs.YtclihihdgodloaaDoor
namespace SC
open Go.Proofs
theorem cloneI_cv {w : World} {A : Option Addr} {k : Nat} {l : List Int} (hA : RowA w icell 1 A l) (hb : l.length ≤ 17592186044000) : CVN Tryd.prog 44 [.slice A l.length k] w fun v N => ∃ A' k', v = .slice A' l.length k' ∧ N = [.vec icell 1 3 A' k' l] :=
  CV.mono (clone85_cv (cells := l.flatMap icell) (c := k) (fun p hp => hA.cells ilen (by decide) hp) (fun h => by subst h; exact hA.nil_of) (by rw [length_flatMap2 icell 1 ilen]) (cell1_icell l) (by omega)) fun v w' ⟨h1, h2⟩ => by
    obtain ⟨A', k', rfl, M⟩ := own_vec h1 h2
    exact ⟨_, M, A', k', rfl, rfl⟩
theorem equalIntsG {w : World} {A B : Option Addr} {c d : Nat} {l m : List Int} (R : RowA w icell 1 A l) (R' : RowA w icell 1 B m) (hl : l.length ≤ 9223372036854775807) (hm : m.length ≤ 9223372036854775807) : CVN Tryd.prog 53 [.slice A l.length c, .slice B m.length d] w fun v N => N = [] ∧ v = .bool (decide (l = m)) :=
  CVN.of (equalInts_cv R R' hl hm) fun v w' h => ⟨h.2, h.1⟩
/-- Where it settles. -/
theorem least {p : Nat → Prop} : ∀ n : Nat, p n → ∃ k, p k ∧ ∀ i < k, ¬ p i := by
  intro n
  induction n using Nat.strongRecOn with
  | _ n ih =>
    intro h
    by_cases hex : ∃ i < n, p i
    · obtain ⟨i, hi, hp⟩ := hex
      exact ih i hi hp
    · exact ⟨n, h, fun i hi hp => hex ⟨i, hi, hp⟩⟩
theorem nS_ex (c : Circ) : ∃ k, setT c (stT c k) = stT c k ∧ ∀ i < k, ¬ setT c (stT c i) = stT c i := by
  obtain ⟨n, hn⟩ := stT_ends c
  exact least n hn
noncomputable def nS (c : Circ) : Nat := Classical.choose (nS_ex c)
theorem nS_fix (c : Circ) : setT c (stT c (nS c)) = stT c (nS c) := (Classical.choose_spec (nS_ex c)).1
theorem nS_not (c : Circ) {i : Nat} (h : i < nS c) : ¬ setT c (stT c i) = stT c i := (Classical.choose_spec (nS_ex c)).2 i h
theorem nS_le (c : Circ) : nS c ≤ c.latches.length := by
  have h1 := stT_opn c (nS c) fun k hk => nS_not c hk
  have h2 := opn_le (stT c (nS c))
  rw [stT_len] at h2
  omega
noncomputable def sM (c : Circ) : List Int := if (lookM c).2 = 0 then stT c (nS c) else []
noncomputable def sN (c : Circ) : Int := if (lookM c).2 = 0 then (nS c : Int) else 0
def SetV (c : Circ) (v : Value) (N : Mm) : Prop := ∃ A k, v = .tuple #[.slice A (sM c).length k, nu (sN c), nu (lookM c).2] ∧ N = [.vec icell 1 3 A k (sM c)]
attribute [local irreducible] WC WL WX WS WO OX Does DoesU Enters CV Pure thenQ blockQ retQ Wants retQC GC GL GS GX RdB thenG blockG retG Rd At gt CVN CVM
set_option maxRecDepth 100000
theorem join3_cv {w : World} {A B : Option Addr} {k k2 : Nat} {a b : List Int} (hA : RowA w icell 1 A a) (hB : RowA w icell 1 B b) (hl : b.length = a.length) (hn : a.length ≤ 16384) : CVN Tryd.prog 51 [.slice A a.length k, .slice B b.length k2] w fun v N => ∃ A' k', v = .slice A' (joinT a b).length k' ∧ N = [.vec icell 1 3 A' k' (joinT a b)] := by
  have hcl : ∀ Γ, In Γ (.old w none_) → ∀ w', Mem w' Γ → CVN Tryd.prog 44 [.slice A a.length k] w' _ := fun Γ hi w' M => cloneI_cv (hA.chg (hi.old M)) (by omega)
  refine CVN.enter 28 [4] Tryd.func51 rfl rfl rfl (by decide) rfl ?_
  repeat' (first
|(apply G_call;eq_refl;eq_refl;(apply hcl;(repeat first|exact In.here|apply In.there|apply In.skip));rintro _ _ ⟨A1, k1, rfl, rfl⟩)
|(apply GC_seqK;intro K hK)
|(apply hK;clear hK K)
|(apply GC_block)
|(apply GC_region)
|(apply GL_nil)
|(apply thenG_normal)
|(apply GL_on;eq_refl;eq_refl)
|(apply G_pv;eq_refl;first|exact trivial|omega)
|(apply G_len;eq_refl))
  refine GC_loopK [1, 5, 10] (fun i : Nat => [(11, nu i)]) (fun i => [.vec icell 1 3 A1 k1 ((joinT a b).take i ++ a.drop i), .old w none_]) (fun i => i ≤ a.length) (fun i => a.length - i) 0 (by repeat first | exact Pick.nil | (apply Pick.cons; eq_refl)) (by repeat first | exact trivial | refine ⟨rfl, ?_⟩) (by repeat first | exact Wk.nil | exact Wk.refl | (apply Wk.cons; (focus ((repeat first | exact Rem.here | apply Rem.there | apply Rem.skip); done))) | apply Wk.nilv | apply Wk.last | apply Wk.drop) (Nat.zero_le _) ?_
  intro i hi
  have hlen := joinG_len (b := b) hi
  rcases Nat.lt_or_ge i a.length with hlt | hge
  · have e1 := joinG (b := b) hlt
    by_cases he : gt a (i : Int) = gt b (i : Int)
    · have e2 := joinT_keep hlt he
      generalize hL : (joinT a b).take i ++ a.drop i = L at *
      rw [← e1] at he
      repeat' (first
|(apply GC_seqK;intro K hK)
|(apply hK;clear hK K)
|(apply GC_block)
|(apply GC_region)
|(apply GL_nil)
|(apply thenG_normal)
|(apply blockG_normal)
|(apply GC_skip)
|(apply GC_if_true;eq_refl)
|(apply GC_if_false;eq_refl)
|(apply GL_on;eq_refl;eq_refl)
|(refine GC_draws (id := 5) [.q 0, .q 1, .q 2, .q 3, .q 4, .q 5, .q 6, .q 7, .q 8] mixed (by kernel_rfl) (by kernel_rfl) ?_)
|(apply GS_nil)
|(apply GS_qon;eq_refl;eq_refl;eq_refl;eq_refl)
|(apply G_pv;eq_refl;first|exact trivial|omega)
|(apply G_rd;eq_refl;(first|(apply Rd.own;(repeat first|exact In.here|apply In.there|apply In.skip);infer_instance)|(apply Rd.old;(repeat first|exact In.here|apply In.there|apply In.skip);assumption)|(apply Rd.oldR;(repeat first|exact In.here|apply In.there|apply In.skip);assumption)|exact Rd.nil|assumption);(case ih => infer_instance);omega;omega;eq_refl)
|(apply G_cmpT;eq_refl;eq_refl;omega)
|(apply G_cmpF;eq_refl;eq_refl;omega)
|(apply G_ix;eq_refl;eq_refl;(first|(apply Rd.own;(repeat first|exact In.here|apply In.there|apply In.skip);infer_instance)|(apply Rd.old;(repeat first|exact In.here|apply In.there|apply In.skip);assumption)|(apply Rd.oldR;(repeat first|exact In.here|apply In.there|apply In.skip);assumption)|exact Rd.nil|assumption);(first|eq_refl|omega);omega;omega))
      rw [e2]
      exact ⟨i + 1, (by repeat first | exact trivial | refine ⟨rfl, ?_⟩), (by repeat first | exact Wk.nil | exact Wk.refl | (apply Wk.cons; (focus ((repeat first | exact Rem.here | apply Rem.there | apply Rem.skip); done))) | apply Wk.nilv | apply Wk.last | apply Wk.drop), hlt, by omega⟩
    · have e2 := joinT_fill (b := b) hlt
      rw [if_neg he] at e2
      generalize hL : (joinT a b).take i ++ a.drop i = L at *
      rw [← e1] at he
      repeat' (first
|(apply GC_seqK;intro K hK)
|(apply hK;clear hK K)
|(apply GC_block)
|(apply GC_region)
|(apply GL_nil)
|(apply thenG_normal)
|(apply blockG_normal)
|(apply GC_skip)
|(apply GC_if_true;eq_refl)
|(apply GL_on;eq_refl;eq_refl)
|(refine GC_draws (id := 5) [.q 0, .q 1, .q 2, .q 3, .q 4, .q 5, .q 6, .q 7, .q 8] mixed (by kernel_rfl) (by kernel_rfl) ?_)
|(apply GS_nil)
|(apply GS_qon;eq_refl;eq_refl;eq_refl;eq_refl)
|(apply G_pv;eq_refl;first|exact trivial|omega)
|(apply G_rd;eq_refl;(first|(apply Rd.own;(repeat first|exact In.here|apply In.there|apply In.skip);infer_instance)|(apply Rd.old;(repeat first|exact In.here|apply In.there|apply In.skip);assumption)|(apply Rd.oldR;(repeat first|exact In.here|apply In.there|apply In.skip);assumption)|exact Rd.nil|assumption);(case ih => infer_instance);omega;omega;eq_refl)
|(apply G_cmpT;eq_refl;eq_refl;omega)
|(apply G_ix;eq_refl;eq_refl;(first|(apply Rd.own;(repeat first|exact In.here|apply In.there|apply In.skip);infer_instance)|(apply Rd.old;(repeat first|exact In.here|apply In.there|apply In.skip);assumption)|(apply Rd.oldR;(repeat first|exact In.here|apply In.there|apply In.skip);assumption)|exact Rd.nil|assumption);(first|eq_refl|omega);omega;omega)
|(apply G_stV;(first|exact wr_p|kernel_rfl);eq_refl;eq_refl;eq_refl;eq_refl;(repeat first|exact Upd.here|apply Upd.there|apply Upd.skip);infer_instance;infer_instance;eq_refl;omega;(try simp only [List.length_set, List.length_append, List.length_replicate]);omega))
      rw [e2]
      exact ⟨i + 1, (by repeat first | exact trivial | refine ⟨rfl, ?_⟩), (by repeat first | exact Wk.nil | exact Wk.refl | (apply Wk.cons; (focus ((repeat first | exact Rem.here | apply Rem.there | apply Rem.skip); done))) | apply Wk.nilv | apply Wk.last | apply Wk.drop), hlt, by omega⟩
  · obtain rfl : i = a.length := by omega
    have e3 : (joinT a b).take a.length ++ a.drop a.length = joinT a b := by rw [List.drop_length, List.append_nil, List.take_of_length_le (by rw [joinT_len]; exact Nat.le_refl _)]
    rw [e3]
    repeat' (first
|(apply GC_seqK;intro K hK)
|(apply hK;clear hK K)
|(clear hK K;apply hK;clear hK K)
|(apply GC_region)
|(apply GL_nil)
|(apply thenG_normal)
|(apply thenG_exit)
|(apply blockG_hit)
|(apply GC_ret)
|(apply GC_exit)
|(apply GC_if_false;eq_refl)
|(apply retG1;eq_refl)
|(apply GL_on;eq_refl;eq_refl)
|(apply G_pv;eq_refl;first|exact trivial|omega)
|(apply G_cmpF;eq_refl;eq_refl;omega))
    exact ⟨[.vec icell 1 3 A1 k1 (joinT a b)], (by repeat first | exact Wk.nil | exact Wk.refl | (apply Wk.cons; (focus ((repeat first | exact Rem.here | apply Rem.there | apply Rem.skip); done))) | apply Wk.nilv | apply Wk.last | apply Wk.drop), A1, k1, by rw [joinT_len], rfl⟩
end SC
end Go.Proofs.YtclihihdgodloaaDoor
end
section
/- Three values: what they cover; what settles; what is lifted: the plain law. -/
set_option linter.unusedVariables false
set_option linter.unusedSimpArgs false
namespace Go.Proofs.YtclihihdgodloaaDoor
namespace SC
open Go.Proofs
def Cov (x : Int) (b : Bool) : Prop := x ≠ 2 → decide (x = 1) = b
structure CovL (v : List Int) (w : List Bool) : Prop where
  len : v.length = w.length
  each : ∀ i : Nat, i < v.length → Cov (gt v (i : Int)) (gt w (i : Int))
theorem gt_set {α : Type} [Inhabited α] {l : List α} {i j : Nat} {x : α} (hi : i < l.length) : gt (l.set i x) (j : Int) = if j = i then x else gt l (j : Int) := by
  unfold gt
  simp only [Int.toNat_natCast]
  rw [List.getD_eq_getElem?_getD, List.getD_eq_getElem?_getD, List.getElem?_set]
  by_cases h : j = i
  · rw [if_pos h, if_pos h.symm, if_pos hi]
    rfl
  · rw [if_neg h, if_neg (fun e => h e.symm)]
theorem gt_setN {α : Type} [Inhabited α] {l : List α} {i j : Nat} {x : α} (hi : ¬ i < l.length) : gt (l.set i x) (j : Int) = gt l (j : Int) := by rw [List.set_eq_of_length_le (by omega)]
theorem CovL.set {v : List Int} {w : List Bool} (h : CovL v w) {i : Nat} {x : Int} {b : Bool} (hx : Cov x b) : CovL (v.set i x) (w.set i b) := by
  refine ⟨by rw [List.length_set, List.length_set, h.len], fun j hj => ?_⟩
  rw [List.length_set] at hj
  by_cases hi : i < v.length
  · rw [gt_set hi, gt_set (by rw [← h.len]; exact hi)]
    split
    · exact hx
    · exact h.each j hj
  · rw [gt_setN hi, gt_setN (by rw [← h.len]; exact hi)]
    exact h.each j hj
theorem Cov.and {x y : Int} {a b : Bool} (hx : Cov x a) (hy : Cov y b) (h1 : Is3 x) (h2 : Is3 y) : Cov (tand x y) (a && b) := by
  intro hn
  unfold Is3 at h1 h2
  unfold tand at hn ⊢
  have e : x = 0 ∨ x = 1 ∨ x = 2 := by omega
  have e' : y = 0 ∨ y = 1 ∨ y = 2 := by omega
  rcases e with rfl | rfl | rfl
  · rw [← hx (by decide)]; rfl
  · rcases e' with rfl | rfl | rfl
    · rw [← hy (by decide), ← hx (by decide)]; rfl
    · rw [← hy (by decide), ← hx (by decide)]; rfl
    · simp at hn
  · rcases e' with rfl | rfl | rfl
    · rw [← hy (by decide)]; simp
    · simp at hn
    · simp at hn
theorem CovL.tl {v : List Int} {w : List Bool} (h : CovL v w) (hv : Row3 v) {l : Int} (h0 : 0 ≤ l / 2) (h1 : l / 2 < v.length) : Cov (tl v l) (lv w l) := by
  obtain ⟨j, hj⟩ : ∃ j : Nat, l / 2 = (j : Int) := ⟨(l / 2).toNat, by omega⟩
  have hc := h.each j (by omega)
  have h3 := hv.gt h0 h1
  unfold SC.tl SC.lv
  rw [hj] at *
  unfold Is3 at h3
  intro hn
  by_cases ho : l % 2 = 1
  · rw [if_pos ho] at hn ⊢
    rw [decide_eq_true ho]
    unfold tnot at hn ⊢
    have e : gt v (j : Int) = 0 ∨ gt v (j : Int) = 1 ∨ gt v (j : Int) = 2 := by omega
    rcases e with e | e | e
    · rw [← hc (by omega), e]; rfl
    · rw [← hc (by omega), e]; rfl
    · rw [e] at hn; simp at hn
  · rw [if_neg ho] at hn ⊢
    rw [decide_eq_false ho, ← hc hn]
    simp
section
variable {c : Circ} (R : Right c)
include R
theorem cov_base : CovL (tB c) (List.replicate (c.max + 1).toNat false) := by
  refine ⟨by rw [tB_len R.m0, List.length_replicate], fun i hi => ?_⟩
  rw [tB_len R.m0] at hi
  have e : gt (List.replicate (c.max + 1).toNat false) (i : Int) = false := by rw [gt_nat (by rw [List.length_replicate]; exact hi), List.getElem_replicate]
  rw [e]
  rcases i with _ | i
  · intro _; rfl
  · intro hn
    refine absurd ?_ hn
    rw [gt_nat (by rw [tB_len R.m0]; exact hi)]
    unfold tB
    rw [List.getElem_cons_succ, List.getElem_replicate]
theorem cov_val {s r : List Int} {s' r' : List Bool} (hs : CovL s s') (hr : CovL r r') (h1 : s.length = c.latches.length) (h2 : r.length = c.inputs.length) (h3 : Row3 s) (h4 : Row3 r) : CovL (valT c s r) (valM c s' r') := by
  have m0 := R.m0
  have a1 : ∀ i ≤ c.inputs.length, CovL (tIn c r i) (vIn c r' i) := fun i => by
    induction i with
    | zero => exact fun _ => cov_base R
    | succ i ih => exact fun h => by rw [tIn_succ, vIn_succ]; exact (ih (by omega)).set (hr.each i (by omega))
  have a2 : ∀ i ≤ c.latches.length, CovL (tLt c s (tIn c r c.inputs.length) i) (vLt c s' (vIn c r' c.inputs.length) i) := fun i => by
    induction i with
    | zero => exact fun _ => a1 _ (Nat.le_refl _)
    | succ i ih => exact fun h => by rw [tLt_succ, vLt_succ]; exact (ih (by omega)).set (hs.each i (by omega))
  have r2 := tLt_row (c := c) h3 (tIn_row (c := c) h4 c.inputs.length (by omega)) c.latches.length (by omega)
  have a3 : ∀ i ≤ (ordM c).length, CovL (tAn c (ordM c) (tLt c s (tIn c r c.inputs.length) c.latches.length) i) (vAn c (ordM c) (vLt c s' (vIn c r' c.inputs.length) c.latches.length) i) := fun i => by
    induction i with
    | zero => exact fun _ => a2 _ (Nat.le_refl _)
    | succ i ih =>
      intro h
      rw [tAn_succ, vAn_succ]
      have A := ih (by omega)
      have r3 := tAn_row (c := c) (o := ordM c) r2 i
      have hl : (tAn c (ordM c) (tLt c s (tIn c r c.inputs.length) c.latches.length) i).length = (c.max + 1).toNat := by rw [tAn_len, tLt_len, tIn_len m0]
      have ho := R.ord (gt_mem (l := ordM c) (i := (i : Int)) (by omega) (by omega))
      obtain ⟨_, g1, g2⟩ := R.gate (gt_mem (l := c.ands) ho.1 ho.2)
      have u1 := g1.hasI hl
      have u2 := g2.hasI hl
      exact A.set ((A.tl r3 u1.1 u1.2).and (A.tl r3 u2.1 u2.2) (r3.tl u1.1 u1.2) (r3.tl u2.1 u2.2))
  exact a3 _ (Nat.le_refl _)
theorem cov_nxt {v : List Int} {w : List Bool} (h : CovL v w) (hv : Row3 v) (hl : v.length = (c.max + 1).toNat) : CovL (nxtT c v) (nxtM c w) := by
  refine ⟨by unfold nxtT nxtM; rw [List.length_map, List.length_map], fun i hi => ?_⟩
  have hi2 : i < c.latches.length := by unfold nxtT at hi; rwa [List.length_map] at hi
  have u := (R.lat (List.getElem_mem hi2)).2.1.hasI hl
  have e1 : gt (nxtT c v) (i : Int) = tl v c.latches[i].2.1 := (gt_nat hi).trans (List.getElem_map _)
  have e2 : gt (nxtM c w) (i : Int) = lv w c.latches[i].2.1 := (gt_nat (by unfold nxtM; rw [List.length_map]; exact hi2)).trans (List.getElem_map _)
  rw [e1, e2]
  exact h.tl hv u.1 u.2
/-! ### runs are covered -/
omit R in
theorem CovL.join {a b : List Int} {s : List Bool} (h : CovL a s) : CovL (joinT a b) s := by
  refine ⟨by rw [joinT_len, h.len], fun i hi => ?_⟩
  rw [joinT_len] at hi
  rw [joinT_gt hi]
  split
  · exact h.each i hi
  · exact fun hn => absurd rfl hn
omit R in
theorem cov_open (r : List Bool) (hr : r.length = c.inputs.length) : CovL (List.replicate c.inputs.length 2) r := by
  refine ⟨by rw [List.length_replicate, hr], fun i hi hn => ?_⟩
  rw [List.length_replicate] at hi
  exact absurd (by rw [gt_nat (by rw [List.length_replicate]; exact hi), List.getElem_replicate]) hn
omit R in
theorem open_row (n : Nat) : Row3 (List.replicate n 2) := fun x hx => by rw [(List.mem_replicate.1 hx).2]; exact ⟨by decide, by decide⟩
theorem cov_start {s : List Bool} (hl : s.length = c.latches.length) (hs : startsM c s c.latches.length = true) : CovL (rsT c) s := by
  refine ⟨by unfold rsT; rw [List.length_map, hl], fun i hi => ?_⟩
  have hi2 : i < c.latches.length := by unfold rsT at hi; rwa [List.length_map] at hi
  have h9 : okSt (gt c.latches (i : Int)) (gt s (i : Int)) = true := by
    unfold startsM at hs
    rw [List.all_eq_true] at hs
    exact hs i (List.mem_range.2 hi2)
  have e1 : gt (rsT c) (i : Int) = if c.latches[i].2.2 < 2 then c.latches[i].2.2 else 2 := (gt_nat hi).trans (List.getElem_map _)
  rw [e1]
  rw [gt_nat hi2] at h9
  obtain ⟨g1, _, g3⟩ := R.lat (List.getElem_mem hi2)
  unfold defR at g1
  intro hn
  unfold okSt at h9
  rcases g3 with e | e | e
  · rw [e] at h9 ⊢
    cases hb : gt s (i : Int)
    · rfl
    · rw [hb] at h9; simp at h9
  · rw [e] at h9 ⊢
    cases hb : gt s (i : Int)
    · rw [hb] at h9; simp at h9
    · rfl
  · rw [if_neg (by omega)] at hn
    exact absurd rfl hn
theorem cov_stT {s : List Bool} (hl : s.length = c.latches.length) (hs : startsM c s c.latches.length = true) : ∀ n, CovL (stT c n) s
  | 0 => cov_start R hl hs
  | n + 1 => CovL.join (cov_stT hl hs n)
theorem cov_step {a : List Int} {s r : List Bool} (ha : Row3 a) (hl : a.length = c.latches.length) (hr : r.length = c.inputs.length) (hf : setT c a = a) (h : CovL a s) : CovL a (nxtM c (valM c s r)) := by
  have hv := cov_val R h (cov_open r hr) hl (by rw [List.length_replicate]) ha (open_row _)
  have hrow := valT_row (c := c) ha (open_row c.inputs.length) hl (by rw [List.length_replicate])
  have hn := cov_nxt R hv hrow (valT_len R.m0 _ _)
  refine ⟨by rw [hl]; unfold nxtM; rw [List.length_map], fun i hi hne => ?_⟩
  have hj := joinT_gt (b := nxtT c (valT c a (List.replicate c.inputs.length 2))) hi
  have e : gt (setT c a) (i : Int) = gt a (i : Int) := by rw [hf]
  unfold setT at e
  rw [hj] at e
  have hnl : i < (nxtT c (valT c a (List.replicate c.inputs.length 2))).length := by unfold nxtT; rw [List.length_map]; omega
  by_cases heq : gt a (i : Int) = gt (nxtT c (valT c a (List.replicate c.inputs.length 2))) (i : Int)
  · have := hn.each i hnl
    rw [← heq] at this
    exact this hne
  · rw [if_neg heq] at e
    exact absurd e.symm hne
theorem cov_run {t : Trc} {n : Nat} (F : Fit c t) (hs : startsM c t.init c.latches.length = true) (hf : setT c (stT c n) = stT c n) : ∀ k ≤ t.rows.length, CovL (stT c n) (stM c t k)
  | 0, _ => cov_stT R F.init hs n
  | k + 1, h => cov_step R (stT_row R n) (stT_len c n) (F.rows _ (gt_mem (l := t.rows) (i := (k : Int)) (by omega) (by omega))) hf (cov_run F hs hf k (by omega))
end
/-! ### opening more -/
/-! ### lifting -/
def onesT (v ls : List Int) : Bool := ls.all fun l => decide (tl v l = 1)
noncomputable def lfT (c : Circ) (s r ls : List Int) : Nat → List Int
  | 0 => s
  | i + 1 => if onesT (valT c ((lfT c s r ls i).set i 2) r) ls = true then (lfT c s r ls i).set i 2 else lfT c s r ls i
section
variable {c : Circ} {s r ls : List Int}
theorem lfT_len : ∀ i, (lfT c s r ls i).length = s.length
  | 0 => rfl
  | i + 1 => by
    unfold lfT
    split
    · rw [List.length_set, lfT_len i]
    · exact lfT_len i
theorem lfT_row (hs : Row3 s) : ∀ i, Row3 (lfT c s r ls i)
  | 0 => hs
  | i + 1 => by
    unfold lfT
    split
    · exact (lfT_row hs i).set ⟨by decide, by decide⟩
    · exact lfT_row hs i
theorem lfT_late : ∀ i k : Nat, i ≤ k → gt (lfT c s r ls i) (k : Int) = gt s (k : Int)
  | 0, _, _ => rfl
  | i + 1, k, h => by
    unfold lfT
    split
    · by_cases hi : i < (lfT c s r ls i).length
      · rw [gt_set hi, if_neg (by omega)]
        exact lfT_late i k (by omega)
      · rw [gt_setN hi]
        exact lfT_late i k (by omega)
    · exact lfT_late i k (by omega)
end
end SC
end Go.Proofs.YtclihihdgodloaaDoor
end
section
/- Settle, Lift of both. -/
set_option linter.unusedVariables false
set_option linter.unusedSimpArgs false
namespace Go.Proofs.YtclihihdgodloaaDoor
namespace SC
open Go.Proofs
theorem Is3.two : Is3 2 := ⟨by decide, by decide⟩
/-- What is wrong with what is to be lifted. -/
noncomputable def lfE (c : Circ) (s r ls : List Int) : Int := if twE c s r ≠ 0 then twE c s r else if 16384 < ls.length then 2 else if (ls.all fun l => decide (0 ≤ l) && decide (l ≤ 2 * c.max + 1)) = false then 1 else if onesT (valT c s r) ls = false then 81 else 0
noncomputable def lfM (c : Circ) (s r ls : List Int) : List Int := if lfE c s r ls = 0 then lfT c s r ls s.length else []
theorem lfE_tw {c : Circ} {s r ls : List Int} (h : twE c s r ≠ 0) : lfE c s r ls = twE c s r := if_pos h
theorem lfE_long {c : Circ} {s r ls : List Int} (h : twE c s r = 0) (h2 : 16384 < ls.length) : lfE c s r ls = 2 := by unfold lfE; rw [if_neg (by omega), if_pos h2]
theorem lfE_rg {c : Circ} {s r ls : List Int} (h : twE c s r = 0) (h2 : ¬ 16384 < ls.length) (h3 : (ls.all fun l => decide (0 ≤ l) && decide (l ≤ 2 * c.max + 1)) = false) : lfE c s r ls = 1 := by unfold lfE; rw [if_neg (by omega), if_neg h2, if_pos h3]
theorem lfE_no {c : Circ} {s r ls : List Int} (h : twE c s r = 0) (h2 : ¬ 16384 < ls.length) (h3 : (ls.all fun l => decide (0 ≤ l) && decide (l ≤ 2 * c.max + 1)) = true) (h4 : onesT (valT c s r) ls = false) : lfE c s r ls = 81 := by unfold lfE; rw [if_neg (by omega), if_neg h2, if_neg (by rw [h3]; decide), if_pos h4]
theorem lfE_ok {c : Circ} {s r ls : List Int} (h : twE c s r = 0) (h2 : ¬ 16384 < ls.length) (h3 : (ls.all fun l => decide (0 ≤ l) && decide (l ≤ 2 * c.max + 1)) = true) (h4 : onesT (valT c s r) ls = true) : lfE c s r ls = 0 := by unfold lfE; rw [if_neg (by omega), if_neg h2, if_neg (by rw [h3]; decide), if_neg (by rw [h4]; decide)]
theorem lits_in {c : Circ} {ls : List Int} (h : (ls.all fun l => decide (0 ≤ l) && decide (l ≤ 2 * c.max + 1)) = true) : ∀ l ∈ ls, inR c l := fun l hl => by
  rw [List.all_eq_true] at h
  have := h l hl
  rw [Bool.and_eq_true, decide_eq_true_iff, decide_eq_true_iff] at this
  exact this
attribute [local irreducible] WC WL WX WS WO OX Does DoesU Enters CV Pure thenQ blockQ retQ Wants retQC GC GL GS GX RdB thenG blockG retG Rd At gt CVN CVM
set_option maxRecDepth 100000
set_option maxHeartbeats 800000 in
theorem SettleP_cv {w : World} {c : Circ} {h js : Hd} (G : TabG w) (H : CirIn w c h js) : CVN Tryd.prog 19 [.agg (ccells c h).toArray] w (SetV c) := by
  have hrd : ∀ Γ, In Γ (.old w none_) → ∀ w', Mem w' Γ → CVN Tryd.prog 48 [.agg (ccells c h).toArray] w' (ReadyT c h) := fun Γ hi w' M => readyT_cv (H.chg (hi.old M))
  have hInp := H.at_.inputs
  unfold SetV
  refine CVN.enter 42 [2, 3, 4] Tryd.func19 rfl rfl rfl (by decide) rfl ?_
  by_cases he : (lookM c).2 = 0
  · have R := right_of H.at_ H.sane he
    have n1 := R.nIn
    have n2 := R.nLat
    have m0 := R.m0
    have hSl := nS_le c
    have e1 : sM c = stT c (nS c) := if_pos he
    have e2 : sN c = (nS c : Int) := if_pos he
    have hRep : ∀ Γ b, In Γ (.box b 3 [nu 2]) → ∀ w', Mem w' Γ → CVN Tryd.prog 49 [.slice (some ⟨b, 0, none⟩) 1 1, nu c.inputs.length] w' fun r N => ∃ b, r = .slice (some ⟨b, 0, none⟩) (List.replicate c.inputs.length (2 : Int)).length c.inputs.length ∧ N = [.vec icell 1 3 (some ⟨b, 0, none⟩) c.inputs.length (List.replicate c.inputs.length 2)] := fun Γ b hi w' M => Repeat_cv (k := 1) (v := 2) (q := c.inputs.length) (RowA.blk (l := [2]) (fun _ => rfl) (hi.box M)) (by omega)
    have hrs : ∀ Γ, In Γ (.old w none_) → ∀ w', Mem w' Γ → CVN Tryd.prog 50 [.agg (ccells c h).toArray] w' _ := fun Γ hi w' M => resetsP_cv R (H.at_.chg (hi.old M))
    rw [he, e1, e2]
    repeat' (first
|(apply G_call;eq_refl;eq_refl;(apply hrd;(repeat first|exact In.here|apply In.there|apply In.skip));rintro _ _ (⟨he', rfl, rfl⟩|⟨_, p1, B1, kB, rfl, rfl⟩);(exact absurd he he'))
|(apply G_call;eq_refl;eq_refl;(apply hRep;(repeat first|exact In.here|apply In.there|apply In.skip));rintro _ _ ⟨b7, rfl, rfl⟩)
|(apply G_call;eq_refl;eq_refl;(apply hrs;(repeat first|exact In.here|apply In.there|apply In.skip));rintro _ _ ⟨A8, k8, rfl, rfl⟩)
|(apply GC_seqK;intro K hK)
|(apply hK;clear hK K)
|(apply GC_block)
|(apply GC_region)
|(apply GL_nil)
|(apply thenG_normal)
|(apply GC_skip)
|(apply GC_if_false;eq_refl)
|(apply GL_on;eq_refl;eq_refl)
|(apply G_pv;eq_refl;first|exact trivial|omega)
|(apply G_field;eq_refl)
|(apply G_ld;eq_refl;(repeat first|exact In.here|apply In.there|apply In.skip);eq_refl)
|(apply G_ldW;eq_refl;(repeat first|exact In.here|apply In.there|apply In.skip);eq_refl)
|(apply G_cmpF;eq_refl;eq_refl;omega)
|(apply G_len;eq_refl)
|(apply G_box;eq_refl;eq_refl;intro _)
|(apply G_new (fun b => .slice (some ⟨b, 0, none⟩) 1 1);eq_refl;(intro _;apply buildS22_1 <;> eq_refl);intro _))
    refine GC_loopK [5, 7] (fun s : Nat × Option Addr × Nat => [(8, .slice s.2.1 (stT c s.1).length s.2.2), (9, nu s.1)]) (fun s => [.vec icell 1 3 s.2.1 s.2.2 (stT c s.1), .vec icell 1 3 (some ⟨b7, 0, none⟩) c.inputs.length (List.replicate c.inputs.length 2), .box p1 103 (rcells c h B1 kB), .vec icell 1 3 B1 kB (ordM c), .old w none_]) (fun s => s.1 ≤ nS c) (fun s => nS c - s.1) (0, A8, k8) (by repeat first | exact Pick.nil | (apply Pick.cons; eq_refl)) (by repeat first | exact trivial | refine ⟨rfl, ?_⟩) (by repeat first | exact Wk.nil | exact Wk.refl | (apply Wk.cons; (focus ((repeat first | exact Rem.here | apply Rem.there | apply Rem.skip); done))) | apply Wk.nilv | apply Wk.last | apply Wk.drop) (Nat.zero_le _) ?_
    rintro ⟨n, A, k⟩ hn
    dsimp only at hn ⊢
    have hsl := stT_len c n
    have hsr := stT_row R n
    have hrl : (List.replicate c.inputs.length (2 : Int)).length = c.inputs.length := List.length_replicate
    have hvl := valT_len m0 (stT c n) (List.replicate c.inputs.length 2)
    have hvr := valT_row (c := c) hsr (open_row c.inputs.length) hsl hrl
    have hv : ∀ Γ, In Γ (.old w none_) → In Γ (.box p1 103 (rcells c h B1 kB)) → In Γ (.vec icell 1 3 B1 kB (ordM c)) → In Γ (.vec icell 1 3 A k (stT c n)) → In Γ (.vec icell 1 3 (some ⟨b7, 0, none⟩) c.inputs.length (List.replicate c.inputs.length 2)) → ∀ w', Mem w' Γ → CVN Tryd.prog 45 [pt p1, .slice A (stT c n).length k, .slice (some ⟨b7, 0, none⟩) (List.replicate c.inputs.length (2 : Int)).length c.inputs.length] w' _ := fun Γ hi hb ho ha hr w' M => valuesT_cv (G.chg (hi.old M)) R (hb.box M) (H.at_.chg (hi.old M)) (ho.row M) (ha.row M) (hr.row M) hsl hrl hsr (open_row _)
    have hnx : ∀ Γ A2 k2, In Γ (.old w none_) → In Γ (.box p1 103 (rcells c h B1 kB)) → In Γ (.vec icell 1 3 A2 k2 (valT c (stT c n) (List.replicate c.inputs.length 2))) → ∀ w', Mem w' Γ → CVN Tryd.prog 52 [pt p1, .slice A2 (valT c (stT c n) (List.replicate c.inputs.length 2)).length k2] w' _ := fun Γ A2 k2 hi hb hv w' M => nextT_cv (G.chg (hi.old M)) R (hb.box M) (H.at_.chg (hi.old M)) (hv.row M) hvr hvl
    have hj : ∀ Γ A2 k2, In Γ (.vec icell 1 3 A k (stT c n)) → In Γ (.vec icell 1 3 A2 k2 (nxtT c (valT c (stT c n) (List.replicate c.inputs.length 2)))) → ∀ w', Mem w' Γ → CVN Tryd.prog 51 [.slice A (stT c n).length k, .slice A2 (nxtT c (valT c (stT c n) (List.replicate c.inputs.length 2))).length k2] w' fun v N => ∃ A' k', v = .slice A' (stT c (n + 1)).length k' ∧ N = [.vec icell 1 3 A' k' (stT c (n + 1))] := fun Γ A2 k2 ha hb w' M => join3_cv (ha.row M) (hb.row M) (by rw [hsl]; unfold nxtT; rw [List.length_map]) (by omega)
    have hsl1 := stT_len c (n + 1)
    have hq : ∀ Γ A2 k2, In Γ (.vec icell 1 3 A k (stT c n)) → In Γ (.vec icell 1 3 A2 k2 (stT c (n + 1))) → ∀ w', Mem w' Γ → CVN Tryd.prog 53 [.slice A (stT c n).length k, .slice A2 (stT c (n + 1)).length k2] w' _ := fun Γ A2 k2 ha hb w' M => equalIntsG (ha.row M) (hb.row M) (by omega) (by omega)
    by_cases hf : n = nS c
    · have hd : decide (stT c n = stT c (n + 1)) = true := decide_eq_true (by subst hf; exact (nS_fix c).symm)
      rw [hd] at hq
      generalize stT c (n + 1) = S1 at *
      generalize valT c (stT c n) (List.replicate c.inputs.length 2) = V at *
      subst hf
      generalize stT c (nS c) = S0 at *
      repeat' (first
|(apply G_call;eq_refl;eq_refl;(apply hv;(repeat first|exact In.here|apply In.there|apply In.skip);(repeat first|exact In.here|apply In.there|apply In.skip);(repeat first|exact In.here|apply In.there|apply In.skip);(repeat first|exact In.here|apply In.there|apply In.skip);(repeat first|exact In.here|apply In.there|apply In.skip));rintro _ _ ⟨A33, k33, rfl, rfl⟩)
|(apply G_call;eq_refl;eq_refl;(apply hnx;(repeat first|exact In.here|apply In.there|apply In.skip);(repeat first|exact In.here|apply In.there|apply In.skip);(repeat first|exact In.here|apply In.there|apply In.skip));rintro _ _ ⟨A34, k34, rfl, rfl⟩)
|(apply G_call;eq_refl;eq_refl;(apply hj;(repeat first|exact In.here|apply In.there|apply In.skip);(repeat first|exact In.here|apply In.there|apply In.skip));rintro _ _ ⟨A35, k35, rfl, rfl⟩)
|(apply G_call;eq_refl;eq_refl;(apply hq;(repeat first|exact In.here|apply In.there|apply In.skip);(repeat first|exact In.here|apply In.there|apply In.skip));rintro _ _ ⟨rfl, rfl⟩)
|(apply GC_seqK;intro K hK)
|(apply hK;clear hK K)
|(apply GC_block)
|(apply GC_region)
|(apply GL_nil)
|(apply thenG_normal)
|(apply thenG_ret)
|(apply blockG_ret)
|(apply GC_ret)
|(apply GC_if_true;eq_refl)
|(apply retG3;eq_refl;eq_refl;eq_refl)
|(apply GL_on;eq_refl;eq_refl)
|(apply G_pv;eq_refl;first|exact trivial|omega))
      exact ⟨[.vec icell 1 3 A k S0], (by repeat first | exact Wk.nil | exact Wk.refl | (apply Wk.cons; (focus ((repeat first | exact Rem.here | apply Rem.there | apply Rem.skip); done))) | apply Wk.nilv | apply Wk.last | apply Wk.drop), _, _, rfl, rfl⟩
    · have hd : decide (stT c n = stT c (n + 1)) = false := decide_eq_false fun e => nS_not c (i := n) (by omega) e.symm
      rw [hd] at hq
      repeat' (first
|(apply G_call;eq_refl;eq_refl;(apply hv;(repeat first|exact In.here|apply In.there|apply In.skip);(repeat first|exact In.here|apply In.there|apply In.skip);(repeat first|exact In.here|apply In.there|apply In.skip);(repeat first|exact In.here|apply In.there|apply In.skip);(repeat first|exact In.here|apply In.there|apply In.skip));rintro _ _ ⟨A33, k33, rfl, rfl⟩)
|(apply G_call;eq_refl;eq_refl;(apply hnx;(repeat first|exact In.here|apply In.there|apply In.skip);(repeat first|exact In.here|apply In.there|apply In.skip);(repeat first|exact In.here|apply In.there|apply In.skip));rintro _ _ ⟨A34, k34, rfl, rfl⟩)
|(apply G_call;eq_refl;eq_refl;(apply hj;(repeat first|exact In.here|apply In.there|apply In.skip);(repeat first|exact In.here|apply In.there|apply In.skip));rintro _ _ ⟨A35, k35, rfl, rfl⟩)
|(apply G_call;eq_refl;eq_refl;(apply hq;(repeat first|exact In.here|apply In.there|apply In.skip);(repeat first|exact In.here|apply In.there|apply In.skip));rintro _ _ ⟨rfl, rfl⟩)
|(apply GC_seqK;intro K hK)
|(apply hK;clear hK K)
|(apply GC_block)
|(apply GC_region)
|(apply GL_nil)
|(apply thenG_normal)
|(apply blockG_normal)
|(apply GC_skip)
|(apply GC_if_false;eq_refl)
|(apply GL_on;eq_refl;eq_refl)
|(apply G_pv;eq_refl;first|exact trivial|omega))
      exact ⟨(n + 1, A35, k35), (by repeat first | exact trivial | refine ⟨rfl, ?_⟩), (by repeat first | exact Wk.nil | exact Wk.refl | (apply Wk.cons; (focus ((repeat first | exact Rem.here | apply Rem.there | apply Rem.skip); done))) | apply Wk.nilv | apply Wk.last | apply Wk.drop), by dsimp only; omega, by dsimp only; omega⟩
  · have e1 : sM c = [] := if_neg he
    have e2 : sN c = 0 := if_neg he
    rw [e1, e2]
    repeat' (first
|(apply G_call;eq_refl;eq_refl;(apply hrd;(repeat first|exact In.here|apply In.there|apply In.skip));rintro _ _ (⟨_, rfl, rfl⟩|⟨he', p1, B1, kB, rfl, rfl⟩);rotate_left;(exact absurd he' he))
|(apply GC_seqK;intro K hK)
|(apply hK;clear hK K)
|(apply GC_region)
|(apply GL_nil)
|(apply thenG_normal)
|(apply thenG_ret)
|(apply GC_ret)
|(apply GC_if_true;eq_refl)
|(apply retG3;eq_refl;eq_refl;eq_refl)
|(apply GL_on;eq_refl;eq_refl)
|(apply G_pv;eq_refl;first|exact trivial|omega)
|(apply G_ldW;eq_refl;(repeat first|exact In.here|apply In.there|apply In.skip);eq_refl)
|(apply G_cmpT;eq_refl;eq_refl;omega)
|(apply G_box;eq_refl;eq_refl;intro _))
    exact ⟨[.vec icell 1 3 none 0 []], (by repeat first | exact Wk.nil | exact Wk.refl | (apply Wk.cons; (focus ((repeat first | exact Rem.here | apply Rem.there | apply Rem.skip); done))) | apply Wk.nilv | apply Wk.last | apply Wk.drop), none, 0, rfl, rfl⟩
end SC
end Go.Proofs.YtclihihdgodloaaDoor
end
section
/- Lift of both. -/
set_option linter.unusedVariables false
set_option linter.unusedSimpArgs false
namespace Go.Proofs.YtclihihdgodloaaDoor
namespace SC
open Go.Proofs
theorem ones_any (v ls : List Int) : (ls.any fun l => !decide (tl v l = 1)) = !onesT v ls := by unfold onesT; rw [List.not_all_eq_any_not]
theorem lf_back {c : Circ} {s r ls : List Int} {i : Nat} (h : i < s.length) : ((lfT c s r ls i).set (i : Int).toNat 2).set (i : Int).toNat (gt s (i : Int)) = lfT c s r ls i := by
  have hl := lfT_len (c := c) (s := s) (r := r) (ls := ls) i
  rw [List.set_set, Int.toNat_natCast, ← lfT_late (c := c) (r := r) (ls := ls) i i (Nat.le_refl _), gt_nat (by omega), List.set_getElem_self]
theorem lf_yes {c : Circ} {s r ls : List Int} {i : Nat} (h : onesT (valT c ((lfT c s r ls i).set (i : Int).toNat 2) r) ls = true) : lfT c s r ls (i + 1) = (lfT c s r ls i).set (i : Int).toNat 2 := by
  rw [Int.toNat_natCast] at h ⊢
  exact if_pos h
theorem lf_no {c : Circ} {s r ls : List Int} {i : Nat} (h : onesT (valT c ((lfT c s r ls i).set (i : Int).toNat 2) r) ls = false) : lfT c s r ls (i + 1) = lfT c s r ls i := by
  rw [Int.toNat_natCast] at h
  exact if_neg (by rw [h]; decide)
attribute [local irreducible] WC WL WX WS WO OX Does DoesU Enters CV Pure thenQ blockQ retQ Wants retQC GC GL GS GX RdB thenG blockG retG Rd At gt CVN CVM
set_option maxRecDepth 100000
theorem wrong1_cv {w : World} {b k : Nat} {A : Option Addr} {v : List Int} {l : Int} (G : TabG w) (hB : Blk w b 22 [.slice A v.length k]) (hA : RowA w icell 1 A v) (h3 : Row3 v) (h0 : 0 ≤ l / 2) (h1 : l / 2 < v.length) (hl : v.length ≤ 1000000) : CVN Tryd.prog 42 [nu l, pt b] w fun r N => N = [] ∧ r = .bool (!decide (tl v l = 1)) := by
  have hof : ∀ Γ, In Γ (.old w none_) → ∀ w', Mem w' Γ → CVN Tryd.prog 43 [.slice A v.length k, nu l] w' _ := fun Γ ho w' M => of3_cv (G.chg (ho.old M)) (hA.chg (ho.old M)) rfl h3 h0 h1 hl
  generalize tl v l = x at *
  refine CVN.enter 8 [3] Tryd.func42 rfl rfl rfl (by decide) rfl ?_
  by_cases hx : x = 1
  · rw [decide_eq_true hx]
    repeat' (first
|(apply G_call;eq_refl;eq_refl;(apply hof;(repeat first|exact In.here|apply In.there|apply In.skip));rintro _ _ ⟨rfl, rfl⟩)
|(apply GC_seqK;intro K hK)
|(apply hK;clear hK K)
|(apply GC_region)
|(apply GL_nil)
|(apply thenG_normal)
|(apply GC_ret)
|(apply retG1;eq_refl)
|(apply GL_on;eq_refl;eq_refl)
|(apply G_pv;eq_refl;first|exact trivial|omega)
|(apply G_ldO;eq_refl;(repeat first|exact In.here|apply In.there|apply In.skip);assumption;eq_refl)
|(apply G_cmpF;eq_refl;eq_refl;omega))
    exact ⟨[], (by repeat first | exact Wk.nil | exact Wk.refl | (apply Wk.cons; (focus ((repeat first | exact Rem.here | apply Rem.there | apply Rem.skip); done))) | apply Wk.nilv | apply Wk.last | apply Wk.drop), rfl, rfl⟩
  · rw [decide_eq_false hx]
    repeat' (first
|(apply G_call;eq_refl;eq_refl;(apply hof;(repeat first|exact In.here|apply In.there|apply In.skip));rintro _ _ ⟨rfl, rfl⟩)
|(apply GC_seqK;intro K hK)
|(apply hK;clear hK K)
|(apply GC_region)
|(apply GL_nil)
|(apply thenG_normal)
|(apply GC_ret)
|(apply retG1;eq_refl)
|(apply GL_on;eq_refl;eq_refl)
|(apply G_pv;eq_refl;first|exact trivial|omega)
|(apply G_ldO;eq_refl;(repeat first|exact In.here|apply In.there|apply In.skip);assumption;eq_refl)
|(apply G_cmpT;eq_refl;eq_refl;omega))
    exact ⟨[], (by repeat first | exact Wk.nil | exact Wk.refl | (apply Wk.cons; (focus ((repeat first | exact Rem.here | apply Rem.there | apply Rem.skip); done))) | apply Wk.nilv | apply Wk.last | apply Wk.drop), rfl, rfl⟩
theorem wrong_cv {w : World} {b k kL : Nat} {A L : Option Addr} {v ls : List Int} (G : TabG w) (hB : Blk w b 22 [.slice L ls.length kL]) (hL : RowA w icell 1 L ls) (hA : RowA w icell 1 A v) (h3 : Row3 v) (hls : ∀ l ∈ ls, 0 ≤ l / 2 ∧ l / 2 < v.length) (hl : v.length ≤ 1000000) (hn : ls.length ≤ 16384) : CVN Tryd.prog 40 [.slice A v.length k, pt b] w fun r N => N = [] ∧ r = .bool (!onesT v ls) := by
  have hcf : ∀ Γ b2, In Γ (.old w none_) → In Γ (.box b2 22 [.slice A v.length k]) → ∀ w', Mem w' Γ → CVN Tryd.prog 41 [.slice L ls.length kL, .func (.func 42) #[] #[pt b2]] w' fun r N => N = [] ∧ r = .bool (!onesT v ls) := fun Γ b2 ho hb w' M => by
    have := containsFunc_cv (f := 42) (cap := #[pt b2]) (p := fun l => !decide (tl v l = 1)) (k := kL) (hL.chg (ho.old M)) (by omega) fun l hm w2 hc => wrong1_cv ((G.chg (ho.old M)).chg hc) ((hb.box M).chg hc id) ((hA.chg (ho.old M)).chg hc) h3 (hls l hm).1 (hls l hm).2 hl
    rwa [ones_any] at this
  refine CVN.enter 7 [3] Tryd.func40 rfl rfl rfl (by decide) rfl ?_
  repeat' (first
|(apply G_call;eq_refl;eq_refl;(apply hcf;(repeat first|exact In.here|apply In.there|apply In.skip);(repeat first|exact In.here|apply In.there|apply In.skip));rintro _ _ ⟨rfl, rfl⟩)
|(apply GC_seqK;intro K hK)
|(apply hK;clear hK K)
|(apply GC_region)
|(apply GL_nil)
|(apply thenG_normal)
|(apply GC_ret)
|(apply retG1;eq_refl)
|(apply GL_on;eq_refl;eq_refl)
|(apply G_pv;eq_refl;first|exact trivial|omega)
|(apply G_ldO;eq_refl;(repeat first|exact In.here|apply In.there|apply In.skip);assumption;eq_refl)
|(apply G_box;eq_refl;eq_refl;intro _)
|(apply G_fun;eq_refl))
  exact ⟨[], (by repeat first | exact Wk.nil | exact Wk.refl | (apply Wk.cons; (focus ((repeat first | exact Rem.here | apply Rem.there | apply Rem.skip); done))) | apply Wk.nilv | apply Wk.last | apply Wk.drop), rfl, rfl⟩
section
variable {w : World} {c : Circ} {h js : Hd} {S T L : Option Addr} {k2 k3 k4 : Nat} {s r ls : List Int} (H : CirIn w c h js) (hS : RowA w icell 1 S s) (hT : RowA w icell 1 T r) (hL : RowA w icell 1 L ls) (hs : s.length ≤ 17592186044000) (hr : r.length ≤ 9223372036854775807) (hl : ls.length ≤ 9223372036854775807)
include H hS hT hL hs hr hl
set_option maxHeartbeats 1600000 in
theorem LiftP_cv (G : TabG w) : CVN Tryd.prog 12 [.agg (ccells c h).toArray, .slice S s.length k2, .slice T r.length k3, .slice L ls.length k4] w (IntsE (lfM c s r ls) (lfE c s r ls)) := by
  have hlk : ∀ Γ, In Γ (.old w none_) → ∀ w', Mem w' Γ → CVN Tryd.prog 39 [.agg (ccells c h).toArray, .slice S s.length k2, .slice T r.length k3] w' (LookedT c h s r) := fun Γ hi w' M => lookedT_cv (G.chg (hi.old M)) (H.chg (hi.old M)) (hS.chg (hi.old M)) (hT.chg (hi.old M)) (by omega) hr
  have hcl : ∀ Γ, In Γ (.old w none_) → ∀ w', Mem w' Γ → CVN Tryd.prog 44 [.slice S s.length k2] w' _ := fun Γ hi w' M => cloneI_cv (hS.chg (hi.old M)) hs
  unfold IntsE
  refine CVN.enter 78 [8, 9] Tryd.func12 rfl rfl rfl (by decide) rfl ?_
  by_cases ht : twE c s r = 0
  · obtain ⟨z0, ⟨z1, z2⟩, z3, z4⟩ := twE_zero ht
    have R := right_of H.at_ H.sane z0
    have m0 := R.m0
    have m1 := R.m1
    have n1 := R.nIn
    have n2 := R.nLat
    by_cases hlg : 16384 < ls.length
    · have e0 := lfE_long (ls := ls) ht hlg
      have e1 : lfM c s r ls = [] := if_neg (by rw [e0]; decide)
      rw [e0, e1]
      repeat' (first
|(apply G_call;eq_refl;eq_refl;(apply hlk;(repeat first|exact In.here|apply In.there|apply In.skip));rintro _ _ (⟨he, rfl, rfl⟩|⟨_, p1, B1, k1, A1, k5, rfl, rfl⟩);(exact absurd ht he))
|(apply GC_seqK;intro K hK)
|(apply hK;clear hK K)
|(apply GC_region)
|(apply GL_nil)
|(apply thenG_normal)
|(apply thenG_ret)
|(apply GC_ret)
|(apply GC_skip)
|(apply GC_if_true;eq_refl)
|(apply GC_if_false;eq_refl)
|(apply retG2;eq_refl;eq_refl)
|(apply GL_on;eq_refl;eq_refl)
|(apply G_pv;eq_refl;first|exact trivial|omega)
|(apply G_ld;eq_refl;(repeat first|exact In.here|apply In.there|apply In.skip);eq_refl)
|(apply G_ldW;eq_refl;(repeat first|exact In.here|apply In.there|apply In.skip);eq_refl)
|(apply G_cmpT;eq_refl;eq_refl;omega)
|(apply G_cmpF;eq_refl;eq_refl;omega)
|(apply G_len;eq_refl)
|(apply G_box;eq_refl;eq_refl;intro _))
      exact ⟨[.vec icell 1 3 none 0 []], (by repeat first | exact Wk.nil | exact Wk.refl | (apply Wk.cons; (focus ((repeat first | exact Rem.here | apply Rem.there | apply Rem.skip); done))) | apply Wk.nilv | apply Wk.last | apply Wk.drop), none, 0, rfl, rfl⟩
    · repeat' (first
|(apply G_call;eq_refl;eq_refl;(apply hlk;(repeat first|exact In.here|apply In.there|apply In.skip));rintro _ _ (⟨he, rfl, rfl⟩|⟨_, p1, B1, k1, A1, k5, rfl, rfl⟩);(exact absurd ht he))
|(apply GC_seqK;intro K hK)
|(apply hK;clear hK K)
|(apply GC_block)
|(apply GC_region)
|(apply GL_nil)
|(apply thenG_normal)
|(apply GC_skip)
|(apply GC_if_false;eq_refl)
|(apply GL_on;eq_refl;eq_refl)
|(apply G_pv;eq_refl;first|exact trivial|omega)
|(apply G_ld;eq_refl;(repeat first|exact In.here|apply In.there|apply In.skip);eq_refl)
|(apply G_ldW;eq_refl;(repeat first|exact In.here|apply In.there|apply In.skip);eq_refl)
|(apply G_cmpF;eq_refl;eq_refl;omega)
|(apply G_len;eq_refl)
|(apply G_box;eq_refl;eq_refl;intro _))
      rename_i b4 b7 hz9
      have hvl := valT_len m0 s r
      have hvr := valT_row (c := c) z2 z4 z1 z3
      refine GC_loopK [1, 2, 4, 7, 10, 11, 33, 34] (fun i : Nat => [(35, nu i)]) (fun _ => [.vec icell 1 3 A1 k5 (valT c s r), .box p1 103 (rcells c h B1 k1), .vec icell 1 3 B1 k1 (ordM c), .box b7 22 [.slice L ls.length k4], .box b4 29 (ccells c h), .old w none_]) (fun i => i ≤ ls.length ∧ ((ls.take i).all fun l => decide (0 ≤ l) && decide (l ≤ 2 * c.max + 1)) = true) (fun i => ls.length - i) 0 (by repeat first | exact Pick.nil | (apply Pick.cons; eq_refl)) (by repeat first | exact trivial | refine ⟨rfl, ?_⟩) (by repeat first | exact Wk.nil | exact Wk.refl | (apply Wk.cons; (focus ((repeat first | exact Rem.here | apply Rem.there | apply Rem.skip); done))) | apply Wk.nilv | apply Wk.last | apply Wk.drop) ⟨Nat.zero_le _, by simp⟩ ?_
      rintro i ⟨hi, hall⟩
      rcases Nat.lt_or_ge i ls.length with hlt | hge
      · have e5 := List.take_succ_eq_append_getElem hlt
        rw [← gt_nat hlt] at e5
        have g1 := gt_mem (l := ls) (i := (i : Int)) (by omega) (by omega)
        by_cases h0 : 0 ≤ gt ls (i : Int) ∧ gt ls (i : Int) ≤ 2 * c.max + 1
        · repeat' (first
|(apply GC_seqK;intro K hK)
|(apply hK;clear hK K)
|(apply GC_block)
|(apply GC_region)
|(apply GL_nil)
|(apply thenG_normal)
|(apply blockG_normal)
|(apply GC_skip)
|(apply GC_if_true;eq_refl)
|(apply GC_if_false;eq_refl)
|(apply GL_on;eq_refl;eq_refl)
|(apply G_pv;eq_refl;first|exact trivial|omega)
|(apply G_field;eq_refl)
|(apply G_ld;eq_refl;(repeat first|exact In.here|apply In.there|apply In.skip);eq_refl)
|(apply G_rd;eq_refl;(first|(apply Rd.own;(repeat first|exact In.here|apply In.there|apply In.skip);infer_instance)|(apply Rd.old;(repeat first|exact In.here|apply In.there|apply In.skip);assumption)|(apply Rd.oldR;(repeat first|exact In.here|apply In.there|apply In.skip);assumption)|exact Rd.nil|assumption);(case ih => infer_instance);omega;omega;eq_refl)
|(apply G_cmpT;eq_refl;eq_refl;omega)
|(apply G_cmpF;eq_refl;eq_refl;omega)
|(apply G_ix;eq_refl;eq_refl;(first|(apply Rd.own;(repeat first|exact In.here|apply In.there|apply In.skip);infer_instance)|(apply Rd.old;(repeat first|exact In.here|apply In.there|apply In.skip);assumption)|(apply Rd.oldR;(repeat first|exact In.here|apply In.there|apply In.skip);assumption)|exact Rd.nil|assumption);(first|eq_refl|omega);omega;omega))
          exact ⟨i + 1, (by repeat first | exact trivial | refine ⟨rfl, ?_⟩), (by repeat first | exact Wk.nil | exact Wk.refl | (apply Wk.cons; (focus ((repeat first | exact Rem.here | apply Rem.there | apply Rem.skip); done))) | apply Wk.nilv | apply Wk.last | apply Wk.drop), ⟨hlt, by rw [e5, List.all_append, hall]; simp [h0.1, h0.2]⟩, by omega⟩
        · have hf : (ls.all fun l => decide (0 ≤ l) && decide (l ≤ 2 * c.max + 1)) = false := by
            cases hb : (ls.all fun l => decide (0 ≤ l) && decide (l ≤ 2 * c.max + 1))
            · rfl
            · exact absurd (lits_in hb _ g1) h0
          have e0 := lfE_rg ht hlg hf
          have e1 : lfM c s r ls = [] := if_neg (by rw [e0]; decide)
          by_cases h1 : gt ls (i : Int) < 0
          · repeat' (first
|(apply GC_seqK;intro K hK)
|(apply hK;clear hK K)
|(apply GC_block)
|(apply GC_region)
|(apply GL_nil)
|(apply thenG_normal)
|(apply thenG_ret)
|(apply blockG_ret)
|(apply GC_ret)
|(apply GC_skip)
|(apply GC_if_true;eq_refl)
|(apply retG2;eq_refl;eq_refl)
|(apply GL_on;eq_refl;eq_refl)
|(apply GL_off;eq_refl;eq_refl)
|(apply G_pv;eq_refl;first|exact trivial|omega)
|(apply G_rd;eq_refl;(first|(apply Rd.own;(repeat first|exact In.here|apply In.there|apply In.skip);infer_instance)|(apply Rd.old;(repeat first|exact In.here|apply In.there|apply In.skip);assumption)|(apply Rd.oldR;(repeat first|exact In.here|apply In.there|apply In.skip);assumption)|exact Rd.nil|assumption);(case ih => infer_instance);omega;omega;eq_refl)
|(apply G_cmpT;eq_refl;eq_refl;omega)
|(apply G_ix;eq_refl;eq_refl;(first|(apply Rd.own;(repeat first|exact In.here|apply In.there|apply In.skip);infer_instance)|(apply Rd.old;(repeat first|exact In.here|apply In.there|apply In.skip);assumption)|(apply Rd.oldR;(repeat first|exact In.here|apply In.there|apply In.skip);assumption)|exact Rd.nil|assumption);(first|eq_refl|omega);omega;omega))
            exact ⟨[.vec icell 1 3 none 0 []], (by repeat first | exact Wk.nil | exact Wk.refl | (apply Wk.cons; (focus ((repeat first | exact Rem.here | apply Rem.there | apply Rem.skip); done))) | apply Wk.nilv | apply Wk.last | apply Wk.drop), none, 0, by rw [e0, e1]; rfl, by rw [e1]⟩
          · repeat' (first
|(apply GC_seqK;intro K hK)
|(apply hK;clear hK K)
|(apply GC_block)
|(apply GC_region)
|(apply GL_nil)
|(apply thenG_normal)
|(apply thenG_ret)
|(apply blockG_ret)
|(apply GC_ret)
|(apply GC_skip)
|(apply GC_if_true;eq_refl)
|(apply retG2;eq_refl;eq_refl)
|(apply GL_on;eq_refl;eq_refl)
|(apply G_pv;eq_refl;first|exact trivial|omega)
|(apply G_field;eq_refl)
|(apply G_ld;eq_refl;(repeat first|exact In.here|apply In.there|apply In.skip);eq_refl)
|(apply G_rd;eq_refl;(first|(apply Rd.own;(repeat first|exact In.here|apply In.there|apply In.skip);infer_instance)|(apply Rd.old;(repeat first|exact In.here|apply In.there|apply In.skip);assumption)|(apply Rd.oldR;(repeat first|exact In.here|apply In.there|apply In.skip);assumption)|exact Rd.nil|assumption);(case ih => infer_instance);omega;omega;eq_refl)
|(apply G_cmpT;eq_refl;eq_refl;omega)
|(apply G_cmpF;eq_refl;eq_refl;omega)
|(apply G_ix;eq_refl;eq_refl;(first|(apply Rd.own;(repeat first|exact In.here|apply In.there|apply In.skip);infer_instance)|(apply Rd.old;(repeat first|exact In.here|apply In.there|apply In.skip);assumption)|(apply Rd.oldR;(repeat first|exact In.here|apply In.there|apply In.skip);assumption)|exact Rd.nil|assumption);(first|eq_refl|omega);omega;omega))
            exact ⟨[.vec icell 1 3 none 0 []], (by repeat first | exact Wk.nil | exact Wk.refl | (apply Wk.cons; (focus ((repeat first | exact Rem.here | apply Rem.there | apply Rem.skip); done))) | apply Wk.nilv | apply Wk.last | apply Wk.drop), none, 0, by rw [e0, e1]; rfl, by rw [e1]⟩
      · rw [List.take_of_length_le hge] at hall
        have hin := lits_in hall
        have hls : ∀ l ∈ ls, 0 ≤ l / 2 ∧ l / 2 < ((c.max + 1).toNat : Int) := fun l hm => by have := hin l hm; unfold inR at this; omega
        have hwr : ∀ Γ A k v, In Γ (.old w none_) → In Γ (.box b7 22 [.slice L ls.length k4]) → In Γ (.vec icell 1 3 A k v) → Row3 v → v.length = (c.max + 1).toNat → ∀ w', Mem w' Γ → CVN Tryd.prog 40 ([.slice A v.length k] ++ (#[pt b7] : Array Value).toList) w' fun r N => N = [] ∧ r = .bool (!onesT v ls) := fun Γ A k v ho hb hv q1 q2 w' M => wrong_cv (G.chg (ho.old M)) (hb.box M) (hL.chg (ho.old M)) (hv.row M) q1 (fun l hm => by rw [q2]; exact hls l hm) (by omega) (by omega)
        have hw0 := fun Γ ho hb hv w' M => hwr Γ A1 k5 (valT c s r) ho hb hv hvr hvl w' M
        cases ho1 : onesT (valT c s r) ls
        · have e0 := lfE_no ht hlg hall ho1
          have e1 : lfM c s r ls = [] := if_neg (by rw [e0]; decide)
          rw [ho1] at hw0
          repeat' (first
|(apply G_callF;eq_refl;eq_refl;infer_instance;eq_refl;(apply hw0;(repeat first|exact In.here|apply In.there|apply In.skip);(repeat first|exact In.here|apply In.there|apply In.skip);(repeat first|exact In.here|apply In.there|apply In.skip));rintro _ _ ⟨rfl, rfl⟩)
|(apply GC_seqK;intro K hK)
|(apply hK;clear hK K)
|(clear hK K;apply hK;clear hK K)
|(apply GC_region)
|(apply GL_nil)
|(apply thenG_normal)
|(apply thenG_ret)
|(apply thenG_exit)
|(apply blockG_hit)
|(apply GC_ret)
|(apply GC_exit)
|(apply GC_if_true;eq_refl)
|(apply GC_if_false;eq_refl)
|(apply retG2;eq_refl;eq_refl)
|(apply GL_on;eq_refl;eq_refl)
|(apply G_pv;eq_refl;first|exact trivial|omega)
|(apply G_cmpF;eq_refl;eq_refl;omega)
|(apply G_fun;eq_refl))
          exact ⟨[.vec icell 1 3 none 0 []], (by repeat first | exact Wk.nil | exact Wk.refl | (apply Wk.cons; (focus ((repeat first | exact Rem.here | apply Rem.there | apply Rem.skip); done))) | apply Wk.nilv | apply Wk.last | apply Wk.drop), none, 0, by rw [e0, e1]; rfl, by rw [e1]⟩
        · have e0 := lfE_ok ht hlg hall ho1
          have e1 : lfM c s r ls = lfT c s r ls s.length := if_pos e0
          rw [ho1] at hw0
          repeat' (first
|(apply G_callF;eq_refl;eq_refl;infer_instance;eq_refl;(apply hw0;(repeat first|exact In.here|apply In.there|apply In.skip);(repeat first|exact In.here|apply In.there|apply In.skip);(repeat first|exact In.here|apply In.there|apply In.skip));rintro _ _ ⟨rfl, rfl⟩)
|(apply G_call;eq_refl;eq_refl;(apply hcl;(repeat first|exact In.here|apply In.there|apply In.skip));rintro _ _ ⟨A16, k16, rfl, rfl⟩)
|(apply GC_seqK;intro K hK)
|(apply hK;clear hK K)
|(clear hK K;apply hK;clear hK K)
|(apply GC_block)
|(apply GC_region)
|(apply GL_nil)
|(apply thenG_normal)
|(apply thenG_exit)
|(apply blockG_hit)
|(apply GC_exit)
|(apply GC_skip)
|(apply GC_if_false;eq_refl)
|(apply GL_on;eq_refl;eq_refl)
|(apply G_pv;eq_refl;first|exact trivial|omega)
|(apply G_cmpF;eq_refl;eq_refl;omega)
|(apply G_len;eq_refl)
|(apply G_fun;eq_refl))
          refine GC_loopK [2, 10, 15, 16, 56, 57] (fun i : Nat => [(58, nu i)]) (fun i => [.vec icell 1 3 A16 k16 (lfT c s r ls i), .box p1 103 (rcells c h B1 k1), .vec icell 1 3 B1 k1 (ordM c), .box b7 22 [.slice L ls.length k4], .old w none_]) (fun i => i ≤ s.length) (fun i => s.length - i) 0 (by repeat first | exact Pick.nil | (apply Pick.cons; eq_refl)) (by repeat first | exact trivial | refine ⟨rfl, ?_⟩) (by repeat first | exact Wk.nil | exact Wk.refl | (apply Wk.cons; (focus ((repeat first | exact Rem.here | apply Rem.there | apply Rem.skip); done))) | apply Wk.nilv | apply Wk.last | apply Wk.drop) (Nat.zero_le _) ?_
          intro i hi
          have hol := lfT_len (c := c) (s := s) (r := r) (ls := ls) i
          rcases Nat.lt_or_ge i s.length with hlt | hge
          · have hor := lfT_row (c := c) (r := r) (ls := ls) z2 i
            have hbk := lf_back (c := c) (r := r) (ls := ls) hlt
            have hyes := lf_yes (c := c) (s := s) (r := r) (ls := ls) (i := i)
            have hno := lf_no (c := c) (s := s) (r := r) (ls := ls) (i := i)
            generalize hO : lfT c s r ls i = O at *
            have hl2 : (O.set (i : Int).toNat 2).length = s.length := by rw [List.length_set]; exact hol
            have hr2 : Row3 (O.set (i : Int).toNat 2) := hor.set Is3.two
            have hvl2 := valT_len m0 (O.set (i : Int).toNat 2) r
            have hvr2 := valT_row (c := c) hr2 z4 (by omega) z3
            have hv : ∀ Γ, In Γ (.old w none_) → In Γ (.box p1 103 (rcells c h B1 k1)) → In Γ (.vec icell 1 3 B1 k1 (ordM c)) → In Γ (.vec icell 1 3 A16 k16 (O.set (i : Int).toNat 2)) → ∀ w', Mem w' Γ → CVN Tryd.prog 45 [pt p1, .slice A16 s.length k16, .slice T r.length k3] w' _ := fun Γ hi hb ho ha w' M => by
              have := valuesT_cv (k2 := k16) (k3 := k3) (G.chg (hi.old M)) R (hb.box M) (H.at_.chg (hi.old M)) (ho.row M) (ha.row M) (hT.chg (hi.old M)) (by omega) z3 hr2 z4
              rw [hl2] at this
              exact this
            generalize hV : valT c (O.set (i : Int).toNat 2) r = V at *
            have hw1 := fun Γ A k ho hb hv w' M => hwr Γ A k V ho hb hv hvr2 hvl2 w' M
            cases ho2 : onesT V ls
            · have e6 := hno ho2
              rw [ho2] at hw1
              repeat' (first
|(apply G_call;eq_refl;eq_refl;(apply hv;(repeat first|exact In.here|apply In.there|apply In.skip);(repeat first|exact In.here|apply In.there|apply In.skip);(repeat first|exact In.here|apply In.there|apply In.skip);(repeat first|exact In.here|apply In.there|apply In.skip));rintro _ _ ⟨A70, k70, rfl, rfl⟩)
|(apply G_callF;eq_refl;eq_refl;infer_instance;eq_refl;(apply hw1;(repeat first|exact In.here|apply In.there|apply In.skip);(repeat first|exact In.here|apply In.there|apply In.skip);(repeat first|exact In.here|apply In.there|apply In.skip));rintro _ _ ⟨rfl, rfl⟩)
|(apply GC_seqK;intro K hK)
|(apply hK;clear hK K)
|(apply GC_block)
|(apply GC_region)
|(apply GL_nil)
|(apply thenG_normal)
|(apply blockG_normal)
|(apply GC_skip)
|(apply GC_if_true;eq_refl)
|(apply GL_on;eq_refl;eq_refl)
|(apply G_pv;eq_refl;first|exact trivial|omega)
|(apply G_rd;eq_refl;(first|(apply Rd.own;(repeat first|exact In.here|apply In.there|apply In.skip);infer_instance)|(apply Rd.old;(repeat first|exact In.here|apply In.there|apply In.skip);assumption)|(apply Rd.oldR;(repeat first|exact In.here|apply In.there|apply In.skip);assumption)|exact Rd.nil|assumption);(case ih => infer_instance);omega;omega;eq_refl)
|(apply G_cmpT;eq_refl;eq_refl;omega)
|(apply G_ix;eq_refl;eq_refl;(first|(apply Rd.own;(repeat first|exact In.here|apply In.there|apply In.skip);infer_instance)|(apply Rd.old;(repeat first|exact In.here|apply In.there|apply In.skip);assumption)|(apply Rd.oldR;(repeat first|exact In.here|apply In.there|apply In.skip);assumption)|exact Rd.nil|assumption);(first|eq_refl|omega);omega;omega)
|(apply G_stV;(first|exact wr_p|kernel_rfl);eq_refl;eq_refl;eq_refl;eq_refl;(repeat first|exact Upd.here|apply Upd.there|apply Upd.skip);infer_instance;infer_instance;eq_refl;omega;(try simp only [List.length_set, List.length_append, List.length_replicate]);omega))
              rw [hbk, ← e6]
              exact ⟨i + 1, (by repeat first | exact trivial | refine ⟨rfl, ?_⟩), (by repeat first | exact Wk.nil | exact Wk.refl | (apply Wk.cons; (focus ((repeat first | exact Rem.here | apply Rem.there | apply Rem.skip); done))) | apply Wk.nilv | apply Wk.last | apply Wk.drop), hlt, by omega⟩
            · have e6 := hyes ho2
              rw [ho2] at hw1
              repeat' (first
|(apply G_call;eq_refl;eq_refl;(apply hv;(repeat first|exact In.here|apply In.there|apply In.skip);(repeat first|exact In.here|apply In.there|apply In.skip);(repeat first|exact In.here|apply In.there|apply In.skip);(repeat first|exact In.here|apply In.there|apply In.skip));rintro _ _ ⟨A70, k70, rfl, rfl⟩)
|(apply G_callF;eq_refl;eq_refl;infer_instance;eq_refl;(apply hw1;(repeat first|exact In.here|apply In.there|apply In.skip);(repeat first|exact In.here|apply In.there|apply In.skip);(repeat first|exact In.here|apply In.there|apply In.skip));rintro _ _ ⟨rfl, rfl⟩)
|(apply GC_seqK;intro K hK)
|(apply hK;clear hK K)
|(apply GC_block)
|(apply GC_region)
|(apply GL_nil)
|(apply thenG_normal)
|(apply blockG_normal)
|(apply GC_skip)
|(apply GC_if_true;eq_refl)
|(apply GC_if_false;eq_refl)
|(apply GL_on;eq_refl;eq_refl)
|(apply G_pv;eq_refl;first|exact trivial|omega)
|(apply G_rd;eq_refl;(first|(apply Rd.own;(repeat first|exact In.here|apply In.there|apply In.skip);infer_instance)|(apply Rd.old;(repeat first|exact In.here|apply In.there|apply In.skip);assumption)|(apply Rd.oldR;(repeat first|exact In.here|apply In.there|apply In.skip);assumption)|exact Rd.nil|assumption);(case ih => infer_instance);omega;omega;eq_refl)
|(apply G_cmpT;eq_refl;eq_refl;omega)
|(apply G_ix;eq_refl;eq_refl;(first|(apply Rd.own;(repeat first|exact In.here|apply In.there|apply In.skip);infer_instance)|(apply Rd.old;(repeat first|exact In.here|apply In.there|apply In.skip);assumption)|(apply Rd.oldR;(repeat first|exact In.here|apply In.there|apply In.skip);assumption)|exact Rd.nil|assumption);(first|eq_refl|omega);omega;omega)
|(apply G_stV;(first|exact wr_p|kernel_rfl);eq_refl;eq_refl;eq_refl;eq_refl;(repeat first|exact Upd.here|apply Upd.there|apply Upd.skip);infer_instance;infer_instance;eq_refl;omega;(try simp only [List.length_set, List.length_append, List.length_replicate]);omega))
              rw [← e6]
              exact ⟨i + 1, (by repeat first | exact trivial | refine ⟨rfl, ?_⟩), (by repeat first | exact Wk.nil | exact Wk.refl | (apply Wk.cons; (focus ((repeat first | exact Rem.here | apply Rem.there | apply Rem.skip); done))) | apply Wk.nilv | apply Wk.last | apply Wk.drop), hlt, by omega⟩
          · obtain rfl : i = s.length := by omega
            repeat' (first
|(apply GC_seqK;intro K hK)
|(apply hK;clear hK K)
|(clear hK K;apply hK;clear hK K)
|(apply GC_region)
|(apply GL_nil)
|(apply thenG_normal)
|(apply thenG_exit)
|(apply blockG_hit)
|(apply GC_ret)
|(apply GC_exit)
|(apply GC_if_false;eq_refl)
|(apply retG2;eq_refl;eq_refl)
|(apply GL_on;eq_refl;eq_refl)
|(apply G_pv;eq_refl;first|exact trivial|omega)
|(apply G_cmpF;eq_refl;eq_refl;omega))
            refine ⟨[.vec icell 1 3 A16 k16 (lfT c s r ls s.length)], (by repeat first | exact Wk.nil | exact Wk.refl | (apply Wk.cons; (focus ((repeat first | exact Rem.here | apply Rem.there | apply Rem.skip); done))) | apply Wk.nilv | apply Wk.last | apply Wk.drop), A16, k16, by rw [e0, e1, hol], by rw [e1]⟩
  · have e0 := lfE_tw (ls := ls) ht
    have e1 : lfM c s r ls = [] := if_neg (by rw [e0]; exact ht)
    rw [e0, e1]
    repeat' (first
|(apply G_call;eq_refl;eq_refl;(apply hlk;(repeat first|exact In.here|apply In.there|apply In.skip));rintro _ _ (⟨_, rfl, rfl⟩|⟨he, p1, B1, k1, A1, k5, rfl, rfl⟩);rotate_left;(exact absurd he ht))
|(apply GC_seqK;intro K hK)
|(apply hK;clear hK K)
|(apply GC_region)
|(apply GL_nil)
|(apply thenG_normal)
|(apply thenG_ret)
|(apply GC_ret)
|(apply GC_if_true;eq_refl)
|(apply retG2;eq_refl;eq_refl)
|(apply GL_on;eq_refl;eq_refl)
|(apply G_pv;eq_refl;first|exact trivial|omega)
|(apply G_ldW;eq_refl;(repeat first|exact In.here|apply In.there|apply In.skip);eq_refl)
|(apply G_cmpT;eq_refl;eq_refl;omega)
|(apply G_box;eq_refl;eq_refl;intro _))
    exact ⟨[.vec icell 1 3 none 0 []], (by repeat first | exact Wk.nil | exact Wk.refl | (apply Wk.cons; (focus ((repeat first | exact Rem.here | apply Rem.there | apply Rem.skip); done))) | apply Wk.nilv | apply Wk.last | apply Wk.drop), none, 0, rfl, rfl⟩
end
end SC
end Go.Proofs.YtclihihdgodloaaDoor
end
section
/- trestleref08.Lift; Lit of both. -/
set_option linter.unusedVariables false
set_option linter.unusedSimpArgs false
namespace Go.Proofs.YtclihihdgodloaaDoor
namespace SC
open Go.Proofs
attribute [local irreducible] WC WL WX WS WO OX Does DoesU Enters CV Pure thenQ blockQ retQ Wants retQC GC GL GS GX RdB thenG blockG retG Rd At gt CVN CVM
set_option maxRecDepth 100000
section
variable {w : World} {c : Circ} {h js : Hd} {S T L : Option Addr} {k2 k3 k4 : Nat} {s r ls : List Int} (H : CirIn w c h js) (hS : RowA w icell 1 S s) (hT : RowA w icell 1 T r) (hL : RowA w icell 1 L ls) (hz : S = none → k2 = 0) (hs : s.length ≤ 17592186044000) (hr : r.length ≤ 9223372036854775807) (hl : ls.length ≤ 9223372036854775807)
include H hS hT hL hz hs hr hl
end
/-! ### Lit -/
end SC
end Go.Proofs.YtclihihdgodloaaDoor
end
section
/- trestlelaw08: works, names. -/
set_option linter.unusedVariables false
set_option linter.unusedSimpArgs false
namespace Go.Proofs.YtclihihdgodloaaDoor
namespace SC
open Go.Proofs
def cT : Circ := ⟨3, [], [(2, 3, 0), (4, 4, 0)], [], [], [], [], [], [(6, 3, 5)], [], []⟩
theorem cT_sizes : sizesM cT = 0 := by
  unfold sizesM
  rw [if_neg (by simp [cT]), if_neg]
  simp [cT, Circ.lens, sumW, sumL]; decide
theorem cT_defs : definesM cT (T0 cT) = ((0, 0), [(0, 0), (2, 0), (2, 1), (3, 0)]) := by decide
theorem cT_tab : tabM cT = [(0, 0), (2, 0), (2, 1), (3, 0)] := by unfold tabM; rw [cT_defs]
theorem cT_uses : usesM cT (tabM cT) = (0, 0) := by rw [cT_tab]; decide
theorem cT_below : gateB (tabM cT) cT 0 = [] := by rw [cT_tab]; decide
theorem cT_all : All 1 (gateB (tabM cT) cT) [0] := by
  have h0 : ∀ x, rg 1 x → x = 0 := fun x hx => by unfold rg at hx; omega
  refine ⟨?_, fun x hx => hx.new (by rw [h0 x hx.rg]; simp)⟩
  have : Told 1 (gateB (tabM cT) cT) ([] ++ [0]) := .snoc .nil ⟨by unfold rg; omega, by simp, by rw [cT_below]; simp⟩ fun y hy => by rw [h0 y hy.rg]; exact Int.le_refl _
  exact this
theorem cT_look : (lookM cT).2 = 0 := by
  have hc : cycM cT.ands.length (gateB (tabM cT) cT) = -1 := cycM_eq ⟨[0], cT_all, .inl ⟨rfl, rfl⟩⟩
  unfold lookM
  rw [cT_sizes, cT_defs, cT_uses, hc]
  simp [cT, goSym, goCom]
theorem cT_ord : ordM cT = [0] := ordM_eq cT_all
theorem cT_sane : cT.Sane := ⟨by simp [cT], by simp [cT], by simp [cT], by simp [cT], by simp [cT], by simp [cT]⟩
theorem cT_okay : cT.Okay := ⟨by simp [cT, Circ.lens], by simp [cT], (by intro x hx; simp [cT] at hx; rcases hx with rfl | rfl <;> simp [TriFits, fit64, fits]), (by intro x hx; simp [cT] at hx; subst hx; simp [TriFits, fit64, fits]), by simp [cT]⟩
theorem cT_fits : cT.Fits := ⟨by simp [cT], by simp [cT], by simp [cT], by simp [cT], by simp [cT], by simp [cT], by simp [cT], by simp [cT], by simp [cT], by simp [cT], by simp [cT]⟩
def hTn (a b : Nat) : Hd := fun | 2 => (some ⟨a, 0, none⟩, 2) | 8 => (some ⟨b, 0, none⟩, 1) | _ => (none, 0)
theorem cT_in {w : World} {a b : Nat} (ha : Blk w a 59 [nu 2, nu 3, nu 0, nu 4, nu 4, nu 0]) (hb : Blk w b 61 [nu 6, nu 3, nu 5]) : CirIn w cT (hTn a b) hNil :=
  ⟨⟨RowA.emp, RowA.blk (l := [(2, 3, 0), (4, 4, 0)]) tlen ha, RowA.emp, RowA.emp, RowA.emp, fun k hk => absurd hk (Nat.not_lt_zero _), fun k hk => absurd hk (Nat.not_lt_zero _), RowA.emp, RowA.blk (l := [(6, 3, 5)]) tlen hb, RowA.emp, RowA.emp⟩, cT_sane, cT_okay, cT_fits⟩
theorem cT_val (s r : List Int) : valT cT s r = tAn cT [0] (tLt cT s (tIn cT r 0) 2) 1 := by
  unfold valT
  rw [cT_ord]
  rfl
theorem cT_set (a : List Int) : setT cT a = joinT a (nxtT cT (tAn cT [0] (tLt cT a (tIn cT [] 0) 2) 1)) := by
  unfold setT
  rw [cT_val]
  rfl
theorem cT_st0 : stT cT 0 = [0, 0] := by decide
theorem cT_st1 : stT cT 1 = [2, 0] := by
  show setT cT (stT cT 0) = _
  rw [cT_st0, cT_set]
  decide
theorem cT_fix : setT cT [2, 0] = [2, 0] := by rw [cT_set]; decide
theorem cT_nS : nS cT = 1 := by
  rcases Nat.lt_trichotomy (nS cT) 1 with h | h | h
  · have h0 : nS cT = 0 := by omega
    have := nS_fix cT
    rw [h0] at this
    have h1 : setT cT (stT cT 0) = stT cT 1 := rfl
    rw [h1, cT_st0, cT_st1] at this
    exact absurd this (by decide)
  · exact h
  · have := nS_not cT h
    rw [cT_st1] at this
    exact absurd cT_fix this
theorem cT_sM : sM cT = [2, 0] := by
  have : sM cT = stT cT (nS cT) := if_pos cT_look
  rw [this, cT_nS, cT_st1]
theorem cT_sN : sN cT = 1 := by
  have : sN cT = (nS cT : Int) := if_pos cT_look
  rw [this, cT_nS]
  rfl
theorem cT_tw : twE cT [1, 1] [] = 0 := twE_ok cT_look (by decide) (by decide)
theorem cT_lfE : lfE cT [1, 1] [] [7] = 0 := lfE_ok cT_tw (by decide) (by decide) (by rw [cT_val]; decide)
theorem cT_lfM : lfM cT [1, 1] [] [7] = [2, 1] := by
  have h0 : lfM cT [1, 1] [] [7] = lfT cT [1, 1] [] [7] 2 := if_pos cT_lfE
  have h1 : lfT cT [1, 1] [] [7] 1 = [2, 1] := by
    show (if onesT (valT cT ([1, 1].set 0 2) []) [7] = true then [1, 1].set 0 2 else [1, 1]) = _
    rw [cT_val]
    decide
  have h2 : lfT cT [1, 1] [] [7] 2 = [2, 1] := by
    show (if onesT (valT cT ((lfT cT [1, 1] [] [7] 1).set 1 2) []) [7] = true then (lfT cT [1, 1] [] [7] 1).set 1 2 else lfT cT [1, 1] [] [7] 1) = _
    rw [h1, cT_val]
    decide
  rw [h0, h2]
attribute [local irreducible] WC WL WX WS WO OX Does DoesU Enters CV Pure thenQ blockQ retQ Wants retQC GC GL GS GX RdB thenG blockG retG Rd At CVN CVM
set_option maxRecDepth 100000
set_option maxHeartbeats 1600000 in
theorem works8_cv {w : World} (G : TabG w) : CVN Tryd.prog 18 [] w fun v N => N = [] ∧ v = .bool true := by
  have hS : ∀ Γ a b, In Γ (.old w none_) → In Γ (.box a 59 [nu 2, nu 3, nu 0, nu 4, nu 4, nu 0]) → In Γ (.box b 61 [nu 6, nu 3, nu 5]) → ∀ w', Mem w' Γ → CVN Tryd.prog 19 [.agg (ccells cT (hTn a b)).toArray] w' fun v N => ∃ A k, v = .tuple #[.slice A 2 k, nu 1, nu 0] ∧ N = [.vec icell 1 3 A k [2, 0]] := fun Γ a b ho h1 h2 w' M => by
    have := SettleP_cv (G.chg (ho.old M)) (cT_in (h1.box M) (h2.box M))
    unfold SetV at this
    rwa [cT_sM, cT_sN, cT_look] at this
  have hL : ∀ Γ a b x y, In Γ (.old w none_) → In Γ (.box a 59 [nu 2, nu 3, nu 0, nu 4, nu 4, nu 0]) → In Γ (.box b 61 [nu 6, nu 3, nu 5]) → In Γ (.box x 3 [nu 1, nu 1]) → In Γ (.box y 3 [nu 7]) → ∀ w', Mem w' Γ → CVN Tryd.prog 12 [.agg (ccells cT (hTn a b)).toArray, .slice (some ⟨x, 0, none⟩) 2 2, .slice none 0 0, .slice (some ⟨y, 0, none⟩) 1 1] w' fun v N => ∃ A k, v = .tuple #[.slice A 2 k, nu 0] ∧ N = [.vec icell 1 3 A k [2, 1]] := fun Γ a b x y ho h1 h2 h3 h4 w' M => by
    have := LiftP_cv (s := [1, 1]) (r := []) (ls := [7]) (S := some ⟨x, 0, none⟩) (T := none) (L := some ⟨y, 0, none⟩) (k2 := 2) (k3 := 0) (k4 := 1) (cT_in (h1.box M) (h2.box M)) (RowA.blk (l := [1, 1]) ilen (h3.box M)) RowA.emp (RowA.blk (l := [7]) ilen (h4.box M)) (by decide) (by decide) (by decide) (G.chg (ho.old M))
    unfold IntsE at this
    rwa [cT_lfM, cT_lfE] at this
  refine CVN.enter 70 [0] Tryd.func18 rfl rfl rfl (by decide) rfl ?_
  repeat' (first
|(apply G_cmpT;eq_refl;eq_refl;(exact rfl))
|(apply G_ix;eq_refl;eq_refl;(first|(apply Rd.own;(repeat first|exact In.here|apply In.there|apply In.skip);infer_instance)|(apply Rd.old;(repeat first|exact In.here|apply In.there|apply In.skip);assumption)|(apply Rd.oldR;(repeat first|exact In.here|apply In.there|apply In.skip);assumption)|exact Rd.nil|assumption);eq_refl;(focus simp);(first|(exact (show (0 : Int) < ((2 : Nat) : Int) by decide))|(exact (show (1 : Int) < ((2 : Nat) : Int) by decide))))
|(apply G_rd;eq_refl;(first|(apply Rd.own;(repeat first|exact In.here|apply In.there|apply In.skip);infer_instance)|(apply Rd.old;(repeat first|exact In.here|apply In.there|apply In.skip);assumption)|(apply Rd.oldR;(repeat first|exact In.here|apply In.there|apply In.skip);assumption)|exact Rd.nil|assumption);(case ih => infer_instance);(focus simp);(first|(exact (show (0 : Int) < ((2 : Nat) : Int) by decide))|(exact (show (1 : Int) < ((2 : Nat) : Int) by decide)));eq_refl)
|(apply G_call;eq_refl;eq_refl;(apply hS;(repeat first|exact In.here|apply In.there|apply In.skip);(repeat first|exact In.here|apply In.there|apply In.skip);(repeat first|exact In.here|apply In.there|apply In.skip));rintro _ _ ⟨A1, k1, rfl, rfl⟩)
|(apply G_call;eq_refl;eq_refl;(apply hL;(repeat first|exact In.here|apply In.there|apply In.skip);(repeat first|exact In.here|apply In.there|apply In.skip);(repeat first|exact In.here|apply In.there|apply In.skip);(repeat first|exact In.here|apply In.there|apply In.skip);(repeat first|exact In.here|apply In.there|apply In.skip));rintro _ _ ⟨A2, k2, rfl, rfl⟩)
|(apply GC_seqK;intro K hK)
|(apply hK;clear hK K)
|(apply GC_region)
|(apply GL_nil)
|(apply thenG_normal)
|(apply GC_ret)
|(apply retG1;eq_refl)
|(apply GL_on;eq_refl;eq_refl)
|(apply G_pv;eq_refl;first|exact trivial|omega)
|(apply G_ldW;eq_refl;(repeat first|exact In.here|apply In.there|apply In.skip);eq_refl)
|(apply G_len;eq_refl)
|(apply G_alloc;eq_refl;intro _)
|(apply G_stW;(first|exact wr_p|kernel_rfl);eq_refl;eq_refl;eq_refl;eq_refl;(repeat first|exact Upd.here|apply Upd.there|apply Upd.skip);eq_refl)
|(apply GX_pure;apply build59_0_1 <;> eq_refl)
|(apply GX_pure;apply build61_0_1_2 <;> eq_refl)
|(apply GX_pure;apply build29_0_2_8 <;> eq_refl)
|(apply G_new (fun b => .slice (some ⟨b, 0, none⟩) 2 2);eq_refl;(intro _;apply buildS23_2 <;> eq_refl);intro _)
|(apply G_new (fun b => .slice (some ⟨b, 0, none⟩) 1 1);eq_refl;(intro _;apply buildS25_1 <;> eq_refl);intro _)
|(apply G_new (fun b => .slice (some ⟨b, 0, none⟩) 2 2);eq_refl;(intro _;apply buildS22_2 <;> eq_refl);intro _)
|(apply G_new (fun b => .slice (some ⟨b, 0, none⟩) 1 1);eq_refl;(intro _;apply buildS22_1 <;> eq_refl);intro _))
  exact ⟨[], (by repeat first | exact Wk.nil | exact Wk.refl | (apply Wk.cons; (focus ((repeat first | exact Rem.here | apply Rem.there | apply Rem.skip); done))) | apply Wk.nilv | apply Wk.last | apply Wk.drop), rfl, rfl⟩
end SC
end Go.Proofs.YtclihihdgodloaaDoor
end
section
/- trestlelaw08: TernSteps, TernSettles, TernRows, TernLifts: the walks. -/
set_option linter.unusedVariables false
set_option linter.unusedSimpArgs false
namespace Go.Proofs.YtclihihdgodloaaDoor
namespace SC
open Go.Proofs
attribute [local irreducible] WC WL WX WS WO OX Does DoesU Enters CV Pure thenQ blockQ retQ Wants retQC GC GL GS GX RdB thenG blockG retG Rd At gt CVN CVM
attribute [local irreducible] lentX bun
set_option maxRecDepth 100000
end SC
end Go.Proofs.YtclihihdgodloaaDoor
end
section
/- The tables, as the rows' condition tells them. -/
set_option linter.unusedVariables false
set_option linter.unusedSimpArgs false
namespace Go.Proofs.YtclihihdgodloaaDoor
namespace SC
open Go.Proofs Go.ChangeShapes Go.WideShapes Go.ChangeAt Go.WideMaps Go.WideElems Go.RowKit
theorem gCon : Tryd.prog.globalNamed "trestle/tern.contrary" = some 0 := by kernel_rfl
theorem gBoth : Tryd.prog.globalNamed "trestle/tern.both" = some 1 := by kernel_rfl
theorem tCon : (Tryd.prog.globals[0]?).map (·.type) = some 101 := by kernel_rfl
theorem tBoth : (Tryd.prog.globals[1]?).map (·.type) = some 104 := by kernel_rfl
set_option maxRecDepth 100000
section
variable {H : Type} {enc : TypeId × Value → H} {W : World} {base : Nat} {spare : Nat → Bool} {held : Bool}
theorem arr3 {fuel : Nat} {cs : List Value} {x : DataW H × List MemPlace} {a b c : Int} (h : DataW.trod enc Tryd.prog W base spare held fuel 101 cs = some x) (hx : x.1 = .agg [.lit (.int .i64 a), .lit (.int .i64 b), .lit (.int .i64 c)]) : cs = [nu a, nu b, nu c] := by
  obtain ⟨xs, m1, rfl, hx1, hlen, hn3, hel⟩ := DataW.trod_array Tryd.underlying101 h
  have c3 : Tryd.prog.cellsOf 3 = 1 := by kernel_rfl
  have c9 : Tryd.prog.cellsOf 101 = 3 := by kernel_rfl
  rw [c9] at hlen
  have h0 := hel 0 (by decide)
  have h1 := hel 1 (by decide)
  have h2 := hel 2 (by decide)
  rw [c3] at h0 h1 h2
  match cs, hlen, xs, hn3 with
  | [c0, c1, c2], _, [x0, x1, x2], _ =>
    obtain ⟨n0, e0, f0, _⟩ := DataW.trod_int Tryd.underlying3 (show DataW.trod enc Tryd.prog W base spare held m1 3 [c0] = some x0 from h0)
    obtain ⟨n1, e1, f1, _⟩ := DataW.trod_int Tryd.underlying3 (show DataW.trod enc Tryd.prog W base spare held m1 3 [c1] = some x1 from h1)
    obtain ⟨n2, e2, f2, _⟩ := DataW.trod_int Tryd.underlying3 (show DataW.trod enc Tryd.prog W base spare held m1 3 [c2] = some x2 from h2)
    rw [hx1, f0, f1, f2] at hx
    simp only [List.map_cons, List.map_nil, DataW.agg.injEq, List.cons.injEq, DataW.lit.injEq, Lit.int.injEq, true_and, and_true] at hx
    obtain ⟨rfl, rfl, rfl⟩ := hx
    rw [(List.cons.inj e0).1, (List.cons.inj e1).1, (List.cons.inj e2).1]
theorem arr33 {fuel : Nat} {cs : List Value} {x : DataW H × List MemPlace} {a b c a' b' c' a'' b'' c'' : Int} (h : DataW.trod enc Tryd.prog W base spare held fuel 104 cs = some x)
    (hx : x.1 = .agg [.agg [.lit (.int .i64 a), .lit (.int .i64 b), .lit (.int .i64 c)], .agg [.lit (.int .i64 a'), .lit (.int .i64 b'), .lit (.int .i64 c')], .agg [.lit (.int .i64 a''), .lit (.int .i64 b''), .lit (.int .i64 c'')]]) : cs = [nu a, nu b, nu c, nu a', nu b', nu c', nu a'', nu b'', nu c''] := by
  obtain ⟨xs, m1, rfl, hx1, hlen, hn3, hel⟩ := DataW.trod_array Tryd.underlying104 h
  have c9 : Tryd.prog.cellsOf 101 = 3 := by kernel_rfl
  have c27 : Tryd.prog.cellsOf 104 = 9 := by kernel_rfl
  rw [c27] at hlen
  have h0 := hel 0 (by decide)
  have h1 := hel 1 (by decide)
  have h2 := hel 2 (by decide)
  rw [c9] at h0 h1 h2
  match cs, hlen, xs, hn3 with
  | [c0, c1, c2, c3, c4, c5, c6, c7, c8], _, [x0, x1, x2], _ =>
    rw [hx1] at hx
    simp only [List.map_cons, List.map_nil, DataW.agg.injEq, List.cons.injEq, and_true] at hx
    have e0 := arr3 (show DataW.trod enc Tryd.prog W base spare held m1 101 [c0, c1, c2] = some x0 from h0) hx.1
    have e1 := arr3 (show DataW.trod enc Tryd.prog W base spare held m1 101 [c3, c4, c5] = some x1 from h1) hx.2.1
    have e2 := arr3 (show DataW.trod enc Tryd.prog W base spare held m1 101 [c6, c7, c8] = some x2 from h2) hx.2.2
    simp only [List.cons.injEq, and_true] at e0 e1 e2
    obtain ⟨rfl, rfl, rfl⟩ := e0
    obtain ⟨rfl, rfl, rfl⟩ := e1
    obtain ⟨rfl, rfl, rfl⟩ := e2
    rfl
end
abbrev laidT : List (String × DataW Unit) := [("trestle/tern.both", Rows.laid_trestle_tern_both), ("trestle/tern.contrary", Rows.laid_trestle_tern_contrary)]
/-- The door's own heap meets the condition. -/
theorem door_met (os : Os) (args : Array Value) : laidMetH Tryd.prog laidT ((World.doorLaid Tryd.prog 400 os).forCall (fun _ _ => 0) ⟨#[], args, []⟩).memory :=
  laidMetH_of_parts3 (fuel := 8) (laidMet_of_run' 8 (by kernel_rfl) (by kernel_rfl)) (by kernel_rfl) (by kernel_rfl)
theorem of_laid {W : World} (h : laidMetH Tryd.prog laidT W) : TabG W := by
  rw [MakeChecks.laidMetH_plain _ _ _ (by kernel_rfl)] at h
  obtain ⟨ps, ⟨g0, t0, cs0, f0, p0, q0, hg0, ht0, hv0, hd0, ⟨g1, t1, cs1, f1, p1, q1, hg1, ht1, hv1, hd1, _, _⟩, _⟩, _, _⟩ := h
  obtain rfl := Option.some.inj (gBoth.symm.trans hg0)
  obtain rfl := Option.some.inj (gCon.symm.trans hg1)
  obtain rfl := Option.some.inj (tBoth.symm.trans ht0)
  obtain rfl := Option.some.inj (tCon.symm.trans ht1)
  have e0 := arr33 hd0 rfl
  have e1 := arr3 hd1 rfl
  obtain ⟨l0⟩ := cs0
  obtain ⟨l1⟩ := cs1
  simp only at e0 e1
  subst e0 e1
  refine ⟨fun i hi => ?_, fun i j hi hj => ?_⟩
  · rw [World.var?_cell hg1 hv1 i]
    have h3 : i = 0 ∨ i = 1 ∨ i = 2 := by omega
    rcases h3 with rfl | rfl | rfl <;> rfl
  · rw [World.var?_cell hg0 hv0 (i * 3 + j)]
    have h3 : i = 0 ∨ i = 1 ∨ i = 2 := by omega
    have h4 : j = 0 ∨ j = 1 ∨ j = 2 := by omega
    rcases h3 with rfl | rfl | rfl <;> rcases h4 with rfl | rfl | rfl <;> rfl
end SC
end Go.Proofs.YtclihihdgodloaaDoor
end
section
/- Lists of numbers and numbers that come in. -/
set_option linter.unusedVariables false
set_option linter.unusedSimpArgs false
namespace Go.Proofs.YtclihihdgodloaaDoor
namespace SC
open Go.Proofs
set_option maxRecDepth 100000
section
variable {H : Type} {enc : TypeId × Value → H} {W : World} {base : Nat} {spare : Nat → Bool} {held : Bool}
end
end SC
end Go.Proofs.YtclihihdgodloaaDoor
end
section
/- trestlelaw08: TernLifts: the walk; a case that comes in. -/
set_option linter.unusedVariables false
set_option linter.unusedSimpArgs false
namespace Go.Proofs.YtclihihdgodloaaDoor
namespace SC
open Go.Proofs
set_option maxRecDepth 100000
section
variable {H : Type} {enc : TypeId × Value → H} {W : World} {base : Nat} {spare : Nat → Bool} {held : Bool}
end
attribute [local irreducible] WC WL WX WS WO OX Does DoesU Enters CV Pure thenQ blockQ retQ Wants retQC GC GL GS GX RdB thenG blockG retG Rd At gt CVN CVM
attribute [local irreducible] lentX bun
end SC
end Go.Proofs.YtclihihdgodloaaDoor
end
section
/- frames: literals at a step, the clauses of a step, of what comes next, of the resets, of a run: plain words. -/
set_option linter.unusedVariables false
set_option linter.unusedSimpArgs false
namespace Go.Proofs.YtclihihdgodloaaDoor
namespace SC
open Go.Proofs
end SC
end Go.Proofs.YtclihihdgodloaaDoor
end
section
/- Clauses in memory, their rows bound together. -/
set_option linter.unusedVariables false
set_option linter.unusedSimpArgs false
namespace Go.Proofs.YtclihihdgodloaaDoor
namespace SC
open Go.Proofs
section
variable {Γ Γ' Γ1 Γ2 : Mm}
theorem row_snoc (ps : List (Hdl × List Int)) (x : Hdl × List Int) : Wk [rowL x, .any (bun (fam rowJ ps))] [.any (bun (fam rowJ (ps ++ [x])))] := by
  have := row_in ps [] x
  rw [List.append_nil] at this
  exact this
theorem rows_app (ps qs : List (Hdl × List Int)) : Wk [.any (bun (fam rowJ ps)), .any (bun (fam rowJ qs))] [.any (bun (fam rowJ (ps ++ qs)))] := by
  rw [fam_app]
  refine Wk.trans ?_ bun_in
  refine Wk.trans (Wk.part (C := [.any (bun (fam rowJ qs))]) (Γ1 := [.any (bun (fam rowJ ps))]) (Rems.cons (.there .here) .nil) bun_out bun_out) ?_
  exact .refl
/-- A row more, at the head. -/
theorem Wk.snoc {ps : List (Hdl × List Int)} {x : Hdl × List Int} (h1 : Rem Γ (.any (bun (fam rowJ ps))) Γ1) (h2 : Rem Γ1 (rowL x) Γ2) (h : Wk Γ2 Γ') : Wk Γ (.any (bun (fam rowJ (ps ++ [x]))) :: Γ') := by
  refine Wk.part (C := [.any (bun (fam rowJ ps)), rowL x]) (D := [.any (bun (fam rowJ (ps ++ [x])))]) (Rems.cons h1 (Rems.cons h2 .nil)) ?_ h
  exact (Wk.perm (List.Perm.swap ..)).trans (row_snoc ps x)
theorem Wk.rows {ps qs : List (Hdl × List Int)} (h1 : Rem Γ (.any (bun (fam rowJ ps))) Γ1) (h2 : Rem Γ1 (.any (bun (fam rowJ qs))) Γ2) (h : Wk Γ2 Γ') : Wk Γ (.any (bun (fam rowJ (ps ++ qs))) :: Γ') :=
  Wk.part (C := [.any (bun (fam rowJ ps)), .any (bun (fam rowJ qs))]) (D := [.any (bun (fam rowJ (ps ++ qs)))]) (Rems.cons h1 (Rems.cons h2 .nil)) (rows_app ps qs) h
end
end SC
end Go.Proofs.YtclihihdgodloaaDoor
end
section
/- frames: literals, gates, constraints, next, first, step: the walks. -/
set_option linter.unusedVariables false
set_option linter.unusedSimpArgs false
namespace Go.Proofs.YtclihihdgodloaaDoor
namespace SC
open Go.Proofs
attribute [local irreducible] WC WL WX WS WO OX Does DoesU Enters CV Pure thenQ blockQ retQ Wants retQC GC GL GS GX RdB thenG blockG retG Rd At gt CVN CVM
set_option maxRecDepth 100000
end SC
end Go.Proofs.YtclihihdgodloaaDoor
end
section
/- trestleref16: Step0, Next0, First0: the walks. -/
set_option linter.unusedVariables false
set_option linter.unusedSimpArgs false
namespace Go.Proofs.YtclihihdgodloaaDoor
namespace SC
open Go.Proofs
attribute [local irreducible] WC WL WX WS WO OX Does DoesU Enters CV Pure thenQ blockQ retQ Wants retQC GC GL GS GX RdB thenG blockG retG Rd At gt CVN CVM
set_option maxRecDepth 100000
end SC
end Go.Proofs.YtclihihdgodloaaDoor
end
section
/- frames: vars, ready, looked, many, step: the walks. -/
set_option linter.unusedVariables false
set_option linter.unusedSimpArgs false
namespace Go.Proofs.YtclihihdgodloaaDoor
namespace SC
open Go.Proofs
section
variable {P : Program} {n : Nat} {all : List Oper} {K : Env → Mm → Prop} {m : Md} {e : Env} {Γ : Mm} {d : Option Tmp} {ty t t' elem : TypeId} {x y : Operand} {w : World} {td : TypeDesc} {by_ : Nat} {zv v : Value}
end
attribute [local irreducible] WC WL WX WS WO OX Does DoesU Enters CV Pure thenQ blockQ retQ Wants retQC GC GL GS GX RdB thenG blockG retG Rd At gt CVN CVM
set_option maxRecDepth 100000
end SC
end Go.Proofs.YtclihihdgodloaaDoor
end
section
/- frames: Step, Next; the reference's. -/
set_option linter.unusedVariables false
set_option linter.unusedSimpArgs false
namespace Go.Proofs.YtclihihdgodloaaDoor
namespace SC
open Go.Proofs
attribute [local irreducible] WC WL WX WS WO OX Does DoesU Enters CV Pure thenQ blockQ retQ Wants retQC GC GL GS GX RdB thenG blockG retG Rd At gt CVN CVM
set_option maxRecDepth 100000
end SC
end Go.Proofs.YtclihihdgodloaaDoor
end
section
/- frames: First, Lit, Vars; the reference's. -/
set_option linter.unusedVariables false
set_option linter.unusedSimpArgs false
namespace Go.Proofs.YtclihihdgodloaaDoor
namespace SC
open Go.Proofs
attribute [local irreducible] WC WL WX WS WO OX Does DoesU Enters CV Pure thenQ blockQ retQ Wants retQC GC GL GS GX RdB thenG blockG retG Rd At gt CVN CVM
set_option maxRecDepth 100000
end SC
end Go.Proofs.YtclihihdgodloaaDoor
end
section
/- slices.Grow (the kit's contract laid at this program) and slices.Concat at clauses. -/
set_option linter.unusedVariables false
set_option linter.unusedSimpArgs false
namespace Go.Proofs.YtclihihdgodloaaDoor
namespace SC
open Go.Proofs
open Go.Shelf
set_option maxRecDepth 100000
attribute [local irreducible] WC WL WX WS WO OX Does DoesU Enters CV Pure thenQ blockQ retQ Wants retQC GC GL GS GX RdB thenG blockG retG Rd At gt CVN CVM
end SC
end Go.Proofs.YtclihihdgodloaaDoor
end
section
/- frames: Run. -/
set_option linter.unusedVariables false
set_option linter.unusedSimpArgs false
namespace Go.Proofs.YtclihihdgodloaaDoor
namespace SC
open Go.Proofs
theorem map_len {α β : Type} {f : α → β} {l : List α} {m : List β} (h : l.map f = m) : l.length = m.length := by rw [← h, List.length_map]
section
variable {P : Program} {n : Nat} {all : List Oper} {K : Env → Mm → Prop} {e : Env} {Γ : Mm} {d : Option Tmp} {ty t t0 : TypeId} {x y : Operand} {td : TypeDesc} {sz by_ : Nat} {zv : Value} {ag : Bool}
end
attribute [local irreducible] WC WL WX WS WO OX Does DoesU Enters CV Pure thenQ blockQ retQ Wants retQC GC GL GS GX RdB thenG blockG retG Rd At gt CVN CVM
set_option maxRecDepth 100000
end SC
end Go.Proofs.YtclihihdgodloaaDoor
end
section
/- The reference's Run. -/
set_option linter.unusedVariables false
set_option linter.unusedSimpArgs false
namespace Go.Proofs.YtclihihdgodloaaDoor
namespace SC
open Go.Proofs
attribute [local irreducible] WC WL WX WS WO OX Does DoesU Enters CV Pure thenQ blockQ retQ Wants retQC GC GL GS GX RdB thenG blockG retG Rd At gt CVN CVM
set_option maxRecDepth 100000
end SC
end Go.Proofs.YtclihihdgodloaaDoor
end
section
/- trestlelaw16: works, cost. -/
set_option linter.unusedVariables false
set_option linter.unusedSimpArgs false
namespace Go.Proofs.YtclihihdgodloaaDoor
namespace SC
open Go.Proofs
attribute [local irreducible] WC WL WX WS WO OX Does DoesU Enters CV Pure thenQ blockQ retQ Wants retQC GC GL GS GX RdB thenG blockG retG Rd At CVN CVM
set_option maxRecDepth 100000
end SC
end Go.Proofs.YtclihihdgodloaaDoor
end
section
/- trestlelaw16: FramesRuns, FramesParts: the walks. -/
set_option linter.unusedVariables false
set_option linter.unusedSimpArgs false
namespace Go.Proofs.YtclihihdgodloaaDoor
namespace SC
open Go.Proofs
theorem CVM.same {P : Program} {f : FuncId} {args : List Value} {w : World} {C C' : Mm} {R : Value → Mm → Prop} (h : CVM P f args w C' R) (he : ∀ k, owns C' k ↔ owns C k) : CVM P f args w C R := by
  have e : owns C' = owns C := funext fun k => propext (he k)
  unfold CVM at h ⊢
  rw [e] at h
  exact h
attribute [local irreducible] WC WL WX WS WO OX Does DoesU Enters CV Pure thenQ blockQ retQ Wants retQC GC GL GS GX RdB thenG blockG retG Rd At gt CVN CVM
attribute [local irreducible] lentX bun
set_option maxRecDepth 100000
end SC
end Go.Proofs.YtclihihdgodloaaDoor
end
section
/- A formula is the circuit, step by step: the plain law. -/
set_option linter.unusedVariables false
set_option linter.unusedSimpArgs false
namespace Go.Proofs.YtclihihdgodloaaDoor
namespace SC
open Go.Proofs
/-! ### truth of literals, clauses, formulas -/
section
variable {c : Circ} {md : List Bool} {k : Nat}
/-- The values of a step of a run. -/
noncomputable def vk (c : Circ) (t : Trc) (k : Nat) : List Bool := valM c (stM c t k) (gt t.rows (k : Int)).2
end
end SC
end Go.Proofs.YtclihihdgodloaaDoor
end
section
/- frames: Model: the walk. -/
set_option linter.unusedVariables false
set_option linter.unusedSimpArgs false
namespace Go.Proofs.YtclihihdgodloaaDoor
namespace SC
open Go.Proofs
theorem RdB.runs {Γ : Mm} {A : Option Addr} {k : Nat} {ps : List (HMom × Mom)} (hi : In Γ (.any (bun (runB ps A k)))) : Rd Γ encM 4 A ps := fun w M => (MomsIn.bun hi M).row
theorem gt_run {c : Circ} {t : Trc} {n k : Nat} {ps : List (HMom × Mom)} (h : ps.map (·.2) = runM c t n) (hk : k < n) : (gt ps (k : Int)).2 = momM c (stM c t k) (vk c t k) := by
  have hl := map_len h
  rw [runM_len] at hl
  have h1 : (ps.map (·.2))[k]? = (runM c t n)[k]? := by rw [h]
  unfold runM at h1
  rw [List.getElem?_map, List.getElem?_map, List.getElem?_eq_getElem (by omega), List.getElem?_range hk] at h1
  rw [gt_nat (by omega)]
  exact Option.some.inj h1
attribute [local irreducible] WC WL WX WS WO OX Does DoesU Enters CV Pure thenQ blockQ retQ Wants retQC GC GL GS GX RdB thenG blockG retG Rd At gt CVN CVM
set_option maxRecDepth 100000
end SC
end Go.Proofs.YtclihihdgodloaaDoor
end
section
/- trestlelaw08: TernReaches: the walk. -/
set_option linter.unusedVariables false
set_option linter.unusedSimpArgs false
namespace Go.Proofs.YtclihihdgodloaaDoor
namespace SC
open Go.Proofs
theorem rd_momst {Γ : Mm} {A : Option Addr} {k : Nat} {ps : List (HMom × Mom)} {i : Nat} (hi : In Γ (.any (bun (runB ps A k)))) (hk : i < ps.length) : Rd Γ booc 1 (gt ps (i : Int)).1.1.1 (gt ps (i : Int)).2.state := fun _ M => (MomsIn.bun hi M).st _ (gt_mem (l := ps) (i := (i : Int)) (by omega) (by omega))
theorem start_of8 {c : Circ} {t : Trc} (h : runE c t = 0) : startE c t.init = 0 ∧ startB c t.init = startsM c t.init c.latches.length := by
  obtain ⟨he, F⟩ := runE_zero h
  have e : startE c t.init = 0 := by unfold startE; rw [if_neg (by omega), if_neg (by have := F.init; omega)]
  exact ⟨e, if_pos e⟩
attribute [local irreducible] WC WL WX WS WO OX Does DoesU Enters CV Pure thenQ blockQ retQ Wants retQC GC GL GS GX RdB thenG blockG retG Rd At gt CVN CVM
attribute [local irreducible] lentX bun
set_option maxRecDepth 100000
set_option maxHeartbeats 1600000 in
theorem ternReaches_cv {w : World} {c : Circ} {h js : Hd} {t : Trc} {a b : Hdl} (G : TabG w) (H : CirIn w c h js) (HT : TrcIn w t a b) :
    CVN Tryd.prog 9 [.agg (ccells c h).toArray, .agg (tcs t a b).toArray] w fun v N => N = [] ∧ v = .bool true := by
  have hW : ∀ Γ, In Γ (.old w none_) → ∀ w', Mem w' Γ → CVN Tryd.prog 18 [] w' _ := fun Γ ho w' M => works8_cv (G.chg (ho.old M))
  have hse : ∀ Γ, In Γ (.old w none_) → ∀ w', Mem w' Γ → CVN Tryd.prog 19 [.agg (ccells c h).toArray] w' (SetV c) := fun Γ ho w' M => SettleP_cv (G.chg (ho.old M)) (H.chg (ho.old M))
  have hst : ∀ Γ, In Γ (.old w none_) → ∀ w', Mem w' Γ → CVN Tryd.prog 35 [.agg (ccells c h).toArray, .slice a.1 t.init.length a.2] w' _ := fun Γ hi w' M => StartsP_cv (k2 := a.2) (H.chg (hi.old M)) (HT.init.chg (hi.old M))
  have hrun : ∀ Γ, In Γ (.old w none_) → ∀ w', Mem w' Γ → CVN Tryd.prog 36 [.agg (ccells c h).toArray, .agg (tcs t a b).toArray] w' (RunB (runE c t) (runsM c t)) := fun Γ hi w' M => RunB.to (RunR.to (Run_cv (t := t) (H.chg (hi.old M)) (HT.chg (hi.old M))) rfl rfl)
  have hlr := HT.lr
  refine CVN.enter 88 [4] Tryd.func9 rfl rfl rfl (by decide) rfl ?_
  unfold SetV at hse
  by_cases he : (lookM c).2 = 0
  · have R := right_of H.at_ H.sane he
    have n2 := R.nLat
    have e1 : sM c = stT c (nS c) := if_pos he
    have hsl := stT_len c (nS c)
    have hs3 := stT_row R (nS c)
    have hfx := nS_fix c
    rw [e1, he] at hse
    by_cases hr : runE c t = 0
    · obtain ⟨e3, e4⟩ := start_of8 hr
      have F := (runE_zero hr).2
      have hrs : runsM c t = runM c t t.rows.length := if_pos hr
      rw [e3, e4] at hst
      rw [hr, hrs] at hrun
      cases hs : startsM c t.init c.latches.length
      · rw [hs] at hst
        generalize stT c (nS c) = S0 at *
        repeat' (first
|(apply G_call;eq_refl;eq_refl;(apply hW;(repeat first|exact In.here|apply In.there|apply In.skip));rintro _ _ ⟨rfl, rfl⟩)
|(apply G_call;eq_refl;eq_refl;(apply hse;(repeat first|exact In.here|apply In.there|apply In.skip));rintro _ _ ⟨A8, k8, rfl, rfl⟩)
|(apply G_call;eq_refl;eq_refl;(apply hst;(repeat first|exact In.here|apply In.there|apply In.skip));rintro _ _ ⟨rfl, rfl⟩)
|(apply G_call;eq_refl;eq_refl;(apply hrun;(repeat first|exact In.here|apply In.there|apply In.skip));rintro _ _ ⟨ps, A9, k9, rfl, hps, rfl⟩)
|(apply GC_seqK;intro K hK)
|(apply hK;clear hK K)
|(apply GC_region)
|(apply GL_nil)
|(apply thenG_normal)
|(apply thenG_ret)
|(apply GC_ret)
|(apply GC_skip)
|(apply GC_if_true;eq_refl)
|(apply GC_if_false;eq_refl)
|(apply retG1;eq_refl)
|(apply GL_on;eq_refl;eq_refl)
|(apply G_pv;eq_refl;first|exact trivial|omega)
|(apply G_field;eq_refl)
|(apply G_ld;eq_refl;(repeat first|exact In.here|apply In.there|apply In.skip);eq_refl)
|(apply G_ldW;eq_refl;(repeat first|exact In.here|apply In.there|apply In.skip);eq_refl)
|(apply G_cmpT;eq_refl;eq_refl;omega)
|(apply G_cmpF;eq_refl;eq_refl;omega)
|(apply G_len;eq_refl)
|(apply G_box;eq_refl;eq_refl;intro _))
        exact ⟨[], (by repeat first | exact Wk.nil | exact Wk.refl | (apply Wk.cons; (focus ((repeat first | exact Rem.here | apply Rem.there | apply Rem.skip); done))) | apply Wk.nilv | apply Wk.last | apply Wk.drop), rfl, rfl⟩
      · have hcv := cov_run R F hs hfx
        rw [hs] at hst
        generalize stT c (nS c) = S0 at *
        repeat' (first
|(apply G_call;eq_refl;eq_refl;(apply hW;(repeat first|exact In.here|apply In.there|apply In.skip));rintro _ _ ⟨rfl, rfl⟩)
|(apply G_call;eq_refl;eq_refl;(apply hse;(repeat first|exact In.here|apply In.there|apply In.skip));rintro _ _ ⟨A8, k8, rfl, rfl⟩)
|(apply G_call;eq_refl;eq_refl;(apply hst;(repeat first|exact In.here|apply In.there|apply In.skip));rintro _ _ ⟨rfl, rfl⟩)
|(apply G_call;eq_refl;eq_refl;(apply hrun;(repeat first|exact In.here|apply In.there|apply In.skip));rintro _ _ ⟨ps, A9, k9, rfl, hps, rfl⟩)
|(apply GC_seqK;intro K hK)
|(apply hK;clear hK K)
|(apply GC_block)
|(apply GC_region)
|(apply GL_nil)
|(apply thenG_normal)
|(apply GC_skip)
|(apply GC_if_false;eq_refl)
|(apply GL_on;eq_refl;eq_refl)
|(apply G_pv;eq_refl;first|exact trivial|omega)
|(apply G_field;eq_refl)
|(apply G_ld;eq_refl;(repeat first|exact In.here|apply In.there|apply In.skip);eq_refl)
|(apply G_ldW;eq_refl;(repeat first|exact In.here|apply In.there|apply In.skip);eq_refl)
|(apply G_cmpF;eq_refl;eq_refl;omega)
|(apply G_len;eq_refl)
|(apply G_box;eq_refl;eq_refl;intro _))
        have hpl : ps.length = t.rows.length := by rw [map_len hps, runM_len]
        refine GC_loopK [5, 57, 58] (fun i : Nat => [(59, nu i)]) (fun _ => [.any (bun (runB ps A9 k9)), .vec icell 1 3 A8 k8 S0, .old w none_]) (fun i => i ≤ t.rows.length) (fun i => t.rows.length - i) 0 (by repeat first | exact Pick.nil | (apply Pick.cons; eq_refl)) (by repeat first | exact trivial | refine ⟨rfl, ?_⟩) (by repeat first | exact Wk.nil | exact Wk.refl | (apply Wk.cons; (focus ((repeat first | exact Rem.here | apply Rem.there | apply Rem.skip); done))) | apply Wk.nilv | apply Wk.last | apply Wk.drop) (Nat.zero_le _) ?_
        intro i hi
        rcases Nat.lt_or_ge i t.rows.length with hlt | hge
        · have hg := gt_run hps hlt
          have hcm := hcv i (by omega)
          have hsm := stM_len (c := c) F.init i
          have hrd : ∀ Γ, In Γ (.any (bun (runB ps A9 k9))) → Rd Γ booc 1 (gt ps (i : Int)).1.1.1 (stM c t i) := fun Γ hi' => by
            have h9 := rd_momst hi' (i := i) (by omega)
            rw [hg] at h9
            exact h9
          have hstl : (gt ps (i : Int)).2.state = stM c t i := by rw [hg]; rfl
          generalize hx : gt ps (i : Int) = x at *
          obtain ⟨x1, st, ho, bd, fr⟩ := x
          obtain rfl : st = stM c t i := hstl
          clear hg
          repeat' (first
|(apply G_rdW;eq_refl;(apply RdB.runs;(repeat first|exact In.here|apply In.there|apply In.skip));infer_instance;(case ih => infer_instance);omega;omega;rw [hx];dsimp only [encM])
|(apply G_ix;eq_refl;eq_refl;(apply RdB.runs;(repeat first|exact In.here|apply In.there|apply In.skip));(first|eq_refl|omega);omega;omega)
|(apply GC_seqK;intro K hK)
|(apply hK;clear hK K)
|(apply GC_block)
|(apply GC_region)
|(apply GL_nil)
|(apply thenG_normal)
|(apply GC_skip)
|(apply GC_if_true;eq_refl)
|(apply GL_on;eq_refl;eq_refl)
|(apply G_pv;eq_refl;first|exact trivial|omega)
|(apply G_cmpT;eq_refl;eq_refl;omega)
|(apply G_len;eq_refl)
|(apply G_alloc;eq_refl;intro _)
|(apply G_stW;(first|exact wr_p|kernel_rfl);eq_refl;eq_refl;eq_refl;eq_refl;(repeat first|exact Upd.here|apply Upd.there|apply Upd.skip);eq_refl))
          rename_i b13
          refine GC_loopK [5, 13, 57, 58, 59, 63, 64] (fun j : Nat => [(65, nu j)]) (fun _ => [.box b13 73 [.slice x1.1.1 (stM c t i).length x1.1.2, .bool ho, .slice x1.2.1.1 bd.length x1.2.1.2, .slice x1.2.2.1 fr.length x1.2.2.2], .any (bun (runB ps A9 k9)), .vec icell 1 3 A8 k8 S0, .old w none_]) (fun j => j ≤ c.latches.length) (fun j => c.latches.length - j) 0 (by repeat first | exact Pick.nil | (apply Pick.cons; eq_refl)) (by repeat first | exact trivial | refine ⟨rfl, ?_⟩) (by repeat first | exact Wk.nil | exact Wk.refl | (apply Wk.cons; (focus ((repeat first | exact Rem.here | apply Rem.there | apply Rem.skip); done))) | apply Wk.nilv | apply Wk.last | apply Wk.drop) (Nat.zero_le _) ?_
          intro j hj
          rcases Nat.lt_or_ge j c.latches.length with hl | hge
          · have hcj := hcm.each j (by omega)
            generalize hx0 : gt S0 (j : Int) = x0 at *
            generalize hb0 : gt (stM c t i) (j : Int) = b0 at *
            by_cases h2 : x0 = 2
            · subst h2
              repeat' (first
|(apply GC_seqK;intro K hK)
|(apply hK;clear hK K)
|(apply GC_block)
|(apply GC_region)
|(apply GL_nil)
|(apply thenG_normal)
|(apply blockG_normal)
|(apply GC_skip)
|(apply GC_if_true;eq_refl)
|(apply GC_if_false;eq_refl)
|(apply GL_on;eq_refl;eq_refl)
|(refine GC_draws (id := 16) [.q 0, .q 1, .q 2, .q 3, .q 4, .q 5, .q 6, .q 7, .q 8, .q 9, .q 10, .q 11, .q 12, .q 13, .q 14, .q 15, .q 16, .q 17] mixed (by kernel_rfl) (by kernel_rfl) ?_)
|(apply GS_nil)
|(apply GS_qon;eq_refl;eq_refl;eq_refl;eq_refl)
|(apply GS_qoff;eq_refl;eq_refl;eq_refl;eq_refl)
|(apply G_pv;eq_refl;first|exact trivial|omega)
|(apply G_rd;eq_refl;(first|(apply Rd.own;(repeat first|exact In.here|apply In.there|apply In.skip);infer_instance)|(apply Rd.old;(repeat first|exact In.here|apply In.there|apply In.skip);assumption)|(apply Rd.oldR;(repeat first|exact In.here|apply In.there|apply In.skip);assumption)|exact Rd.nil|assumption);(case ih => infer_instance);omega;omega;eq_refl)
|(apply G_cmpT;eq_refl;eq_refl;omega)
|(apply G_cmpF;eq_refl;eq_refl;omega)
|(apply G_ix;eq_refl;eq_refl;(first|(apply Rd.own;(repeat first|exact In.here|apply In.there|apply In.skip);infer_instance)|(apply Rd.old;(repeat first|exact In.here|apply In.there|apply In.skip);assumption)|(apply Rd.oldR;(repeat first|exact In.here|apply In.there|apply In.skip);assumption)|exact Rd.nil|assumption);(first|eq_refl|omega);omega;omega))
              exact ⟨j + 1, (by repeat first | exact trivial | refine ⟨rfl, ?_⟩), (by repeat first | exact Wk.nil | exact Wk.refl | (apply Wk.cons; (focus ((repeat first | exact Rem.here | apply Rem.there | apply Rem.skip); done))) | apply Wk.nilv | apply Wk.last | apply Wk.drop), hl, by omega⟩
            · have hcj := hcj h2
              subst hcj
              by_cases h1 : x0 = 1
              · subst h1
                repeat' (first
|(apply G_rd;eq_refl;(apply hrd;(repeat first|exact In.here|apply In.there|apply In.skip));(case ih => infer_instance);omega;omega;(rw [hb0];eq_refl))
|(apply G_ix;eq_refl;eq_refl;(apply hrd;(repeat first|exact In.here|apply In.there|apply In.skip));(first|eq_refl|omega);omega;omega)
|(apply GC_seqK;intro K hK)
|(apply hK;clear hK K)
|(apply GC_block)
|(apply GC_region)
|(apply GL_nil)
|(apply thenG_normal)
|(apply blockG_normal)
|(apply GC_skip)
|(apply GC_if_true;eq_refl)
|(apply GC_if_false;eq_refl)
|(apply GL_on;eq_refl;eq_refl)
|(refine GC_draws (id := 16) [.q 0, .q 1, .q 2, .q 3, .q 4, .q 5, .q 6, .q 7, .q 8, .q 9, .q 10, .q 11, .q 12, .q 13, .q 14, .q 15, .q 16, .q 17] mixed (by kernel_rfl) (by kernel_rfl) ?_)
|(apply GS_nil)
|(apply GS_qon;eq_refl;eq_refl;eq_refl;eq_refl)
|(apply G_pv;eq_refl;first|exact trivial|omega)
|(apply G_field;eq_refl)
|(apply G_ld;eq_refl;(repeat first|exact In.here|apply In.there|apply In.skip);eq_refl)
|(apply G_rd;eq_refl;(first|(apply Rd.own;(repeat first|exact In.here|apply In.there|apply In.skip);infer_instance)|(apply Rd.old;(repeat first|exact In.here|apply In.there|apply In.skip);assumption)|(apply Rd.oldR;(repeat first|exact In.here|apply In.there|apply In.skip);assumption)|exact Rd.nil|assumption);(case ih => infer_instance);omega;omega;eq_refl)
|(apply G_cmpT;eq_refl;eq_refl;omega)
|(apply G_ix;eq_refl;eq_refl;(first|(apply Rd.own;(repeat first|exact In.here|apply In.there|apply In.skip);infer_instance)|(apply Rd.old;(repeat first|exact In.here|apply In.there|apply In.skip);assumption)|(apply Rd.oldR;(repeat first|exact In.here|apply In.there|apply In.skip);assumption)|exact Rd.nil|assumption);(first|eq_refl|omega);omega;omega)
|(apply G_neqB;eq_refl;eq_refl))
                exact ⟨j + 1, (by repeat first | exact trivial | refine ⟨rfl, ?_⟩), (by repeat first | exact Wk.nil | exact Wk.refl | (apply Wk.cons; (focus ((repeat first | exact Rem.here | apply Rem.there | apply Rem.skip); done))) | apply Wk.nilv | apply Wk.last | apply Wk.drop), hl, by omega⟩
              · rw [decide_eq_false h1] at hb0
                repeat' (first
|(apply G_rd;eq_refl;(apply hrd;(repeat first|exact In.here|apply In.there|apply In.skip));(case ih => infer_instance);omega;omega;(rw [hb0];eq_refl))
|(apply G_ix;eq_refl;eq_refl;(apply hrd;(repeat first|exact In.here|apply In.there|apply In.skip));(first|eq_refl|omega);omega;omega)
|(apply GC_seqK;intro K hK)
|(apply hK;clear hK K)
|(apply GC_block)
|(apply GC_region)
|(apply GL_nil)
|(apply thenG_normal)
|(apply blockG_normal)
|(apply GC_skip)
|(apply GC_if_true;eq_refl)
|(apply GC_if_false;eq_refl)
|(apply GL_on;eq_refl;eq_refl)
|(refine GC_draws (id := 16) [.q 0, .q 1, .q 2, .q 3, .q 4, .q 5, .q 6, .q 7, .q 8, .q 9, .q 10, .q 11, .q 12, .q 13, .q 14, .q 15, .q 16, .q 17] mixed (by kernel_rfl) (by kernel_rfl) ?_)
|(apply GS_nil)
|(apply GS_qon;eq_refl;eq_refl;eq_refl;eq_refl)
|(apply G_pv;eq_refl;first|exact trivial|omega)
|(apply G_field;eq_refl)
|(apply G_ld;eq_refl;(repeat first|exact In.here|apply In.there|apply In.skip);eq_refl)
|(apply G_rd;eq_refl;(first|(apply Rd.own;(repeat first|exact In.here|apply In.there|apply In.skip);infer_instance)|(apply Rd.old;(repeat first|exact In.here|apply In.there|apply In.skip);assumption)|(apply Rd.oldR;(repeat first|exact In.here|apply In.there|apply In.skip);assumption)|exact Rd.nil|assumption);(case ih => infer_instance);omega;omega;eq_refl)
|(apply G_cmpT;eq_refl;eq_refl;omega)
|(apply G_cmpF;eq_refl;eq_refl;omega)
|(apply G_ix;eq_refl;eq_refl;(first|(apply Rd.own;(repeat first|exact In.here|apply In.there|apply In.skip);infer_instance)|(apply Rd.old;(repeat first|exact In.here|apply In.there|apply In.skip);assumption)|(apply Rd.oldR;(repeat first|exact In.here|apply In.there|apply In.skip);assumption)|exact Rd.nil|assumption);(first|eq_refl|omega);omega;omega)
|(apply G_neqB;eq_refl;eq_refl))
                exact ⟨j + 1, (by repeat first | exact trivial | refine ⟨rfl, ?_⟩), (by repeat first | exact Wk.nil | exact Wk.refl | (apply Wk.cons; (focus ((repeat first | exact Rem.here | apply Rem.there | apply Rem.skip); done))) | apply Wk.nilv | apply Wk.last | apply Wk.drop), hl, by omega⟩
          · obtain rfl : j = c.latches.length := by omega
            repeat' (first
|(apply GC_seqK;intro K hK)
|(apply hK;clear hK K)
|(clear hK K;apply hK;clear hK K)
|(apply GC_region)
|(apply GL_nil)
|(apply thenG_normal)
|(apply thenG_exit)
|(apply blockG_hit)
|(apply blockG_normal)
|(apply GC_exit)
|(apply GC_if_false;eq_refl)
|(apply GL_on;eq_refl;eq_refl)
|(apply G_pv;eq_refl;first|exact trivial|omega)
|(apply G_cmpF;eq_refl;eq_refl;omega))
            exact ⟨i + 1, (by repeat first | exact trivial | refine ⟨rfl, ?_⟩), (by repeat first | exact Wk.nil | exact Wk.refl | (apply Wk.cons; (focus ((repeat first | exact Rem.here | apply Rem.there | apply Rem.skip); done))) | apply Wk.nilv | apply Wk.last | apply Wk.drop), hlt, by omega⟩
        · obtain rfl : i = t.rows.length := by omega
          repeat' (first
|(apply GC_seqK;intro K hK)
|(apply hK;clear hK K)
|(clear hK K;apply hK;clear hK K)
|(apply GC_region)
|(apply GL_nil)
|(apply thenG_normal)
|(apply thenG_exit)
|(apply blockG_hit)
|(apply GC_ret)
|(apply GC_exit)
|(apply GC_if_false;eq_refl)
|(apply retG1;eq_refl)
|(apply GL_on;eq_refl;eq_refl)
|(apply G_pv;eq_refl;first|exact trivial|omega)
|(apply G_cmpF;eq_refl;eq_refl;omega))
          exact ⟨[], (by repeat first | exact Wk.nil | exact Wk.refl | (apply Wk.cons; (focus ((repeat first | exact Rem.here | apply Rem.there | apply Rem.skip); done))) | apply Wk.nilv | apply Wk.last | apply Wk.drop), rfl, rfl⟩
    · generalize startB c t.init = β at *
      generalize runE c t = ε at *
      generalize stT c (nS c) = S0 at *
      by_cases hσ : startE c t.init = 0
      · rw [hσ] at hst
        repeat' (first
|(apply G_call;eq_refl;eq_refl;(apply hW;(repeat first|exact In.here|apply In.there|apply In.skip));rintro _ _ ⟨rfl, rfl⟩)
|(apply G_call;eq_refl;eq_refl;(apply hse;(repeat first|exact In.here|apply In.there|apply In.skip));rintro _ _ ⟨A8, k8, rfl, rfl⟩)
|(apply G_call;eq_refl;eq_refl;(apply hst;(repeat first|exact In.here|apply In.there|apply In.skip));rintro _ _ ⟨rfl, rfl⟩)
|(apply G_call;eq_refl;eq_refl;(apply hrun;(repeat first|exact In.here|apply In.there|apply In.skip));rintro _ _ ⟨ps, A9, k9, rfl, hps, rfl⟩)
|(apply GC_seqK;intro K hK)
|(apply hK;clear hK K)
|(apply GC_region)
|(apply GL_nil)
|(apply thenG_normal)
|(apply thenG_ret)
|(apply GC_ret)
|(apply GC_skip)
|(apply GC_if_true;eq_refl)
|(apply GC_if_false;eq_refl)
|(apply retG1;eq_refl)
|(apply GL_on;eq_refl;eq_refl)
|(apply GL_off;eq_refl;eq_refl)
|(apply G_pv;eq_refl;first|exact trivial|omega)
|(apply G_field;eq_refl)
|(apply G_ld;eq_refl;(repeat first|exact In.here|apply In.there|apply In.skip);eq_refl)
|(apply G_ldW;eq_refl;(repeat first|exact In.here|apply In.there|apply In.skip);eq_refl)
|(apply G_cmpT;eq_refl;eq_refl;omega)
|(apply G_cmpF;eq_refl;eq_refl;omega)
|(apply G_len;eq_refl)
|(apply G_box;eq_refl;eq_refl;intro _))
        exact ⟨[], (by repeat first | exact Wk.nil | exact Wk.refl | (apply Wk.cons; (focus ((repeat first | exact Rem.here | apply Rem.there | apply Rem.skip); done))) | apply Wk.nilv | apply Wk.last | apply Wk.drop), rfl, rfl⟩
      · generalize startE c t.init = σ at *
        repeat' (first
|(apply G_call;eq_refl;eq_refl;(apply hW;(repeat first|exact In.here|apply In.there|apply In.skip));rintro _ _ ⟨rfl, rfl⟩)
|(apply G_call;eq_refl;eq_refl;(apply hse;(repeat first|exact In.here|apply In.there|apply In.skip));rintro _ _ ⟨A8, k8, rfl, rfl⟩)
|(apply G_call;eq_refl;eq_refl;(apply hst;(repeat first|exact In.here|apply In.there|apply In.skip));rintro _ _ ⟨rfl, rfl⟩)
|(apply G_call;eq_refl;eq_refl;(apply hrun;(repeat first|exact In.here|apply In.there|apply In.skip));rintro _ _ ⟨ps, A9, k9, rfl, hps, rfl⟩)
|(apply GC_seqK;intro K hK)
|(apply hK;clear hK K)
|(apply GC_region)
|(apply GL_nil)
|(apply thenG_normal)
|(apply thenG_ret)
|(apply GC_ret)
|(apply GC_skip)
|(apply GC_if_true;eq_refl)
|(apply GC_if_false;eq_refl)
|(apply retG1;eq_refl)
|(apply GL_on;eq_refl;eq_refl)
|(apply GL_off;eq_refl;eq_refl)
|(apply G_pv;eq_refl;first|exact trivial|omega)
|(apply G_field;eq_refl)
|(apply G_ld;eq_refl;(repeat first|exact In.here|apply In.there|apply In.skip);eq_refl)
|(apply G_ldW;eq_refl;(repeat first|exact In.here|apply In.there|apply In.skip);eq_refl)
|(apply G_cmpT;eq_refl;eq_refl;omega)
|(apply G_cmpF;eq_refl;eq_refl;omega)
|(apply G_len;eq_refl)
|(apply G_box;eq_refl;eq_refl;intro _))
        exact ⟨[], (by repeat first | exact Wk.nil | exact Wk.refl | (apply Wk.cons; (focus ((repeat first | exact Rem.here | apply Rem.there | apply Rem.skip); done))) | apply Wk.nilv | apply Wk.last | apply Wk.drop), rfl, rfl⟩
  · have e1 : sM c = [] := if_neg he
    have e2 : sN c = 0 := if_neg he
    rw [e1, e2] at hse
    repeat' (first
|(apply G_call;eq_refl;eq_refl;(apply hW;(repeat first|exact In.here|apply In.there|apply In.skip));rintro _ _ ⟨rfl, rfl⟩)
|(apply G_call;eq_refl;eq_refl;(apply hse;(repeat first|exact In.here|apply In.there|apply In.skip));rintro _ _ ⟨A8, k8, rfl, rfl⟩)
|(apply GC_seqK;intro K hK)
|(apply hK;clear hK K)
|(apply GC_region)
|(apply GL_nil)
|(apply thenG_normal)
|(apply thenG_ret)
|(apply GC_ret)
|(apply GC_skip)
|(apply GC_if_true;eq_refl)
|(apply GC_if_false;eq_refl)
|(apply retG1;eq_refl)
|(apply GL_on;eq_refl;eq_refl)
|(apply G_pv;eq_refl;first|exact trivial|omega)
|(apply G_ldW;eq_refl;(repeat first|exact In.here|apply In.there|apply In.skip);eq_refl)
|(apply G_cmpT;eq_refl;eq_refl;omega)
|(apply G_cmp;eq_refl;eq_refl;all_goals intro _)
|(apply G_len;eq_refl)
|(apply G_box;eq_refl;eq_refl;intro _))
    all_goals first | exact ⟨[], (by repeat first | exact Wk.nil | exact Wk.refl | (apply Wk.cons; (focus ((repeat first | exact Rem.here | apply Rem.there | apply Rem.skip); done))) | apply Wk.nilv | apply Wk.last | apply Wk.drop), rfl, rfl⟩ | (exfalso; simp at *; done)
end SC
end Go.Proofs.YtclihihdgodloaaDoor
end
