/- Texts of this seat, one behind the other: V4 V5 G3 G4 G5 N1 S1 I1 J3 B1 J4 J5 J6 K1 K2 K3 K4 K5 L1 L2 G6 G7 H1 L3 L4 L5 L6 L7 L8 L9 S2 S3 S4 S5 S6 S7 S8 S9 S10 S11 S12 S13 L10 S14 S15 S16 S17 S18 S19 S20 S21 S22 S23 S24 S27 S28 S29 S30 S31 S32 S33 S36 S34 S35 M1 M2 M3 S37 S38 S39 S40 N2 N3 N4 N5 N6 N7 N8 N9 N17 N23 N24 B3 B4. -/
import Derived.Test.YticndofcfacopaaX2
import Derived.ProofKit
import Derived.ChangeOld
import Derived.Below
import Derived.Deep.Slices
import Derived.Deep.Fields
import Derived.Lib.SmallJoins
import Derived.Maps.OwnOps
import Derived.Maps.Views
import Derived.DeepKeys4
import Derived.OwnWalk
import Derived.SizedLaws
import Derived.ChangeArms
section
/- What single operations do to memory as a list of entries. -/
set_option linter.unusedVariables false
set_option linter.unusedSimpArgs false
namespace Go.Proofs.Yticndofcfacopaa
namespace SC
open Go.Proofs
/-! ### entries, and what can be read -/
inductive In : Mm → Ent → Prop
  | here {E : Ent} {Γ : Mm} : In (E :: Γ) E
  | there {E D : Ent} {Γ : Mm} : In Γ E → In (D :: Γ) E
theorem In.mem {Γ : Mm} {E : Ent} (h : In Γ E) : E ∈ Γ := by
  induction h with
  | here => simp
  | there _ ih => simp [ih]
theorem In.ok {Γ : Mm} {E : Ent} {w : World} (h : In Γ E) (M : Mem w Γ) : E.ok w := M.ok E h.mem
/-- In every world of Γ the row can be read. -/
def Rd {α : Type} (Γ : Mm) (enc : α → List Value) (sz : Nat) (A : Option Addr) (l : List α) : Prop := ∀ w, Mem w Γ → RowA w enc sz A l
class Enc {α : Type} (enc : α → List Value) (sz : outParam Nat) : Prop where
  len : ∀ a, (enc a).length = sz
  one : ∀ a, ∀ u ∈ enc a, u.oneCell' = true
  pos : 0 < sz
def booc (b : Bool) : List Value := [.bool b]
instance : Enc icell 1 := ⟨fun _ => rfl, fun a u h => by simp [icell] at h; subst h; rfl, by decide⟩
instance : Enc booc 1 := ⟨fun _ => rfl, fun a u h => by simp [booc] at h; subst h; rfl, by decide⟩
instance : Enc tcells 3 := ⟨fun _ => rfl, fun a u h => by simp [tcells] at h; rcases h with rfl | rfl | rfl <;> rfl, by decide⟩
instance : Enc scells 3 := ⟨fun _ => rfl, fun a u h => by simp [scells] at h; rcases h with rfl | rfl | rfl <;> rfl, by decide⟩
instance : Enc bcell 1 := ⟨fun _ => rfl, fun a u h => by simp [bcell] at h; subst h; rfl, by decide⟩
theorem Rd.own {α : Type} {Γ : Mm} {enc : α → List Value} {sz : Nat} {t : TypeId} {A : Option Addr} {c : Nat} {l : List α} (h : In Γ (.vec enc sz t A c l)) (H : Enc enc sz) : Rd Γ enc sz A l := fun w M => RowA.own H.len (h.ok M)
theorem Rd.old {α : Type} {Γ : Mm} {enc : α → List Value} {sz : Nat} {A : Option Addr} {l : List α} {w0 : World} (h : In Γ (.old w0 none_)) (h0 : RowA w0 enc sz A l) : Rd Γ enc sz A l := fun w M => h0.chg (h.ok M)
theorem Rd.at {α : Type} {Γ : Mm} {enc : α → List Value} {sz : Nat} {A : Option Addr} {l : List α} {w : World} (h : Rd Γ enc sz A l) (M : Mem w Γ) : RowA w enc sz A l := h w M
/-- The i-th of a list. -/
def gt {α : Type} [Inhabited α] (l : List α) (i : Int) : α := l.getD i.toNat default
theorem gt_nat {α : Type} [Inhabited α] {l : List α} {i : Nat} (h : i < l.length) : gt l (i : Int) = l[i] := by unfold gt; simp [h]
theorem gt_get {α : Type} [Inhabited α] {l : List α} {i : Int} (h0 : 0 ≤ i) (h : i < l.length) : ∃ hl : i.toNat < l.length, gt l i = l[i.toNat] := ⟨by omega, by unfold gt; simp [show i.toNat < l.length by omega]⟩
theorem gt_mem {α : Type} [Inhabited α] {l : List α} {i : Int} (h0 : 0 ≤ i) (h : i < l.length) : gt l i ∈ l := by obtain ⟨h1, h2⟩ := gt_get h0 h; rw [h2]; exact List.getElem_mem h1
/-- An element's address. -/
def At (A : Option Addr) (k : Nat) : Addr := (A.getD ⟨0, 0, none⟩).add k
theorem RowA.at {α : Type} [Inhabited α] {w : World} {enc : α → List Value} {sz : Nat} {A : Option Addr} {l : List α} (h : RowA w enc sz A l) {i : Int} (h0 : 0 ≤ i) (h1 : i < l.length) {j : Nat} {u : Value} (hj : (enc (gt l i))[j]? = some u) : w.cell? ((At A (i.toNat * sz)).add j) = some u := by
  obtain ⟨hl, e⟩ := gt_get h0 h1
  obtain ⟨p, rfl, hp⟩ := h i.toNat hl
  rw [e] at hj
  have := hp j u hj
  rw [Int.toNat_natCast] at this
  exact this
theorem add_zero (p : Addr) : p.add 0 = p := by
  cases p with
  | mk b o s => unfold Addr.add; split <;> simp_all
section
variable {P : Program} {n : Nat} {all : List Oper} {K : Env → Mm → Prop} {m : Md} {e : Env} {Γ Γ' : Mm} {d : Option Tmp} {op : Op} {ty t t' t0 : TypeId} {v u : Value} {x y z : Operand} {td : TypeDesc} {sz sz1 by_ by1 : Nat} {zv z1 : Value} {ag ag1 : Bool}
/-! ### what looks at no memory -/
theorem G_pv {C : Prop} (h : pv op e = some (v, C)) (hc : C) (hr : GN P n all K m (push d v e) Γ) : GX P n all K m d op ty e Γ := GX_pure (pv_pure h hc) hr
theorem G_cmpT {E C : Prop} (h : cv op e = some (E, C)) (hE : E) (hc : C) (hr : GN P n all K m (push d (.bool true) e) Γ) : GX P n all K m d op ty e Γ := GX_pure ((cv_pure h hE).1 hc) hr
theorem G_cmpF {E C : Prop} (h : cv op e = some (E, C)) (hE : E) (hc : ¬ C) (hr : GN P n all K m (push d (.bool false) e) Γ) : GX P n all K m d op ty e Γ := GX_pure ((cv_pure h hE).2 hc) hr
theorem G_cmp {E C : Prop} (h : cv op e = some (E, C)) (hE : E) (ht : C → GN P n all K m (push d (.bool true) e) Γ) (hf : ¬ C → GN P n all K m (push d (.bool false) e) Γ) : GX P n all K m d op ty e Γ := by
  by_cases hc : C
  · exact G_cmpT h hE hc (ht hc)
  · exact G_cmpF h hE hc (hf hc)
/-- The test as a value. -/
theorem G_cmpD {E C : Prop} (h : cv op e = some (E, C)) (hE : E) (hd : Decidable C) (hr : GN P n all K m (push d (.bool (decide C)) e) Γ) : GX P n all K m d op ty e Γ := by
  by_cases hc : C
  · rw [decide_eq_true hc] at hr; exact G_cmpT h hE hc hr
  · rw [decide_eq_false hc] at hr; exact G_cmpF h hE hc hr
theorem G_field {i off : Nat} [F : Fld P t i off] {b o : Nat} (h : ev e x = some (.pointer (some ⟨b, o, none⟩))) (hr : GN P n all K m (push d (.pointer (some ⟨b, o + off, none⟩)) e) Γ) : GX P n all K m d (.fieldAddr t x i) ty e Γ := GX_pure (p_field h) hr
theorem G_fieldP {i off : Nat} [F : Fld P t i off] {p : Addr} (h : ev e x = some (.pointer (some p))) (hr : GN P n all K m (push d (.pointer (some (p.add off))) e) Γ) : GX P n all K m d (.fieldAddr t x i) ty e Γ := GX_pure (p_fieldP h) hr
theorem G_len {A : Option Addr} {k c : Nat} [T : Ty P t (.slice t0) sz zv by_ ag] (h : ev e x = some (.slice A k c)) (hr : GN P n all K m (push d (.int .i64 (k : Int)) e) Γ) : GX P n all K m d (.call { callee := .builtin .len, args := #[x], argTypes := #[t] }) ty e Γ := GX_pure (p_len T.und h) hr
theorem G_eqB {a b : Bool} [T : Ty P t .bool sz zv by_ ag] (h : ev e x = some (.bool a)) (h1 : ev e y = some (.bool b)) (hr : GN P n all K m (push d (.bool (a == b)) e) Γ) : GX P n all K m d (.binOp .eql t x y t') ty e Γ := GX_pure (p_eqB T.und h h1) hr
theorem G_neqB {a b : Bool} [T : Ty P t .bool sz zv by_ ag] (h : ev e x = some (.bool a)) (h1 : ev e y = some (.bool b)) (hr : GN P n all K m (push d (.bool (a != b)) e) Γ) : GX P n all K m d (.binOp .neq t x y t') ty e Γ := GX_pure (p_neqB T.und h h1) hr
theorem G_eqP {p : Option Addr} [T : Ty P t (.pointer t0) sz zv by_ ag] (h : ev e x = some (.pointer p)) (h1 : ev e y = some (.pointer none)) (hr : GN P n all K m (push d (.bool p.isNone) e) Γ) : GX P n all K m d (.binOp .eql t x y t') ty e Γ := GX_pure (p_eqP0 T.und h h1) hr
theorem G_eqL {A : Option Addr} {k c : Nat} [T : Ty P t (.slice t0) sz zv by_ ag] (h : ev e x = some (.slice A k c)) (h1 : ev e y = some (.slice none 0 0)) (hr : GN P n all K m (push d (.bool A.isNone) e) Γ) : GX P n all K m d (.binOp .eql t x y t') ty e Γ := GX_pure (p_eqL0 T.und h h1) hr
/-- a && b, a || b, as values. -/
theorem G_pickAnd {a b : Bool} (h : ev e x = some (.bool a)) (h1 : ev e y = some (.bool b)) (hr : GN P n all K m (push d (.bool (a && b)) e) Γ) : GX P n all K m d (.pick x y (.const (.bool false))) ty e Γ := by
  cases a
  · exact GX_def (fun _ _ => does_pick_f h rfl) hr
  · exact GX_def (fun _ _ => does_pick_t h h1) (by simpa using hr)
theorem G_pickOr {a b : Bool} (h : ev e x = some (.bool a)) (h1 : ev e y = some (.bool b)) (hr : GN P n all K m (push d (.bool (a || b)) e) Γ) : GX P n all K m d (.pick x (.const (.bool true)) y) ty e Γ := by
  cases a
  · exact GX_def (fun _ _ => does_pick_f h h1) (by simpa using hr)
  · exact GX_def (fun _ _ => does_pick_t h rfl) (by simpa using hr)
/-! ### an element's address -/
theorem does_ix {w : World} [U : Ty P t (.slice t0) sz1 z1 by1 ag1] [T : Ty P t0 td sz zv by_ ag] {A : Option Addr} {k c : Nat} {i : Int} {ik : IntKind} (h : ev e x = some (.slice A k c)) (h1 : ev e y = some (.int ik i)) (h0 : 0 ≤ i) (h2 : i < k) (hA : A ≠ none) : Does P (.indexAddr t x y) ty e w (.pointer (some (At A (i.toNat * sz)))) w := by
  cases A with
  | none => exact absurd rfl hA
  | some p => exact does_indexP U.und h h1 h0 h2
theorem G_ix {α : Type} {enc : α → List Value} [U : Ty P t (.slice t0) sz1 z1 by1 ag1] [T : Ty P t0 td sz zv by_ ag] {A : Option Addr} {k c : Nat} {i : Int} {ik : IntKind} {l : List α} (h : ev e x = some (.slice A k c)) (h1 : ev e y = some (.int ik i)) (hR : Rd Γ enc sz A l) (hk : k = l.length) (h0 : 0 ≤ i) (h2 : i < k)
    (hr : GN P n all K m (push d (.pointer (some (At A (i.toNat * sz)))) e) Γ) : GX P n all K m d (.indexAddr t x y) ty e Γ :=
  GX_def (fun w M => does_ix h h1 h0 h2 (by obtain ⟨p, hp, _⟩ := hR w M i.toNat (by omega); rw [hp]; simp)) hr
theorem G_ixA [U : Ty P t (.slice t0) sz1 z1 by1 ag1] [T : Ty P t0 td sz zv by_ ag] {b o k c : Nat} {i : Int} {ik : IntKind} (h : ev e x = some (.slice (some ⟨b, o, none⟩) k c)) (h1 : ev e y = some (.int ik i)) (h0 : 0 ≤ i) (h2 : i < k) (hr : GN P n all K m (push d (.pointer (some ⟨b, o + i.toNat * sz, none⟩)) e) Γ) : GX P n all K m d (.indexAddr t x y) ty e Γ :=
  GX_pure (p_indexAddr U.und h h1 h0 h2) hr
/-! ### loads -/
theorem G_ld {b o : Nat} {t1 : TypeId} {cs : List Value} [T : Ty P t td sz zv by_ false] (h : ev e x = some (.pointer (some ⟨b, o, none⟩))) (hi : In Γ (.box b t1 cs)) (hv : cs[o]? = some v) (hr : GN P n all K m (push d v e) Γ) : GX P n all K m d (.load t x) ty e Γ :=
  GX_def (fun w M => does_load1 h (hi.ok M) hv) hr
theorem G_ldW {b : Nat} {t1 : TypeId} {cs : List Value} [T : Ty P t td sz zv by_ true] (h : ev e x = some (.pointer (some ⟨b, 0, none⟩))) (hi : In Γ (.box b t1 cs)) (hl : cs.length = sz) (hr : GN P n all K m (push d (.agg cs.toArray) e) Γ) : GX P n all K m d (.load t x) ty e Γ :=
  GX_def (fun w M => does_loadB h (hi.ok M) hl) hr
theorem G_ldO {b o : Nat} {t1 : TypeId} {cs : List Value} {w0 : World} [T : Ty P t td sz zv by_ false] (h : ev e x = some (.pointer (some ⟨b, o, none⟩))) (hi : In Γ (.old w0 none_)) (hb : Blk w0 b t1 cs) (hv : cs[o]? = some v) (hr : GN P n all K m (push d v e) Γ) : GX P n all K m d (.load t x) ty e Γ :=
  GX_def (fun w M => does_load1 h (hb.chg (hi.ok M) id) hv) hr
theorem G_ldOW {b : Nat} {t1 : TypeId} {cs : List Value} {w0 : World} [T : Ty P t td sz zv by_ true] (h : ev e x = some (.pointer (some ⟨b, 0, none⟩))) (hi : In Γ (.old w0 none_)) (hb : Blk w0 b t1 cs) (hl : cs.length = sz) (hr : GN P n all K m (push d (.agg cs.toArray) e) Γ) : GX P n all K m d (.load t x) ty e Γ :=
  GX_def (fun w M => does_loadB h (hb.chg (hi.ok M) id) hl) hr
theorem G_rd {α : Type} {enc : α → List Value} {A : Option Addr} {i : Int} {l : List α} [T : Ty P t td sz1 zv by_ false] (h : ev e x = some (.pointer (some (At A (i.toNat * sz))))) (hR : Rd Γ enc sz A l) (ih : Inhabited α) (h0 : 0 ≤ i) (h1 : i < l.length) (hv : (enc (gt l i))[0]? = some v) (hr : GN P n all K m (push d v e) Γ) : GX P n all K m d (.load t x) ty e Γ :=
  GX_def (fun w M => does_loadC h (by have := (hR w M).at h0 h1 hv; rwa [add_zero] at this)) hr
theorem G_rdF {α : Type} {enc : α → List Value} {A : Option Addr} {j : Nat} {i : Int} {l : List α} [T : Ty P t td sz1 zv by_ false] (h : ev e x = some (.pointer (some ((At A (i.toNat * sz)).add j)))) (hR : Rd Γ enc sz A l) (ih : Inhabited α) (h0 : 0 ≤ i) (h1 : i < l.length) (hv : (enc (gt l i))[j]? = some v) (hr : GN P n all K m (push d v e) Γ) : GX P n all K m d (.load t x) ty e Γ :=
  GX_def (fun w M => does_loadC h ((hR w M).at h0 h1 hv)) hr
theorem G_rdW {α : Type} {enc : α → List Value} {A : Option Addr} {i : Int} {l : List α} [T : Ty P t td sz zv by_ true] (h : ev e x = some (.pointer (some (At A (i.toNat * sz))))) (hR : Rd Γ enc sz A l) (N : Enc enc sz) (ih : Inhabited α) (h0 : 0 ≤ i) (h1 : i < l.length) (hr : GN P n all K m (push d (.agg (enc (gt l i)).toArray) e) Γ) : GX P n all K m d (.load t x) ty e Γ :=
  GX_def (fun w M => does_loadRP _ h (N.len _) fun j u hj => (hR w M).at h0 h1 hj) hr
/-! ### stores -/
theorem G_st {b o : Nat} {t1 : TypeId} {cs : List Value} [T : Ty P t td 1 zv by_ ag] (hm : wrOk all m = true) (h : ev e x = some (.pointer (some ⟨b, o, none⟩))) (h1 : ev e y = some v) (hv : v.cells = #[v]) (h2 : v.oneCell' = true) (hU : Upd Γ (.box b t1 cs) (.box b t1 (cs.set o v)) Γ') (hlt : o < cs.length)
    (hr : GN P n all K m (push d undef e) Γ') : GX P n all K m d (.store t x y) ty e Γ :=
  GX_acts (R := fun v Γ1 => v = undef ∧ Γ1 = Γ') hm (fun Δ w M => by
    have hb : Blk w b t1 cs := by obtain ⟨R, p, _⟩ := hU.perm; exact M.right.ok (.box b t1 cs) (p.mem_iff.2 (by simp))
    refine .inr (.inr ⟨_, does_store1 h h1 hb hlt hv h2, Γ', ?_, rfl, rfl⟩)
    exact Mem.upd hU M (Chg.setRow w b _ (S := fun k => k = b) rfl) (fun k _ h => h) (hb.set _) fun k hk => .inl hk) fun v Γ1 ⟨e1, e2⟩ => by rw [e1, e2]; exact hr
theorem G_stA {b o : Nat} {t1 : TypeId} {cs vs : List Value} [T : Ty P t td sz zv by_ ag] (hm : wrOk all m = true) (h : ev e x = some (.pointer (some ⟨b, o, none⟩))) (h1 : ev e y = some (.agg vs.toArray)) (hl : vs.length = sz) (h2 : ∀ v ∈ vs, v.oneCell' = true) (hU : Upd Γ (.box b t1 cs) (.box b t1 (splice cs o vs)) Γ') (hlt : o + vs.length ≤ cs.length)
    (hr : GN P n all K m (push d undef e) Γ') : GX P n all K m d (.store t x y) ty e Γ :=
  GX_acts (R := fun v Γ1 => v = undef ∧ Γ1 = Γ') hm (fun Δ w M => by
    have hb : Blk w b t1 cs := by obtain ⟨R, p, _⟩ := hU.perm; exact M.right.ok (.box b t1 cs) (p.mem_iff.2 (by simp))
    refine .inr (.inr ⟨_, does_storeA h h1 hb hl hlt h2, Γ', ?_, rfl, rfl⟩)
    exact Mem.upd hU M (Chg.setRow w b _ (S := fun k => k = b) rfl) (fun k _ h => h) (hb.set _) fun k hk => .inl hk) fun v Γ1 ⟨e1, e2⟩ => by rw [e1, e2]; exact hr
/-- A whole struct is stored into its box. -/
theorem G_stW {b : Nat} {t1 : TypeId} {cs vs : List Value} [T : Ty P t td sz zv by_ ag] (hm : wrOk all m = true) (h : ev e x = some (.pointer (some ⟨b, 0, none⟩))) (h1 : ev e y = some (.agg vs.toArray)) (hl : vs.length = sz) (h2 : vs.all Value.oneCell' = true) (hU : Upd Γ (.box b t1 cs) (.box b t1 vs) Γ') (hlt : cs.length = sz)
    (hr : GN P n all K m (push d undef e) Γ') : GX P n all K m d (.store t x y) ty e Γ := by
  have e1 : splice cs 0 vs = vs := by unfold splice; simp; omega
  rw [← e1] at hU
  exact G_stA hm h h1 hl (fun v hv => List.all_eq_true.1 h2 v hv) hU (by omega) hr
/-- The j-th cell of the i-th element is stored. -/
theorem vec_set {α : Type} {enc : α → List Value} {sz j : Nat} (hsz : ∀ a, (enc a).length = sz) : ∀ (l : List α) (k : Nat) (a : α) (v : Value) (hk : k < l.length), enc a = (enc l[k]).set j v → j < sz → (l.flatMap enc).set (k * sz + j) v = (l.set k a).flatMap enc
  | [], k, a, v, hk, _, _ => by simp at hk
  | x :: r, 0, a, v, hk, h, hj => by
    simp only [List.flatMap_cons, List.set_cons_zero, Nat.zero_mul, Nat.zero_add]
    rw [List.set_append_left _ _ (by rw [hsz]; exact hj)]
    rw [h]
    rfl
  | x :: r, k + 1, a, v, hk, h, hj => by
    simp only [List.flatMap_cons, List.set_cons_succ]
    rw [List.set_append_right _ _ (by rw [hsz, Nat.succ_mul]; omega), hsz]
    have e1 : (k + 1) * sz + j - sz = k * sz + j := by rw [Nat.succ_mul]; omega
    rw [e1, vec_set hsz r k a v (by simpa using hk) (by simpa using h) hj]
theorem vec_store {α : Type} {enc : α → List Value} [N : Enc enc sz] {w : World} {A : Option Addr} {c : Nat} {l : List α} (h : w.ownsRow 0 t0 sz (.slice A l.length c) l.length (l.flatMap enc)) {k j : Nat} (hk : k < l.length) (hj : j < sz) (a : α) (v : Value) (ha : enc a = (enc l[k]).set j v) :
    ∃ (g : Nat) (cur : List Value), A = some ⟨g, 0, none⟩ ∧ Blk w g t0 cur ∧ k * sz + j < cur.length ∧ (w.setRow g (cur.set (k * sz + j) v).toArray).ownsRow 0 t0 sz (.slice A l.length c) l.length ((l.set k a).flatMap enc) := by
  rcases h.2 with ⟨hv, hn⟩ | ⟨g, cap, cur, hv, h0, hcur, hcap, hm, hs, ht⟩
  · omega
  · cases hv
    have hlt : k * sz + j < l.length * sz := by
      have : (k + 1) * sz ≤ l.length * sz := Nat.mul_le_mul_right sz hk
      rw [Nat.succ_mul] at this
      omega
    have hle : l.length * sz ≤ c * sz := Nat.mul_le_mul_right sz hcap
    refine ⟨g, cur.toList, rfl, by simpa [Blk] using hcur, by rw [Array.length_toList, hs]; omega, ?_, .inr ⟨g, c, (cur.toList.set (k * sz + j) v).toArray, rfl, Nat.zero_le _, setRow_heap w g cur _ t0 (0, 0) hcur, hcap, hm, by simp [hs], ?_⟩⟩
    · have := h.1
      rw [← vec_set N.len l k a v hk ha hj, List.length_set]
      exact this
    · simp only [List.toList_toArray]
      rw [List.take_set, ht, vec_set N.len l k a v hk ha hj]
theorem G_stV' {α : Type} [Inhabited α] {enc : α → List Value} [N : Enc enc sz] {A : Option Addr} {c j : Nat} {p : Addr} {i : Int} {l : List α} [T : Ty P t td 1 zv by_ ag] (a : α) (hm : wrOk all m = true) (h : ev e x = some (.pointer (some p))) (hp : p = (At A (i.toNat * sz)).add j) (h1 : ev e y = some v) (hv : v.cells = #[v]) (h2 : v.oneCell' = true)
    (hU : Upd Γ (.vec enc sz t0 A c l) (.vec enc sz t0 A c (l.set i.toNat a)) Γ') (h0 : 0 ≤ i) (hlt : i < l.length) (hj : j < sz) (ha : enc a = (enc (gt l i)).set j v)
    (hr : GN P n all K m (push d undef e) Γ') : GX P n all K m d (.store t x y) ty e Γ :=
  GX_acts (R := fun v Γ1 => v = undef ∧ Γ1 = Γ') hm (fun Δ w M => by
    have hb : (Ent.vec enc sz t0 A c l).ok w := by obtain ⟨R, p, _⟩ := hU.perm; exact M.right.ok _ (p.mem_iff.2 (by simp))
    obtain ⟨hl, e1⟩ := gt_get h0 hlt
    rw [e1] at ha
    obtain ⟨g, cur, rfl, hB, hlt2, hown⟩ := vec_store hb hl hj a v ha
    have e2 : p = ⟨g, i.toNat * sz + j, none⟩ := by rw [hp]; unfold At; simp [add_at]
    rw [e2] at h
    refine .inr (.inr ⟨_, does_store1 h h1 hB hlt2 hv h2, Γ', ?_, rfl, rfl⟩)
    have hown' : (Ent.vec enc sz t0 (some ⟨g, 0, none⟩) c (l.set i.toNat a)).ok (w.setRow g (cur.set (i.toNat * sz + j) v).toArray) := by
      show World.ownsRow _ _ _ _ _ _ _
      rw [List.length_set]
      exact hown
    exact Mem.upd hU M (Chg.setRow w g _ (S := fun k => k = g) rfl) (fun k _ h => by subst h; rfl) hown' fun k hk => .inl hk) fun v Γ1 ⟨e1, e2⟩ => by rw [e1, e2]; exact hr
theorem G_stV {α : Type} {enc : α → List Value} {A : Option Addr} {c : Nat} {i : Int} {l : List α} {a : α} [T : Ty P t td 1 zv by_ ag] (hm : wrOk all m = true) (h : ev e x = some (.pointer (some (At A (i.toNat * 1))))) (h1 : ev e y = some v) (hv : v.cells = #[v]) (h2 : v.oneCell' = true)
    (hU : Upd Γ (.vec enc 1 t0 A c l) (.vec enc 1 t0 A c (l.set i.toNat a)) Γ') (N : Enc enc 1) (ih : Inhabited α) (ha : enc a = [v]) (h0 : 0 ≤ i) (hlt : i < l.length)
    (hr : GN P n all K m (push d undef e) Γ') : GX P n all K m d (.store t x y) ty e Γ :=
  G_stV' (j := 0) a hm h (add_zero _).symm h1 hv h2 hU h0 hlt (by decide) (by
    have := N.len (gt l i)
    rcases hh : enc (gt l i) with _ | ⟨u, _ | ⟨u', r⟩⟩
    · rw [hh] at this; simp at this
    · rw [ha]; rfl
    · rw [hh] at this; simp at this) hr
/-! ### new memory -/
theorem acts_new {R : Value → Mm → Prop} (val : Nat → Value) (cs : Array Value) (h : ∀ w, Does P op ty e w (val w.heap.size) (w.alloc (.cells cs t0))) : Acts P op ty e Γ fun v Γ1 => ∃ N, Γ1 = N ++ Γ ∧ ∃ b, v = val b ∧ N = [.box b t0 cs.toList] := fun Δ w M =>
  .inl ⟨_, _, h w, .box w.heap.size t0 cs.toList :: Γ, ((M.new cs t0).perm List.perm_middle.symm), [_], rfl, _, rfl, rfl⟩
theorem G_new (val : Nat → Value) (cs : Array Value) (hm : addOk m = true) (h : ∀ w, Does P op ty e w (val w.heap.size) (w.alloc (.cells cs t0))) (hr : ∀ b, GN P n all K m (push d (val b) e) (.box b t0 cs.toList :: Γ)) : GX P n all K m d op ty e Γ :=
  GX_adds (R := fun v N => ∃ b, v = val b ∧ N = [.box b t0 cs.toList]) hm (acts_new (R := fun _ _ => True) val cs h) fun v N ⟨b, e1, e2⟩ => by rw [e1, e2]; exact hr b
theorem G_alloc [T : Ty P t td sz zv by_ ag] (hm : addOk m = true) (hr : ∀ b, GN P n all K m (push d (.pointer (some ⟨b, 0, none⟩)) e) (.box b t zv.cells.toList :: Γ)) : GX P n all K m d (.alloc t) ty e Γ :=
  G_new (fun b => .pointer (some ⟨b, 0, none⟩)) zv.cells hm (fun w => does_alloc) hr
theorem G_box (hm : addOk m = true) (h : ev e x = some v) (hr : ∀ b, GN P n all K m (push d (.pointer (some ⟨b, 0, none⟩)) e) (.box b t v.cells.toList :: Γ)) : GX P n all K m d (.box t x) ty e Γ :=
  G_new (fun b => .pointer (some ⟨b, 0, none⟩)) v.cells hm (fun w => does_box h) hr
/-- A box is a vector. -/
theorem box_vec {α : Type} {enc : α → List Value} [N : Enc enc sz] {w : World} {b : Nat} {l : List α} (hb : Blk w b t0 (l.flatMap enc)) (hl : l.length ≤ maxLen) : (Ent.vec enc sz t0 (some ⟨b, 0, none⟩) l.length l).ok w := by
  have hlen : (l.flatMap enc).length = l.length * sz := by
    clear hb hl
    induction l with
    | nil => simp
    | cons a r ih => rw [List.flatMap_cons, List.length_append, ih, N.len, List.length_cons, Nat.succ_mul, Nat.add_comm]
  exact ⟨hlen, .inr ⟨b, l.length, (l.flatMap enc).toArray, rfl, Nat.zero_le _, hb, Nat.le_refl _, hl, by simp [hlen], by rw [← hlen, List.toList_toArray, List.take_length]⟩⟩
theorem Wk.vec {α : Type} {enc : α → List Value} [N : Enc enc sz] {b : Nat} {l : List α} {cs : List Value} {Γ1 : Mm} (hcs : cs = l.flatMap enc) (hl : l.length ≤ maxLen) : Wk (.box b t0 cs :: Γ1) (.vec enc sz t0 (some ⟨b, 0, none⟩) l.length l :: Γ1) := by
  subst hcs
  refine ⟨fun w M => M.tail.cons (box_vec M.head hl) fun k hk ho => ?_, fun k hk => ?_⟩
  · obtain ⟨E, hE, h2⟩ := ho
    simp only [Ent.own, Value.ownBlock, Option.some.injEq] at hk
    exact (List.pairwise_cons.1 M.ap).1 E hE k hk.symm h2
  · rw [owns_cons] at hk ⊢
    refine hk.imp (fun h => ?_) id
    simp only [Ent.own, Value.ownBlock, Option.some.injEq] at h ⊢
    exact h.symm
end
/-! ### vectors made and grown -/
section
variable {P : Program} {n : Nat} {all : List Oper} {K : Env → Mm → Prop} {m : Md} {e : Env} {Γ Γ' : Mm} {d : Option Tmp} {op : Op} {ty t t' t0 : TypeId} {v u : Value} {x y z : Operand} {td : TypeDesc} {sz sz1 by_ by1 : Nat} {zv z1 : Value} {ag ag1 : Bool}
theorem acts_newV {α : Type} {enc : α → List Value} [N : Enc enc sz] (val : Nat → Value) (l : List α) (cs : Array Value) (hcs : cs.toList = l.flatMap enc) (hl : l.length ≤ maxLen) (h : ∀ w, Does P op ty e w (val w.heap.size) (w.alloc (.cells cs t0))) :
    Acts P op ty e Γ fun v Γ1 => ∃ N, Γ1 = N ++ Γ ∧ ∃ b, v = val b ∧ N = [.vec enc sz t0 (some ⟨b, 0, none⟩) l.length l] := fun Δ w M => by
  refine .inl ⟨_, _, h w, .vec enc sz t0 (some ⟨w.heap.size, 0, none⟩) l.length l :: Γ, ?_, [_], rfl, _, rfl, rfl⟩
  have M1 := M.new cs t0
  rw [hcs] at M1
  exact ((Wk.vec rfl hl).mem _ M1).perm List.perm_middle.symm
theorem G_make {α : Type} (enc : α → List Value) [N : Enc enc sz] {a : α} {k : Nat} {ik : IntKind} [U : Ty P t (.slice t0) sz1 z1 by1 ag1] [T : Ty P t0 td sz zv by_ ag] (hm : addOk m = true) (h : ev e x = some (.int ik (k : Int))) (ha : enc a = zv.cells.toList) (hn : by_ * k ≤ 281474976710656) (h1 : 1 ≤ by_)
    (hr : ∀ b, GN P n all K m (push d (.slice (some ⟨b, 0, none⟩) k k) e) (.vec enc sz t0 (some ⟨b, 0, none⟩) k (List.replicate k a) :: Γ)) : GX P n all K m d (.makeSlice t x x) ty e Γ := by
  have hk1 : k ≤ by_ * k := Nat.le_mul_of_pos_left _ h1
  have hcs : (madeCells zv.cells (k * sz)).toList = (List.replicate k a).flatMap enc := by
    have hz : zv.cells.size = sz := by rw [← Array.length_toList, ← ha, N.len]
    apply List.ext_getElem?
    intro j
    have hpos := N.pos
    have hlen : ∀ k : Nat, ((List.replicate k a).flatMap enc).length = k * sz := fun k => by
      induction k with
      | zero => simp
      | succ k ih => rw [List.replicate_succ, List.flatMap_cons, List.length_append, ih, N.len, Nat.succ_mul, Nat.add_comm]
    by_cases hj : j < k * sz
    · have h1 : (madeCells zv.cells (k * sz)).toList[j]? = zv.cells[j % sz]? := by
        simp only [madeCells]
        simp [hj, hz, Nat.mod_lt _ hpos]
      rw [h1]
      have h2 := flatMap_get enc sz N.len (List.replicate k a) (j / sz) (by rw [List.length_replicate]; exact Nat.div_lt_of_lt_mul (by rw [Nat.mul_comm]; exact hj)) (j % sz) (Nat.mod_lt _ hpos)
      rw [show j / sz * sz + j % sz = j by rw [Nat.mul_comm]; exact Nat.div_add_mod j sz] at h2
      rw [h2, List.getElem_replicate, ha]
      simp
    · rw [List.getElem?_eq_none (by simp [madeCells]; omega), List.getElem?_eq_none (by rw [hlen]; omega)]
  have e1 : (List.replicate k a).length = k := List.length_replicate
  refine GX_adds (R := fun v N => ∃ b, v = .slice (some ⟨b, 0, none⟩) k k ∧ N = [.vec enc sz t0 (some ⟨b, 0, none⟩) (List.replicate k a).length (List.replicate k a)]) hm (acts_newV (fun b => .slice (some ⟨b, 0, none⟩) k k) (List.replicate k a) _ hcs (by rw [e1]; unfold maxLen; omega) fun w => does_makeSlice U.und T h (by rw [← Int.natCast_mul]; exact Int.ofNat_le.2 hn) (by omega)) ?_
  intro v N ⟨b, e2, e3⟩
  rw [e2, e3, e1]
  exact hr b
theorem G_makeI {α : Type} (enc : α → List Value) [N : Enc enc sz] {a : α} {i : Int} {ik : IntKind} [U : Ty P t (.slice t0) sz1 z1 by1 ag1] [T : Ty P t0 td sz zv by_ ag] (hm : addOk m = true) (h : ev e x = some (.int ik i)) (h0 : 0 ≤ i) (ha : enc a = zv.cells.toList) (hn : by_ * i.toNat ≤ 281474976710656) (h1 : 1 ≤ by_)
    (hr : ∀ b, GN P n all K m (push d (.slice (some ⟨b, 0, none⟩) i.toNat i.toNat) e) (.vec enc sz t0 (some ⟨b, 0, none⟩) i.toNat (List.replicate i.toNat a) :: Γ)) : GX P n all K m d (.makeSlice t x x) ty e Γ :=
  G_make enc hm (k := i.toNat) (by rw [h]; congr 2; omega) ha hn h1 hr
/-- A nil slice is an empty vector. -/
theorem vec_nil {α : Type} {enc : α → List Value} {w : World} : (Ent.vec enc sz t0 none 0 ([] : List α)).ok w := ⟨by simp, .inl ⟨rfl, rfl⟩⟩
theorem Wk.nilv {α : Type} {enc : α → List Value} {Γ' : Mm} (h : Wk Γ Γ') : Wk Γ (.vec enc sz t0 none 0 ([] : List α) :: Γ') :=
  ⟨fun w M => (h.mem w M).cons vec_nil fun k hk => by simp [Ent.own, Value.ownBlock] at hk, fun k hk => by
    rw [owns_cons] at hk
    rcases hk with hk | hk
    · simp [Ent.own, Value.ownBlock] at hk
    · exact h.sub k hk⟩
/-! ### entries that are kept apart -/
/-! ### calls -/
theorem G_call {f : FuncId} [F : Go.Proofs.Yticndofcfacopaa.SC.Fn P f] {args : Array Operand} {ats : Array TypeId} {vs : List Value} {R : Value → Mm → Prop} (hm : addOk m = true) (h : evs e args.toList = some vs) (hc : ∀ w, Mem w Γ → CVN P f vs w R) (hr : ∀ v N, R v N → GN P n all K m (push d v e) (N ++ Γ)) :
    GX P n all K m d (.call { callee := .value (.func f), args := args, argTypes := ats }) ty e Γ :=
  GX_adds (R := R) hm (fun Δ w M => .inr (.inl ⟨f, vs, enters (evs_map h), CV.mono (hc w M.right) fun v w' ⟨N, M', hR⟩ => ⟨N ++ Γ, by
    have := M.add M'
    rw [← List.append_assoc] at this ⊢
    exact this.perm ((List.perm_append_comm).append_right _), N, rfl, hR⟩⟩)) hr
theorem G_callM {f : FuncId} [F : Go.Proofs.Yticndofcfacopaa.SC.Fn P f] {args : Array Operand} {ats : Array TypeId} {vs : List Value} {C : Mm} {R : Value → Mm → Prop} (hm : wrOk all m = true) (h : evs e args.toList = some vs) (hC : Rems Γ C Γ') (hc : ∀ w, Mem w Γ → CVM P f vs w C R) (hr : ∀ v N, R v N → GN P n all K m (push d v e) (N ++ Γ')) :
    GX P n all K m d (.call { callee := .value (.func f), args := args, argTypes := ats }) ty e Γ :=
  GX_acts (R := fun v Γ1 => ∃ N, Γ1 = N ++ Γ' ∧ R v N) hm (fun Δ w M => .inr (.inl ⟨f, vs, enters (evs_map h), CV.mono (hc w M.right) fun v w' ⟨N, M', hR⟩ => ⟨N ++ Γ', by
    have := (Mem.take hC M).addS M'
    rw [← List.append_assoc] at this ⊢
    exact this.perm ((List.perm_append_comm).append_right _), N, rfl, hR⟩⟩)) fun v Γ1 ⟨N, e1, h2⟩ => by rw [e1]; exact hr v N h2
/-- A call of a closure that changes nothing. -/
theorem G_callF {f : FuncId} {args : Array Operand} {ats : Array TypeId} {vs : List Value} {cap : Array Value} {R : Value → Mm → Prop} (hm : addOk m = true) (hx : ev e x = some (.func (.func f) #[] cap)) (F : Go.Proofs.Yticndofcfacopaa.SC.Fn P f) (h : evs e args.toList = some vs) (hc : ∀ w, Mem w Γ → CVN P f (vs ++ cap.toList) w R) (hr : ∀ v N, R v N → GN P n all K m (push d v e) (N ++ Γ)) :
    GX P n all K m d (.call { callee := .value x, args := args, argTypes := ats }) ty e Γ :=
  GX_adds (R := R) hm (fun Δ w M => .inr (.inl ⟨f, vs ++ cap.toList, entersC hx (evs_map h), CV.mono (hc w M.right) fun v w' ⟨N, M', hR⟩ => ⟨N ++ Γ, by
    have := M.add M'
    rw [← List.append_assoc] at this ⊢
    exact this.perm ((List.perm_append_comm).append_right _), N, rfl, hR⟩⟩)) hr
theorem G_fun {fn : Go.Fn} {cap : Array Operand} {vs : List Value} (h : evs e cap.toList = some vs) (hr : GN P n all K m (push d (.func fn #[] vs.toArray) e) Γ) : GX P n all K m d (.makeFunc fn #[] cap) ty e Γ :=
  GX_def (fun w _ => does_makeFunc (evs_map h)) hr
end
end SC
end Go.Proofs.Yticndofcfacopaa
end
section
/- Results in a cell; families of entries. -/
set_option linter.unusedVariables false
set_option linter.unusedSimpArgs false
namespace Go.Proofs.Yticndofcfacopaa
namespace SC
open Go.Proofs
section
variable {P : Program} {f : FuncId} {args : List Value} {w : World} {R : Value → Mm → Prop} {C : Mm} {t : TypeId} {td : TypeDesc} {sz by_ : Nat} {zv : Value}
end
section rets
variable {R : Value → Mm → Prop} {e : Env} {Γ : Mm} {a a1 a2 sz b : Nat} {u v : Value} {t : TypeId} {cs : List Value}
end rets
/-! ### families -/
theorem In.skip {Δ Γ : Mm} {E : Ent} (h : In Γ E) : In (Δ ++ Γ) E := by
  induction Δ with
  | nil => exact h
  | cons D r ih => exact .there ih
theorem In.left {Δ Γ : Mm} {E : Ent} (h : In Δ E) : In (Δ ++ Γ) E := by
  induction h with
  | here => exact .here
  | there _ ih => exact .there ih
theorem In.of {Γ : Mm} {E : Ent} (h : E ∈ Γ) : In Γ E := by
  induction Γ with
  | nil => cases h
  | cons D r ih =>
    rcases List.mem_cons.1 h with rfl | h
    · exact .here
    · exact .there (ih h)
theorem Upd.skip {Δ Γ Γ' : Mm} {E F : Ent} (h : Upd Γ E F Γ') : Upd (Δ ++ Γ) E F (Δ ++ Γ') := by
  induction Δ with
  | nil => exact h
  | cons D r ih => exact .there ih
theorem Rem.skip {Δ Γ Γ' : Mm} {E : Ent} (h : Rem Γ E Γ') : Rem (Δ ++ Γ) E (Δ ++ Γ') := by
  induction Δ with
  | nil => exact h
  | cons D r ih => exact .there ih
theorem Wk.perm {Γ Γ' : Mm} (h : Γ.Perm Γ') : Wk Γ Γ' := ⟨fun w M => M.perm h, fun k hk => (owns_perm h).2 hk⟩
theorem Wk.drop {D : Ent} {Γ Γ' : Mm} (h : Wk Γ Γ') : Wk (D :: Γ) Γ' := ⟨fun w M => h.mem w M.tail, fun k hk => owns_cons.2 (.inr (h.sub k hk))⟩
theorem Wk.last {Γ Δ : Mm} {E : Ent} (h : Wk Γ (E :: Δ)) : Wk Γ (Δ ++ [E]) := h.trans (.perm (List.perm_append_comm (l₁ := [E])))
def fam {α : Type} (f : α → Mm) (l : List α) : Mm := l.reverse.flatMap f
/-! ### what a call that changes something may still read -/
theorem In.one {Γ : Mm} {E : Ent} {w : World} (h : In Γ E) (M : Mem w Γ) : Mem w [E] := .one (h.ok M)
theorem Rd.oldR {α : Type} {Γ : Mm} {enc : α → List Value} {sz : Nat} {A : Option Addr} {l : List α} {w0 : World} {S : Nat → Prop} (h : In Γ (.old w0 S)) (h0 : Rd [.old w0 S] enc sz A l) : Rd Γ enc sz A l := fun w M => h0 w (h.one M)
theorem Rd.frame {α : Type} {C Γ : Mm} {enc : α → List Value} {sz : Nat} {A : Option Addr} {l : List α} {w : World} (M : Mem w (C ++ Γ)) (h : Rd Γ enc sz A l) : Rd [.old w (owns C)] enc sz A l :=
  fun w2 M2 => h w2 (M.right.chg (S := owns C) (M2.ok (.old w (owns C)) (by simp)) fun k hk hs => M.sep k hs hk)
/-- In every world of Γ the block has these cells. -/
def RdB (Γ : Mm) (b : Nat) (t : TypeId) (cs : List Value) : Prop := ∀ w, Mem w Γ → Blk w b t cs
theorem RdB.own {Γ : Mm} {b : Nat} {t : TypeId} {cs : List Value} (h : In Γ (.box b t cs)) : RdB Γ b t cs := fun w M => h.ok M
theorem RdB.old {Γ : Mm} {b : Nat} {t : TypeId} {cs : List Value} {w0 : World} (h : In Γ (.old w0 none_)) (h0 : Blk w0 b t cs) : RdB Γ b t cs := fun w M => h0.chg (h.ok M) id
theorem RdB.oldR {Γ : Mm} {b : Nat} {t : TypeId} {cs : List Value} {w0 : World} {S : Nat → Prop} (h : In Γ (.old w0 S)) (h0 : RdB [.old w0 S] b t cs) : RdB Γ b t cs := fun w M => h0 w (h.one M)
theorem RdB.frame {C Γ : Mm} {b : Nat} {t : TypeId} {cs : List Value} {w : World} (M : Mem w (C ++ Γ)) (h : RdB Γ b t cs) : RdB [.old w (owns C)] b t cs :=
  fun w2 M2 => h w2 (M.right.chg (S := owns C) (M2.ok (.old w (owns C)) (by simp)) fun k hk hs => M.sep k hs hk)
theorem Mem.takes {C Γ Γ' : Mm} {w : World} (h : Rems Γ C Γ') (M : Mem w Γ) : Mem w (C ++ Γ') := M.perm h.perm
theorem G_ldR {P : Program} {n : Nat} {all : List Oper} {K : Env → Mm → Prop} {m : Md} {e : Env} {Γ : Mm} {d : Option Tmp} {ty t t1 : TypeId} {v : Value} {x : Operand} {td : TypeDesc} {sz by_ : Nat} {zv : Value} {b o : Nat} {cs : List Value} [T : Ty P t td sz zv by_ false] (h : ev e x = some (.pointer (some ⟨b, o, none⟩))) (hb : RdB Γ b t1 cs) (hv : cs[o]? = some v) (hr : GN P n all K m (push d v e) Γ) : GX P n all K m d (.load t x) ty e Γ :=
  GX_def (fun w M => does_load1 h (hb w M) hv) hr
/-- A slice of slices: each with its handle. -/
def encS {β : Type} (p : (Option Addr × Nat) × List β) : List Value := [.slice p.1.1 p.2.length p.1.2]
instance {β : Type} : Enc (encS (β := β)) 1 := ⟨fun _ => rfl, fun a u h => by simp [encS] at h; subst h; rfl, by decide⟩
theorem Rd.nil {α : Type} {Γ : Mm} {enc : α → List Value} {sz : Nat} {A : Option Addr} : Rd Γ enc sz A ([] : List α) := fun _ _ k hk => absurd hk (Nat.not_lt_zero _)
end SC
end Go.Proofs.Yticndofcfacopaa
end
section
/- shape: Copy. -/
set_option linter.unusedVariables false
set_option linter.unusedSimpArgs false
namespace Go.Proofs.Yticndofcfacopaa
namespace SC
open Go.Proofs
attribute [local irreducible] WC WL WX WS WO OX Does DoesU Enters CV Pure thenQ blockQ retQ Wants retQC
set_option maxRecDepth 100000
end SC
end Go.Proofs.Yticndofcfacopaa
end
section
/- shape: Renumber's closures. -/
set_option linter.unusedVariables false
set_option linter.unusedSimpArgs false
namespace Go.Proofs.Yticndofcfacopaa
namespace SC
open Go.Proofs
attribute [local irreducible] WC WL WX WS WO OX Does DoesU Enters CV Pure thenQ blockQ retQ Wants retQC
set_option maxRecDepth 100000
instance : SC.Fn Try.prog 129 := ⟨fun args w => Try.call129 args w⟩
instance : SC.Fn Try.prog 130 := ⟨fun args w => Try.call130 args w⟩
instance : SC.Fn Try.prog 131 := ⟨fun args w => Try.call131 args w⟩
/-- A literal by a map of variables. -/
def litM (to : List Int) (l : Int) : Int := L to (l / 2) + l % 2
end SC
end Go.Proofs.Yticndofcfacopaa
end
section
/- shape: Renumber, the plain words. -/
set_option linter.unusedVariables false
set_option linter.unusedSimpArgs false
namespace Go.Proofs.Yticndofcfacopaa
namespace SC
open Go.Proofs
def giveM : List Int → Int → List Int → List Int
  | [], _, to => to
  | l :: r, nx, to => giveM r (nx + 2) (to.set (l / 2).toNat (nx + 2))
/-- The map behind these definitions. -/
def mapOf (max : Int) (ks : List Int) : List Int := giveM ks 0 (List.replicate (max + 1).toNat 0)
/-- The gates' definitions in an order. -/
def andAt (c : Circ) (i : Int) : Tri := c.ands.getD i.toNat (0, 0, 0)
def defsOf (c : Circ) (ord : List Int) : List Int := c.inputs ++ c.latches.map (·.1) ++ ord.map fun i => (andAt c i).1
def renLatch (to : List Int) (x : Tri) : Tri := (litM to x.1, litM to x.2.1, if 1 < x.2.2 then litM to x.2.2 else x.2.2)
def renAnd (to : List Int) (x : Tri) : Tri := (litM to x.1, max (litM to x.2.1) (litM to x.2.2), min (litM to x.2.1) (litM to x.2.2))
/-- The circuit in another order. -/
def renM (c : Circ) (ord : List Int) : Circ :=
  let to := mapOf c.max (defsOf c ord)
  { c with
    max := (defsOf c ord).length
    inputs := c.inputs.map (litM to)
    outputs := c.outputs.map (litM to)
    bads := c.bads.map (litM to)
    constraints := c.constraints.map (litM to)
    fairness := c.fairness.map (litM to)
    justice := c.justice.map fun l => l.map (litM to)
    latches := c.latches.map (renLatch to)
    ands := ord.map fun i => renAnd to (andAt c i) }
/-- A row's block. -/
theorem Rows.block {w : World} {base : Nat} {F : Nat → Rw} (h : Rows w base F) (i : Nat) {n : Nat} {a : Option Addr} {c : Nat} (hv : (F i).v = .slice a n c) (hn : (F i).n = n) (h0 : 0 < n) : ∃ g, a = some ⟨g, 0, none⟩ ∧ (F i).v.ownBlock = some g := by
  have := h.own i
  rcases this.2 with ⟨hv', hn'⟩ | ⟨g, cap, cur, hv', _⟩
  · omega
  · rw [hv] at hv'
    cases hv'
    exact ⟨g, rfl, by rw [hv]; rfl⟩
end SC
end Go.Proofs.Yticndofcfacopaa
end
section
/- Literals of a formula, clauses of a gate: encode, trestleref01, trestleref15. -/
set_option linter.unusedVariables false
set_option linter.unusedSimpArgs false
namespace Go.Proofs.Yticndofcfacopaa
namespace SC
open Go.Proofs
attribute [local irreducible] WC WL WX WS WO OX Does DoesU Enters CV Pure thenQ blockQ retQ Wants retQC GC GL GS GX RdB thenG blockG retG Rd At gt CVN CVM
set_option maxRecDepth 100000
end SC
end Go.Proofs.Yticndofcfacopaa
end
section
/- trestleref07: Lit, All, Next0. -/
set_option linter.unusedVariables false
set_option linter.unusedSimpArgs false
namespace Go.Proofs.Yticndofcfacopaa
namespace SC
open Go.Proofs
/-- A literal's value. -/
def lv (v : List Bool) (l : Int) : Bool := gt v (l / 2) != decide (l % 2 = 1)
/-- The values have a literal. -/
def hasL (v : List Bool) (l : Int) : Prop := 0 ≤ l ∧ l / 2 < v.length ∧ l ≤ 9223372036854775807
attribute [local irreducible] WC WL WX WS WO OX Does DoesU Enters CV Pure thenQ blockQ retQ Wants retQC GC GL GS GX RdB thenG blockG retG Rd At gt CVN CVM
set_option maxRecDepth 100000
end SC
end Go.Proofs.Yticndofcfacopaa
end
section
/- A circuit that comes in: what it reads as lies in memory as the plain word says. -/
set_option linter.unusedVariables false
set_option linter.unusedSimpArgs false
namespace Go.Proofs.Yticndofcfacopaa
namespace SC
open Go.Proofs
set_option maxRecDepth 100000
section
variable {H : Type} {enc : TypeId × Value → H} {W : World} {base : Nat} {spare : Nat → Bool} {held : Bool}
end
end SC
end Go.Proofs.Yticndofcfacopaa
end
section
/- trestlebook: CopyLists, SameInts, KeptInts, SpoilInts. -/
set_option linter.unusedVariables false
set_option linter.unusedSimpArgs false
namespace Go.Proofs.Yticndofcfacopaa
namespace SC
open Go.Proofs
attribute [local irreducible] WC WL WX WS WO OX Does DoesU Enters CV Pure thenQ blockQ retQ Wants retQC
set_option maxRecDepth 100000
end SC
end Go.Proofs.Yticndofcfacopaa
end
section
/- The builders of hash: plain words and their laws; what is known of their memory. -/
set_option linter.unusedVariables false
set_option linter.unusedSimpArgs false
namespace Go.Proofs.Yticndofcfacopaa
namespace SC
open Go.Proofs Go.Maps

/-! ### plain words -/
abbrev Gate := Int × Int × Int
def gcells (g : Gate) : List Value := [.int .i64 g.1, .int .i64 g.2.1, .int .i64 g.2.2]
def flat (gs : List Gate) : List Value := gs.flatMap gcells
def outOf : List Gate → Int → Int → Int
  | [], _, _ => 0
  | g :: r, p, q => if g.2.1 = p ∧ g.2.2 = q then g.1 else outOf r p q
structure Inv (n : Int) (gs : List Gate) : Prop where
  nn : 0 ≤ n
  top : n + gs.length ≤ 16384
  outs : ∀ g ∈ gs, 2 ≤ g.1 ∧ g.1 ≤ 2 * (n + gs.length)
  fit : ∀ g ∈ gs, 0 ≤ g.2.1 ∧ g.2.1 ≤ 40000 ∧ 0 ≤ g.2.2 ∧ g.2.2 ≤ 40000
def notM (l : Int) : Int := l + 1 - 2 * (l % 2)
def andP (n : Int) (gs : List Gate) (p q : Int) : Int × Int × List Gate :=
  if q = 0 ∨ (p = q + 1 ∧ q % 2 = 0) then (0, 0, gs)
  else if q = 1 ∨ p = q then (p, 0, gs)
  else if 0 < outOf gs p q then (outOf gs p q, 0, gs)
  else if 16384 ≤ n + gs.length then (0, 2, gs)
  else (2 * (n + gs.length + 1), 0, gs ++ [(2 * (n + gs.length + 1), p, q)])
def andM (n : Int) (gs : List Gate) (x y : Int) : Int × Int × List Gate := andP n gs (max x y) (min x y)
section
variable {n : Int} {gs : List Gate} {p q : Int}
theorem andP_zero (h : q = 0 ∨ (p = q + 1 ∧ q % 2 = 0)) : andP n gs p q = (0, 0, gs) := if_pos h
theorem andP_same (h0 : ¬ (q = 0 ∨ (p = q + 1 ∧ q % 2 = 0))) (h : q = 1 ∨ p = q) : andP n gs p q = (p, 0, gs) := by unfold andP; rw [if_neg h0, if_pos h]
theorem andP_hit (h0 : ¬ (q = 0 ∨ (p = q + 1 ∧ q % 2 = 0))) (h1 : ¬ (q = 1 ∨ p = q)) (h : 0 < outOf gs p q) : andP n gs p q = (outOf gs p q, 0, gs) := by unfold andP; rw [if_neg h0, if_neg h1, if_pos h]
theorem andP_full (h0 : ¬ (q = 0 ∨ (p = q + 1 ∧ q % 2 = 0))) (h1 : ¬ (q = 1 ∨ p = q)) (h2 : ¬ 0 < outOf gs p q) (h : 16384 ≤ n + gs.length) : andP n gs p q = (0, 2, gs) := by unfold andP; rw [if_neg h0, if_neg h1, if_neg h2, if_pos h]
theorem andP_new (h0 : ¬ (q = 0 ∨ (p = q + 1 ∧ q % 2 = 0))) (h1 : ¬ (q = 1 ∨ p = q)) (h2 : ¬ 0 < outOf gs p q) (h : ¬ 16384 ≤ n + gs.length) : andP n gs p q = (2 * (n + gs.length + 1), 0, gs ++ [(2 * (n + gs.length + 1), p, q)]) := by unfold andP; rw [if_neg h0, if_neg h1, if_neg h2, if_neg h]
end
def okM (n : Int) (gs : List Gate) (x : Int) : Prop := 0 ≤ x ∧ x ≤ 2 * (n + gs.length) + 1
instance (n : Int) (gs : List Gate) (x : Int) : Decidable (okM n gs x) := by unfold okM; infer_instance
def orM (n : Int) (gs : List Gate) (x y : Int) : Int × Int × List Gate :=
  let r := andM n gs (notM x) (notM y)
  if r.2.1 ≠ 0 then (0, r.2.1, r.2.2) else (notM r.1, 0, r.2.2)
def AndM (n : Int) (gs : List Gate) (x y : Int) : Int × Int × List Gate := if okM n gs x ∧ okM n gs y then andM n gs x y else (0, 5, gs)
def OrM (n : Int) (gs : List Gate) (x y : Int) : Int × Int × List Gate := if okM n gs x ∧ okM n gs y then orM n gs x y else (0, 5, gs)
def xorM (n : Int) (gs : List Gate) (x y : Int) : Int × Int × List Gate :=
  let p := andM n gs x y
  if p.2.1 ≠ 0 then (0, p.2.1, p.2.2) else
  let q := andM n p.2.2 (notM x) (notM y)
  if q.2.1 ≠ 0 then (0, q.2.1, q.2.2) else andM n q.2.2 (notM p.1) (notM q.1)
def XorM (n : Int) (gs : List Gate) (x y : Int) : Int × Int × List Gate := if okM n gs x ∧ okM n gs y then xorM n gs x y else (0, 5, gs)
def muxM (n : Int) (gs : List Gate) (s x y : Int) : Int × Int × List Gate :=
  let p := andM n gs s x
  if p.2.1 ≠ 0 then (0, p.2.1, p.2.2) else
  let q := andM n p.2.2 (notM s) y
  if q.2.1 ≠ 0 then (0, q.2.1, q.2.2) else orM n q.2.2 p.1 q.1
def MuxM (n : Int) (gs : List Gate) (s x y : Int) : Int × Int × List Gate := if okM n gs s ∧ okM n gs x ∧ okM n gs y then muxM n gs s x y else (0, 5, gs)
theorem outOf_mem : ∀ (gs : List Gate) (p q : Int), outOf gs p q = 0 ∨ ∃ g ∈ gs, outOf gs p q = g.1
  | [], _, _ => .inl rfl
  | g :: r, p, q => by
    unfold outOf
    split
    · exact .inr ⟨g, by simp, rfl⟩
    · rcases outOf_mem r p q with h | ⟨g', hg, h⟩
      · exact .inl h
      · exact .inr ⟨g', by simp [hg], h⟩
theorem Inv.out {n : Int} {gs : List Gate} (h : Inv n gs) (p q : Int) : 0 ≤ outOf gs p q ∧ outOf gs p q ≤ 2 * (n + gs.length) := by
  rcases outOf_mem gs p q with h1 | ⟨g, hg, h1⟩
  · have := h.nn; omega
  · have := h.outs g hg; omega
theorem outOf_append : ∀ (gs : List Gate) (o p q p' q' : Int), (∀ g ∈ gs, 2 ≤ g.1) → outOf gs p q ≤ 0 → outOf (gs ++ [(o, p, q)]) p' q' = if p' = p ∧ q' = q then o else outOf gs p' q'
  | [], o, p, q, p', q', _, _ => by
    simp only [List.nil_append, outOf]
    by_cases h : p' = p ∧ q' = q
    · rw [if_pos h, if_pos ⟨h.1.symm, h.2.symm⟩]
    · rw [if_neg h, if_neg (fun hh => h ⟨hh.1.symm, hh.2.symm⟩)]
  | g :: r, o, p, q, p', q', hg, h0 => by
    have h2 : 2 ≤ g.1 := hg g (by simp)
    simp only [outOf] at h0
    have hne : ¬ (g.2.1 = p ∧ g.2.2 = q) := by
      intro hc; rw [if_pos hc] at h0; omega
    rw [if_neg hne] at h0
    simp only [List.cons_append, outOf]
    rw [outOf_append r o p q p' q' (fun x hx => hg x (by simp [hx])) h0]
    by_cases hc : g.2.1 = p' ∧ g.2.2 = q'
    · rw [if_pos hc, if_pos hc, if_neg]
      intro hh
      exact hne ⟨hc.1.trans hh.1, hc.2.trans hh.2⟩
    · rw [if_neg hc, if_neg hc]
/-- What 'andM' answers. -/
structure Good (n : Int) (gs : List Gate) (r : Int × Int × List Gate) : Prop where
  inv : Inv n r.2.2
  ok : okM n r.2.2 r.1
  more : gs.length ≤ r.2.2.length
theorem andM_good {n : Int} {gs : List Gate} {x y : Int} (h : Inv n gs) (hx : okM n gs x) (hy : okM n gs y) : Good n gs (andM n gs x y) := by
  have h1 := h.nn
  have h2 := h.top
  have h3 := h.out (max x y) (min x y)
  unfold okM at hx hy
  unfold andM andP
  split
  · exact ⟨h, ⟨by simp, by simp; omega⟩, Nat.le_refl _⟩
  · split
    · exact ⟨h, ⟨by simp; omega, by simp; omega⟩, Nat.le_refl _⟩
    · split
      · exact ⟨h, ⟨by simp; omega, by simp; omega⟩, Nat.le_refl _⟩
      · split
        · exact ⟨h, ⟨by simp, by simp; omega⟩, Nat.le_refl _⟩
        · refine ⟨⟨h1, by simp; omega, ?_, ?_⟩, ⟨by simp; omega, by simp; omega⟩, by simp⟩
          · intro g hg
            simp only [List.mem_append, List.mem_singleton] at hg
            rcases hg with hg | rfl
            · have := h.outs g hg
              simp; omega
            · simp; omega
          · intro g hg
            simp only [List.mem_append, List.mem_singleton] at hg
            rcases hg with hg | rfl
            · exact h.fit g hg
            · refine ⟨?_, ?_, ?_, ?_⟩ <;> simp only [] <;> omega
theorem okM_not {n : Int} {gs : List Gate} {x : Int} (hx : okM n gs x) : okM n gs (notM x) := by unfold okM notM at *; omega
theorem okM_more {n : Int} {gs gs' : List Gate} {x : Int} (hx : okM n gs x) (h : gs.length ≤ gs'.length) : okM n gs' x := by unfold okM at *; omega
theorem flat_append (gs : List Gate) (g : Gate) : flat (gs ++ [g]) = flat gs ++ gcells g := by simp [flat]

/-! ### the map of gates -/
theorem laidOut : laidOutB Try.prog = true := by kernel_rfl
theorem row168 : (145 : TypeId) < Try.prog.types.size := of_decide_eq_true (by kernel_rfl)
theorem wide168 : (match Try.prog.underlying 145 with | some (.array _ _) | some (.struct _) => true | _ => false) = true := by rw [Try.underlying145]
set_option maxRecDepth 100000 in
theorem keyed168 : Keyed Try.prog 145 := Keyed.of_law (deep_law_laid laidOut (m := 2) (by omega) row168 (by kernel_rfl) wide168)
def fits (a : Int) : Prop := -9223372036854775808 ≤ a ∧ a ≤ 9223372036854775807
theorem wf_of_fits {a : Int} (h : fits a) : (Lit.int .i64 a).wf = true := by
  unfold fits at h
  simp [Lit.wf, IntKind.min, IntKind.max, IntKind.signed, IntKind.bits]
  omega
theorem formed168 {a b : Value} : (Value.agg #[a, b]).formed Try.prog 145 = true := by
  have : Try.prog.cellsOf 145 = 2 := by kernel_rfl
  simp [Value.formed, Try.underlying145, this]
def kl (p q : Int) : Lit := .string (keyBytes [.int .i64 p, .int .i64 q])
theorem key168 {p q : Int} (hp : fits p) (hq : fits q) : keyOf Try.prog 145 (.agg #[.int .i64 p, .int .i64 q]) = some (kl p q) := by
  have h1 : Try.prog.keyType 145 = true := by kernel_rfl
  have h2 : Try.prog.cellsOf 145 = 2 := by kernel_rfl
  have h3 : Try.prog.cellsOf 3 = 1 := by kernel_rfl
  have h4 : ∃ k, Try.prog.types.size = k + 1 := ⟨Try.prog.types.size - 1, by have : 0 < Try.prog.types.size := of_decide_eq_true (by kernel_rfl); omega⟩
  obtain ⟨k, hk⟩ := h4
  unfold keyOf
  rw [Try.underlying145]
  simp only [h1, formed168, Bool.and_self, if_true]
  rw [hk]
  simp [Program.keyLits, Try.underlying145, Try.underlying3, h2, h3, Value.cells, wf_of_fits hp, wf_of_fits hq, kl]
/-- Block b is a map of gates that answers by f. -/
def MapHas (w : World) (b N : Nat) (f : Int → Int → Int) : Prop :=
  ∃ D : DataW Unit, w.ownsMap Try.prog 145 (plainElem Try.prog 3) b N D ∧ ∀ p q, fits p → fits q → D.atKey (kl p q) (.lit (.int .i64 0)) = .lit (.int .i64 (f p q))
theorem MapHas.made (w : World) : MapHas (w.alloc (.map #[] 0)) w.heap.size 0 (fun _ _ => 0) := ⟨_, World.ownsMap_made w _ _ _, fun _ _ _ _ => rfl⟩
theorem MapHas.chg {w w' : World} {b N : Nat} {f : Int → Int → Int} (h : MapHas w b N f) {S : Nat → Prop} (hc : Chg w w' S) (hn : ¬ S b) : MapHas w' b N f := by
  obtain ⟨D, h1, h2⟩ := h
  have hlt := h1.lt
  obtain ⟨es, clock, hb, F, hs, hD⟩ := h1
  exact ⟨D, ⟨es, clock, (hc.block b hlt hn).trans hb, F, hs, hD⟩, h2⟩
theorem MapHas.lt {w : World} {b N : Nat} {f : Int → Int → Int} (h : MapHas w b N f) : b < w.heap.size := by obtain ⟨D, h1, _⟩ := h; exact h1.lt
theorem does_lookupG {w : World} {e : Env} {x y : Operand} {ty : TypeId} {b N : Nat} {f : Int → Int → Int} {p q : Int} (h : ev e x = some (.map (some b))) (h1 : ev e y = some (.agg #[.int .i64 p, .int .i64 q])) (hm : MapHas w b N f) (hp : fits p) (hq : fits q) :
    Does Try.prog (.lookup 99 x y false) ty e w (.int .i64 (f p q)) w := by
  obtain ⟨D, h2, h3⟩ := hm
  obtain ⟨c, hrun, hat, _⟩ := h2.lookup_int keyed168 Try.underlying99 Try.underlying3 (Try.zeroValue3 w) (key168 hp hq)
  rw [h3 p q hp hq] at hat
  obtain rfl : f p q = c := by simpa using hat
  intro ρ dst pos af g hρ
  simp [execOp, hρ _ _ h, hρ _ _ h1, hrun]
theorem kl_inj {p q p' q' : Int} (hp : fits p) (hq : fits q) (hp' : fits p') (hq' : fits q') (h : kl p q = kl p' q') : p = p' ∧ q = q' := by
  have := keyed168.inj (key168 hp hq) (by rw [h]; exact key168 hp' hq')
  simpa using this
theorem does_updateG {w : World} {e : Env} {x y z : Operand} {ty : TypeId} {b N : Nat} {f : Int → Int → Int} {p q v : Int} (h : ev e x = some (.map (some b))) (h1 : ev e y = some (.agg #[.int .i64 p, .int .i64 q])) (h2 : ev e z = some (.int .i64 v)) (hm : MapHas w b N f) (hp : fits p) (hq : fits q) (hv : fits v) (hN : N < maxLen) :
    ∃ w', DoesU Try.prog (.mapUpdate 99 x y z) ty e w w' ∧ MapHas w' b (N + 1) (fun p' q' => if p' = p ∧ q' = q then v else f p' q') ∧ Chg w w' (fun k => k = b) := by
  obtain ⟨D, h3, h4⟩ := hm
  obtain ⟨w', hrun, ho, hg⟩ := h3.update keyed168 Try.underlying99 hN (key168 hp hq) (plainElem_int Try.underlying3 (wf_of_fits hv))
  refine ⟨w', ?_, ⟨_, ho, ?_⟩, (Chg.of_grown hg).mono fun k hk => by simpa using hk.symm⟩
  · intro ρ dst pos af g hρ
    simp [execOp, hρ _ _ h, hρ _ _ h1, hρ _ _ h2, hrun]
  · intro p' q' hp' hq'
    by_cases hc : p' = p ∧ q' = q
    · obtain ⟨rfl, rfl⟩ := hc
      rw [atKey_put_same _ (keyed168.key (key168 hp hq))]
      · simp
      · obtain ⟨es, clock, _, _, _, hD⟩ := h3; exact ⟨_, hD⟩
    · rw [atKey_put_other (fun hh => hc (kl_inj hp' hq' hp hq hh)), h4 p' q' hp' hq']
      simp only [if_neg hc]
end SC
end Go.Proofs.Yticndofcfacopaa
end
section
/- trestlebook: are two lists of things the same? -/
set_option linter.unusedVariables false
set_option linter.unusedSimpArgs false
namespace Go.Proofs.Yticndofcfacopaa
namespace SC
open Go.Proofs Go.Maps
set_option maxRecDepth 100000
def TriFits (x : Tri) : Prop := fits x.1 ∧ fits x.2.1 ∧ fits x.2.2
section
variable {e : Env} {x y : Operand} {ty t : TypeId}
end
attribute [local irreducible] WC WL WX WS WO OX Does DoesU Enters CV Pure thenQ blockQ retQ Wants retQC
end SC
end Go.Proofs.Yticndofcfacopaa
end
section
/- trestlebook: symbols, texts, lists: the same? -/
set_option linter.unusedVariables false
set_option linter.unusedSimpArgs false
namespace Go.Proofs.Yticndofcfacopaa
namespace SC
open Go.Proofs Go.Maps
set_option maxRecDepth 100000
def SymFits (s : Sym) : Prop := fit8 s.kind ∧ fit64 s.at_ ∧ s.name.size ≤ 9223372036854775807
section
variable {P : Program} {n : Nat} {all rest : List Oper} {K : Env → World → Prop} {S : World → Prop} {r : List (Nat × Bool)} {i : Nat} {e : Env} {w : World} {d : Option Tmp} {ty : TypeId} {x y : Operand} {t t' : TypeId}
end
attribute [local irreducible] WC WL WX WS WO OX Does DoesU Enters CV Pure thenQ blockQ retQ Wants retQC
end SC
end Go.Proofs.Yticndofcfacopaa
end
section
/- trestlebook: SameLists, SameCircuit. -/
set_option linter.unusedVariables false
set_option linter.unusedSimpArgs false
namespace Go.Proofs.Yticndofcfacopaa
namespace SC
open Go.Proofs
attribute [local irreducible] WC WL WX WS WO OX Does DoesU Enters CV Pure thenQ blockQ retQ Wants retQC
set_option maxRecDepth 100000
/-- The numbers and texts of a circuit fit. -/
structure Circ.Okay (c : Circ) : Prop where
  lens : ∀ n ∈ c.lens, n ≤ 9223372036854775807
  just : ∀ l ∈ c.justice, l.length ≤ 9223372036854775807
  latches : ∀ x ∈ c.latches, TriFits x
  ands : ∀ x ∈ c.ands, TriFits x
  symbols : ∀ x ∈ c.symbols, SymFits x
theorem Circ.same {c d : Circ} (h0 : c.max = d.max) (h1 : c.inputs = d.inputs) (h2 : c.latches = d.latches) (h3 : c.outputs = d.outputs) (h4 : c.bads = d.bads) (h5 : c.constraints = d.constraints) (h6 : c.justice = d.justice) (h7 : c.fairness = d.fairness) (h8 : c.ands = d.ands) (h9 : c.symbols = d.symbols) (h10 : c.comments = d.comments) : c = d := by
  cases c; cases d
  simp at h0 h1 h2 h3 h4 h5 h6 h7 h8 h9 h10
  simp [h0, h1, h2, h3, h4, h5, h6, h7, h8, h9, h10]
end SC
end Go.Proofs.Yticndofcfacopaa
end
section
/- trestlebook: KeptInts, SpoilInts; names. -/
set_option linter.unusedVariables false
set_option linter.unusedSimpArgs false
namespace Go.Proofs.Yticndofcfacopaa
namespace SC
open Go.Proofs
attribute [local irreducible] WC WL WX WS WO OX Does DoesU Enters CV Pure thenQ blockQ retQ Wants retQC
set_option maxRecDepth 100000
theorem RowA.left {α : Type} {w : World} {enc : α → List Value} {sz : Nat} {A : Option Addr} {l m : List α} (h : RowA w enc sz A (l ++ m)) : RowA w enc sz A l := fun k hk => by
  obtain ⟨p, h1, h2⟩ := h k (by simp; omega)
  refine ⟨p, h1, fun j u hj => h2 j u ?_⟩
  rwa [List.getElem_append_left hk]
end SC
end Go.Proofs.Yticndofcfacopaa
end
section
/- trestlebook: CopyCircuit. -/
set_option linter.unusedVariables false
set_option linter.unusedSimpArgs false
namespace Go.Proofs.Yticndofcfacopaa
namespace SC
open Go.Proofs
section
variable {P : Program} {d : Option Tmp} {op : Op} {ty : TypeId} {pos : String} {af : Array Edge} {g : Option (Nat × Bool)} {e : Env} {w : World} {R : Value → World → Prop}
theorem Ex.does {v : Value} {w' : World} (h : Does P op ty e w v w') (hr : R v w') : Ex P ⟨d, op, ty, pos, af, g⟩ e w R := .inl ⟨v, w', h, hr⟩
theorem Ex.fn {f : FuncId} [F : Go.Proofs.Yticndofcfacopaa.SC.Fn P f] {args : Array Operand} {ats : Array TypeId} {vs : List Value} {R' : Value → World → Prop} (h : evs e args.toList = some vs) (hc : CV P f vs w R') (hr : ∀ v w', R' v w' → R v w') :
    Ex P ⟨d, .call { callee := .value (.func f), args := args, argTypes := ats }, ty, pos, af, g⟩ e w R := .inr (.inl ⟨f, vs, enters (evs_map h), hc.mono hr⟩)
end
attribute [local irreducible] WC WL WX WS WO OX Does DoesU Enters CV Pure thenQ blockQ retQ Wants retQC
set_option maxRecDepth 100000
end SC
end Go.Proofs.Yticndofcfacopaa
end
section
/- trestlebook: LendCircuit. -/
set_option linter.unusedVariables false
set_option linter.unusedSimpArgs false
namespace Go.Proofs.Yticndofcfacopaa
namespace SC
open Go.Proofs
def lintRow (h : Hd) (i : Nat) (l : List Int) : Rw := ⟨slc h i (l.length + 1), 3, 1, l.length + 1, (l ++ [-77]).flatMap icell⟩
def ltriRow (h : Hd) (i : Nat) (t : TypeId) (l : List Tri) : Rw := ⟨slc h i (l.length + 1), t, 3, l.length + 1, (l ++ [(-77, 0, 0)]).flatMap tcells⟩
/-- The rows of a circuit that is lent: one more behind the end. -/
def lentRow (c : Circ) (h js : Hd) : Nat → Rw
  | 1 => lintRow h 1 c.inputs
  | 2 => ltriRow h 2 83 c.latches
  | 3 => lintRow h 3 c.outputs
  | 4 => lintRow h 4 c.bads
  | 5 => lintRow h 5 c.constraints
  | 7 => lintRow h 7 c.fairness
  | 8 => ltriRow h 8 57 c.ands
  | k => cirRows c h js js c.justice.length k
def Has (w : World) (base : Nat) (f : Nat → Rw) : Prop := ∀ i, (f i).own w base
def CirLent (w : World) (base : Nat) (c : Circ) (h js : Hd) : Prop := Has w base (lentRow c h js)
theorem Has.chg {w w' : World} {base : Nat} {f : Nat → Rw} {T : Nat → Prop} (H : Has w base f) (hc : Chg w w' T) (hT : ∀ i k, (f i).v.ownBlock = some k → ¬ T k) : Has w' base f := fun i => own_chg (H i) hc (hT i)
theorem Has.put {w w' : World} {base : Nat} {f : Nat → Rw} {T : Nat → Prop} (H : Has w base f) (i : Nat) (r : Rw) (hc : Chg w w' T) (hT : ∀ j k, j ≠ i → (f j).v.ownBlock = some k → ¬ T k) (hr : r.own w' base) : Has w' base (upd f i r) := fun j => by
  unfold upd
  split
  · exact hr
  · rename_i hne
    exact own_chg (H j) hc fun k hk => hT j k hne hk
theorem Has.lt {w : World} {base : Nat} {f : Nat → Rw} (H : Has w base f) {i k : Nat} (hk : (f i).v.ownBlock = some k) : base ≤ k ∧ k < w.heap.size := World.ownsRow.lt (H i) k hk
section
variable {P : Program} {n : Nat} {all : List Oper} {S : World → Prop} {K : Env → World → Prop} {i : Nat} {r : List (Nat × Bool)} {d : Option Tmp} {ty t t0 : TypeId} {e : Env} {w : World} {x y : Operand} {td : TypeDesc} {sz by_ sz1 by1 : Nat} {zv z1 : Value} {ag ag1 : Bool}
end
attribute [local irreducible] WC WL WX WS WO OX Does DoesU Enters CV Pure thenQ blockQ retQ Wants retQC
set_option maxRecDepth 100000
end SC
end Go.Proofs.Yticndofcfacopaa
end
section
/- trestlebook: KeptCircuit. -/
set_option linter.unusedVariables false
set_option linter.unusedSimpArgs false
namespace Go.Proofs.Yticndofcfacopaa
namespace SC
open Go.Proofs
theorem lint_at {w : World} {base : Nat} {h : Hd} {i : Nat} {l : List Int} (H : (lintRow h i l).own w base) : RowA w icell 1 (h i).1 (l ++ [-77]) ∧ l.length + 1 ≤ (h i).2 := by
  have H1 : w.ownsRow base 3 1 (.slice (h i).1 (l ++ [-77]).length (h i).2) (l ++ [-77]).length ((l ++ [-77]).flatMap icell) := by
    have e : (l ++ [(-77 : Int)]).length = l.length + 1 := by simp
    rw [e]; exact H
  have hc := own_cap H1
  exact ⟨RowA.own ilen H1, by simpa using hc⟩
theorem ltri_at {w : World} {base : Nat} {h : Hd} {i : Nat} {t : TypeId} {l : List Tri} (H : (ltriRow h i t l).own w base) : RowA w tcells 3 (h i).1 (l ++ [(-77, 0, 0)]) ∧ l.length + 1 ≤ (h i).2 := by
  have H1 : w.ownsRow base t 3 (.slice (h i).1 (l ++ [(-77, 0, 0)]).length (h i).2) (l ++ [(-77, 0, 0)]).length ((l ++ [(-77, 0, 0)]).flatMap tcells) := by
    have e : (l ++ [((-77, 0, 0) : Tri)]).length = l.length + 1 := by simp
    rw [e]; exact H
  have hc := own_cap H1
  exact ⟨RowA.own tlen H1, by simpa using hc⟩
theorem CirLent.chg {w w' : World} {base : Nat} {c : Circ} {h js : Hd} (H : CirLent w base c h js) (hc : Chg w w' none_) : CirLent w' base c h js := fun i => own_chg (H i) hc fun _ _ => id
theorem CirLent.at {w : World} {base : Nat} {c : Circ} {h js : Hd} (H : CirLent w base c h js) : CirAt w c h js := by
  refine ⟨(lint_at (H 1)).1.left, (ltri_at (H 2)).1.left, (lint_at (H 3)).1.left, (lint_at (H 4)).1.left, (lint_at (H 5)).1.left, fun k hk => ?_, fun k hk => ?_, (lint_at (H 7)).1.left, (ltri_at (H 8)).1.left, RowA.own slen (H 9), RowA.own blen (H 10)⟩
  · have h6 := H 6
    simp only [Rw.own, lentRow, cirRows] at h6
    rcases h6.2 with ⟨hv, hn⟩ | ⟨g, cap, cur, hv, hb, hg, rest⟩
    · omega
    · simp only [slc, Value.slice.injEq] at hv
      refine ⟨⟨g, 0, none⟩, hv.1, ?_⟩
      have := h6.cells (g := g) (by simp [slc, hv.1, Value.ownBlock]) k (slc js k c.justice[k].length) (by simp [hk])
      rw [show (k : Int).toNat * 1 = k by omega]
      exact this
  · have := H (k + 11)
    simp only [lentRow, cirRows, if_pos hk] at this
    have e : c.justice.getD k [] = c.justice[k] := by simp [hk]
    rw [e] at this
    exact RowA.own ilen this
section
variable {e : Env} {x y : Operand} {ty t : TypeId}
end
attribute [local irreducible] WC WL WX WS WO OX Does DoesU Enters CV Pure thenQ blockQ retQ Wants retQC
set_option maxRecDepth 100000
end SC
end Go.Proofs.Yticndofcfacopaa
end
section
/- A circuit that comes in, with its reach: numbers that fit, lists that memory holds, no room where there is no row. -/
set_option linter.unusedVariables false
set_option linter.unusedSimpArgs false
namespace Go.Proofs.Yticndofcfacopaa
namespace SC
open Go.Proofs
set_option maxRecDepth 100000
section
variable {H : Type} {enc : TypeId × Value → H} {W : World} {base : Nat} {spare : Nat → Bool} {held : Bool}
theorem openIntS {fuel : Nat} {cs : List Value} {x : DataW H × List MemPlace} (h : DataW.trod enc Try.prog W base spare held fuel 3 cs = some x) : ∃ a, icell a = cs ∧ fits a := by
  obtain ⟨z, rfl, _, w1⟩ := DataW.trod_int Try.underlying3 h
  refine ⟨z, rfl, ?_⟩
  simp [Lit.wf, IntKind.min, IntKind.max, IntKind.signed, IntKind.bits] at w1; unfold fits; omega
end
end SC
end Go.Proofs.Yticndofcfacopaa
end
section
/- trestleref03: size, one, used. -/
set_option linter.unusedVariables false
set_option linter.unusedSimpArgs false
namespace Go.Proofs.Yticndofcfacopaa
namespace SC
open Go.Proofs
attribute [local irreducible] WC WL WX WS WO OX Does DoesU Enters CV Pure thenQ blockQ retQ Wants retQC
set_option maxRecDepth 100000
end SC
end Go.Proofs.Yticndofcfacopaa
end
section
/- trestleref03: one, used, usedAll. -/
set_option linter.unusedVariables false
set_option linter.unusedSimpArgs false
namespace Go.Proofs.Yticndofcfacopaa
namespace SC
open Go.Proofs
attribute [local irreducible] WC WL WX WS WO OX Does DoesU Enters CV Pure thenQ blockQ retQ Wants retQC
set_option maxRecDepth 100000
end SC
end Go.Proofs.Yticndofcfacopaa
end
section
/- shape: Renumber, the walk. -/
set_option linter.unusedVariables false
set_option linter.unusedSimpArgs false
namespace Go.Proofs.Yticndofcfacopaa
namespace SC
open Go.Proofs
section
variable {P : Program} {n : Nat} {all : List Oper} {K : Env → World → Prop} {S : World → Prop} {r : List (Nat × Bool)} {i : Nat} {e : Env} {w : World} {d : Option Tmp} {ty : TypeId} {x : Operand}
end
attribute [local irreducible] WC WL WX WS WO OX Does DoesU Enters CV Pure thenQ blockQ retQ Wants retQC
set_option maxRecDepth 100000
section
variable {w W W' : World} {c : Circ} {h : Hd} {u : Value} {ord : List Int} {tr : Nat} {ks : List Int}
end
section
variable {w W W' : World} {c : Circ} {h : Hd} {u : Value} {ord to : List Int} {tr lb ob : Nat} {cs : List Value} {F : Nat → Rw}
end
end SC
end Go.Proofs.Yticndofcfacopaa
end
section
/- shape: works. -/
set_option linter.unusedVariables false
set_option linter.unusedSimpArgs false
namespace Go.Proofs.Yticndofcfacopaa
namespace SC
open Go.Proofs
attribute [local irreducible] WC WL WX WS WO OX Does DoesU Enters CV Pure thenQ blockQ retQ Wants retQC
set_option maxRecDepth 100000
theorem RowA.emp {α : Type} {w : World} {enc : α → List Value} {sz : Nat} {A : Option Addr} : RowA w enc sz A ([] : List α) := fun k hk => absurd hk (Nat.not_lt_zero _)
theorem RowA.blk {α : Type} {w : World} {enc : α → List Value} {sz b : Nat} {t : TypeId} {l : List α} (hsz : ∀ a, (enc a).length = sz) (h : Blk w b t (l.flatMap enc)) : RowA w enc sz (some ⟨b, 0, none⟩) l := fun k hk => by
  refine ⟨_, rfl, fun j u hj => ?_⟩
  have hjl : j < sz := by have := (List.getElem?_eq_some_iff.1 hj).1; rwa [hsz] at this
  rw [add_at, add_at, Nat.zero_add, h.cell, Int.toNat_natCast, flatMap_get enc sz hsz l k hk j hjl]
  exact hj
def hNil : Hd := fun _ => (none, 0)
end SC
end Go.Proofs.Yticndofcfacopaa
end
section
/- shape's laws: gates of each variable; ShapeOrders' walk. -/
set_option linter.unusedVariables false
set_option linter.unusedSimpArgs false
namespace Go.Proofs.Yticndofcfacopaa
namespace SC
open Go.Proofs
def gatesL : List Tri → Nat → List Int → List Int
  | [], _, l => l
  | x :: r, i, l => gatesL r (i + 1) (l.set (x.1 / 2).toNat i)
theorem gatesL_not : ∀ (ls : List Tri) (k : Nat) (l : List Int) (v : Int), 0 ≤ v → (∀ x ∈ ls, rg l.length (x.1 / 2) ∧ x.1 / 2 ≠ v) → L (gatesL ls k l) v = L l v
  | [], _, _, _, _, _ => rfl
  | x :: r, k, l, v, hv, h => by
    obtain ⟨h1, h2⟩ := h x (by simp)
    unfold gatesL
    rw [gatesL_not r (k + 1) _ v hv fun y hy => by rw [List.length_set]; exact h y (by simp [hy]), L_set _ h1 hv, if_neg (fun e => h2 e.symm)]
theorem gatesL_at : ∀ (ls : List Tri) (k : Nat) (l : List Int) (j : Nat) (hj : j < ls.length), (∀ x ∈ ls, rg l.length (x.1 / 2)) → (∀ i (hi : i < ls.length), ls[i].1 / 2 = ls[j].1 / 2 → i = j) → L (gatesL ls k l) (ls[j].1 / 2) = k + j
  | [], _, _, j, hj, _, _ => absurd hj (Nat.not_lt_zero _)
  | x :: r, k, l, 0, hj, h, hu => by
    have h1 := h x (by simp)
    unfold gatesL
    simp only [List.getElem_cons_zero]
    rw [gatesL_not r (k + 1) _ _ h1.1 fun y hy => ⟨by rw [List.length_set]; exact h y (by simp [hy]), fun e => ?_⟩, L_set _ h1 h1.1, if_pos rfl]
    · simp
    · obtain ⟨i, hi, rfl⟩ := List.mem_iff_getElem.1 hy
      have := hu (i + 1) (by simp; omega) (by simpa using e)
      omega
  | x :: r, k, l, j + 1, hj, h, hu => by
    unfold gatesL
    simp only [List.getElem_cons_succ]
    rw [gatesL_at r (k + 1) _ j (by simpa using hj) (fun y hy => by rw [List.length_set]; exact h y (by simp [hy])) fun i hi e => by
      have := hu (i + 1) (by simp; omega) (by simpa using e)
      omega]
    simp; omega
/-- Of each variable the gate that defines it, or -1. -/
def gatesM (c : Circ) : List Int := gatesL c.ands 0 (List.replicate (c.max + 1).toNat (-1))
theorem TabOk.gatesM {c : Circ} {t : Tab} (h : TabOk c t) {v : Int} (hv : rg (c.max + 1).toNat v) : L (SC.gatesM c) v = if kindAt t v = 3 then atOf t v else -1 := by
  have hrg : ∀ x ∈ c.ands, rg (List.replicate (c.max + 1).toNat (-1 : Int)).length (x.1 / 2) := fun x hx => by
    obtain ⟨j, hj, rfl⟩ := List.mem_iff_getElem.1 hx
    have := (h.gat j hj).1
    rw [List.length_replicate]
    unfold defBad at this; unfold rg; omega
  have e : v = ((v.toNat : Nat) : Int) := by unfold rg at hv; omega
  by_cases hk : kindAt t v = 3
  · rw [if_pos hk]
    rw [e] at hk
    obtain ⟨j, hj, h1, h2, h3⟩ := h.gate hk
    rw [← e] at h1 h2
    have e2 : c.ands[j].1 / 2 = v := by omega
    have := gatesL_at c.ands 0 (List.replicate (c.max + 1).toNat (-1)) j hj hrg fun i hi e3 => by
      have g1 := (h.gat i hi).2
      have g2 := (h.gat j hj).2
      rw [e3, g2] at g1
      simp at g1
      omega
    rw [e2] at this
    unfold SC.gatesM
    rw [this, h2]
    simp
  · rw [if_neg hk]
    unfold SC.gatesM
    rw [gatesL_not c.ands 0 _ v hv.1 fun x hx => ⟨hrg x hx, fun e2 => hk ?_⟩]
    · unfold L
      unfold rg at hv
      simp only [List.getD_eq_getElem?_getD, List.getElem?_replicate]
      rw [if_pos (by omega)]
      rfl
    · obtain ⟨j, hj, rfl⟩ := List.mem_iff_getElem.1 hx
      have := (h.gat j hj).2
      rw [e2] at this
      rw [kindAt_get this]
theorem mem_gateB {c : Circ} {t : Tab} {i : Int} {z : Int} (hi : rg c.ands.length i) : z ∈ gateB t c i ↔ ∃ l, (l = (andAt c i).2.1 ∨ l = (andAt c i).2.2) ∧ kindAt t (l / 2) = 3 ∧ atOf t (l / 2) = z := by
  unfold gateB belowM
  rw [mem_belowL]
  unfold andAt
  simp
attribute [local irreducible] WC WL WX WS WO OX Does DoesU Enters CV Pure thenQ blockQ retQ Wants retQC
set_option maxRecDepth 100000
end SC
end Go.Proofs.Yticndofcfacopaa
end
section
/- trestleref03: Defined. -/
set_option linter.unusedVariables false
set_option linter.unusedSimpArgs false
namespace Go.Proofs.Yticndofcfacopaa
namespace SC
open Go.Proofs
attribute [local irreducible] WC WL WX WS WO OX Does DoesU Enters CV Pure thenQ blockQ retQ Wants retQC
set_option maxRecDepth 100000
end SC
end Go.Proofs.Yticndofcfacopaa
end
section
/- trestleref03: uses. -/
set_option linter.unusedVariables false
set_option linter.unusedSimpArgs false
namespace Go.Proofs.Yticndofcfacopaa
namespace SC
open Go.Proofs
section
variable {P : Program} {ty t t0 : TypeId} {e : Env} {w : World} {x y : Operand} {d0 : TypeDesc} {sz by_ sz1 by1 : Nat} {z z1 : Value} {ag ag1 : Bool} {m b o : Nat} {i : Int} {k : IntKind}
end
attribute [local irreducible] WC WL WX WS WO OX Does DoesU Enters CV Pure thenQ blockQ retQ Wants retQC
set_option maxRecDepth 100000
end SC
end Go.Proofs.Yticndofcfacopaa
end
section
/- trestleref03: gates. -/
set_option linter.unusedVariables false
set_option linter.unusedSimpArgs false
namespace Go.Proofs.Yticndofcfacopaa
namespace SC
open Go.Proofs
/-- What a gate asks for: a literal's gate, or none. -/
theorem TabOk.lit {c : Circ} {t : Tab} (hT : TabOk c t) (hU : UseAll c t) {i : Int} (hi : rg c.ands.length i) {l : Int} (hl : l = (andAt c i).2.1 ∨ l = (andAt c i).2.2) :
    0 ≤ l ∧ l ≤ 2 * c.max + 1 ∧ ((kindAt t (l / 2) = 3 ∧ L (SC.gatesM c) (l / 2) = atOf t (l / 2) ∧ rg c.ands.length (atOf t (l / 2)) ∧ atOf t (l / 2) ∈ gateB t c i) ∨ (kindAt t (l / 2) ≠ 3 ∧ L (SC.gatesM c) (l / 2) = -1)) := by
  have hlt : i.toNat < c.ands.length := by unfold rg at hi; omega
  have e : andAt c i = c.ands[i.toNat] := by unfold andAt; simp [hlt]
  have hu := hU.ands _ (List.getElem_mem hlt)
  rw [← e] at hu
  have h0 : 0 ≤ l ∧ l ≤ 2 * c.max + 1 := by
    rcases hl with rfl | rfl
    · exact ⟨hu.1.1, hu.1.2.1⟩
    · exact ⟨hu.2.1, hu.2.2.1⟩
  refine ⟨h0.1, h0.2, ?_⟩
  have hr : rg (c.max + 1).toNat (l / 2) := by unfold rg; omega
  have hg := hT.gatesM hr
  by_cases hk : kindAt t (l / 2) = 3
  · rw [if_pos hk] at hg
    have hm : atOf t (l / 2) ∈ gateB t c i := (mem_gateB hi).2 ⟨l, hl, hk, rfl⟩
    exact .inl ⟨hk, hg, hT.below hU i hi _ hm, hm⟩
  · rw [if_neg hk] at hg
    exact .inr ⟨hk, hg⟩
attribute [local irreducible] WC WL WX WS WO OX Does DoesU Enters CV Pure thenQ blockQ retQ Wants retQC
set_option maxRecDepth 100000
end SC
end Go.Proofs.Yticndofcfacopaa
end
section
/- trestleref03: told. -/
set_option linter.unusedVariables false
set_option linter.unusedSimpArgs false
namespace Go.Proofs.Yticndofcfacopaa
namespace SC
open Go.Proofs
section
variable {P : Program} {n : Nat} {all rest : List Oper} {K : Env → World → Prop} {e : Env} {w : World}
end
attribute [local irreducible] WC WL WX WS WO OX Does DoesU Enters CV Pure thenQ blockQ retQ Wants retQC
set_option maxRecDepth 100000
end SC
end Go.Proofs.Yticndofcfacopaa
end
section
/- trestleref03: round. -/
set_option linter.unusedVariables false
set_option linter.unusedSimpArgs false
namespace Go.Proofs.Yticndofcfacopaa
namespace SC
open Go.Proofs
section
variable {P : Program} {n : Nat} {all : List Oper} {S : World → Prop} {K : Env → World → Prop} {i : Nat} {r : List (Nat × Bool)} {d : Option Tmp} {ty t : TypeId} {e : Env} {w : World} {td : TypeDesc} {sz by_ : Nat} {zv : Value} {ag : Bool}
end
attribute [local irreducible] WC WL WX WS WO OX Does DoesU Enters CV Pure thenQ blockQ retQ Wants retQC
set_option maxRecDepth 100000
end SC
end Go.Proofs.Yticndofcfacopaa
end
section
/- trestleref03: symbols. -/
set_option linter.unusedVariables false
set_option linter.unusedSimpArgs false
namespace Go.Proofs.Yticndofcfacopaa
namespace SC
open Go.Proofs
section
variable {P : Program} {n : Nat} {x y r b : Code} {Q : Post} {e : Env} {w : World}
end
attribute [local irreducible] WC WL WX WS WO OX Does DoesU Enters CV Pure thenQ blockQ retQ Wants retQC
set_option maxRecDepth 100000
end SC
end Go.Proofs.Yticndofcfacopaa
end
section
/- trestleref03: Check. -/
set_option linter.unusedVariables false
set_option linter.unusedSimpArgs false
namespace Go.Proofs.Yticndofcfacopaa
namespace SC
open Go.Proofs
attribute [local irreducible] WC WL WX WS WO OX Does DoesU Enters CV Pure thenQ blockQ retQ Wants retQC
set_option maxRecDepth 100000
end SC
end Go.Proofs.Yticndofcfacopaa
end
section
/- The order of a right circuit; trestleref07: Next0, Starts0, Values0. -/
set_option linter.unusedVariables false
set_option linter.unusedSimpArgs false
namespace Go.Proofs.Yticndofcfacopaa
namespace SC
open Go.Proofs
theorem ownsRow_low {w : World} {base : Nat} {t : TypeId} {sz n : Nat} {v : Value} {xs : List Value} (h : w.ownsRow base t sz v n xs) : w.ownsRow 0 t sz v n xs := ⟨h.1, h.2.imp id fun ⟨g, cap, cur, h1, _, h2⟩ => ⟨g, cap, cur, h1, Nat.zero_le _, h2⟩⟩
/-- A new row of its own, as an entry. -/
theorem own_vec {α : Type} {enc : α → List Value} {sz : Nat} {w w' : World} {t : TypeId} {u : Value} {l : List α} (h : w'.ownsRow w.heap.size t sz u l.length (l.flatMap enc)) (hc : Chg w w' none_) : ∃ A k, u = .slice A l.length k ∧ Mem w' ([.vec enc sz t A k l] ++ [.old w none_]) := by
  obtain ⟨A, k, rfl⟩ := row_form' h
  refine ⟨A, k, rfl, Mem.join (.one (ownsRow_low h)) (.one hc) fun j ⟨E, hE, h1⟩ ⟨F, hF, h2⟩ => ?_⟩
  simp only [List.mem_singleton] at hE hF
  subst hE hF
  have := (World.ownsRow.lt h j h1).1
  have := h2.1
  omega
/-- The order of its gates. -/
noncomputable def ordM (c : Circ) : List Int := by classical exact if h : ∃ out, All c.ands.length (gateB (tabM c) c) out then h.choose else []
theorem ordM_eq {c : Circ} {out : List Int} (h : All c.ands.length (gateB (tabM c) c) out) : ordM c = out := by
  have hex : ∃ out, All c.ands.length (gateB (tabM c) c) out := ⟨out, h⟩
  unfold ordM
  rw [dif_pos hex]
  exact All.only hex.choose_spec h
/-- What Order answers. -/
def OrdR (c : Circ) (v : Value) (N : Mm) : Prop :=
  ((lookM c).2 ≠ 0 ∧ v = .tuple #[.slice none 0 0, nu (lookM c).2] ∧ N = []) ∨ ((lookM c).2 = 0 ∧ ∃ A k, v = .tuple #[.slice A (ordM c).length k, nu 0] ∧ N = [.vec icell 1 3 A k (ordM c)])
theorem OrderG {w : World} {c : Circ} {h js : Hd} (H : CirAt w c h js) (hs : c.Sane) : CVN Try.prog 61 [.agg (ccells c h).toArray] w (OrdR c) := CV.mono (Order_cv H hs) fun v w' ⟨hc, hv⟩ => by
  rcases hv with ⟨h1, rfl⟩ | ⟨h1, out, u, rfl, h2, h3, h4⟩
  · exact ⟨[], .one hc, .inl ⟨h1, rfl, rfl⟩⟩
  · rw [← flat_icell] at h4
    obtain ⟨A, k, rfl, M⟩ := own_vec h4 hc
    rw [← ordM_eq h2] at M ⊢
    exact ⟨_, M, .inr ⟨h1, A, k, rfl, rfl⟩⟩
/-! ### a row that is filled from the left -/
/-- Next, by the values. -/
def nxtM (c : Circ) (v : List Bool) : List Bool := c.latches.map fun x => lv v x.2.1
attribute [local irreducible] WC WL WX WS WO OX Does DoesU Enters CV Pure thenQ blockQ retQ Wants retQC GC GL GS GX RdB thenG blockG retG Rd At gt CVN CVM
set_option maxRecDepth 100000
end SC
end Go.Proofs.Yticndofcfacopaa
end
section
/- A right circuit; its values. trestleref07: Starts0, Values0. -/
set_option linter.unusedVariables false
set_option linter.unusedSimpArgs false
namespace Go.Proofs.Yticndofcfacopaa
namespace SC
open Go.Proofs
theorem CV.ex {P : Program} {f : FuncId} {args : List Value} {w : World} {R : Value → World → Prop} (h : CV P f args w R) : ∃ v w', R v w' := by
  obtain ⟨e, w', fr, h1, _⟩ := h []
  cases e with
  | returned v => exact ⟨v, w', h1⟩
  | panicked c => exact h1.elim
  | outgrown => exact h1.elim
/-- What is so of a right circuit. -/
structure Right (c : Circ) : Prop where
  tab : TabOk c (tabM c)
  use : UseAll c (tabM c)
  m0 : 0 ≤ c.max
  m1 : c.max ≤ 16384
  lens : ∀ n ∈ c.lens, n ≤ 16384
  sum : sumW c.justice ≤ 16384
  all : All c.ands.length (gateB (tabM c) c) (ordM c)
  ordLen : (ordM c).length = c.ands.length
theorem right_of {w : World} {c : Circ} {h js : Hd} (H : CirAt w c h js) (hs : c.Sane) (he : (lookM c).2 = 0) : Right c := by
  obtain ⟨v, w', _, hv⟩ := CV.ex (Order_cv H hs)
  rcases hv with ⟨h1, _⟩ | ⟨_, out, u, _, h2, h3, _⟩
  · exact absurd he h1
  · obtain ⟨_, g1, g2, g3, _⟩ := lookM_ok he
    obtain ⟨k1, k2, k3, k4⟩ := sizesM_ok g1
    have e1 := ordM_eq h2
    exact ⟨definesM_spec k1 g2, usesM_spec.1 g3, k1, k2, k3, k4, by rw [e1]; exact h2, by rw [e1]; exact h3⟩
def inR (c : Circ) (l : Int) : Prop := 0 ≤ l ∧ l ≤ 2 * c.max + 1
def defR (c : Circ) (l : Int) : Prop := 2 ≤ l ∧ l ≤ 2 * c.max ∧ l % 2 = 0
section
variable {c : Circ} (R : Right c)
include R
theorem Right.nIn : c.inputs.length ≤ 16384 := by have := R.lens c.inputs.length (by simp [Circ.lens]); omega
theorem Right.nLat : c.latches.length ≤ 16384 := by have := R.lens c.latches.length (by simp [Circ.lens]); omega
theorem Right.nAnd : c.ands.length ≤ 16384 := by have := R.lens c.ands.length (by simp [Circ.lens]); omega
theorem Right.inp {l : Int} (h : l ∈ c.inputs) : defR c l := by
  obtain ⟨j, hj, rfl⟩ := List.mem_iff_getElem.1 h
  have := (R.tab.inp j hj).1
  unfold defBad at this; unfold defR; omega
theorem Right.lat {x : Tri} (h : x ∈ c.latches) : defR c x.1 ∧ inR c x.2.1 ∧ (x.2.2 = 0 ∨ x.2.2 = 1 ∨ x.2.2 = x.1) := by
  obtain ⟨j, hj, rfl⟩ := List.mem_iff_getElem.1 h
  have h1 := (R.tab.lat j hj).1
  have h2 := (R.tab.lat j hj).2.2
  have h3 := R.use.next _ (List.getElem_mem hj)
  unfold defBad at h1; unfold badReset at h2; unfold useOk at h3; unfold defR inR
  omega
theorem Right.gate {x : Tri} (h : x ∈ c.ands) : defR c x.1 ∧ inR c x.2.1 ∧ inR c x.2.2 := by
  obtain ⟨j, hj, rfl⟩ := List.mem_iff_getElem.1 h
  have h1 := (R.tab.gat j hj).1
  have h3 := R.use.ands _ (List.getElem_mem hj)
  unfold defBad at h1; unfold useOk at h3; unfold defR inR
  omega
theorem Right.just {ls : List Int} {l : Int} (h : ls ∈ c.justice) (h2 : l ∈ ls) : inR c l := ⟨(R.use.justice ls h l h2).1, (R.use.justice ls h l h2).2.1⟩
theorem Right.ord {i : Int} (h : i ∈ ordM c) : 0 ≤ i ∧ i < c.ands.length := R.all.told.all i h
end
theorem inR.has {c : Circ} {l : Int} {v : List Bool} (h : inR c l) (hm : c.max ≤ 16384) (hv : v.length = (c.max + 1).toNat) : hasL v l := by unfold inR at h; unfold hasL; omega
theorem defR.in {c : Circ} {l : Int} (h : defR c l) : inR c l := by unfold defR at h; unfold inR; omega
/-! ### the values -/
def vIn (c : Circ) (r : List Bool) (i : Nat) : List Bool := (List.range i).foldl (fun v (k : Nat) => v.set (gt c.inputs (k : Int) / 2).toNat (gt r (k : Int))) (List.replicate (c.max + 1).toNat false)
def vLt (c : Circ) (s v : List Bool) (i : Nat) : List Bool := (List.range i).foldl (fun v (k : Nat) => v.set ((gt c.latches (k : Int)).1 / 2).toNat (gt s (k : Int))) v
def vAn (c : Circ) (ord : List Int) (v : List Bool) (i : Nat) : List Bool := (List.range i).foldl (fun v (k : Nat) => v.set ((gt c.ands (gt ord (k : Int))).1 / 2).toNat (lv v (gt c.ands (gt ord (k : Int))).2.1 && lv v (gt c.ands (gt ord (k : Int))).2.2)) v
noncomputable def valM (c : Circ) (s r : List Bool) : List Bool := vAn c (ordM c) (vLt c s (vIn c r c.inputs.length) c.latches.length) (ordM c).length
theorem fold_snoc {α : Type} (f : α → Nat → α) (a : α) (i : Nat) : (List.range (i + 1)).foldl f a = f ((List.range i).foldl f a) i := by rw [List.range_succ, List.foldl_append]; rfl
theorem fold_len (g : List Bool → Nat → Nat) (h : List Bool → Nat → Bool) (v : List Bool) (i : Nat) : ((List.range i).foldl (fun v k => v.set (g v k) (h v k)) v).length = v.length := by
  induction i with
  | zero => simp
  | succ i ih => rw [fold_snoc, List.length_set, ih]
theorem vIn_len (c : Circ) (r : List Bool) (i : Nat) : (vIn c r i).length = (c.max + 1).toNat := by unfold vIn; rw [fold_len]; simp
theorem vLt_len (c : Circ) (s v : List Bool) (i : Nat) : (vLt c s v i).length = v.length := by unfold vLt; rw [fold_len]
theorem vAn_len (c : Circ) (ord : List Int) (v : List Bool) (i : Nat) : (vAn c ord v i).length = v.length := by unfold vAn; rw [fold_len]
theorem valM_len (c : Circ) (s r : List Bool) : (valM c s r).length = (c.max + 1).toNat := by unfold valM; rw [vAn_len, vLt_len, vIn_len]
attribute [local irreducible] WC WL WX WS WO OX Does DoesU Enters CV Pure thenQ blockQ retQ Wants retQC GC GL GS GX RdB thenG blockG retG Rd At gt CVN CVM
set_option maxRecDepth 100000
end SC
end Go.Proofs.Yticndofcfacopaa
end
section
/- trestleref07: Values0. -/
set_option linter.unusedVariables false
set_option linter.unusedSimpArgs false
namespace Go.Proofs.Yticndofcfacopaa
namespace SC
open Go.Proofs
theorem vIn_succ (c : Circ) (r : List Bool) (i : Nat) : vIn c r (i + 1) = (vIn c r i).set (gt c.inputs (i : Int) / 2).toNat (gt r (i : Int)) := by unfold vIn; rw [fold_snoc]
theorem vLt_succ (c : Circ) (s v : List Bool) (i : Nat) : vLt c s v (i + 1) = (vLt c s v i).set ((gt c.latches (i : Int)).1 / 2).toNat (gt s (i : Int)) := by unfold vLt; rw [fold_snoc]
theorem vAn_succ (c : Circ) (o : List Int) (v : List Bool) (i : Nat) : vAn c o v (i + 1) = (vAn c o v i).set ((gt c.ands (gt o (i : Int))).1 / 2).toNat (lv (vAn c o v i) (gt c.ands (gt o (i : Int))).2.1 && lv (vAn c o v i) (gt c.ands (gt o (i : Int))).2.2) := by unfold vAn; rw [fold_snoc]
attribute [local irreducible] WC WL WX WS WO OX Does DoesU Enters CV Pure thenQ blockQ retQ Wants retQC GC GL GS GX RdB thenG blockG retG Rd At gt CVN CVM
set_option maxRecDepth 100000
end SC
end Go.Proofs.Yticndofcfacopaa
end
section
/- trestleref07: looked, Values, Next, Holds, Starts. -/
set_option linter.unusedVariables false
set_option linter.unusedSimpArgs false
namespace Go.Proofs.Yticndofcfacopaa
namespace SC
open Go.Proofs
/-- A circuit that can be read, and what is so of any. -/
structure CirIn (w : World) (c : Circ) (h js : Hd) : Prop where
  at_ : CirAt w c h js
  sane : c.Sane
  okay : c.Okay
  fits : c.Fits
theorem CirIn.chg {w w' : World} {c : Circ} {h js : Hd} (H : CirIn w c h js) (hc : Chg w w' none_) : CirIn w' c h js := ⟨H.at_.chg hc, H.sane, H.okay, H.fits⟩
theorem In.old {Γ : Mm} {w w0 : World} (h : In Γ (.old w0 none_)) (M : Mem w Γ) : Chg w0 w none_ := h.ok M
/-- What is wrong with a step. -/
noncomputable def stepE (c : Circ) (s r : List Bool) : Int := if (lookM c).2 ≠ 0 then (lookM c).2 else if s.length ≠ c.latches.length ∨ r.length ≠ c.inputs.length then 4 else 0
theorem stepE_look {c : Circ} {s r : List Bool} (h : (lookM c).2 ≠ 0) : stepE c s r = (lookM c).2 := if_pos h
theorem stepE_len {c : Circ} {s r : List Bool} (h : (lookM c).2 = 0) (h2 : s.length ≠ c.latches.length ∨ r.length ≠ c.inputs.length) : stepE c s r = 4 := by unfold stepE; rw [if_neg (by omega), if_pos h2]
theorem stepE_ok {c : Circ} {s r : List Bool} (h : (lookM c).2 = 0) (h2 : s.length = c.latches.length) (h3 : r.length = c.inputs.length) : stepE c s r = 0 := by unfold stepE; rw [if_neg (by omega), if_neg (by omega)]
noncomputable def valsM (c : Circ) (s r : List Bool) : List Bool := if stepE c s r = 0 then valM c s r else []
def ValsR (c : Circ) (s r : List Bool) (v : Value) (N : Mm) : Prop := ∃ A k, v = .tuple #[.slice A (valsM c s r).length k, nu (stepE c s r)] ∧ N = [.vec booc 1 4 A k (valsM c s r)]
attribute [local irreducible] WC WL WX WS WO OX Does DoesU Enters CV Pure thenQ blockQ retQ Wants retQC GC GL GS GX RdB thenG blockG retG Rd At gt CVN CVM
set_option maxRecDepth 100000
section
variable {w : World} {c : Circ} {h js : Hd} {S T : Option Addr} {k2 k3 : Nat} {s r : List Bool} (H : CirIn w c h js) (hS : RowA w booc 1 S s) (hT : RowA w booc 1 T r)
include H hS hT
end
end SC
end Go.Proofs.Yticndofcfacopaa
end
section
/- sim: is, values, next, holds. -/
set_option linter.unusedVariables false
set_option linter.unusedSimpArgs false
namespace Go.Proofs.Yticndofcfacopaa
namespace SC
open Go.Proofs
/-- The runner's cells. -/
noncomputable def rcells (c : Circ) (h : Hd) (B : Option Addr) (k : Nat) : List Value := ccells c h ++ [.slice B (ordM c).length k]
theorem In.box {Γ : Mm} {w : World} {b : Nat} {t : TypeId} {cs : List Value} (h : In Γ (.box b t cs)) (M : Mem w Γ) : Blk w b t cs := h.ok M
theorem In.row {Γ : Mm} {w : World} {α : Type} {enc : α → List Value} {sz : Nat} [H : Enc enc sz] {t : TypeId} {A : Option Addr} {c : Nat} {l : List α} (h : In Γ (.vec enc sz t A c l)) (M : Mem w Γ) : RowA w enc sz A l := (Rd.own h H).at M
instance : Fn Try.prog 150 := ⟨fun args w => Try.call150 args w⟩
instance : Fn Try.prog 128 := ⟨fun args w => Try.call128 args w⟩
attribute [local irreducible] WC WL WX WS WO OX Does DoesU Enters CV Pure thenQ blockQ retQ Wants retQC GC GL GS GX RdB thenG blockG retG Rd At gt CVN CVM
set_option maxRecDepth 100000
theorem of_cv {w : World} {A : Option Addr} {b c k : Nat} {v : List Bool} {l : Int} (hB : Blk w b 30 [.slice A k c]) (hA : RowA w booc 1 A v) (hk : k = v.length) (hl : hasL v l) : CVN Try.prog 150 [nu l, pt b] w fun r N => N = [] ∧ r = .bool (lv v l) := by
  obtain ⟨h0, h1, h2⟩ := hl
  refine CVN.enter 13 [3] Try.func150 rfl rfl rfl (by decide) rfl ?_
  repeat' (first
      | (apply GC_seqK; intro K hK)
      | (apply hK; clear hK K)
      | (apply GC_region)
      | (apply GL_nil)
      | (apply thenG_normal)
      | (apply GC_ret)
      | (apply retG1; eq_refl)
      | (apply GL_on; eq_refl; eq_refl)
      | (apply G_pv; eq_refl; first | exact trivial | omega)
      | (apply G_ldO; eq_refl; (repeat first | exact In.here | apply In.there | apply In.skip); assumption; eq_refl)
      | (apply G_rd; eq_refl; (first | (apply Rd.own; (repeat first | exact In.here | apply In.there | apply In.skip); infer_instance) | (apply Rd.old; (repeat first | exact In.here | apply In.there | apply In.skip); assumption) | (apply Rd.oldR; (repeat first | exact In.here | apply In.there | apply In.skip); assumption) | exact Rd.nil | assumption); (case ih => infer_instance); omega; omega; eq_refl)
      | (apply G_cmpD; eq_refl; eq_refl; (case hd => infer_instance))
      | (apply G_ix; eq_refl; eq_refl; (first | (apply Rd.own; (repeat first | exact In.here | apply In.there | apply In.skip); infer_instance) | (apply Rd.old; (repeat first | exact In.here | apply In.there | apply In.skip); assumption) | (apply Rd.oldR; (repeat first | exact In.here | apply In.there | apply In.skip); assumption) | exact Rd.nil | assumption); (first | eq_refl | omega); omega; omega)
      | (apply G_neqB; eq_refl; eq_refl))
  exact ⟨[], (by repeat first | exact Wk.nil | exact Wk.refl | (apply Wk.cons; (focus ((repeat first | exact Rem.here | apply Rem.there | apply Rem.skip); done))) | apply Wk.nilv | apply Wk.last | apply Wk.drop), rfl, rfl⟩
theorem values_cv {w : World} {c : Circ} {h js : Hd} {p : Nat} {B S T : Option Addr} {k1 k2 k3 : Nat} {s r : List Bool} (R : Right c) (hP : Blk w p 156 (rcells c h B k1)) (H : CirAt w c h js) (hB : RowA w icell 1 B (ordM c)) (hS : RowA w booc 1 S s) (hT : RowA w booc 1 T r) (hs : s.length = c.latches.length) (hr : r.length = c.inputs.length) :
    CVN Try.prog 114 [pt p, .slice S s.length k2, .slice T r.length k3] w fun v N => ∃ A' k', v = .slice A' (valM c s r).length k' ∧ N = [.vec booc 1 4 A' k' (valM c s r)] := by
  have hLat := H.latches
  have hInp := H.inputs
  have hAnd := H.ands
  have m0 := R.m0
  have m1 := R.m1
  have n1 := R.nIn
  have n2 := R.nLat
  have n3 := R.nAnd
  have n4 := R.ordLen
  refine CVN.enter 107 [6] Try.func114 rfl rfl rfl (by decide) rfl ?_
  repeat' (first
      | (apply GC_seqK; intro K hK)
      | (apply hK; clear hK K)
      | (apply GC_block)
      | (apply GC_region)
      | (apply GL_nil)
      | (apply thenG_normal)
      | (apply GL_on; eq_refl; eq_refl)
      | (apply G_pv; eq_refl; first | exact trivial | omega)
      | (apply G_field; eq_refl)
      | (apply G_ldO; eq_refl; (repeat first | exact In.here | apply In.there | apply In.skip); assumption; eq_refl)
      | (apply G_len; eq_refl)
      | (apply G_alloc; eq_refl; intro _)
      | (apply G_st; (first | exact wr_p | kernel_rfl); eq_refl; eq_refl; eq_refl; eq_refl; (repeat first | exact Upd.here | apply Upd.there | apply Upd.skip); (first | decide | exact Nat.le_of_ble_eq_true rfl))
      | (apply G_makeI booc; eq_refl; eq_refl; omega; eq_refl; omega; decide; intro _))
  rename_i b1 b0
  refine GC_loopK [0, 1, 2, 7, 26] (fun s : Nat × List Bool => [(27, nu s.1)]) (fun s => [.box b0 30 [.slice (some ⟨b1, 0, none⟩) (c.max + 1).toNat (c.max + 1).toNat], .vec booc 1 4 (some ⟨b1, 0, none⟩) (c.max + 1).toNat s.2, .old w none_]) (fun s => s.1 ≤ c.inputs.length ∧ s.2 = vIn c r s.1) (fun s => c.inputs.length - s.1) (0, _) (by repeat first | exact Pick.nil | (apply Pick.cons; eq_refl)) (by repeat first | exact trivial | refine ⟨rfl, ?_⟩) (by repeat first | exact Wk.nil | exact Wk.refl | (apply Wk.cons; (focus ((repeat first | exact Rem.here | apply Rem.there | apply Rem.skip); done))) | apply Wk.nilv | apply Wk.last | apply Wk.drop) ⟨Nat.zero_le _, rfl⟩ ?_
  rintro ⟨i, v⟩ ⟨hi, hv⟩
  dsimp only at hi hv ⊢
  have hlen : v.length = (c.max + 1).toNat := by rw [hv, vIn_len]
  rcases Nat.lt_or_ge i c.inputs.length with hlt | hge
  · have hd := R.inp (gt_mem (l := c.inputs) (i := (i : Int)) (by omega) (by omega))
    have hst := vIn_succ c r i
    rw [← hv] at hst
    unfold defR at hd
    repeat' (first
      | (apply GC_seqK; intro K hK)
      | (apply hK; clear hK K)
      | (apply GC_block)
      | (apply GC_region)
      | (apply GL_nil)
      | (apply thenG_normal)
      | (apply blockG_normal)
      | (apply GC_skip)
      | (apply GC_if_true; eq_refl)
      | (apply GL_on; eq_refl; eq_refl)
      | (refine GC_draws (id := 5) [.q 0, .q 1, .q 2, .q 3, .q 4, .q 5, .q 6, .q 7, .q 8, .q 9, .q 10, .q 11, .q 12, .q 13, .q 14, .c 15] mixed (by kernel_rfl) (by kernel_rfl) ?_)
      | (apply GS_nil)
      | (apply GS_qon; eq_refl; eq_refl; eq_refl; eq_refl)
      | (apply GS_con; eq_refl; eq_refl; eq_refl; eq_refl)
      | (apply G_pv; eq_refl; first | exact trivial | omega)
      | (apply G_field; eq_refl)
      | (apply G_ld; eq_refl; (repeat first | exact In.here | apply In.there | apply In.skip); eq_refl)
      | (apply G_ldO; eq_refl; (repeat first | exact In.here | apply In.there | apply In.skip); assumption; eq_refl)
      | (apply G_rd; eq_refl; (first | (apply Rd.own; (repeat first | exact In.here | apply In.there | apply In.skip); infer_instance) | (apply Rd.old; (repeat first | exact In.here | apply In.there | apply In.skip); assumption) | (apply Rd.oldR; (repeat first | exact In.here | apply In.there | apply In.skip); assumption) | exact Rd.nil | assumption); (case ih => infer_instance); omega; omega; eq_refl)
      | (apply G_cmpT; eq_refl; eq_refl; omega)
      | (apply G_ix; eq_refl; eq_refl; (first | (apply Rd.own; (repeat first | exact In.here | apply In.there | apply In.skip); infer_instance) | (apply Rd.old; (repeat first | exact In.here | apply In.there | apply In.skip); assumption) | (apply Rd.oldR; (repeat first | exact In.here | apply In.there | apply In.skip); assumption) | exact Rd.nil | assumption); (first | eq_refl | omega); omega; omega)
      | (apply G_stV; (first | exact wr_p | kernel_rfl); eq_refl; eq_refl; eq_refl; eq_refl; (repeat first | exact Upd.here | apply Upd.there | apply Upd.skip); infer_instance; infer_instance; eq_refl; omega; (try simp only [List.length_set, List.length_append, List.length_replicate]); omega))
    exact ⟨(i + 1, _), (by repeat first | exact trivial | refine ⟨rfl, ?_⟩), (by repeat first | exact Wk.nil | exact Wk.refl | (apply Wk.cons; (focus ((repeat first | exact Rem.here | apply Rem.there | apply Rem.skip); done))) | apply Wk.nilv | apply Wk.last | apply Wk.drop), ⟨hlt, hst.symm⟩, by simp only; omega⟩
  · obtain rfl : i = c.inputs.length := by omega
    repeat' (first
      | (apply GC_seqK; intro K hK)
      | (apply hK; clear hK K)
      | (clear hK K; apply hK; clear hK K)
      | (apply GC_block)
      | (apply GC_region)
      | (apply GL_nil)
      | (apply thenG_normal)
      | (apply thenG_exit)
      | (apply blockG_hit)
      | (apply GC_exit)
      | (apply GC_if_false; eq_refl)
      | (apply GL_on; eq_refl; eq_refl)
      | (apply G_pv; eq_refl; first | exact trivial | omega)
      | (apply G_field; eq_refl)
      | (apply G_ldO; eq_refl; (repeat first | exact In.here | apply In.there | apply In.skip); assumption; eq_refl)
      | (apply G_cmpF; eq_refl; eq_refl; omega)
      | (apply G_len; eq_refl))
    refine GC_loopK [0, 1, 2, 7, 51] (fun s : Nat × List Bool => [(52, nu s.1)]) (fun s => [.box b0 30 [.slice (some ⟨b1, 0, none⟩) (c.max + 1).toNat (c.max + 1).toNat], .vec booc 1 4 (some ⟨b1, 0, none⟩) (c.max + 1).toNat s.2, .old w none_]) (fun t => t.1 ≤ c.latches.length ∧ t.2 = vLt c s v t.1) (fun s => c.latches.length - s.1) (0, _) (by repeat first | exact Pick.nil | (apply Pick.cons; eq_refl)) (by repeat first | exact trivial | refine ⟨rfl, ?_⟩) (by repeat first | exact Wk.nil | exact Wk.refl | (apply Wk.cons; (focus ((repeat first | exact Rem.here | apply Rem.there | apply Rem.skip); done))) | apply Wk.nilv | apply Wk.last | apply Wk.drop) ⟨Nat.zero_le _, rfl⟩ ?_
    rintro ⟨i, v2⟩ ⟨hi2, hv2⟩
    dsimp only at hi2 hv2 ⊢
    have hlen2 : v2.length = (c.max + 1).toNat := by rw [hv2, vLt_len, hlen]
    rcases Nat.lt_or_ge i c.latches.length with hlt | hge
    · have hd := (R.lat (gt_mem (l := c.latches) (i := (i : Int)) (by omega) (by omega))).1
      have hst := vLt_succ c s v i
      rw [← hv2] at hst
      unfold defR at hd
      repeat' (first
      | (apply GC_seqK; intro K hK)
      | (apply hK; clear hK K)
      | (apply GC_block)
      | (apply GC_region)
      | (apply GL_nil)
      | (apply thenG_normal)
      | (apply blockG_normal)
      | (apply GC_skip)
      | (apply GC_if_true; eq_refl)
      | (apply GL_on; eq_refl; eq_refl)
      | (refine GC_draws (id := 10) [.q 0, .q 1, .q 2, .q 3, .q 4, .q 5, .q 6, .q 7, .q 8, .q 9, .q 10, .q 11, .q 12, .q 13, .q 14, .q 15, .c 16] mixed (by kernel_rfl) (by kernel_rfl) ?_)
      | (apply GS_nil)
      | (apply GS_qon; eq_refl; eq_refl; eq_refl; eq_refl)
      | (apply GS_con; eq_refl; eq_refl; eq_refl; eq_refl)
      | (apply G_pv; eq_refl; first | exact trivial | omega)
      | (apply G_field; eq_refl)
      | (apply G_fieldP; eq_refl)
      | (apply G_ld; eq_refl; (repeat first | exact In.here | apply In.there | apply In.skip); eq_refl)
      | (apply G_ldO; eq_refl; (repeat first | exact In.here | apply In.there | apply In.skip); assumption; eq_refl)
      | (apply G_rd; eq_refl; (first | (apply Rd.own; (repeat first | exact In.here | apply In.there | apply In.skip); infer_instance) | (apply Rd.old; (repeat first | exact In.here | apply In.there | apply In.skip); assumption) | (apply Rd.oldR; (repeat first | exact In.here | apply In.there | apply In.skip); assumption) | exact Rd.nil | assumption); (case ih => infer_instance); omega; omega; eq_refl)
      | (apply G_cmpT; eq_refl; eq_refl; omega)
      | (apply G_ix; eq_refl; eq_refl; (first | (apply Rd.own; (repeat first | exact In.here | apply In.there | apply In.skip); infer_instance) | (apply Rd.old; (repeat first | exact In.here | apply In.there | apply In.skip); assumption) | (apply Rd.oldR; (repeat first | exact In.here | apply In.there | apply In.skip); assumption) | exact Rd.nil | assumption); (first | eq_refl | omega); omega; omega)
      | (apply G_stV; (first | exact wr_p | kernel_rfl); eq_refl; eq_refl; eq_refl; eq_refl; (repeat first | exact Upd.here | apply Upd.there | apply Upd.skip); infer_instance; infer_instance; eq_refl; omega; (try simp only [List.length_set, List.length_append, List.length_replicate]); omega))
      exact ⟨(i + 1, _), (by repeat first | exact trivial | refine ⟨rfl, ?_⟩), (by repeat first | exact Wk.nil | exact Wk.refl | (apply Wk.cons; (focus ((repeat first | exact Rem.here | apply Rem.there | apply Rem.skip); done))) | apply Wk.nilv | apply Wk.last | apply Wk.drop), ⟨hlt, hst.symm⟩, by simp only; omega⟩
    · obtain rfl : i = c.latches.length := by omega
      repeat' (first
      | (apply GC_seqK; intro K hK)
      | (apply hK; clear hK K)
      | (clear hK K; apply hK; clear hK K)
      | (apply GC_block)
      | (apply GC_region)
      | (apply GL_nil)
      | (apply thenG_normal)
      | (apply thenG_exit)
      | (apply blockG_hit)
      | (apply GC_exit)
      | (apply GC_if_false; eq_refl)
      | (apply GL_on; eq_refl; eq_refl)
      | (apply G_pv; eq_refl; first | exact trivial | omega)
      | (apply G_field; eq_refl)
      | (apply G_ldO; eq_refl; (repeat first | exact In.here | apply In.there | apply In.skip); assumption; eq_refl)
      | (apply G_cmpF; eq_refl; eq_refl; omega)
      | (apply G_len; eq_refl)
      | (apply G_fun; eq_refl))
      refine GC_loopK [0, 1, 2, 7, 10, 76, 77] (fun s : Nat × List Bool => [(78, nu s.1)]) (fun s => [.box b0 30 [.slice (some ⟨b1, 0, none⟩) (c.max + 1).toNat (c.max + 1).toNat], .vec booc 1 4 (some ⟨b1, 0, none⟩) (c.max + 1).toNat s.2, .old w none_]) (fun t => t.1 ≤ (ordM c).length ∧ t.2 = vAn c (ordM c) v2 t.1) (fun s => (ordM c).length - s.1) (0, _) (by repeat first | exact Pick.nil | (apply Pick.cons; eq_refl)) (by repeat first | exact trivial | refine ⟨rfl, ?_⟩) (by repeat first | exact Wk.nil | exact Wk.refl | (apply Wk.cons; (focus ((repeat first | exact Rem.here | apply Rem.there | apply Rem.skip); done))) | apply Wk.nilv | apply Wk.last | apply Wk.drop) ⟨Nat.zero_le _, rfl⟩ ?_
      rintro ⟨i, v3⟩ ⟨hi3, hv3⟩
      dsimp only at hi3 hv3 ⊢
      have hlen3 : v3.length = (c.max + 1).toNat := by rw [hv3, vAn_len, hlen2]
      rcases Nat.lt_or_ge i (ordM c).length with hlt | hge
      · have ho := R.ord (gt_mem (l := ordM c) (i := (i : Int)) (by omega) (by omega))
        have hst := vAn_succ c (ordM c) v2 i
        rw [← hv3] at hst
        obtain ⟨hd, hl1, hl2⟩ := R.gate (gt_mem (l := c.ands) ho.1 ho.2)
        have hl1' := hl1.has m1 hlen3
        have hl2' := hl2.has m1 hlen3
        unfold defR at hd
        have hlit : ∀ Γ, In Γ (.box b0 30 [.slice (some ⟨b1, 0, none⟩) (c.max + 1).toNat (c.max + 1).toNat]) → In Γ (.vec booc 1 4 (some ⟨b1, 0, none⟩) (c.max + 1).toNat v3) → ∀ l, hasL v3 l → ∀ w', Mem w' Γ → CVN Try.prog 150 ([nu l] ++ (#[pt b0] : Array Value).toList) w' fun r N => N = [] ∧ r = .bool (lv v3 l) := fun Γ h0 hi l hl w' M => of_cv (h0.box M) (hi.row M) hlen3.symm hl
        cases hx : lv v3 (gt c.ands (gt (ordM c) (i : Int))).2.1
        all_goals
          rw [hx] at hst
          repeat' (first
      | (apply G_callF; eq_refl; eq_refl; infer_instance; eq_refl; (apply hlit; (repeat first | exact In.here | apply In.there | apply In.skip); (repeat first | exact In.here | apply In.there | apply In.skip); assumption); (first | rw [hx] | skip); rintro _ _ ⟨rfl, rfl⟩)
      | (apply GC_seqK; intro K hK)
      | (apply hK; clear hK K)
      | (apply GC_block)
      | (apply GC_region)
      | (apply GL_nil)
      | (apply thenG_normal)
      | (apply blockG_normal)
      | (apply GC_skip)
      | (apply GC_if_true; eq_refl)
      | (apply GL_on; eq_refl; eq_refl)
      | (refine GC_draws (id := 17) [.q 0, .q 1, .q 2, .q 3, .q 4, .q 5, .q 6, .c 7, .q 8, .q 9, .q 10, .q 11, .c 12, .q 13, .q 14, .c 15] mixed (by kernel_rfl) (by kernel_rfl) ?_)
      | (apply GS_nil)
      | (apply GS_qon; eq_refl; eq_refl; eq_refl; eq_refl)
      | (apply GS_qoff; eq_refl; eq_refl; eq_refl; eq_refl)
      | (apply GS_con; eq_refl; eq_refl; eq_refl; eq_refl)
      | (apply GS_coff; eq_refl; eq_refl; eq_refl; eq_refl)
      | (apply G_pv; eq_refl; first | exact trivial | omega)
      | (apply G_field; eq_refl)
      | (apply G_ld; eq_refl; (repeat first | exact In.here | apply In.there | apply In.skip); eq_refl)
      | (apply G_ldO; eq_refl; (repeat first | exact In.here | apply In.there | apply In.skip); assumption; eq_refl)
      | (apply G_rd; eq_refl; (first | (apply Rd.own; (repeat first | exact In.here | apply In.there | apply In.skip); infer_instance) | (apply Rd.old; (repeat first | exact In.here | apply In.there | apply In.skip); assumption) | (apply Rd.oldR; (repeat first | exact In.here | apply In.there | apply In.skip); assumption) | exact Rd.nil | assumption); (case ih => infer_instance); omega; omega; eq_refl)
      | (apply G_rdW; eq_refl; (first | (apply Rd.own; (repeat first | exact In.here | apply In.there | apply In.skip); infer_instance) | (apply Rd.old; (repeat first | exact In.here | apply In.there | apply In.skip); assumption) | (apply Rd.oldR; (repeat first | exact In.here | apply In.there | apply In.skip); assumption) | exact Rd.nil | assumption); infer_instance; (case ih => infer_instance); omega; omega)
      | (apply G_cmpT; eq_refl; eq_refl; omega)
      | (apply G_ix; eq_refl; eq_refl; (first | (apply Rd.own; (repeat first | exact In.here | apply In.there | apply In.skip); infer_instance) | (apply Rd.old; (repeat first | exact In.here | apply In.there | apply In.skip); assumption) | (apply Rd.oldR; (repeat first | exact In.here | apply In.there | apply In.skip); assumption) | exact Rd.nil | assumption); (first | eq_refl | omega); omega; omega)
      | (apply G_alloc; eq_refl; intro _)
      | (apply G_stV; (first | exact wr_p | kernel_rfl); eq_refl; eq_refl; eq_refl; eq_refl; (repeat first | exact Upd.here | apply Upd.there | apply Upd.skip); infer_instance; infer_instance; eq_refl; omega; (try simp only [List.length_set, List.length_append, List.length_replicate]); omega)
      | (apply G_stW; (first | exact wr_p | kernel_rfl); eq_refl; eq_refl; eq_refl; eq_refl; (repeat first | exact Upd.here | apply Upd.there | apply Upd.skip); eq_refl))
        all_goals exact ⟨(i + 1, _), (by repeat first | exact trivial | refine ⟨rfl, ?_⟩), (by repeat first | exact Wk.nil | exact Wk.refl | (apply Wk.cons; (focus ((repeat first | exact Rem.here | apply Rem.there | apply Rem.skip); done))) | apply Wk.nilv | apply Wk.last | apply Wk.drop), ⟨hlt, hst.symm⟩, by simp only; omega⟩
      · obtain rfl : i = (ordM c).length := by omega
        repeat' (first
      | (apply GC_seqK; intro K hK)
      | (apply hK; clear hK K)
      | (clear hK K; apply hK; clear hK K)
      | (apply GC_region)
      | (apply GL_nil)
      | (apply thenG_normal)
      | (apply thenG_exit)
      | (apply blockG_hit)
      | (apply GC_ret)
      | (apply GC_exit)
      | (apply GC_if_false; eq_refl)
      | (apply retG1; eq_refl)
      | (apply GL_on; eq_refl; eq_refl)
      | (apply G_pv; eq_refl; first | exact trivial | omega)
      | (apply G_ld; eq_refl; (repeat first | exact In.here | apply In.there | apply In.skip); eq_refl)
      | (apply G_cmpF; eq_refl; eq_refl; omega))
        subst hv3 hv2 hv
        refine ⟨[_], (by repeat first | exact Wk.nil | exact Wk.refl | (apply Wk.cons; (focus ((repeat first | exact Rem.here | apply Rem.there | apply Rem.skip); done))) | apply Wk.nilv | apply Wk.last | apply Wk.drop), _, _, by rw [valM_len], rfl⟩
/-! ### slices.ContainsFunc at numbers -/
end SC
end Go.Proofs.Yticndofcfacopaa
end
section
/- trestlebook: SameBools, SpoilBools; trestlelaw07: lent, lit. -/
set_option linter.unusedVariables false
set_option linter.unusedSimpArgs false
namespace Go.Proofs.Yticndofcfacopaa
namespace SC
open Go.Proofs
attribute [local irreducible] WC WL WX WS WO OX Does DoesU Enters CV Pure thenQ blockQ retQ Wants retQC GC GL GS GX RdB thenG blockG retG Rd At gt CVN CVM
set_option maxRecDepth 100000
end SC
end Go.Proofs.Yticndofcfacopaa
end
section
/- sim: ready, step, Values, Next, Holds, Starts. -/
set_option linter.unusedVariables false
set_option linter.unusedSimpArgs false
namespace Go.Proofs.Yticndofcfacopaa
namespace SC
open Go.Proofs
/-- What ready answers. -/
def ReadyR (c : Circ) (h : Hd) (v : Value) (N : Mm) : Prop :=
  ((lookM c).2 ≠ 0 ∧ v = .tuple #[.pointer none, nu (lookM c).2] ∧ N = []) ∨ ((lookM c).2 = 0 ∧ ∃ p B k, v = .tuple #[pt p, nu 0] ∧ N = [.box p 156 (rcells c h B k), .vec icell 1 3 B k (ordM c)])
def StepR (c : Circ) (h : Hd) (s r : List Bool) (v : Value) (N : Mm) : Prop :=
  (stepE c s r ≠ 0 ∧ v = .tuple #[.pointer none, .slice none 0 0, nu (stepE c s r)] ∧ N = []) ∨
  (stepE c s r = 0 ∧ ∃ p B k A k', v = .tuple #[pt p, .slice A (valM c s r).length k', nu 0] ∧ N = [.vec booc 1 4 A k' (valM c s r), .box p 156 (rcells c h B k), .vec icell 1 3 B k (ordM c)])
attribute [local irreducible] WC WL WX WS WO OX Does DoesU Enters CV Pure thenQ blockQ retQ Wants retQC GC GL GS GX RdB thenG blockG retG Rd At gt CVN CVM
set_option maxRecDepth 100000
theorem ready_cv {w : World} {c : Circ} {h js : Hd} (H : CirIn w c h js) : CVN Try.prog 113 [.agg (ccells c h).toArray] w (ReadyR c h) := by
  have hord : ∀ Γ, In Γ (.old w none_) → ∀ w', Mem w' Γ → CVN Try.prog 61 [.agg (ccells c h).toArray] w' (OrdR c) := fun Γ hi w' M => have H' := H.chg (hi.old M); OrderG H'.at_ H'.sane
  refine CVN.enter 18 [2, 3] Try.func113 rfl rfl rfl (by decide) rfl ?_
  repeat' (first
      | (apply G_call; eq_refl; eq_refl; (apply hord; (repeat first | exact In.here | apply In.there | apply In.skip)); rintro _ _ (⟨he, rfl, rfl⟩ | ⟨he, A1, k1, rfl, rfl⟩))
      | (apply GC_seqK; intro K hK)
      | (apply hK; clear hK K)
      | (apply GC_region)
      | (apply GL_nil)
      | (apply thenG_normal)
      | (apply thenG_ret)
      | (apply GC_ret)
      | (apply GC_skip)
      | (apply GC_if_true; eq_refl)
      | (apply GC_if_false; eq_refl)
      | (apply retG2; eq_refl; eq_refl)
      | (apply GL_on; eq_refl; eq_refl)
      | (apply G_pv; eq_refl; first | exact trivial | omega)
      | (apply G_ldW; eq_refl; (repeat first | exact In.here | apply In.there | apply In.skip); eq_refl)
      | (apply G_cmpT; eq_refl; eq_refl; omega)
      | (apply G_cmpF; eq_refl; eq_refl; omega)
      | (apply G_box; eq_refl; eq_refl; intro _)
      | (apply GX_pure; apply build156_0_1 <;> eq_refl))
  · exact ⟨[], (by repeat first | exact Wk.nil | exact Wk.refl | (apply Wk.cons; (focus ((repeat first | exact Rem.here | apply Rem.there | apply Rem.skip); done))) | apply Wk.nilv | apply Wk.last | apply Wk.drop), .inl ⟨he, rfl, rfl⟩⟩
  · exact ⟨[.box _ 156 (rcells c h A1 k1), _], (by repeat first | exact Wk.nil | exact Wk.refl | (apply Wk.cons; (focus ((repeat first | exact Rem.here | apply Rem.there | apply Rem.skip); done))) | apply Wk.nilv | apply Wk.last | apply Wk.drop), .inr ⟨he, _, _, _, rfl, rfl⟩⟩
section
variable {w : World} {c : Circ} {h js : Hd} {S T : Option Addr} {k2 k3 : Nat} {s r : List Bool} (H : CirIn w c h js) (hS : RowA w booc 1 S s) (hT : RowA w booc 1 T r)
include H hS hT
theorem step_cv : CVN Try.prog 67 [.agg (ccells c h).toArray, .slice S s.length k2, .slice T r.length k3] w (StepR c h s r) := by
  have hrd : ∀ Γ, In Γ (.old w none_) → ∀ w', Mem w' Γ → CVN Try.prog 113 [.agg (ccells c h).toArray] w' (ReadyR c h) := fun Γ hi w' M => ready_cv (H.chg (hi.old M))
  have hvl : (lookM c).2 = 0 → s.length = c.latches.length → r.length = c.inputs.length → ∀ Γ p B k, In Γ (.old w none_) → In Γ (.box p 156 (rcells c h B k)) → In Γ (.vec icell 1 3 B k (ordM c)) → ∀ w', Mem w' Γ → CVN Try.prog 114 [pt p, .slice S s.length k2, .slice T r.length k3] w' _ := fun he h2 h3 Γ p B k hi hb hv w' M => by
    have H' := H.chg (hi.old M)
    exact values_cv (right_of H'.at_ H'.sane he) (hb.box M) H'.at_ (hv.row M) (hS.chg (hi.old M)) (hT.chg (hi.old M)) h2 h3
  refine CVN.enter 38 [6, 7, 8] Try.func67 rfl rfl rfl (by decide) rfl ?_
  repeat' (first
      | (apply G_call; eq_refl; eq_refl; (apply hrd; (repeat first | exact In.here | apply In.there | apply In.skip)); rintro _ _ (⟨he, rfl, rfl⟩ | ⟨he, p1, A1, k1, rfl, rfl⟩))
      | (apply G_call; eq_refl; eq_refl; (apply hvl he; omega; omega; (repeat first | exact In.here | apply In.there | apply In.skip); (repeat first | exact In.here | apply In.there | apply In.skip); (repeat first | exact In.here | apply In.there | apply In.skip)); rintro _ _ ⟨A2, k4, rfl, rfl⟩)
      | (apply GC_seqK; intro K hK)
      | (apply hK; clear hK K)
      | (apply GC_region)
      | (apply GL_nil)
      | (apply thenG_normal)
      | (apply thenG_ret)
      | (apply GC_ret)
      | (apply GC_skip)
      | (apply GC_if_true; eq_refl)
      | (apply GC_if_false; eq_refl)
      | (apply retG3; eq_refl; eq_refl; eq_refl)
      | (apply GL_on; eq_refl; eq_refl)
      | (apply GL_off; eq_refl; eq_refl)
      | (apply G_pv; eq_refl; first | exact trivial | omega)
      | (apply G_field; eq_refl)
      | (apply G_ld; eq_refl; (repeat first | exact In.here | apply In.there | apply In.skip); eq_refl)
      | (apply G_ldW; eq_refl; (repeat first | exact In.here | apply In.there | apply In.skip); eq_refl)
      | (apply G_cmpT; eq_refl; eq_refl; omega)
      | (apply G_cmpF; eq_refl; eq_refl; omega)
      | (apply G_cmp; eq_refl; eq_refl; all_goals intro _)
      | (apply G_len; eq_refl)
      | (apply G_box; eq_refl; eq_refl; intro _))
  all_goals first
    | exact ⟨[], (by repeat first | exact Wk.nil | exact Wk.refl | (apply Wk.cons; (focus ((repeat first | exact Rem.here | apply Rem.there | apply Rem.skip); done))) | apply Wk.nilv | apply Wk.last | apply Wk.drop), .inl ⟨by rw [stepE_look (by omega)]; assumption, by rw [stepE_look (by omega)], rfl⟩⟩
    | exact ⟨[], (by repeat first | exact Wk.nil | exact Wk.refl | (apply Wk.cons; (focus ((repeat first | exact Rem.here | apply Rem.there | apply Rem.skip); done))) | apply Wk.nilv | apply Wk.last | apply Wk.drop), .inl ⟨by rw [stepE_len (by omega) (by omega)]; decide, by rw [stepE_len (by omega) (by omega)], rfl⟩⟩
    | exact ⟨[_, _, _], (by repeat first | exact Wk.nil | exact Wk.refl | (apply Wk.cons; (focus ((repeat first | exact Rem.here | apply Rem.there | apply Rem.skip); done))) | apply Wk.nilv | apply Wk.last | apply Wk.drop), .inr ⟨stepE_ok (by omega) (by omega) (by omega), _, _, _, _, _, rfl, rfl⟩⟩
theorem ValuesP_cv : CVN Try.prog 31 [.agg (ccells c h).toArray, .slice S s.length k2, .slice T r.length k3] w (ValsR c s r) := by
  have hst : ∀ Γ, In Γ (.old w none_) → ∀ w', Mem w' Γ → CVN Try.prog 67 [.agg (ccells c h).toArray, .slice S s.length k2, .slice T r.length k3] w' (StepR c h s r) := fun Γ hi w' M => step_cv (H.chg (hi.old M)) (hS.chg (hi.old M)) (hT.chg (hi.old M))
  refine CVN.enter 21 [6, 7] Try.func31 rfl rfl rfl (by decide) rfl ?_
  repeat' (first
      | (apply G_call; eq_refl; eq_refl; (apply hst; (repeat first | exact In.here | apply In.there | apply In.skip)); rintro _ _ (⟨he, rfl, rfl⟩ | ⟨he, p1, B1, k1, A1, k4, rfl, rfl⟩))
      | (apply GC_seqK; intro K hK)
      | (apply hK; clear hK K)
      | (apply GC_region)
      | (apply GL_nil)
      | (apply thenG_normal)
      | (apply GC_ret)
      | (apply retG2; eq_refl; eq_refl)
      | (apply GL_on; eq_refl; eq_refl)
      | (apply G_pv; eq_refl; first | exact trivial | omega)
      | (apply G_ldW; eq_refl; (repeat first | exact In.here | apply In.there | apply In.skip); eq_refl)
      | (apply G_box; eq_refl; eq_refl; intro _))
  · have e1 : valsM c s r = [] := if_neg he
    unfold ValsR
    rw [e1]
    exact ⟨[.vec booc 1 4 none 0 []], (by repeat first | exact Wk.nil | exact Wk.refl | (apply Wk.cons; (focus ((repeat first | exact Rem.here | apply Rem.there | apply Rem.skip); done))) | apply Wk.nilv | apply Wk.last | apply Wk.drop), none, 0, rfl, rfl⟩
  · have e1 : valsM c s r = valM c s r := if_pos he
    unfold ValsR
    rw [e1, he]
    exact ⟨[_], (by repeat first | exact Wk.nil | exact Wk.refl | (apply Wk.cons; (focus ((repeat first | exact Rem.here | apply Rem.there | apply Rem.skip); done))) | apply Wk.nilv | apply Wk.last | apply Wk.drop), _, _, rfl, rfl⟩
end
end SC
end Go.Proofs.Yticndofcfacopaa
end
section
/- What is so in a step. trestleref07: moment. -/
set_option linter.unusedVariables false
set_option linter.unusedSimpArgs false
namespace Go.Proofs.Yticndofcfacopaa
namespace SC
open Go.Proofs
attribute [local irreducible] WC WL WX WS WO OX Does DoesU Enters CV Pure thenQ blockQ retQ Wants retQC GC GL GS GX RdB thenG blockG retG Rd At gt CVN CVM
set_option maxRecDepth 100000
end SC
end Go.Proofs.Yticndofcfacopaa
end
section
/- sim: moment. -/
set_option linter.unusedVariables false
set_option linter.unusedSimpArgs false
namespace Go.Proofs.Yticndofcfacopaa
namespace SC
open Go.Proofs
attribute [local irreducible] WC WL WX WS WO OX Does DoesU Enters CV Pure thenQ blockQ retQ Wants retQC GC GL GS GX RdB thenG blockG retG Rd At gt CVN CVM
set_option maxRecDepth 100000
end SC
end Go.Proofs.Yticndofcfacopaa
end
section
/- Traces and runs. trestleref07: Fits, Run0, Run; sim: Run. -/
set_option linter.unusedVariables false
set_option linter.unusedSimpArgs false
namespace Go.Proofs.Yticndofcfacopaa
namespace SC
open Go.Proofs
abbrev Hdl := Option Addr × Nat
/-- A trace, each row with its handle. -/
structure Trc where
  init : List Bool
  rows : List (Hdl × List Bool)
  loop : Int
/-- The states of a run, and what is so in its steps. -/
noncomputable def stM (c : Circ) (t : Trc) : Nat → List Bool
  | 0 => t.init
  | k + 1 => nxtM c (valM c (stM c t k) (gt t.rows (k : Int)).2)
attribute [local irreducible] WC WL WX WS WO OX Does DoesU Enters CV Pure thenQ blockQ retQ Wants retQC GC GL GS GX RdB thenG blockG retG Rd At gt CVN CVM
set_option maxRecDepth 100000
end SC
end Go.Proofs.Yticndofcfacopaa
end
section
/- trestleref07: Run; sim: Run. -/
set_option linter.unusedVariables false
set_option linter.unusedSimpArgs false
namespace Go.Proofs.Yticndofcfacopaa
namespace SC
open Go.Proofs
attribute [local irreducible] WC WL WX WS WO OX Does DoesU Enters CV Pure thenQ blockQ retQ Wants retQC GC GL GS GX RdB thenG blockG retG Rd At gt CVN CVM
set_option maxRecDepth 100000
end SC
end Go.Proofs.Yticndofcfacopaa
end
section
/- trestlelaw07: works. -/
set_option linter.unusedVariables false
set_option linter.unusedSimpArgs false
namespace Go.Proofs.Yticndofcfacopaa
namespace SC
open Go.Proofs
attribute [local irreducible] WC WL WX WS WO OX Does DoesU Enters CV Pure thenQ blockQ retQ Wants retQC GC GL GS GX RdB thenG blockG retG Rd At CVN CVM
set_option maxRecDepth 100000
end SC
end Go.Proofs.Yticndofcfacopaa
end
section
/- ShapeChecks: the walk. -/
set_option linter.unusedVariables false
set_option linter.unusedSimpArgs false
namespace Go.Proofs.Yticndofcfacopaa
namespace SC
open Go.Proofs
attribute [local irreducible] WC WL WX WS WO OX Does DoesU Enters CV Pure thenQ blockQ retQ Wants retQC
set_option maxRecDepth 100000
end SC
end Go.Proofs.Yticndofcfacopaa
end
section
/- trestlelaw07: SimStarts, SimSteps: the walks. -/
set_option linter.unusedVariables false
set_option linter.unusedSimpArgs false
namespace Go.Proofs.Yticndofcfacopaa
namespace SC
open Go.Proofs
/-- A lent circuit, as an entry. -/
def lentX (base : Nat) (c : Circ) (h js : Hd) : EntX where
  own := fun k => ∃ i, (lentRow c h js i).v.ownBlock = some k
  ok := fun w => CirLent w base c h js
  lt := fun w H k ⟨i, hi⟩ => (World.ownsRow.lt (H i) k hi).2
  keep := fun w w' S H hc hn => fun i => own_chg (H i) hc fun k hk => hn k ⟨i, hk⟩
theorem In.lent {Γ : Mm} {w w0 : World} {base : Nat} {c : Circ} {h js h' js' : Hd} (H : CirIn w0 c h js) (hi : In Γ (.any (lentX base c h' js'))) (M : Mem w Γ) : CirIn w c h' js' := ⟨CirLent.at (hi.ok M), H.sane, H.okay, H.fits⟩
attribute [local irreducible] WC WL WX WS WO OX Does DoesU Enters CV Pure thenQ blockQ retQ Wants retQC GC GL GS GX RdB thenG blockG retG Rd At gt CVN CVM
set_option maxRecDepth 100000
end SC
end Go.Proofs.Yticndofcfacopaa
end
section
/- trestlelaw07: SimSteps: the walk. -/
set_option linter.unusedVariables false
set_option linter.unusedSimpArgs false
namespace Go.Proofs.Yticndofcfacopaa
namespace SC
open Go.Proofs
theorem G_callM2 {P : Program} {n : Nat} {all : List Oper} {K : Env → Mm → Prop} {m : Md} {d : Option Tmp} {e : Env} {Γ Γ' : Mm} {ty : TypeId} {f : FuncId} [F : Go.Proofs.Yticndofcfacopaa.SC.Fn P f] {args : Array Operand} {ats : Array TypeId} {vs : List Value} {C : Mm} {R : Value → Mm → Prop} (hm : wrOk all m = true) (h : evs e args.toList = some vs) (hc : ∀ w, Mem w C → CVM P f vs w C R) (hC : Rems Γ C Γ') (hr : ∀ v N, R v N → GN P n all K m (push d v e) (N ++ Γ')) :
    GX P n all K m d (.call { callee := .value (.func f), args := args, argTypes := ats }) ty e Γ :=
  G_callM hm h hC (fun w M => hc w (Mem.takes hC M).left) hr
attribute [local irreducible] WC WL WX WS WO OX Does DoesU Enters CV Pure thenQ blockQ retQ Wants retQC GC GL GS GX RdB thenG blockG retG Rd At gt CVN CVM
set_option maxRecDepth 100000
end SC
end Go.Proofs.Yticndofcfacopaa
end
section
/- Lists of bools that come in. -/
set_option linter.unusedVariables false
set_option linter.unusedSimpArgs false
namespace Go.Proofs.Yticndofcfacopaa
namespace SC
open Go.Proofs
set_option maxRecDepth 100000
section
variable {H : Type} {enc : TypeId × Value → H} {W : World} {base : Nat} {spare : Nat → Bool} {held : Bool}
end
end SC
end Go.Proofs.Yticndofcfacopaa
end
section
/- What is so of the values of a right circuit; trestlelaw07: lit. -/
set_option linter.unusedVariables false
set_option linter.unusedSimpArgs false
namespace Go.Proofs.Yticndofcfacopaa
namespace SC
open Go.Proofs
/-! ### a list that is written from the left -/
section
variable {g : Nat → Nat} {h : List Bool → Nat → Bool} {v : List Bool}
def wrF (g : Nat → Nat) (h : List Bool → Nat → Bool) (v : List Bool) (i : Nat) : List Bool := (List.range i).foldl (fun v k => v.set (g k) (h v k)) v
theorem wrF_succ (i : Nat) : wrF g h v (i + 1) = (wrF g h v i).set (g i) (h (wrF g h v i) i) := by unfold wrF; rw [fold_snoc]
theorem wrF_len (i : Nat) : (wrF g h v i).length = v.length := by unfold wrF; rw [fold_len]
theorem wrF_off {x : Nat} {j : Nat} : ∀ (i : Nat), j ≤ i → (∀ k, j ≤ k → k < i → g k ≠ x) → (wrF g h v i).getD x false = (wrF g h v j).getD x false
  | 0, hj, _ => by obtain rfl : j = 0 := by omega
                   rfl
  | i + 1, hj, hn => by
    rcases Nat.lt_or_ge i j with hlt | hge
    · obtain rfl : j = i + 1 := by omega
      rfl
    · rw [wrF_succ, ← wrF_off i hge fun k h1 h2 => hn k h1 (by omega)]
      have := hn i hge (by omega)
      simp [List.getD, List.getElem?_set, this]
theorem wrF_at {i j : Nat} (hj : j < i) (hn : ∀ k, j < k → k < i → g k ≠ g j) (hl : g j < v.length) : (wrF g h v i).getD (g j) false = h (wrF g h v j) j := by
  rw [wrF_off (j := j + 1) i hj fun k h1 h2 => hn k h1 h2, wrF_succ]
  simp [List.getD, List.getElem?_set, wrF_len, hl]
end
theorem nodup_ix {l : List Int} (h : l.Nodup) {a b : Nat} (ha : a < l.length) (hb : b < l.length) (e : l[a] = l[b]) : a = b := by
  have hp := List.pairwise_iff_getElem.1 h
  rcases Nat.lt_trichotomy a b with h1 | h1 | h1
  · exact absurd e (hp a b ha hb h1)
  · exact h1
  · exact absurd e.symm (hp b a hb ha h1)
theorem gtB (v : List Bool) (i : Int) : gt v i = v.getD i.toNat false := rfl
/-- What the values are. -/
structure ValOk (c : Circ) (s r v : List Bool) : Prop where
  len : v.length = (c.max + 1).toNat
  zero : gt v 0 = false
  inp : ∀ i : Nat, i < c.inputs.length → gt v (gt c.inputs (i : Int) / 2) = gt r (i : Int)
  lat : ∀ i : Nat, i < c.latches.length → gt v ((gt c.latches (i : Int)).1 / 2) = gt s (i : Int)
  and : ∀ i : Nat, i < c.ands.length → gt v ((gt c.ands (i : Int)).1 / 2) = (lv v (gt c.ands (i : Int)).2.1 && lv v (gt c.ands (i : Int)).2.2)
theorem Right.ordAll {c : Circ} (R : Right c) {i : Nat} (hi : i < c.ands.length) : (i : Int) ∈ ordM c := Classical.byContradiction fun hn => by
  have h1 := nodup_size c.ands.length ((i : Int) :: ordM c) (List.nodup_cons.2 ⟨hn, R.all.told.nodup⟩) fun y hy => by
    rcases List.mem_cons.1 hy with rfl | hy
    · exact ⟨by omega, by omega⟩
    · exact R.all.told.all y hy
  have := R.ordLen
  simp only [List.length_cons] at h1
  omega
theorem val_ok {c : Circ} (R : Right c) (s r : List Bool) : ValOk c s r (valM c s r) := by
  have m0 := R.m0
  have hT := R.tab
  generalize htab : tabM c = t at *
  -- where they lie
  have kI : ∀ k : Nat, k < c.inputs.length → t[(gt c.inputs (k : Int) / 2).toNat]? = some (1, (k : Int)) ∧ (gt c.inputs (k : Int) / 2).toNat ≠ 0 := fun k hk => by
    have := (hT.inp k hk).2
    have h2 := R.inp (List.getElem_mem hk)
    rw [gt_nat hk]
    exact ⟨this, by unfold defR at h2; omega⟩
  have kL : ∀ k : Nat, k < c.latches.length → t[((gt c.latches (k : Int)).1 / 2).toNat]? = some (2, (k : Int)) ∧ ((gt c.latches (k : Int)).1 / 2).toNat ≠ 0 := fun k hk => by
    have := (hT.lat k hk).2.1
    have h2 := (R.lat (List.getElem_mem hk)).1
    rw [gt_nat hk]
    exact ⟨this, by unfold defR at h2; omega⟩
  have kG : ∀ k : Nat, k < c.ands.length → t[((gt c.ands (k : Int)).1 / 2).toNat]? = some (3, (k : Int)) ∧ ((gt c.ands (k : Int)).1 / 2).toNat ≠ 0 := fun k hk => by
    have := (hT.gat k hk).2
    have h2 := (R.gate (List.getElem_mem hk)).1
    rw [gt_nat hk]
    exact ⟨this, by unfold defR at h2; omega⟩
  have kA : ∀ k : Nat, k < (ordM c).length → t[((gt c.ands (gt (ordM c) (k : Int))).1 / 2).toNat]? = some (3, gt (ordM c) (k : Int)) ∧ ((gt c.ands (gt (ordM c) (k : Int))).1 / 2).toNat ≠ 0 := fun k hk => by
    have ho := R.ord (gt_mem (l := ordM c) (i := (k : Int)) (by omega) (by omega))
    have := kG (gt (ordM c) (k : Int)).toNat (by omega)
    rwa [show (((gt (ordM c) (k : Int)).toNat : Nat) : Int) = gt (ordM c) (k : Int) by omega] at this
  have hlen : t.length = (c.max + 1).toNat := by have := hT.len; omega
  have lt_of : ∀ {x : Nat} {m : Int × Int}, t[x]? = some m → x < (c.max + 1).toNat := fun h => by rw [← hlen]; exact (List.getElem?_eq_some_iff.1 h).1
  have inj : ∀ {a b : Nat}, a < (ordM c).length → b < (ordM c).length → gt (ordM c) (a : Int) = gt (ordM c) (b : Int) → a = b := fun {a b} ha hb e => by
    rw [gt_nat ha, gt_nat hb] at e
    exact nodup_ix R.all.told.nodup ha hb e
  -- the three walks
  let gI : Nat → Nat := fun k => (gt c.inputs (k : Int) / 2).toNat
  let gL : Nat → Nat := fun k => ((gt c.latches (k : Int)).1 / 2).toNat
  let gA : Nat → Nat := fun k => ((gt c.ands (gt (ordM c) (k : Int))).1 / 2).toNat
  let hA : List Bool → Nat → Bool := fun v k => lv v (gt c.ands (gt (ordM c) (k : Int))).2.1 && lv v (gt c.ands (gt (ordM c) (k : Int))).2.2
  have eI : vIn c r c.inputs.length = wrF gI (fun _ k => gt r (k : Int)) (List.replicate (c.max + 1).toNat false) c.inputs.length := rfl
  have eL : ∀ v, vLt c s v c.latches.length = wrF gL (fun _ k => gt s (k : Int)) v c.latches.length := fun _ => rfl
  have eA : ∀ v i, vAn c (ordM c) v i = wrF gA hA v i := fun _ _ => rfl
  have lI := vIn_len c r c.inputs.length
  have lL := vLt_len c s (vIn c r c.inputs.length) c.latches.length
  rw [lI] at lL
  have e0 : valM c s r = wrF gA hA (vLt c s (vIn c r c.inputs.length) c.latches.length) (ordM c).length := eA _ _
  -- what no gate writes
  have notA : ∀ x : Nat, (∀ k, k < (ordM c).length → gA k ≠ x) → (valM c s r).getD x false = (vLt c s (vIn c r c.inputs.length) c.latches.length).getD x false := fun x hx => by
    rw [e0, wrF_off (j := 0) _ (Nat.zero_le _) fun k _ hk => hx k hk]
    rfl
  have notL : ∀ x : Nat, (∀ k, k < c.latches.length → gL k ≠ x) → (vLt c s (vIn c r c.inputs.length) c.latches.length).getD x false = (vIn c r c.inputs.length).getD x false := fun x hx => by
    rw [eL, wrF_off (j := 0) _ (Nat.zero_le _) fun k _ hk => hx k hk]
    rfl
  refine ⟨valM_len c s r, ?_, fun i hi => ?_, fun i hi => ?_, fun i hi => ?_⟩
  · show (valM c s r).getD 0 false = false
    rw [notA _ fun k hk => (kA k hk).2, notL _ fun k hk => (kL k hk).2, eI, wrF_off (j := 0) _ (Nat.zero_le _) fun k _ hk => (kI k hk).2]
    show (List.replicate (c.max + 1).toNat false).getD 0 false = false
    cases hq : (c.max + 1).toNat <;> rfl
  · obtain ⟨k1, k2⟩ := kI i hi
    rw [gtB, notA _ fun k hk e => (by have := (kA k hk).1; rw [show ((gt c.ands (gt (ordM c) (k : Int))).1 / 2).toNat = (gt c.inputs (i : Int) / 2).toNat from e, k1] at this; simp at this),
      notL _ fun k hk e => (by have := (kL k hk).1; rw [show ((gt c.latches (k : Int)).1 / 2).toNat = (gt c.inputs (i : Int) / 2).toNat from e, k1] at this; simp at this), eI]
    refine wrF_at (g := gI) hi (fun k h1 h2 e => ?_) (by rw [List.length_replicate]; exact lt_of k1)
    have := (kI k h2).1
    rw [show (gt c.inputs (k : Int) / 2).toNat = (gt c.inputs (i : Int) / 2).toNat from e, k1] at this
    simp at this
    omega
  · obtain ⟨k1, k2⟩ := kL i hi
    rw [gtB, notA _ fun k hk e => (by have := (kA k hk).1; rw [show ((gt c.ands (gt (ordM c) (k : Int))).1 / 2).toNat = ((gt c.latches (i : Int)).1 / 2).toNat from e, k1] at this; simp at this), eL]
    refine wrF_at (g := gL) hi (fun k h1 h2 e => ?_) (by rw [lI]; exact lt_of k1)
    have := (kL k h2).1
    rw [show ((gt c.latches (k : Int)).1 / 2).toNat = ((gt c.latches (i : Int)).1 / 2).toNat from e, k1] at this
    simp at this
    omega
  · have hm := R.ordAll hi
    obtain ⟨j, hj, ej⟩ := List.mem_iff_getElem.1 hm
    have ej' : gt (ordM c) (j : Int) = (i : Int) := by rw [gt_nat hj]; exact ej
    have eg : gA j = ((gt c.ands (i : Int)).1 / 2).toNat := by show ((gt c.ands (gt (ordM c) (j : Int))).1 / 2).toNat = _; rw [ej']
    have hsp : ordM c = (ordM c).take j ++ (i : Int) :: (ordM c).drop (j + 1) := by
      rw [← ej]
      have h1 := List.take_append_drop j (ordM c)
      rw [List.drop_eq_getElem_cons hj] at h1
      exact h1.symm
    have hlow := (R.all.told.split hsp).1.low
    -- a literal of the gate's: nothing behind writes it
    have late : ∀ l : Int, l = (gt c.ands (i : Int)).2.1 ∨ l = (gt c.ands (i : Int)).2.2 → lv (valM c s r) l = lv (wrF gA hA (vLt c s (vIn c r c.inputs.length) c.latches.length) j) l := fun l hl => by
      unfold lv
      congr 1
      rw [gtB, gtB, e0]
      refine wrF_off (j := j) _ (by omega) fun k h1 h2 e => ?_
      have h3 := (kA k h2).1
      rw [show ((gt c.ands (gt (ordM c) (k : Int))).1 / 2).toNat = (l / 2).toNat from e] at h3
      have hb : gt (ordM c) (k : Int) ∈ gateB (tabM c) c (i : Int) := by
        rw [gateB_at _ c hi, htab]
        unfold belowM
        rw [mem_belowL]
        refine ⟨l, ?_, kindAt_get h3, atOf_get h3⟩
        rw [gt_nat hi] at hl
        rcases hl with rfl | rfl <;> simp
      have h4 := hlow _ hb
      obtain ⟨k', hk', ek⟩ := List.mem_iff_getElem.1 h4
      rw [List.length_take] at hk'
      rw [List.getElem_take] at ek
      have := inj (a := k') (b := k) (by omega) h2 (by rw [gt_nat (l := ordM c) (i := k') (by omega)]; exact ek)
      omega
    rw [gtB, ← eg, late _ (.inl rfl), late _ (.inr rfl), e0, wrF_at (g := gA) hj (fun k h1 h2 e => ?_) (by rw [lL]; exact lt_of (kA j hj).1)]
    · show (lv _ (gt c.ands (gt (ordM c) (j : Int))).2.1 && lv _ (gt c.ands (gt (ordM c) (j : Int))).2.2) = _
      rw [ej']
    · have h3 := (kA k h2).1
      have h4 := (kA j hj).1
      rw [show ((gt c.ands (gt (ordM c) (k : Int))).1 / 2).toNat = ((gt c.ands (gt (ordM c) (j : Int))).1 / 2).toNat from e, h4] at h3
      simp at h3
      have := inj hj h2 h3
      omega
attribute [local irreducible] WC WL WX WS WO OX Does DoesU Enters CV Pure thenQ blockQ retQ Wants retQC GC GL GS GX RdB thenG blockG retG Rd At gt CVN CVM
set_option maxRecDepth 100000
end SC
end Go.Proofs.Yticndofcfacopaa
end
section
/- trestlelaw07: SimGates: the walk. -/
set_option linter.unusedVariables false
set_option linter.unusedSimpArgs false
namespace Go.Proofs.Yticndofcfacopaa
namespace SC
open Go.Proofs
attribute [local irreducible] WC WL WX WS WO OX Does DoesU Enters CV Pure thenQ blockQ retQ Wants retQC GC GL GS GX RdB thenG blockG retG Rd At gt CVN CVM
set_option maxRecDepth 100000
end SC
end Go.Proofs.Yticndofcfacopaa
end
section
/- trestlebook: SameInts, SpoilInts, SameTrace; trestlelaw07: same. -/
set_option linter.unusedVariables false
set_option linter.unusedSimpArgs false
namespace Go.Proofs.Yticndofcfacopaa
namespace SC
open Go.Proofs Go.Maps
set_option maxRecDepth 100000
/-! ### spots -/
/-! ### traces -/
/-! ### the moments of a run, in memory -/
attribute [local irreducible] WC WL WX WS WO OX Does DoesU Enters CV Pure thenQ blockQ retQ Wants retQC GC GL GS GX RdB thenG blockG retG Rd At gt CVN CVM
end SC
end Go.Proofs.Yticndofcfacopaa
end
section
/- trestlebook: CopyTrace; runs of traces that read the same. -/
set_option linter.unusedVariables false
set_option linter.unusedSimpArgs false
namespace Go.Proofs.Yticndofcfacopaa
namespace SC
open Go.Proofs
attribute [local irreducible] WC WL WX WS WO OX Does DoesU Enters CV Pure thenQ blockQ retQ Wants retQC GC GL GS GX RdB thenG blockG retG Rd At gt CVN CVM
set_option maxRecDepth 100000
end SC
end Go.Proofs.Yticndofcfacopaa
end
section
/- Entries bound together; what runs answer. -/
set_option linter.unusedVariables false
set_option linter.unusedSimpArgs false
namespace Go.Proofs.Yticndofcfacopaa
namespace SC
open Go.Proofs
/-- Entries as one. -/
def bun (Δ : Mm) : EntX where
  own := owns Δ
  ok := fun w => Mem w Δ
  lt := fun w M k hk => M.lt hk
  keep := fun w w' S M hc hn => M.chg hc hn
theorem In.bun {Γ Δ : Mm} {w : World} (h : In Γ (.any (bun Δ))) (M : Mem w Γ) : Mem w Δ := h.ok M
theorem Rd.bun {α : Type} {Γ Δ : Mm} {enc : α → List Value} {sz : Nat} {A : Option Addr} {l : List α} (h : In Γ (.any (bun Δ))) (h0 : Rd Δ enc sz A l) : Rd Γ enc sz A l := fun w M => h0.at (h.bun M)
theorem CVN.bun {P : Program} {f : FuncId} {args : List Value} {w : World} {R : Value → Mm → Prop} (h : CVN P f args w R) : CVN P f args w fun v N => ∃ N', R v N' ∧ N = [.any (bun N')] :=
  CV.mono h fun v w' ⟨N, M, hR⟩ => ⟨[.any (SC.bun N)], Mem.join (.one M.left) M.right fun k ⟨E, hE, h1⟩ h2 => by
    simp only [List.mem_singleton] at hE
    subst hE
    exact M.sep k h1 h2, N, hR, rfl⟩
theorem Wk.left {Γ Δ : Mm} : Wk (Δ ++ Γ) Δ := ⟨fun w M => M.left, fun k hk => owns_append.2 (.inl hk)⟩
end SC
end Go.Proofs.Yticndofcfacopaa
end
section
/- trestlelaw07: SimRuns: the walk. -/
set_option linter.unusedVariables false
set_option linter.unusedSimpArgs false
namespace Go.Proofs.Yticndofcfacopaa
namespace SC
open Go.Proofs
attribute [local irreducible] WC WL WX WS WO OX Does DoesU Enters CV Pure thenQ blockQ retQ Wants retQC GC GL GS GX RdB thenG blockG retG Rd At gt CVN CVM
attribute [local irreducible] fam bun
set_option maxRecDepth 100000
end SC
end Go.Proofs.Yticndofcfacopaa
end
section
/- Traces that come in. -/
set_option linter.unusedVariables false
set_option linter.unusedSimpArgs false
namespace Go.Proofs.Yticndofcfacopaa
namespace SC
open Go.Proofs
set_option maxRecDepth 100000
section
variable {H : Type} {enc : TypeId × Value → H} {W : World} {base : Nat} {spare : Nat → Bool} {held : Bool}
end
end SC
end Go.Proofs.Yticndofcfacopaa
end
section
/- A back part of a slice; numbers without a sign; a run from one of its states. -/
set_option linter.unusedVariables false
set_option linter.unusedSimpArgs false
namespace Go.Proofs.Yticndofcfacopaa
namespace SC
open Go.Proofs
set_option maxRecDepth 100000
section
variable {n : Nat} {all : List Oper} {K : Env → Mm → Prop} {m : Md} {e : Env} {Γ : Mm} {d : Option Tmp} {ty t t' t0 : TypeId} {x y : Operand} {td : TypeDesc} {sz sz1 by_ by1 : Nat} {zv z1 : Value} {ag ag1 : Bool}
theorem p_toU64 {a : Int} (h : ev e x = some (nu a)) : Pure Try.prog (.convert 3 59 x) ty e (.int .u64 (a % 18446744073709551616)) := by
  unfold Pure Does
  intro w ρ dst pos af g hρ
  have hw : IntKind.u64.wrap a = a % 18446744073709551616 := by rw [IntKind.wrap_u64]
  simp [execOp, hρ _ _ h, convert, Conv.intToInt, run_underlying Try.underlying3, run_underlying Try.underlying59, hw]
theorem p_ofU64 {a : Int} (h : ev e x = some (.int .u64 a)) (h0 : 0 ≤ a) (h1 : a ≤ 9223372036854775807) : Pure Try.prog (.convert 59 3 x) ty e (nu a) := by
  unfold Pure Does
  intro w ρ dst pos af g hρ
  simp [execOp, hρ _ _ h, convert, Conv.intToInt, run_underlying Try.underlying3, run_underlying Try.underlying59, wrap64_id (n := a) (by omega) (by omega)]
theorem p_remU {P : Program} {a b : Int} (h : ev e x = some (.int .u64 a)) (h1 : ev e y = some (.int .u64 b)) (h2 : 0 ≤ a) (h4 : 0 < b) : Pure P (.binOp .rem t x y t') ty e (.int .u64 (a % b)) := by
  intro w ρ dst pos af g hρ
  have h5 : b ≠ 0 := by omega
  simp [execOp, hρ _ _ h, hρ _ _ h1, eqGuard, binOp, Op.intDiv, h5, Int.tmod_eq_emod_of_nonneg h2]
theorem G_toU {a : Int} (h : ev e x = some (nu a)) (hr : GN Try.prog n all K m (push d (.int .u64 (a % 18446744073709551616)) e) Γ) : GX Try.prog n all K m d (.convert 3 59 x) ty e Γ := GX_pure (p_toU64 h) hr
theorem G_ofU {a b : Int} (h : ev e x = some (.int .u64 a)) (hab : a = b) (h0 : 0 ≤ b) (h1 : b ≤ 9223372036854775807) (hr : GN Try.prog n all K m (push d (nu b) e) Γ) : GX Try.prog n all K m d (.convert 59 3 x) ty e Γ := GX_pure (p_ofU64 (by rw [← hab]; exact h) h0 h1) hr
theorem G_remU {P : Program} {a b : Int} (h : ev e x = some (.int .u64 a)) (h1 : ev e y = some (.int .u64 b)) (h2 : 0 ≤ a) (h4 : 0 < b) (hr : GN P n all K m (push d (.int .u64 (a % b)) e) Γ) : GX P n all K m d (.binOp .rem t x y t') ty e Γ := GX_pure (p_remU h h1 h2 h4) hr
end
theorem RowA.drop {α : Type} {w : World} {enc : α → List Value} {sz : Nat} {A : Option Addr} {l : List α} (h : RowA w enc sz A l) (i : Nat) : RowA w enc sz (A.map (·.add (i * sz))) (l.drop i) := fun k hk => by
  rw [List.length_drop] at hk
  obtain ⟨p, rfl, hp⟩ := h (i + k) (by omega)
  refine ⟨p.add (i * sz), rfl, fun j u hj => ?_⟩
  rw [List.getElem_drop] at hj
  have := hp j u hj
  rw [show ((i + k : Nat) : Int).toNat = i + k by omega, Nat.add_mul] at this
  rw [show (k : Int).toNat = k by omega, Addr.add_add p]
  exact this
/-- The trace from a state on. -/
noncomputable def tail (c : Circ) (t : Trc) (i : Nat) : Trc := ⟨stM c t i, t.rows.drop i, -1⟩
end SC
end Go.Proofs.Yticndofcfacopaa
end
section
/- trestleref03: Lit, Lits, Binary. -/
set_option linter.unusedVariables false
set_option linter.unusedSimpArgs false
namespace Go.Proofs.Yticndofcfacopaa
namespace SC
open Go.Proofs
attribute [local irreducible] WC WL WX WS WO OX Does DoesU Enters CV Pure thenQ blockQ retQ Wants retQC GC GL GS GX RdB thenG blockG retG Rd At gt CVN CVM
set_option maxRecDepth 100000
end SC
end Go.Proofs.Yticndofcfacopaa
end
section
/- The renumbering's map: what it gives to each variable of a right circuit. -/
set_option linter.unusedVariables false
set_option linter.unusedSimpArgs false
namespace Go.Proofs.Yticndofcfacopaa
namespace SC
open Go.Proofs
theorem nodup_map {α β : Type} {f : α → β} {l : List α} (hf : ∀ a b, f a = f b → a = b) (h : l.Nodup) : (l.map f).Nodup := by
  rw [List.Nodup, List.pairwise_map]
  exact h.imp fun {a b} hab e => hab (hf a b e)
section
variable {c : Circ} (R : Right c)
include R
/-- What defines a variable. -/
theorem Right.defs {k : Int} (h : k ∈ defsOf c (ordM c)) : defR c k := by
  unfold defsOf at h
  rcases List.mem_append.1 h with h | h
  · rcases List.mem_append.1 h with h | h
    · exact R.inp h
    · obtain ⟨x, hx, rfl⟩ := List.mem_map.1 h
      exact (R.lat hx).1
  · obtain ⟨i, hi, rfl⟩ := List.mem_map.1 h
    have ho := R.ord hi
    refine (R.gate ?_).1
    unfold andAt
    have hlt : i.toNat < c.ands.length := by omega
    simp [hlt]
end
end SC
end Go.Proofs.Yticndofcfacopaa
end
section
/- Definitions that are apart pass; the renumbered circuit's definitions. -/
set_option linter.unusedVariables false
set_option linter.unusedSimpArgs false
namespace Go.Proofs.Yticndofcfacopaa
namespace SC
open Go.Proofs
theorem kind_set {t : Tab} {l v : Int} {m : Int × Int} (hl : 0 ≤ l) (hv : 0 ≤ v) (hne : v ≠ l) : kindAt (t.set l.toNat m) v = kindAt t v := by
  unfold kindAt
  rw [List.getElem?_set_ne (by omega)]
theorem defM_ok {max : Int} {t : Tab} {l : Int} {m : Int × Int} (h : ¬ defBad max l) (hk : kindAt t (l / 2) = 0) : defM max t l m = (0, t.set (l / 2).toNat m) := by
  unfold defM
  rw [if_neg h, if_neg (by omega)]
theorem goDef_pass {max kind : Int} : ∀ (ls : List Int) (k : Nat) (t : Tab), (∀ l ∈ ls, ¬ defBad max l) → (∀ l ∈ ls, kindAt t (l / 2) = 0) → (ls.map (· / 2)).Nodup → (goDef max kind ls k t).1.2 = 0 ∧ ∀ v, 0 ≤ v → (∀ l ∈ ls, v ≠ l / 2) → kindAt (goDef max kind ls k t).2 v = kindAt t v
  | [], k, t, _, _, _ => ⟨rfl, fun _ _ _ => rfl⟩
  | l :: r, k, t, hb, hk, hn => by
    have h0 := hb l List.mem_cons_self
    have hge : 0 ≤ l / 2 := by unfold defBad at h0; omega
    have e := defM_ok (m := (kind, (k : Int))) h0 (hk l List.mem_cons_self)
    rw [List.map_cons, List.nodup_cons] at hn
    have hne : ∀ l' ∈ r, l' / 2 ≠ l / 2 := fun l' hl' he => hn.1 (he ▸ List.mem_map.2 ⟨l', hl', rfl⟩)
    obtain ⟨i1, i2⟩ := goDef_pass r (k + 1) (t.set (l / 2).toNat (kind, (k : Int))) (fun l' hl' => hb l' (List.mem_cons_of_mem _ hl')) (fun l' hl' => by
      have h1 := hb l' (List.mem_cons_of_mem _ hl')
      rw [kind_set hge (by unfold defBad at h1; omega) (hne l' hl')]
      exact hk l' (List.mem_cons_of_mem _ hl')) hn.2
    unfold goDef
    rw [e, if_neg (by simp)]
    exact ⟨i1, fun v hv hx => by rw [i2 v hv fun l' hl' => hx l' (List.mem_cons_of_mem _ hl'), kind_set hge hv (hx l List.mem_cons_self)]⟩
theorem goDefL_pass {max : Int} : ∀ (ls : List Tri) (k : Nat) (t : Tab), (∀ x ∈ ls, ¬ badReset x) → (goDef max 2 (ls.map (·.1)) k t).1.2 = 0 → goDefL max ls k t = goDef max 2 (ls.map (·.1)) k t
  | [], k, t, _, _ => rfl
  | x :: r, k, t, hb, h => by
    have e1 : (x :: r).map (·.1) = x.1 :: r.map (·.1) := rfl
    rw [e1] at h ⊢
    unfold goDef at h ⊢
    unfold goDefL
    split at h
    · rename_i hh; exact absurd h hh
    · rename_i hh
      rw [if_neg hh, if_neg hh, if_neg (hb x List.mem_cons_self)]
      exact goDefL_pass r (k + 1) _ (fun y hy => hb y (List.mem_cons_of_mem _ hy)) h
/-- All that a circuit defines. -/
def allDefs (c : Circ) : List Int := c.inputs ++ c.latches.map (·.1) ++ c.ands.map (·.1)
theorem kind_T0 (c : Circ) (v : Int) : kindAt (T0 c) v = 0 := by
  unfold kindAt T0
  rw [List.getElem?_replicate]
  split <;> rfl
theorem defines_pass {c : Circ} (hb : ∀ l ∈ allDefs c, ¬ defBad c.max l) (hr : ∀ x ∈ c.latches, ¬ badReset x) (hn : ((allDefs c).map (· / 2)).Nodup) : (definesM c (T0 c)).1.2 = 0 := by
  unfold allDefs at hb hn
  rw [List.map_append, List.map_append, List.nodup_append, List.nodup_append] at hn
  obtain ⟨⟨n1, n2, n12⟩, n3, n123⟩ := hn
  have b1 : ∀ l ∈ c.inputs, ¬ defBad c.max l := fun l hl => hb l (List.mem_append_left _ (List.mem_append_left _ hl))
  have b2 : ∀ l ∈ c.latches.map (·.1), ¬ defBad c.max l := fun l hl => hb l (List.mem_append_left _ (List.mem_append_right _ hl))
  have b3 : ∀ l ∈ c.ands.map (·.1), ¬ defBad c.max l := fun l hl => hb l (List.mem_append_right _ hl)
  have pos : ∀ {l : Int}, ¬ defBad c.max l → 0 ≤ l / 2 := fun h => by unfold defBad at h; omega
  obtain ⟨p1, q1⟩ := goDef_pass (kind := 1) c.inputs 0 (T0 c) b1 (fun _ _ => kind_T0 c _) n1
  have k2 : ∀ l ∈ c.latches.map (·.1), kindAt (goDef c.max 1 c.inputs 0 (T0 c)).2 (l / 2) = 0 := fun l hl => by
    rw [q1 _ (pos (b2 l hl)) fun l' hl' e => n12 _ (List.mem_map.2 ⟨l', hl', rfl⟩) _ (List.mem_map.2 ⟨l, hl, rfl⟩) e.symm, kind_T0]
  obtain ⟨p2, q2⟩ := goDef_pass (kind := 2) (c.latches.map (·.1)) 0 (goDef c.max 1 c.inputs 0 (T0 c)).2 b2 k2 n2
  have e2 := goDefL_pass c.latches 0 (goDef c.max 1 c.inputs 0 (T0 c)).2 hr p2
  have k3 : ∀ l ∈ c.ands.map (·.1), kindAt (goDef c.max 2 (c.latches.map (·.1)) 0 (goDef c.max 1 c.inputs 0 (T0 c)).2).2 (l / 2) = 0 := fun l hl => by
    have m3 : l / 2 ∈ (c.ands.map (·.1)).map (· / 2) := List.mem_map.2 ⟨l, hl, rfl⟩
    rw [q2 _ (pos (b3 l hl)) fun l' hl' e => n123 _ (List.mem_append_right _ (List.mem_map.2 ⟨l', hl', rfl⟩)) _ m3 e.symm,
      q1 _ (pos (b3 l hl)) fun l' hl' e => n123 _ (List.mem_append_left _ (List.mem_map.2 ⟨l', hl', rfl⟩)) _ m3 e.symm, kind_T0]
  obtain ⟨p3, q3⟩ := goDef_pass (kind := 3) (c.ands.map (·.1)) 0 (goDef c.max 2 (c.latches.map (·.1)) 0 (goDef c.max 1 c.inputs 0 (T0 c)).2).2 b3 k3 n3
  unfold definesM
  rw [if_neg (by rw [p1]; decide), e2, if_neg (by rw [p2]; decide)]
  exact p3
/-! ### the renumbered circuit -/
section
variable {c : Circ} (R : Right c)
/-- The circuit in the binary order; the map. -/
noncomputable abbrev renC (c : Circ) : Circ := renM c (ordM c)
noncomputable abbrev toM (c : Circ) : List Int := mapOf c.max (defsOf c (ordM c))
include R
end
end SC
end Go.Proofs.Yticndofcfacopaa
end
section
/- The renumbered circuit is right. -/
set_option linter.unusedVariables false
set_option linter.unusedSimpArgs false
namespace Go.Proofs.Yticndofcfacopaa
namespace SC
open Go.Proofs
theorem sizesM_zero {c : Circ} (h0 : 0 ≤ c.max) (h1 : c.max ≤ 16384) (h2 : ∀ n ∈ c.lens, n ≤ 16384) (h3 : sumW c.justice ≤ 16384) : sizesM c = 0 := by
  unfold sizesM
  rw [if_neg (by omega), if_neg]
  rintro (⟨n, hn, hh⟩ | hh)
  · have := h2 n hn; omega
  · omega
theorem kind_def {c : Circ} {t : Tab} (T : TabOk c t) {l : Int} (h : l ∈ allDefs c) : kindAt t (l / 2) ≠ 0 := by
  unfold allDefs at h
  rcases List.mem_append.1 h with h | h
  · rcases List.mem_append.1 h with h | h
    · obtain ⟨j, hj, rfl⟩ := List.mem_iff_getElem.1 h
      rw [kindAt_get (T.inp j hj).2]
      show (1 : Int) ≠ 0
      decide
    · obtain ⟨x, hx, rfl⟩ := List.mem_map.1 h
      obtain ⟨j, hj, rfl⟩ := List.mem_iff_getElem.1 hx
      rw [kindAt_get (T.lat j hj).2.1]
      show (2 : Int) ≠ 0
      decide
  · obtain ⟨x, hx, rfl⟩ := List.mem_map.1 h
    obtain ⟨j, hj, rfl⟩ := List.mem_iff_getElem.1 hx
    rw [kindAt_get (T.gat j hj).2]
    show (3 : Int) ≠ 0
    decide
section
variable {c : Circ} (R : Right c)
include R
end
end SC
end Go.Proofs.Yticndofcfacopaa
end
section
/- The renumbered circuit's order; it looks right. -/
set_option linter.unusedVariables false
set_option linter.unusedSimpArgs false
namespace Go.Proofs.Yticndofcfacopaa
namespace SC
open Go.Proofs
/-- 0, 1, .. -/
def upto (n : Nat) : List Int := (List.range n).map fun (k : Nat) => (k : Int)
theorem mem_upto {n : Nat} {y : Int} : y ∈ upto n ↔ 0 ≤ y ∧ y < n := by
  unfold upto
  rw [List.mem_map]
  constructor
  · rintro ⟨k, hk, rfl⟩
    have := List.mem_range.1 hk
    omega
  · rintro ⟨h0, h1⟩
    exact ⟨y.toNat, List.mem_range.2 (by omega), by omega⟩
theorem upto_len (n : Nat) : (upto n).length = n := by unfold upto; simp
theorem all_upto {n : Nat} {B : Int → List Int} (h : ∀ k : Nat, k < n → ∀ z ∈ B (k : Int), 0 ≤ z ∧ z < k) : All n B (upto n) := by
  have told : ∀ m, m ≤ n → Told n B (upto m) := by
    intro m
    induction m with
    | zero => intro _; exact Told.nil
    | succ m ih =>
      intro hm
      have e : upto (m + 1) = upto m ++ [(m : Int)] := by unfold upto; rw [List.range_succ, List.map_append]; rfl
      rw [e]
      refine Told.snoc (ih (by omega)) ⟨⟨by omega, by omega⟩, fun hh => ?_, fun z hz => mem_upto.2 (h m (by omega) z hz)⟩ fun y hy => ?_
      · have := (mem_upto.1 hh).2
        omega
      · have h1 := hy.rg
        have h2 := hy.new
        rw [mem_upto] at h2
        unfold rg at h1
        omega
  refine ⟨told n (Nat.le_refl _), fun y hy => ?_⟩
  have h1 := hy.rg
  have h2 := hy.new
  rw [mem_upto] at h2
  unfold rg at h1
  omega
section
variable {c : Circ} (R : Right c)
include R
/-- A gate that another one uses was told before it. -/
theorem Right.low {k : Nat} (hk : k < (ordM c).length) {l : Int} (hl : l = (andAt c (ordM c)[k]).2.1 ∨ l = (andAt c (ordM c)[k]).2.2) {j : Nat} (hj : j < (ordM c).length) (e : l / 2 = (andAt c (ordM c)[j]).1 / 2) : j < k := by
  have ho := R.ord (List.getElem_mem hj)
  have hlt : (ordM c)[j].toNat < c.ands.length := by omega
  have h3 := (R.tab.gat _ hlt).2
  have ea : andAt c (ordM c)[j] = c.ands[(ordM c)[j].toNat] := by unfold andAt; simp [hlt]
  rw [← ea, ← e, show (((ordM c)[j].toNat : Nat) : Int) = (ordM c)[j] by omega] at h3
  have hsp : ordM c = (ordM c).take k ++ (ordM c)[k] :: (ordM c).drop (k + 1) := by
    have h1 := List.take_append_drop k (ordM c)
    rw [List.drop_eq_getElem_cons hk] at h1
    exact h1.symm
  have hlow := (R.all.told.split hsp).1.low
  have hb : (ordM c)[j] ∈ gateB (tabM c) c (ordM c)[k] := by
    show (ordM c)[j] ∈ belowL (tabM c) [(andAt c (ordM c)[k]).2.1, (andAt c (ordM c)[k]).2.2]
    rw [mem_belowL]
    exact ⟨l, by rcases hl with rfl | rfl <;> simp, kindAt_get h3, atOf_get h3⟩
  obtain ⟨k', hk', ek⟩ := List.mem_iff_getElem.1 (hlow _ hb)
  rw [List.length_take] at hk'
  rw [List.getElem_take] at ek
  have := nodup_ix R.all.told.nodup (a := k') (b := j) (by omega) hj ek
  omega
end
end SC
end Go.Proofs.Yticndofcfacopaa
end
section
/- The renumbered circuit's values and runs. -/
set_option linter.unusedVariables false
set_option linter.unusedSimpArgs false
namespace Go.Proofs.Yticndofcfacopaa
namespace SC
open Go.Proofs
section
variable {c : Circ}
end
section
variable {c : Circ} (R : Right c)
include R
end
end SC
end Go.Proofs.Yticndofcfacopaa
end
section
/- Runs of the renumbered circuit. -/
set_option linter.unusedVariables false
set_option linter.unusedSimpArgs false
namespace Go.Proofs.Yticndofcfacopaa
namespace SC
open Go.Proofs
section
variable {c : Circ} (R : Right c) (R' : Right (renC c))
include R R'
end
end SC
end Go.Proofs.Yticndofcfacopaa
end
section
/- The binary order: a right circuit has it just if renumbering leaves it as it is. -/
set_option linter.unusedVariables false
set_option linter.unusedSimpArgs false
namespace Go.Proofs.Yticndofcfacopaa
namespace SC
open Go.Proofs
section
variable {c : Circ} (R : Right c)
include R
end
end SC
end Go.Proofs.Yticndofcfacopaa
end
section
/- shape: Renumber, by entries. -/
set_option linter.unusedVariables false
set_option linter.unusedSimpArgs false
namespace Go.Proofs.Yticndofcfacopaa
namespace SC
open Go.Proofs
section
variable {c : Circ} (R : Right c)
include R
end
/-- A renumbered circuit of its own and its map, as one entry. -/
def renX (base : Nat) (c : Circ) (h js : Hd) (A : Option Addr) (k : Nat) : EntX where
  own := fun b => (∃ i, (cirRows (renC c) h js js (renC c).justice.length i).v.ownBlock = some b) ∨ (Value.slice A (toM c).length k).ownBlock = some b
  ok := fun w => CirOwn w base (renC c) h js ∧ w.ownsRow base 3 1 (.slice A (toM c).length k) (toM c).length ((toM c).flatMap icell)
  lt := fun w H b hb => by
    rcases hb with ⟨i, hi⟩ | hb
    · exact (Rows.lt H.1 hi).2
    · exact (World.ownsRow.lt H.2 b hb).2
  keep := fun w w' S H hc hn => ⟨Rows.chg H.1 hc fun i b hb => hn b (.inl ⟨i, hb⟩), own_chg H.2 hc fun b hb => hn b (.inr hb)⟩
attribute [local irreducible] WC WL WX WS WO OX Does DoesU Enters CV Pure thenQ blockQ retQ Wants retQC GC GL GS GX RdB thenG blockG retG Rd At gt CVN CVM
set_option maxRecDepth 100000
end SC
end Go.Proofs.Yticndofcfacopaa
end
section
/- trestlelaw07: SimNumbers: the walk. -/
set_option linter.unusedVariables false
set_option linter.unusedSimpArgs false
namespace Go.Proofs.Yticndofcfacopaa
namespace SC
open Go.Proofs
attribute [local irreducible] WC WL WX WS WO OX Does DoesU Enters CV Pure thenQ blockQ retQ Wants retQC GC GL GS GX RdB thenG blockG retG Rd At gt CVN CVM
attribute [local irreducible] fam bun renX
set_option maxRecDepth 100000
end SC
end Go.Proofs.Yticndofcfacopaa
end
section
/- slices.Equal, slices.EqualFunc; shape's Same. -/
set_option linter.unusedVariables false
set_option linter.unusedSimpArgs false
namespace Go.Proofs.Yticndofcfacopaa
namespace SC
open Go.Proofs
attribute [local irreducible] WC WL WX WS WO OX Does DoesU Enters CV Pure thenQ blockQ retQ Wants retQC
set_option maxRecDepth 100000
end SC
end Go.Proofs.Yticndofcfacopaa
end
section
/- slices.EqualFunc at lists of lists; shape's Same. -/
set_option linter.unusedVariables false
set_option linter.unusedSimpArgs false
namespace Go.Proofs.Yticndofcfacopaa
namespace SC
open Go.Proofs
attribute [local irreducible] WC WL WX WS WO OX Does DoesU Enters CV Pure thenQ blockQ retQ Wants retQC
set_option maxRecDepth 100000
end SC
end Go.Proofs.Yticndofcfacopaa
end
section
/- trestlebook: SpoilCircuit. -/
set_option linter.unusedVariables false
set_option linter.unusedSimpArgs false
namespace Go.Proofs.Yticndofcfacopaa
namespace SC
open Go.Proofs
attribute [local irreducible] WC WL WX WS WO OX Does DoesU Enters CV Pure thenQ blockQ retQ Wants retQC
set_option maxRecDepth 100000
end SC
end Go.Proofs.Yticndofcfacopaa
end
section
/- IsBinary, of the reference and of shape. -/
set_option linter.unusedVariables false
set_option linter.unusedSimpArgs false
namespace Go.Proofs.Yticndofcfacopaa
namespace SC
open Go.Proofs
attribute [local irreducible] WC WL WX WS WO OX Does DoesU Enters CV Pure thenQ blockQ retQ Wants retQC GC GL GS GX RdB thenG blockG retG Rd At gt CVN CVM
attribute [local irreducible] renX
set_option maxRecDepth 100000
end SC
end Go.Proofs.Yticndofcfacopaa
end
section
/- The renumbered circuit has the binary order. -/
set_option linter.unusedVariables false
set_option linter.unusedSimpArgs false
namespace Go.Proofs.Yticndofcfacopaa
namespace SC
open Go.Proofs
section
variable {c : Circ} (R : Right c)
include R
end
end SC
end Go.Proofs.Yticndofcfacopaa
end
section
/- trestlelaw03: ShapeSettles: the walk. -/
set_option linter.unusedVariables false
set_option linter.unusedSimpArgs false
namespace Go.Proofs.Yticndofcfacopaa
namespace SC
open Go.Proofs
attribute [local irreducible] WC WL WX WS WO OX Does DoesU Enters CV Pure thenQ blockQ retQ Wants retQC GC GL GS GX RdB thenG blockG retG Rd At gt CVN CVM
attribute [local irreducible] renX
set_option maxRecDepth 100000
end SC
end Go.Proofs.Yticndofcfacopaa
end
section
/- trestlebook: CopyCircuit by entries; trestleref03: Renumber. -/
set_option linter.unusedVariables false
set_option linter.unusedSimpArgs false
namespace Go.Proofs.Yticndofcfacopaa
namespace SC
open Go.Proofs
end SC
end Go.Proofs.Yticndofcfacopaa
end
section
/- A formula in memory; the reference's formula of some gates. -/
set_option linter.unusedVariables false
set_option linter.unusedSimpArgs false
namespace Go.Proofs.Yticndofcfacopaa
namespace SC
open Go.Proofs
attribute [local irreducible] WC WL WX WS WO OX Does DoesU Enters CV Pure thenQ blockQ retQ Wants retQC GC GL GS GX RdB thenG blockG retG Rd At gt CVN CVM
set_option maxRecDepth 100000
end SC
end Go.Proofs.Yticndofcfacopaa
end
section
/- encode: put, gate, made. -/
set_option linter.unusedVariables false
set_option linter.unusedSimpArgs false
namespace Go.Proofs.Yticndofcfacopaa
namespace SC
open Go.Proofs
theorem CVM.same {P : Program} {f : FuncId} {args : List Value} {w : World} {C C' : Mm} {R : Value → Mm → Prop} (h : CVM P f args w C' R) (he : ∀ k, owns C' k ↔ owns C k) : CVM P f args w C R := by
  have e : owns C' = owns C := funext fun k => propext (he k)
  unfold CVM at h ⊢
  rw [e] at h
  exact h
section
variable {P : Program} {e : Env} {w : World} {t : TypeId} {td : TypeDesc} {sz by_ : Nat} {zv : Value}
end
attribute [local irreducible] WC WL WX WS WO OX Does DoesU Enters CV Pure thenQ blockQ retQ Wants retQC GC GL GS GX RdB thenG blockG retG Rd At gt CVN CVM
set_option maxRecDepth 100000
end SC
end Go.Proofs.Yticndofcfacopaa
end
section
/- encode, trestleref15: Gates, Lit. -/
set_option linter.unusedVariables false
set_option linter.unusedSimpArgs false
namespace Go.Proofs.Yticndofcfacopaa
namespace SC
open Go.Proofs
attribute [local irreducible] WC WL WX WS WO OX Does DoesU Enters CV Pure thenQ blockQ retQ Wants retQC GC GL GS GX RdB thenG blockG retG Rd At gt CVN CVM
set_option maxRecDepth 100000
end SC
end Go.Proofs.Yticndofcfacopaa
end
section
/- encode, trestleref15: Model, Step. -/
set_option linter.unusedVariables false
set_option linter.unusedSimpArgs false
namespace Go.Proofs.Yticndofcfacopaa
namespace SC
open Go.Proofs
attribute [local irreducible] WC WL WX WS WO OX Does DoesU Enters CV Pure thenQ blockQ retQ Wants retQC GC GL GS GX RdB thenG blockG retG Rd At gt CVN CVM
set_option maxRecDepth 100000
section
variable {w : World} {c : Circ} {h js : Hd} {S T : Option Addr} {k2 k3 : Nat} {s r : List Bool} (H : CirIn w c h js) (hS : RowA w booc 1 S s) (hT : RowA w booc 1 T r)
include H hS hT
end
end SC
end Go.Proofs.Yticndofcfacopaa
end
section
/- trestleref15: Step. -/
set_option linter.unusedVariables false
set_option linter.unusedSimpArgs false
namespace Go.Proofs.Yticndofcfacopaa
namespace SC
open Go.Proofs
attribute [local irreducible] WC WL WX WS WO OX Does DoesU Enters CV Pure thenQ blockQ retQ Wants retQC GC GL GS GX RdB thenG blockG retG Rd At gt CVN CVM
set_option maxRecDepth 100000
end SC
end Go.Proofs.Yticndofcfacopaa
end
section
/- trestlelaw15: works. -/
set_option linter.unusedVariables false
set_option linter.unusedSimpArgs false
namespace Go.Proofs.Yticndofcfacopaa
namespace SC
open Go.Proofs
attribute [local irreducible] WC WL WX WS WO OX Does DoesU Enters CV Pure thenQ blockQ retQ Wants retQC GC GL GS GX RdB thenG blockG retG Rd At CVN CVM
set_option maxRecDepth 100000
end SC
end Go.Proofs.Yticndofcfacopaa
end
section
/- trestlelaw15: EncodeModels: the walk. -/
set_option linter.unusedVariables false
set_option linter.unusedSimpArgs false
namespace Go.Proofs.Yticndofcfacopaa
namespace SC
open Go.Proofs
attribute [local irreducible] WC WL WX WS WO OX Does DoesU Enters CV Pure thenQ blockQ retQ Wants retQC GC GL GS GX RdB thenG blockG retG Rd At gt CVN CVM
attribute [local irreducible] lentX
set_option maxRecDepth 100000
end SC
end Go.Proofs.Yticndofcfacopaa
end
section
/- trestlebook: SameCnf, SpoilCnf; lists of numbers lent. -/
set_option linter.unusedVariables false
set_option linter.unusedSimpArgs false
namespace Go.Proofs.Yticndofcfacopaa
namespace SC
open Go.Proofs
theorem Wk.one {E : Ent} {Γ : Mm} : Wk (E :: Γ) [E] := Wk.cons .here .nil
theorem Wk.there {Γ Γ' : Mm} (h : Wk Γ Γ') : Wk Γ ([] ++ Γ') := h
attribute [local irreducible] WC WL WX WS WO OX Does DoesU Enters CV Pure thenQ blockQ retQ Wants retQC GC GL GS GX RdB thenG blockG retG Rd At gt CVN CVM
set_option maxRecDepth 100000
end SC
end Go.Proofs.Yticndofcfacopaa
end
section
/- A formula is the circuit: the plain law. -/
set_option linter.unusedVariables false
set_option linter.unusedSimpArgs false
namespace Go.Proofs.Yticndofcfacopaa
namespace SC
open Go.Proofs
/-! ### truth of literals, clauses, formulas -/
theorem lv_even {v : List Bool} {l : Int} (h : l % 2 = 0) : lv v l = gt v (l / 2) := by
  unfold lv
  rw [h]
  simp
/-! ### the two laws -/
end SC
end Go.Proofs.Yticndofcfacopaa
end
section
/- A circuit whose variables stand in order is right, and its order is 0, 1, ..: the plain law of circuits that are built. -/
set_option linter.unusedVariables false
set_option linter.unusedSimpArgs false
namespace Go.Proofs.Yticndofcfacopaa
namespace SC
open Go.Proofs
/-- All variables in order: inputs, latches, gates; each gate hangs on what stands before it. -/
structure SeqOk (c : Circ) : Prop where
  max : c.max = ((c.inputs.length + c.latches.length + c.ands.length : Nat) : Int)
  m1 : c.max ≤ 16384
  lens : ∀ n ∈ c.lens, n ≤ 16384
  sum : sumW c.justice ≤ 16384
  inp : ∀ (i : Nat) (h : i < c.inputs.length), c.inputs[i] = 2 * (i : Int) + 2
  lat : ∀ (i : Nat) (h : i < c.latches.length), c.latches[i].1 = 2 * ((c.inputs.length + i : Nat) : Int) + 2
  gat : ∀ (i : Nat) (h : i < c.ands.length), c.ands[i].1 = 2 * ((c.inputs.length + c.latches.length + i : Nat) : Int) + 2
  reset : ∀ x ∈ c.latches, ¬ badReset x
  next : ∀ x ∈ c.latches, inR c x.2.1
  low : ∀ x ∈ c.ands, (0 ≤ x.2.1 ∧ x.2.1 < x.1) ∧ (0 ≤ x.2.2 ∧ x.2.2 < x.1)
  outputs : ∀ x ∈ c.outputs, inR c x
  bads : ∀ x ∈ c.bads, inR c x
  constraints : ∀ x ∈ c.constraints, inR c x
  justice : ∀ l ∈ c.justice, ∀ x ∈ l, inR c x
  fairness : ∀ x ∈ c.fairness, inR c x
  sym : goSym c c.symbols 0 (fun _ _ => 0) < 0
  com : goCom c.comments 0 < 0
section
variable {c : Circ} (Q : SeqOk c)
include Q
theorem SeqOk.m0 : 0 ≤ c.max := by have := Q.max; omega
theorem SeqOk.defs : allDefs c = (List.range (c.inputs.length + c.latches.length + c.ands.length)).map fun (j : Nat) => 2 * (j : Int) + 2 := by
  unfold allDefs
  apply List.ext_getElem (by simp [Nat.add_assoc])
  intro j h1 h2
  simp only [List.length_append, List.length_map] at h1
  rw [List.getElem_map, List.getElem_range]
  by_cases ha : j < c.inputs.length
  · rw [List.getElem_append_left (by simp; omega), List.getElem_append_left ha, Q.inp j ha]
  · by_cases hb : j < c.inputs.length + c.latches.length
    · rw [List.getElem_append_left (by simp; omega), List.getElem_append_right (by omega), List.getElem_map, Q.lat _ (by omega)]
      omega
    · rw [List.getElem_append_right (by simp; omega), List.getElem_map]
      have := Q.gat (j - (c.inputs.length + c.latches.length)) (by omega)
      simp only [List.length_append, List.length_map]
      rw [this]
      omega
theorem SeqOk.sizes : sizesM c = 0 := sizesM_zero Q.m0 Q.m1 Q.lens Q.sum
theorem SeqOk.defines : (definesM c (T0 c)).1.2 = 0 := by
  have hm := Q.max
  refine defines_pass (fun l hl => ?_) Q.reset ?_
  · rw [Q.defs] at hl
    obtain ⟨j, hj, rfl⟩ := List.mem_map.1 hl
    simp only [List.mem_range] at hj
    unfold defBad
    omega
  · rw [Q.defs, List.map_map]
    exact nodup_map (fun a b e => by simp only [Function.comp_apply] at e; omega) List.nodup_range
theorem SeqOk.tab : TabOk c (tabM c) := definesM_spec Q.m0 Q.defines
theorem SeqOk.use {l : Int} (h : inR c l) : useOk c (tabM c) l := by
  have hm := Q.max
  obtain ⟨h0, h1⟩ := h
  refine ⟨h0, h1, fun h2 => ?_⟩
  have hin : (2 * (((l / 2 - 1).toNat : Nat) : Int) + 2) ∈ allDefs c := by
    rw [Q.defs]
    exact List.mem_map.2 ⟨(l / 2 - 1).toNat, List.mem_range.2 (by omega), rfl⟩
  have := kind_def Q.tab hin
  rwa [show (2 * (((l / 2 - 1).toNat : Nat) : Int) + 2) / 2 = l / 2 by omega] at this
theorem SeqOk.lowR {x : Tri} (h : x ∈ c.ands) : inR c x.2.1 ∧ inR c x.2.2 := by
  have hm := Q.max
  obtain ⟨i, hi, rfl⟩ := List.mem_iff_getElem.1 h
  have h1 := Q.gat i hi
  obtain ⟨⟨a, b⟩, ⟨d, e⟩⟩ := Q.low _ h
  unfold inR
  omega
theorem SeqOk.uses : (usesM c (tabM c)).2 = 0 := usesM_spec.2 ⟨fun x hx => Q.use (Q.next x hx), fun x hx => Q.use (Q.outputs x hx), fun x hx => Q.use (Q.bads x hx), fun x hx => Q.use (Q.constraints x hx), fun l hl x hx => Q.use (Q.justice l hl x hx), fun x hx => Q.use (Q.fairness x hx), fun x hx => ⟨Q.use (Q.lowR hx).1, Q.use (Q.lowR hx).2⟩⟩
theorem SeqOk.all : All c.ands.length (gateB (tabM c) c) (upto c.ands.length) := by
  refine all_upto fun k hk z hz => ?_
  have hz' : z ∈ belowL (tabM c) [(andAt c (k : Int)).2.1, (andAt c (k : Int)).2.2] := hz
  rw [mem_belowL] at hz'
  obtain ⟨l, hl, h3, hat⟩ := hz'
  have ea : andAt c (k : Int) = gt c.ands (k : Int) := rfl
  rw [ea] at hl
  have b1 := Q.gat k hk
  have hg := Q.low _ (gt_mem (l := c.ands) (i := (k : Int)) (by omega) (by omega))
  rw [gt_nat hk] at hg hl
  have hle : 0 ≤ l ∧ l < c.ands[k].1 := by
    simp only [List.mem_cons, List.not_mem_nil, or_false] at hl
    rcases hl with rfl | rfl
    · exact hg.1
    · exact hg.2
  obtain ⟨v, hv⟩ : ∃ v : Nat, l / 2 = v := ⟨(l / 2).toNat, by omega⟩
  rw [hv] at h3 hat
  obtain ⟨j, hj, g1, g2, _⟩ := Q.tab.gate h3
  have b4 := Q.gat j hj
  rw [g1] at b4
  omega
theorem SeqOk.ord : ordM c = upto c.ands.length := ordM_eq Q.all
theorem SeqOk.look : lookM c = (0, 0) := by
  unfold lookM
  rw [if_neg (fun hh => hh Q.sizes), if_neg (fun hh => hh Q.defines), if_neg (fun hh => hh Q.uses), cycM_eq ⟨_, Q.all, .inl ⟨upto_len _, rfl⟩⟩, if_neg (by decide), if_neg (Int.not_le.2 Q.sym), if_neg (Int.not_le.2 Q.com)]
theorem SeqOk.right : Right c := ⟨Q.tab, usesM_spec.1 Q.uses, Q.m0, Q.m1, Q.lens, Q.sum, by rw [Q.ord]; exact Q.all, by rw [Q.ord, upto_len]⟩
end
end SC
end Go.Proofs.Yticndofcfacopaa
end
section
/- What a builder makes: its gates in order, each once, and their values: the plain law. -/
set_option linter.unusedVariables false
set_option linter.unusedSimpArgs false
namespace Go.Proofs.Yticndofcfacopaa
namespace SC
open Go.Proofs
/-- A builder's gates: in order, none trivial, none twice. -/
structure Gs (n : Int) (gs : List Gate) : Prop where
  nn : 0 ≤ n
  out : ∀ (k : Nat) (h : k < gs.length), gs[k].1 = 2 * (n + k) + 2
  low : ∀ (k : Nat) (h : k < gs.length), 2 ≤ gs[k].2.2 ∧ gs[k].2.2 < gs[k].2.1 ∧ gs[k].2.1 < gs[k].1 ∧ gs[k].2.2 / 2 ≠ gs[k].2.1 / 2
  one : ∀ (j k : Nat) (hj : j < gs.length) (hk : k < gs.length), gs[j].2 = gs[k].2 → j = k
theorem Gs.nil {n : Int} (h : 0 ≤ n) : Gs n [] := ⟨h, fun k hk => absurd hk (Nat.not_lt_zero _), fun k hk => absurd hk (Nat.not_lt_zero _), fun j k hj => absurd hj (Nat.not_lt_zero _)⟩
theorem outOf_at {p q : Int} : ∀ gs : List Gate, 0 < outOf gs p q → ∃ (k : Nat) (h : k < gs.length), gs[k].2 = (p, q) ∧ outOf gs p q = gs[k].1
  | [], h => by unfold outOf at h; omega
  | g :: r, h => by
    unfold outOf at h ⊢
    split at h
    · rename_i hh
      rw [if_pos hh]
      exact ⟨0, Nat.zero_lt_succ _, Prod.ext hh.1 hh.2, rfl⟩
    · rename_i hh
      rw [if_neg hh]
      obtain ⟨k, hk, e1, e2⟩ := outOf_at r h
      exact ⟨k + 1, Nat.succ_lt_succ hk, e1, e2⟩
theorem outOf_no {p q : Int} : ∀ gs : List Gate, (∀ g ∈ gs, 2 ≤ g.1) → ¬ 0 < outOf gs p q → ∀ g ∈ gs, g.2 ≠ (p, q)
  | [], _, _, g, hg => by cases hg
  | x :: r, ho, h, g, hg => by
    unfold outOf at h
    have hx := ho x (List.mem_cons_self ..)
    split at h
    · omega
    · rename_i hh
      rcases List.mem_cons.1 hg with rfl | hg
      · intro e
        exact hh ⟨congrArg Prod.fst e, congrArg Prod.snd e⟩
      · exact outOf_no r (fun y hy => ho y (List.mem_cons_of_mem _ hy)) h g hg
theorem Gs.outs {n : Int} {gs : List Gate} (G : Gs n gs) : ∀ g ∈ gs, 2 ≤ g.1 := fun g hg => by
  obtain ⟨k, hk, rfl⟩ := List.mem_iff_getElem.1 hg
  have := G.out k hk
  have := G.nn
  omega
/-- One gate more. -/
theorem Gs.snoc {n : Int} {gs : List Gate} (G : Gs n gs) {p q : Int} (h0 : 2 ≤ q) (h1 : q < p) (h2 : p ≤ 2 * (n + gs.length) + 1) (h3 : q / 2 ≠ p / 2) (hn : ∀ g ∈ gs, g.2 ≠ (p, q)) : Gs n (gs ++ [(2 * (n + gs.length + 1), p, q)]) := by
  have hl : (gs ++ [(2 * (n + gs.length + 1), p, q)]).length = gs.length + 1 := by simp
  have old : ∀ (k : Nat) (h : k < gs.length) (h' : k < (gs ++ [(2 * (n + gs.length + 1), p, q)]).length), (gs ++ [(2 * (n + gs.length + 1), p, q)])[k] = gs[k] := fun k h h' => List.getElem_append_left h
  have new : ∀ (k : Nat) (h : k = gs.length) (h' : k < (gs ++ [(2 * (n + gs.length + 1), p, q)]).length), (gs ++ [(2 * (n + gs.length + 1), p, q)])[k] = (2 * (n + gs.length + 1), p, q) := fun k h h' => by subst h; simp
  refine ⟨G.nn, fun k hk => ?_, fun k hk => ?_, fun j k hj hk e => ?_⟩
  · by_cases hkl : k < gs.length
    · rw [old k hkl hk]; exact G.out k hkl
    · have : k = gs.length := by omega
      rw [new k this hk]; simp only; omega
  · by_cases hkl : k < gs.length
    · rw [old k hkl hk]; exact G.low k hkl
    · have : k = gs.length := by omega
      rw [new k this hk]; simp only; omega
  · by_cases hjl : j < gs.length
    · by_cases hkl : k < gs.length
      · rw [old j hjl hj, old k hkl hk] at e; exact G.one j k hjl hkl e
      · have : k = gs.length := by omega
        rw [old j hjl hj, new k this hk] at e
        exact absurd e (hn _ (List.getElem_mem hjl))
    · have h9 : j = gs.length := by omega
      by_cases hkl : k < gs.length
      · rw [new j h9 hj, old k hkl hk] at e
        exact absurd e.symm (hn _ (List.getElem_mem hkl))
      · omega
/-- What 'and' makes. -/
theorem Gs.andM {n : Int} {gs : List Gate} {x y : Int} (G : Gs n gs) (hx : okM n gs x) (hy : okM n gs y) : Gs n (andM n gs x y).2.2 ∧ gs <+: (andM n gs x y).2.2 := by
  unfold okM at hx hy
  have nn := G.nn
  unfold SC.andM andP
  split
  · exact ⟨G, List.prefix_refl _⟩
  · rename_i h0
    split
    · exact ⟨G, List.prefix_refl _⟩
    · rename_i h1
      split
      · exact ⟨G, List.prefix_refl _⟩
      · rename_i h2
        split
        · exact ⟨G, List.prefix_refl _⟩
        · exact ⟨G.snoc (by omega) (by omega) (by omega) (by omega) (outOf_no gs G.outs h2), List.prefix_append _ _⟩
/-! ### values -/
/-- Values that fit a builder's gates. -/
structure ValG (n : Int) (gs : List Gate) (v : List Bool) : Prop where
  zero : gt v 0 = false
  gate : ∀ (k : Nat) (h : k < gs.length), gt v (n + k + 1) = (lv v gs[k].2.1 && lv v gs[k].2.2)
theorem ValG.pre {n : Int} {gs gs' : List Gate} {v : List Bool} (V : ValG n gs' v) (h : gs <+: gs') : ValG n gs v := by
  obtain ⟨t, rfl⟩ := h
  refine ⟨V.zero, fun k hk => ?_⟩
  have := V.gate k (by rw [List.length_append]; omega)
  rwa [List.getElem_append_left hk] at this
theorem lv_not {v : List Bool} {x : Int} (h : 0 ≤ x) : lv v (notM x) = !lv v x := by
  unfold lv notM
  rcases (show x % 2 = 0 ∨ x % 2 = 1 by omega) with e | e
  · rw [show (x + 1 - 2 * (x % 2)) / 2 = x / 2 by omega, show (x + 1 - 2 * (x % 2)) % 2 = 1 by omega, e]
    simp
  · rw [show (x + 1 - 2 * (x % 2)) / 2 = x / 2 by omega, show (x + 1 - 2 * (x % 2)) % 2 = 0 by omega, e]
    simp
theorem lv_max (v : List Bool) (x y : Int) : (lv v (max x y) && lv v (min x y)) = (lv v x && lv v y) := by
  rcases Int.le_total x y with h | h
  · rw [Int.max_eq_right h, Int.min_eq_left h, Bool.and_comm]
  · rw [Int.max_eq_left h, Int.min_eq_right h]
theorem lv_zero {v : List Bool} (h : gt v 0 = false) : lv v 0 = false := by unfold lv; simp [h]
theorem lv_one {v : List Bool} (h : gt v 0 = false) : lv v 1 = true := by unfold lv; simp [h]
theorem andM_val {n : Int} {gs : List Gate} {x y : Int} {v : List Bool} (G : Gs n gs) (hx : okM n gs x) (hy : okM n gs y) (V : ValG n (andM n gs x y).2.2 v) (he : (andM n gs x y).2.1 = 0) : lv v (andM n gs x y).1 = (lv v x && lv v y) := by
  unfold okM at hx hy
  rw [← lv_max]
  have hq : 0 ≤ min x y := by omega
  have hqp : min x y ≤ max x y := by omega
  unfold andM at V he ⊢
  generalize max x y = p at *
  generalize min x y = q at *
  have z0 := lv_zero V.zero
  have z1 := lv_one V.zero
  unfold andP at V he ⊢
  split
  · rename_i h0
    rcases h0 with rfl | ⟨rfl, h0⟩
    · rw [z0, Bool.and_false]
    · have e := lv_not (v := v) hq
      rw [show notM q = q + 1 by unfold notM; omega] at e
      simp only
      rw [z0, e]
      simp
  · rename_i h0
    rw [if_neg h0] at V he
    split
    · rename_i h1
      rcases h1 with rfl | rfl
      · simp only; rw [z1, Bool.and_true]
      · simp
    · rename_i h1
      rw [if_neg h1] at V he
      split
      · rename_i h2
        rw [if_pos h2] at V
        obtain ⟨k, hk, e1, e2⟩ := outOf_at gs h2
        have g1 := V.gate k hk
        have g2 := G.out k hk
        rw [e1] at g1
        simp only
        rw [e2, g2, lv_even (by omega), show (2 * (n + (k : Int)) + 2) / 2 = n + k + 1 by omega, g1]
      · rename_i h2
        rw [if_neg h2] at V he
        split
        · rename_i h3
          rw [if_pos h3] at he
          cases he
        · rename_i h3
          rw [if_neg h3] at V
          have g1 := V.gate gs.length (by simp)
          simp only [List.getElem_concat_length] at g1
          simp only
          rw [lv_even (by omega), show 2 * (n + (gs.length : Int) + 1) / 2 = n + gs.length + 1 by omega, g1]
end SC
end Go.Proofs.Yticndofcfacopaa
end
section
/- The builder of hash: its memory; what each of its functions does. -/
set_option linter.unusedVariables false
set_option linter.unusedSimpArgs false
namespace Go.Proofs.Yticndofcfacopaa
namespace SC
open Go.Proofs Go.Maps
attribute [local irreducible] WC WL WX WS WO OX Does DoesU Enters CV Pure thenQ blockQ retQ Wants
set_option maxRecDepth 100000
theorem mixedB : Try.prog.follows .mixedOrders = true := by kernel_rfl
abbrev ptr (g : Nat) : Value := .pointer (some ⟨g, 0, none⟩)
abbrev num (a : Int) : Value := .int .i64 a
/-- What is owned before and behind: only new blocks come in. -/
structure Step (w : World) (S : Nat → Prop) (w' : World) (S' : Nat → Prop) : Prop where
  chg : Chg w w' S
  new : ∀ k, S' k → S k ∨ (w.heap.size ≤ k ∧ k < w'.heap.size)
theorem Step.refl (w : World) (S : Nat → Prop) : Step w S w S := ⟨Chg.refl w S, fun k h => .inl h⟩
theorem Step.trans {w w1 w2 : World} {S S1 S2 : Nat → Prop} (h : Step w S w1 S1) (h' : Step w1 S1 w2 S2) : Step w S w2 S2 :=
  ⟨h.chg.trans h'.chg fun k hk h1 => (h.new k h1).elim id (fun hh => absurd hh.1 (by omega)), fun k hk => by
    rcases h'.new k hk with h1 | h1
    · rcases h.new k h1 with h2 | h2
      · exact .inl h2
      · exact .inr ⟨h2.1, Nat.lt_of_lt_of_le h2.2 h'.chg.size⟩
    · exact .inr ⟨Nat.le_trans h.chg.size h1.1, h1.2⟩⟩
theorem Step.of_chg {w w' : World} {S : Nat → Prop} (h : Chg w w' S) : Step w S w' S := ⟨h, fun k h => .inl h⟩
theorem row_chg {w w' : World} {v : Value} {n : Nat} {e : TypeId} {sz : Nat} {xs : List Value} {T : Nat → Prop} (h : w.ownsRow 0 e sz v n xs) (hc : Chg w w' T) (hn : ∀ k, v.ownBlock = some k → ¬ T k) : w'.ownsRow 0 e sz v n xs := by
  obtain ⟨h1, h2⟩ := h
  refine ⟨h1, ?_⟩
  rcases h2 with h2 | ⟨g, cap, cur, rfl, hb, hg, rest⟩
  · exact .inl h2
  · exact .inr ⟨g, cap, cur, rfl, hb, (hc.block g (Array.getElem?_eq_some_iff.1 hg).1 (hn g rfl)).trans hg, rest⟩
theorem row_apart {w : World} {v : Value} {n : Nat} {e : TypeId} {sz : Nat} {xs : List Value} {g : Nat} {t : TypeId} {cs : List Value} (h : w.ownsRow 0 e sz v n xs) (hb : Blk w g t cs) (hne : t ≠ e) : v.ownBlock ≠ some g := by
  rcases h.2 with ⟨rfl, _⟩ | ⟨g', cap, cur, rfl, _, hg, _⟩
  · simp [Value.ownBlock]
  · intro hh
    simp only [Value.ownBlock, Option.some.injEq] at hh
    subst hh
    unfold Blk at hb
    rw [hg] at hb
    simp at hb
    exact hne hb.2.symm
theorem map_apart {w : World} {m N : Nat} {f : Int → Int → Int} {g : Nat} {t : TypeId} {cs : List Value} (h : MapHas w m N f) (hb : Blk w g t cs) : m ≠ g := by
  rintro rfl
  obtain ⟨D, ⟨es, clock, h1, _⟩, _⟩ := h
  unfold Blk at hb
  rw [h1] at hb
  cases hb
theorem map_row {w : World} {m N : Nat} {f : Int → Int → Int} {v : Value} {n : Nat} {e : TypeId} {sz : Nat} {xs : List Value} (h : MapHas w m N f) (hr : w.ownsRow 0 e sz v n xs) : v.ownBlock ≠ some m := by
  rcases hr.2 with ⟨rfl, _⟩ | ⟨g', cap, cur, rfl, _, hg, _⟩
  · simp [Value.ownBlock]
  · intro hh
    simp only [Value.ownBlock, Option.some.injEq] at hh
    subst hh
    obtain ⟨D, ⟨es, clock, h1, _⟩, _⟩ := h
    rw [h1] at hg
    cases hg
/-- The parts of a builder. -/
structure Parts (w : World) (g : Nat) (S : Nat → Prop) (i l : Int) (gs : List Gate) (v : Value) (m : Nat) : Prop where
  head : Blk w g 101 [num i, num l, v, .map (some m)]
  row : w.ownsRow 0 57 3 v gs.length (flat gs)
  map : MapHas w m gs.length (outOf gs)
  hg : S g
  hm : S m
  hv : ∀ k, v.ownBlock = some k → S k
  lt : ∀ k, S k → k < w.heap.size
theorem Parts.drew {w : World} {g : Nat} {S : Nat → Prop} {i l : Int} {gs : List Gate} {v : Value} {m : Nat} (h : Parts w g S i l gs v m) : Parts w.drew g S i l gs v m := ⟨h.head, h.row, h.map, h.hg, h.hm, h.hv, h.lt⟩
def Bld (w : World) (g : Nat) (S : Nat → Prop) (i l : Int) (gs : List Gate) : Prop := ∃ v m, Parts w g S i l gs v m
theorem Parts.chg {w w' : World} {g : Nat} {S : Nat → Prop} {i l : Int} {gs : List Gate} {v : Value} {m : Nat} (h : Parts w g S i l gs v m) {T : Nat → Prop} (hc : Chg w w' T) (hd : ∀ k, S k → ¬ T k) : Parts w' g S i l gs v m :=
  ⟨h.head.chg hc (hd _ h.hg), row_chg h.row hc fun k hk => hd k (h.hv k hk), h.map.chg hc (hd _ h.hm), h.hg, h.hm, h.hv, fun k hk => Nat.lt_of_lt_of_le (h.lt k hk) hc.size⟩
theorem Bld.chg {w w' : World} {g : Nat} {S : Nat → Prop} {i l : Int} {gs : List Gate} (h : Bld w g S i l gs) {T : Nat → Prop} (hc : Chg w w' T) (hd : ∀ k, S k → ¬ T k) : Bld w' g S i l gs := by
  obtain ⟨v, m, h⟩ := h
  exact ⟨v, m, h.chg hc hd⟩
theorem Parts.alloc {w : World} {g : Nat} {S : Nat → Prop} {i l : Int} {gs : List Gate} {v : Value} {m : Nat} (o : Obj) (h : Parts w g S i l gs v m) : Parts (w.alloc o) g S i l gs v m := h.chg (Chg.alloc w o none_) fun _ _ => id
/-- The row's value as a slice. -/
theorem row_form {w : World} {v : Value} {n : Nat} {e : TypeId} {sz : Nat} {xs : List Value} (h : w.ownsRow 0 e sz v n xs) : ∃ A c, v = .slice A n c := by
  rcases h.2 with ⟨rfl, rfl⟩ | ⟨g', cap, cur, rfl, _⟩
  · exact ⟨_, _, rfl⟩
  · exact ⟨_, _, rfl⟩
theorem greatest_cv {w : World} {g : Nat} {i l : Int} {A : Option Addr} {n c : Nat} {m : Value}
   (hb : Blk w g 101 [num i, num l, .slice A n c, m]) (hi : 0 ≤ i) (hl : 0 ≤ l) (hn : i + l + n ≤ 16384) :
    CV Try.prog 71 [ptr g] w fun v w' => v = num (i + l + n) ∧ w' = w.drew := by
  refine enter 18 [2] Try.func71 rfl rfl rfl (by decide) rfl ?_
  repeat' (first
      | (apply WC_seqK; intro K hK)
      | (apply hK; clear hK)
      | (clear hK; apply hK; clear hK)
      | (clear hK; clear hK; apply hK; clear hK)
      | (clear hK; clear hK; clear hK; apply hK; clear hK)
      | (apply WC_block)
      | (apply WC_region)
      | (apply WL_nil)
      | (apply thenQ_normal)
      | (apply thenQ_ret)
      | (apply thenQ_exit)
      | (apply blockQ_hit)
      | (apply blockQ_miss; eq_refl)
      | (apply blockQ_ret)
      | (apply blockQ_normal)
      | (apply WC_ret)
      | (apply WC_exit)
      | (apply WC_skip)
      | (apply WC_label)
      | (apply WC_if_true; eq_refl)
      | (apply WC_if_false; eq_refl)
      | (apply ret1; eq_refl)
      | (apply ret2; eq_refl; eq_refl)
      | (apply ret3; eq_refl; eq_refl; eq_refl)
      | (apply ret0)
      | (apply ret0n)
      | (apply WL_on0; eq_refl)
      | (apply WL_onG; eq_refl; eq_refl; eq_refl; eq_refl)
      | (apply WL_noG; eq_refl; eq_refl; eq_refl; eq_refl)
      | (apply X_pv; eq_refl; first | exact trivial | omega)
      | (apply X_field; eq_refl)
      | (apply X_loadR; eq_refl; (first | assumption | (apply Blk.alloc; assumption) | apply Blk.new | apply Blk.newA | (apply Blk.alloc; first | apply Blk.newA | (apply Blk.alloc; first | assumption | apply Blk.newA))); eq_refl)
      | (apply X_loadW; eq_refl; (first | assumption | (apply Blk.alloc; assumption) | apply Blk.new | apply Blk.newA | (apply Blk.alloc; first | apply Blk.newA | (apply Blk.alloc; first | assumption | apply Blk.newA))); eq_refl)
      | (apply X_loadC; eq_refl; (first | assumption | (apply cel; first | assumption | (apply cel; assumption))))
      | (apply X_cmpT; eq_refl; eq_refl; omega)
      | (apply X_cmpF; eq_refl; eq_refl; omega)
      | (apply X_cmp; eq_refl; eq_refl; all_goals intro _)
      | (apply X_len; eq_refl)
      | (apply X_lenS; eq_refl)
      | (apply X_index; eq_refl; eq_refl; omega; omega)
      | (apply X_eqB; eq_refl; eq_refl)
      | (apply X_neqB; eq_refl; eq_refl)
      | (apply X_eqP; eq_refl; eq_refl)
      | (apply X_eqL; eq_refl; eq_refl)
      | (apply X_max; eq_refl; eq_refl)
      | (apply X_min; eq_refl; eq_refl)
      | (apply X_cap; eq_refl)
      | (apply X_alloc)
      | (apply X_box; eq_refl)
      | (apply X_makeMap))
  refine WC_draws [(0, true), (1, true), (2, true), (3, true), (4, true), (5, true), (6, true), (7, true), (8, true), (9, true), (10, true), (11, true), (12, true), (13, true), (14, true), (15, true)] (fun w => Blk w g 101 [num i, num l, .slice A n c, m]) mixedB (by kernel_rfl) (by kernel_rfl) ?_
  have hS : Blk w.drew g 101 [num i, num l, .slice A n c, m] := hb
  repeat' (first
      | (apply WC_seqK; intro K hK)
      | (apply hK; clear hK)
      | (clear hK; apply hK; clear hK)
      | (clear hK; clear hK; apply hK; clear hK)
      | (clear hK; clear hK; clear hK; apply hK; clear hK)
      | (apply WC_block)
      | (apply WC_region)
      | (apply WL_nil)
      | (apply thenQ_normal)
      | (apply thenQ_ret)
      | (apply thenQ_exit)
      | (apply blockQ_hit)
      | (apply blockQ_miss; eq_refl)
      | (apply blockQ_ret)
      | (apply blockQ_normal)
      | (apply WC_ret)
      | (apply WC_exit)
      | (apply WC_skip)
      | (apply WC_label)
      | (apply WC_if_true; eq_refl)
      | (apply WC_if_false; eq_refl)
      | (apply ret1; eq_refl)
      | (apply ret2; eq_refl; eq_refl)
      | (apply ret3; eq_refl; eq_refl; eq_refl)
      | (apply ret0)
      | (apply ret0n)
      | (apply WS_nil)
      | (apply WS_next; eq_refl)
      | (apply WO_on0; eq_refl)
      | (apply WO_onG; eq_refl; eq_refl; eq_refl; eq_refl)
      | (apply WO_noG; eq_refl; eq_refl; eq_refl; eq_refl; (first | assumption | exact trivial))
      | (apply O_pv; eq_refl; (first | exact trivial | omega); (first | assumption | exact trivial))
      | (apply O_field; eq_refl; (first | assumption | exact trivial))
      | (apply O_loadR; eq_refl; (first | (intro _ h; exact h) | (intro _ h; exact h.1) | (intro _ h; exact h.2) | (intro _ h; exact h.2.1) | (intro _ h; exact h.2.2) | (intro _ h; exact h.2.2.1) | (intro _ h; exact h.2.2.2)); eq_refl; (first | assumption | exact trivial))
      | (apply O_loadW; eq_refl; (first | (intro _ h; exact h) | (intro _ h; exact h.1) | (intro _ h; exact h.2) | (intro _ h; exact h.2.1) | (intro _ h; exact h.2.2) | (intro _ h; exact h.2.2.1) | (intro _ h; exact h.2.2.2)); eq_refl; (first | assumption | exact trivial))
      | (apply O_loadC; eq_refl; (first | (intro _ h; exact h) | (intro _ h; exact h.1) | (intro _ h; exact h.2) | (intro _ h; exact h.2.1) | (intro _ h; exact h.2.2) | (intro _ h; exact h.2.2.1) | (intro _ h; exact h.2.2.2)); (first | assumption | exact trivial))
      | (apply O_cmpT; eq_refl; eq_refl; omega; (first | assumption | exact trivial))
      | (apply O_cmpF; eq_refl; eq_refl; omega; (first | assumption | exact trivial))
      | (apply O_cmp; eq_refl; eq_refl; (first | assumption | exact trivial); all_goals intro _)
      | (apply O_len; eq_refl; (first | assumption | exact trivial))
      | (apply O_lenS; eq_refl; (first | assumption | exact trivial))
      | (apply O_index; eq_refl; eq_refl; omega; omega; (first | assumption | exact trivial))
      | (apply O_eqB; eq_refl; eq_refl; (first | assumption | exact trivial))
      | (apply O_neqB; eq_refl; eq_refl; (first | assumption | exact trivial))
      | (apply O_pvL; eq_refl; (first | exact trivial | omega); (first | (intro _; assumption) | exact lo (by kernel_rfl)))
      | (apply WL_on0; eq_refl)
      | (apply WL_onG; eq_refl; eq_refl; eq_refl; eq_refl)
      | (apply WL_noG; eq_refl; eq_refl; eq_refl; eq_refl)
      | (apply X_pv; eq_refl; first | exact trivial | omega)
      | (apply X_field; eq_refl)
      | (apply X_loadR; eq_refl; (first | assumption | (apply Blk.alloc; assumption) | apply Blk.new | apply Blk.newA | (apply Blk.alloc; first | apply Blk.newA | (apply Blk.alloc; first | assumption | apply Blk.newA))); eq_refl)
      | (apply X_loadW; eq_refl; (first | assumption | (apply Blk.alloc; assumption) | apply Blk.new | apply Blk.newA | (apply Blk.alloc; first | apply Blk.newA | (apply Blk.alloc; first | assumption | apply Blk.newA))); eq_refl)
      | (apply X_loadC; eq_refl; (first | assumption | (apply cel; first | assumption | (apply cel; assumption))))
      | (apply X_cmpT; eq_refl; eq_refl; omega)
      | (apply X_cmpF; eq_refl; eq_refl; omega)
      | (apply X_cmp; eq_refl; eq_refl; all_goals intro _)
      | (apply X_len; eq_refl)
      | (apply X_lenS; eq_refl)
      | (apply X_index; eq_refl; eq_refl; omega; omega)
      | (apply X_eqB; eq_refl; eq_refl)
      | (apply X_neqB; eq_refl; eq_refl)
      | (apply X_eqP; eq_refl; eq_refl)
      | (apply X_eqL; eq_refl; eq_refl)
      | (apply X_max; eq_refl; eq_refl)
      | (apply X_min; eq_refl; eq_refl)
      | (apply X_cap; eq_refl)
      | (apply X_alloc)
      | (apply X_box; eq_refl)
      | (apply X_makeMap))
  exact ⟨rfl, rfl⟩
theorem eq168 {e : Env} {x y : Operand} {ty : TypeId} {p q p' q' : Int} (h : ev e x = some (.agg #[num p, num q])) (h1 : ev e y = some (.agg #[num p', num q'])) (c : Bool) (hc : decide (p = p' ∧ q = q') = c) (hp : fits p) (hq : fits q) (hp' : fits p') (hq' : fits q') :
    Pure Try.prog (.binOp .eql 145 x y 145) ty e (.bool c) := by
  subst hc
  unfold Pure Does
  intro w ρ dst pos af g hρ
  obtain ⟨r, h2, h3⟩ := run_equal_deep (P := Try.prog) w (m := 2) (by decide) (k := 145) (by kernel_rfl) wide168 (key168 hp hq) (key168 hp' hq')
  have : r = decide (p = p' ∧ q = q') := by
    rw [Bool.eq_iff_iff, h3, decide_eq_true_iff]
    exact ⟨fun hh => kl_inj hp hq hp' hq' hh, fun hh => by rw [hh.1, hh.2]⟩
  subst this
  simp [execOp, hρ _ _ h, hρ _ _ h1, eqGuard, binOp, h2]
section
variable {n : Nat} {all rest : List Oper} {K : Env → World → Prop} {e : Env} {w : World} {d : Option Tmp} {ty : TypeId} {pos : String} {af : Array Edge} {g : Option (Nat × Bool)} {x y : Operand} {p q p' q' : Int}
theorem X_if168 (h : ev e x = some (.agg #[num p, num q])) (h1 : ev e y = some (.agg #[num p', num q'])) (hp : fits p) (hq : fits q) (hp' : fits p') (hq' : fits q') (ht : p = p' ∧ q = q' → WL Try.prog n all K rest (push d (.bool true) e) w) (hf : ¬ (p = p' ∧ q = q') → WL Try.prog n all K rest (push d (.bool false) e) w) :
    WX Try.prog n all K rest d (.binOp .eql 145 x y 145) ty e w := by
  by_cases hc : p = p' ∧ q = q'
  · exact X_pure (eq168 h h1 true (decide_eq_true hc) hp hq hp' hq') (ht hc)
  · exact X_pure (eq168 h h1 false (decide_eq_false hc) hp hq hp' hq') (hf hc)
end
section
variable {P : Program} {n : Nat} {all : List Oper} {K : Env → World → Prop} {S : World → Prop} {r : List (Nat × Bool)} {i : Nat} {e : Env} {w : World} {d : Option Tmp} {ty : TypeId} {x y z : Operand}
theorem O_updateG {b N : Nat} {f : Int → Int → Int} {p q v : Int} (h : ev e x = some (.map (some b))) (h1 : ev e y = some (.agg #[num p, num q])) (h2 : ev e z = some (num v)) (hm : MapHas w b N f) (hp : fits p) (hq : fits q) (hv : fits v) (hN : N < maxLen)
    (hr : ∀ w', MapHas w' b (N + 1) (fun p' q' => if p' = p ∧ q' = q then v else f p' q') → Chg w w' (fun k => k = b) → (loose .any all.toArray i = false → S w') ∧ WS Try.prog n all S K r (push d undef e) w') :
    OX Try.prog n all S K i false r d (.mapUpdate 99 x y z) ty e w := by
  obtain ⟨w', hd, h3, h4⟩ := does_updateG (ty := ty) h h1 h2 hm hp hq hv hN
  exact O_doesU hd (hr w' h3 h4).1 (hr w' h3 h4).2
end
instance (a : Int) : Decidable (fits a) := by unfold fits; infer_instance
/-- What 'and' answers, behind a world that may be another one. -/
def After (w : World) (g : Nat) (S : Nat → Prop) (i l : Int) (r : Int × Int × List Gate) (v : Value) (w' : World) : Prop :=
  v = .tuple #[num r.1, num r.2.1] ∧ ∃ S', Bld w' g S' i l r.2.2 ∧ Step w S w' S'
theorem After.same {w w' : World} {g : Nat} {S : Nat → Prop} {i l a b : Int} {gs : List Gate} {r : Int × Int × List Gate} (h : Bld w' g S i l gs) (hc : Chg w w' S) (hr : r = (a, b, gs)) : After w g S i l r (.tuple #[num a, num b]) w' := by
  subst hr
  exact ⟨rfl, S, h, Step.of_chg hc⟩
theorem and_cv {w : World} {g : Nat} {S : Nat → Prop} {i l : Int} {gs : List Gate} {x y : Int} (hB : Bld w g S i l gs) (hi : 0 ≤ i) (hl : 0 ≤ l) (hI : Inv (i + l) gs) (hx : okM (i + l) gs x) (hy : okM (i + l) gs y) :
    CV Try.prog 69 [ptr g, num x, num y] w (After w g S i l (andM (i + l) gs x y)) := by
  obtain ⟨v, m, hB⟩ := hB
  obtain ⟨A, c, rfl⟩ := row_form hB.row
  have hx' := hx; have hy' := hy
  unfold okM at hx' hy'
  have htop := hI.top
  have hlt := hB.lt
  show CV _ _ _ _ (After w g S i l (andP (i + l) gs (max x y) (min x y)))
  refine enter 99 [6, 7] Try.func69 rfl rfl rfl (by decide) rfl ?_
  repeat' (first
      | (apply WC_seqK; intro K hK)
      | (apply hK; clear hK)
      | (clear hK; apply hK; clear hK)
      | (clear hK; clear hK; apply hK; clear hK)
      | (clear hK; clear hK; clear hK; apply hK; clear hK)
      | (apply WC_block)
      | (apply WC_region)
      | (apply WL_nil)
      | (apply thenQ_normal)
      | (apply thenQ_ret)
      | (apply thenQ_exit)
      | (apply blockQ_hit)
      | (apply blockQ_miss; eq_refl)
      | (apply blockQ_ret)
      | (apply blockQ_normal)
      | (apply WC_ret)
      | (apply WC_exit)
      | (apply WC_skip)
      | (apply WC_label)
      | (apply WC_if_true; eq_refl)
      | (apply WC_if_false; eq_refl)
      | (apply ret1; eq_refl)
      | (apply ret2; eq_refl; eq_refl)
      | (apply ret3; eq_refl; eq_refl; eq_refl)
      | (apply ret0)
      | (apply ret0n)
      | (apply WL_on0; eq_refl)
      | (apply WL_onG; eq_refl; eq_refl; eq_refl; eq_refl)
      | (apply WL_noG; eq_refl; eq_refl; eq_refl; eq_refl)
      | (apply X_pv; eq_refl; first | exact trivial | omega)
      | (apply X_field; eq_refl)
      | (apply X_loadR; eq_refl; (first | assumption | (apply Blk.alloc; assumption) | apply Blk.new | apply Blk.newA | (apply Blk.alloc; first | apply Blk.newA | (apply Blk.alloc; first | assumption | apply Blk.newA))); eq_refl)
      | (apply X_loadW; eq_refl; (first | assumption | (apply Blk.alloc; assumption) | apply Blk.new | apply Blk.newA | (apply Blk.alloc; first | apply Blk.newA | (apply Blk.alloc; first | assumption | apply Blk.newA))); eq_refl)
      | (apply X_loadC; eq_refl; (first | assumption | (apply cel; first | assumption | (apply cel; assumption))))
      | (apply X_cmpT; eq_refl; eq_refl; omega)
      | (apply X_cmpF; eq_refl; eq_refl; omega)
      | (apply X_cmp; eq_refl; eq_refl; all_goals intro _)
      | (apply X_len; eq_refl)
      | (apply X_lenS; eq_refl)
      | (apply X_index; eq_refl; eq_refl; omega; omega)
      | (apply X_eqB; eq_refl; eq_refl)
      | (apply X_neqB; eq_refl; eq_refl)
      | (apply X_eqP; eq_refl; eq_refl)
      | (apply X_eqL; eq_refl; eq_refl)
      | (apply X_max; eq_refl; eq_refl)
      | (apply X_min; eq_refl; eq_refl)
      | (apply X_cap; eq_refl)
      | (apply X_alloc)
      | (apply X_box; eq_refl)
      | (apply X_makeMap)
      | (apply X_pure; apply build145_0_1 <;> eq_refl)
      | (apply X_pure; apply build145_)
      | (apply X_pure; apply build57_0_1_2 <;> eq_refl)
      | (apply X_does; apply buildS25_1 <;> eq_refl))
  refine X_doesU (does_storeA (vs := [num (max x y), num (min x y)]) (o := 0) (b := w.heap.size) rfl rfl (Blk.newA w _ _) rfl (by exact Nat.le_refl 2) (by simp [Value.oneCell'])) ?_
  refine WL_turn (fun w1 => Parts w1 g S i l gs (.slice A gs.length c) m ∧ Blk w1 w.heap.size 145 [num (max x y), num (min x y)] ∧ Chg w w1 none_ ∧ w1.heap.size = w.heap.size + 1) ?_ ?_
  · have hne : ∀ k, S k → ¬ k = w.heap.size := fun k hk => by have := hlt k hk; omega
    exact ⟨(hB.alloc _).chg (Chg.setRow _ w.heap.size _ (S := fun k => k = w.heap.size) rfl) hne, (Blk.newA w _ 145).set [num (max x y), num (min x y)], (Chg.alloc w _ none_).trans (Chg.setRow _ w.heap.size _ (S := fun k => k = w.heap.size) rfl) fun k hk h => by omega, by simp [World.setRow]⟩
  rintro w1 ⟨hB1, hP1, hC1, hz1⟩
  have hpq : min x y ≤ max x y := by omega
  have hq0 : 0 ≤ min x y := by omega
  have hp1 : max x y ≤ 32769 := by omega
  generalize max x y = p at *
  generalize min x y = q at *
  have hp : fits p := by unfold fits; omega
  have hq : fits q := by unfold fits; omega
  clear hx' hy' hx hy
  repeat' (first
      | (apply X_if168; eq_refl; eq_refl; (first | assumption | decide); (first | assumption | decide); (first | assumption | decide); (first | assumption | decide); all_goals intro _)
      | (apply WC_seqK; intro K hK)
      | (apply hK; clear hK)
      | (clear hK; apply hK; clear hK)
      | (clear hK; clear hK; apply hK; clear hK)
      | (clear hK; clear hK; clear hK; apply hK; clear hK)
      | (apply WC_block)
      | (apply WC_region)
      | (apply WL_nil)
      | (apply thenQ_normal)
      | (apply thenQ_ret)
      | (apply thenQ_exit)
      | (apply blockQ_hit)
      | (apply blockQ_miss; eq_refl)
      | (apply blockQ_ret)
      | (apply blockQ_normal)
      | (apply WC_ret)
      | (apply WC_exit)
      | (apply WC_skip)
      | (apply WC_label)
      | (apply WC_if_true; eq_refl)
      | (apply WC_if_false; eq_refl)
      | (apply ret1; eq_refl)
      | (apply ret2; eq_refl; eq_refl)
      | (apply ret3; eq_refl; eq_refl; eq_refl)
      | (apply ret0)
      | (apply ret0n)
      | (apply WL_on0; eq_refl)
      | (apply WL_onG; eq_refl; eq_refl; eq_refl; eq_refl)
      | (apply WL_noG; eq_refl; eq_refl; eq_refl; eq_refl)
      | (apply X_pv; eq_refl; first | exact trivial | omega)
      | (apply X_field; eq_refl)
      | (apply X_loadR; eq_refl; (first | assumption | (apply Blk.alloc; assumption) | apply Blk.new | apply Blk.newA | (apply Blk.alloc; first | apply Blk.newA | (apply Blk.alloc; first | assumption | apply Blk.newA))); eq_refl)
      | (apply X_loadW; eq_refl; (first | assumption | (apply Blk.alloc; assumption) | apply Blk.new | apply Blk.newA | (apply Blk.alloc; first | apply Blk.newA | (apply Blk.alloc; first | assumption | apply Blk.newA))); eq_refl)
      | (apply X_loadC; eq_refl; (first | assumption | (apply cel; first | assumption | (apply cel; assumption))))
      | (apply X_cmpT; eq_refl; eq_refl; omega)
      | (apply X_cmpF; eq_refl; eq_refl; omega)
      | (apply X_cmp; eq_refl; eq_refl; all_goals intro _)
      | (apply X_len; eq_refl)
      | (apply X_lenS; eq_refl)
      | (apply X_index; eq_refl; eq_refl; omega; omega)
      | (apply X_eqB; eq_refl; eq_refl)
      | (apply X_neqB; eq_refl; eq_refl)
      | (apply X_eqP; eq_refl; eq_refl)
      | (apply X_eqL; eq_refl; eq_refl)
      | (apply X_max; eq_refl; eq_refl)
      | (apply X_min; eq_refl; eq_refl)
      | (apply X_cap; eq_refl)
      | (apply X_alloc)
      | (apply X_box; eq_refl)
      | (apply X_makeMap)
      | (apply X_pure; apply build145_0_1 <;> eq_refl)
      | (apply X_pure; apply build145_)
      | (apply X_pure; apply build57_0_1_2 <;> eq_refl)
      | (apply X_does; apply buildS25_1 <;> eq_refl))
  any_goals (exact After.same ⟨_, _, hB1⟩ (hC1.mono fun _ h => h.elim) (by first | exact andP_zero (by omega) | exact andP_same (by omega) (by omega)))
  have hH1 := hB1.head
  have hm1 := hB1.map
  refine WC_draws [(0, true), (1, true), (2, true), (3, true), (4, true), (5, true), (6, true)] (fun w1 => Blk w1 g 101 [num i, num l, .slice A gs.length c, .map (some m)] ∧ Blk w1 w.heap.size 145 [num p, num q] ∧ MapHas w1 m gs.length (outOf gs)) mixedB (by kernel_rfl) (by kernel_rfl) ?_
  have hS : Blk w1.drew g 101 [num i, num l, .slice A gs.length c, .map (some m)] ∧ Blk w1.drew w.heap.size 145 [num p, num q] ∧ MapHas w1.drew m gs.length (outOf gs) := ⟨hH1, hP1, hm1⟩
  repeat' (first
      | (apply O_quiet; (intro w h; apply does_lookupG; eq_refl; eq_refl; exact h.2.2; assumption; assumption); assumption)
      | (apply X_fn; eq_refl; (apply greatest_cv; assumption; assumption; assumption; assumption); rintro _ _ ⟨rfl, rfl⟩)
      | (apply WC_seqK; intro K hK)
      | (apply hK; clear hK)
      | (clear hK; apply hK; clear hK)
      | (clear hK; clear hK; apply hK; clear hK)
      | (clear hK; clear hK; clear hK; apply hK; clear hK)
      | (apply WC_block)
      | (apply WC_region)
      | (apply WL_nil)
      | (apply thenQ_normal)
      | (apply thenQ_ret)
      | (apply thenQ_exit)
      | (apply blockQ_hit)
      | (apply blockQ_miss; eq_refl)
      | (apply blockQ_ret)
      | (apply blockQ_normal)
      | (apply WC_ret)
      | (apply WC_exit)
      | (apply WC_skip)
      | (apply WC_label)
      | (apply WC_if_true; eq_refl)
      | (apply WC_if_false; eq_refl)
      | (apply ret1; eq_refl)
      | (apply ret2; eq_refl; eq_refl)
      | (apply ret3; eq_refl; eq_refl; eq_refl)
      | (apply ret0)
      | (apply ret0n)
      | (apply WS_nil)
      | (apply WS_next; eq_refl)
      | (apply WO_on0; eq_refl)
      | (apply WO_onG; eq_refl; eq_refl; eq_refl; eq_refl)
      | (apply WO_noG; eq_refl; eq_refl; eq_refl; eq_refl; (first | assumption | exact trivial))
      | (apply O_pv; eq_refl; (first | exact trivial | omega); (first | assumption | exact trivial))
      | (apply O_field; eq_refl; (first | assumption | exact trivial))
      | (apply O_loadR; eq_refl; (first | (intro _ h; exact h) | (intro _ h; exact h.1) | (intro _ h; exact h.2) | (intro _ h; exact h.2.1) | (intro _ h; exact h.2.2) | (intro _ h; exact h.2.2.1) | (intro _ h; exact h.2.2.2)); eq_refl; (first | assumption | exact trivial))
      | (apply O_loadW; eq_refl; (first | (intro _ h; exact h) | (intro _ h; exact h.1) | (intro _ h; exact h.2) | (intro _ h; exact h.2.1) | (intro _ h; exact h.2.2) | (intro _ h; exact h.2.2.1) | (intro _ h; exact h.2.2.2)); eq_refl; (first | assumption | exact trivial))
      | (apply O_loadC; eq_refl; (first | (intro _ h; exact h) | (intro _ h; exact h.1) | (intro _ h; exact h.2) | (intro _ h; exact h.2.1) | (intro _ h; exact h.2.2) | (intro _ h; exact h.2.2.1) | (intro _ h; exact h.2.2.2)); (first | assumption | exact trivial))
      | (apply O_cmpT; eq_refl; eq_refl; omega; (first | assumption | exact trivial))
      | (apply O_cmpF; eq_refl; eq_refl; omega; (first | assumption | exact trivial))
      | (apply O_cmp; eq_refl; eq_refl; (first | assumption | exact trivial); all_goals intro _)
      | (apply O_len; eq_refl; (first | assumption | exact trivial))
      | (apply O_lenS; eq_refl; (first | assumption | exact trivial))
      | (apply O_index; eq_refl; eq_refl; omega; omega; (first | assumption | exact trivial))
      | (apply O_eqB; eq_refl; eq_refl; (first | assumption | exact trivial))
      | (apply O_neqB; eq_refl; eq_refl; (first | assumption | exact trivial))
      | (apply O_pvL; eq_refl; (first | exact trivial | omega); (first | (intro _; assumption) | exact lo (by kernel_rfl)))
      | (apply O_pure; apply build145_0_1 <;> eq_refl; (first | assumption | exact trivial))
      | (apply O_pure; apply build145_; (first | assumption | exact trivial))
      | (apply O_pure; apply build57_0_1_2 <;> eq_refl; (first | assumption | exact trivial))
      | (apply WL_on0; eq_refl)
      | (apply WL_onG; eq_refl; eq_refl; eq_refl; eq_refl)
      | (apply WL_noG; eq_refl; eq_refl; eq_refl; eq_refl)
      | (apply X_pv; eq_refl; first | exact trivial | omega)
      | (apply X_field; eq_refl)
      | (apply X_loadR; eq_refl; (first | assumption | (apply Blk.alloc; assumption) | apply Blk.new | apply Blk.newA | (apply Blk.alloc; first | apply Blk.newA | (apply Blk.alloc; first | assumption | apply Blk.newA))); eq_refl)
      | (apply X_loadW; eq_refl; (first | assumption | (apply Blk.alloc; assumption) | apply Blk.new | apply Blk.newA | (apply Blk.alloc; first | apply Blk.newA | (apply Blk.alloc; first | assumption | apply Blk.newA))); eq_refl)
      | (apply X_loadC; eq_refl; (first | assumption | (apply cel; first | assumption | (apply cel; assumption))))
      | (apply X_cmpT; eq_refl; eq_refl; omega)
      | (apply X_cmpF; eq_refl; eq_refl; omega)
      | (apply X_cmp; eq_refl; eq_refl; all_goals intro _)
      | (apply X_len; eq_refl)
      | (apply X_lenS; eq_refl)
      | (apply X_index; eq_refl; eq_refl; omega; omega)
      | (apply X_eqB; eq_refl; eq_refl)
      | (apply X_neqB; eq_refl; eq_refl)
      | (apply X_eqP; eq_refl; eq_refl)
      | (apply X_eqL; eq_refl; eq_refl)
      | (apply X_max; eq_refl; eq_refl)
      | (apply X_min; eq_refl; eq_refl)
      | (apply X_cap; eq_refl)
      | (apply X_alloc)
      | (apply X_box; eq_refl)
      | (apply X_makeMap)
      | (apply X_pure; apply build145_0_1 <;> eq_refl)
      | (apply X_pure; apply build145_)
      | (apply X_pure; apply build57_0_1_2 <;> eq_refl)
      | (apply X_does; apply buildS25_1 <;> eq_refl))
  any_goals (first | exact After.same ⟨_, _, hB1⟩ hC1.any (andP_hit (by omega) (by omega) (by assumption)) | exact After.same ⟨_, _, hB1.drew⟩ hC1.dr.any (andP_hit (by omega) (by omega) (by assumption)) | exact After.same ⟨_, _, hB1.drew.drew⟩ hC1.dr.dr.any (andP_full (by omega) (by omega) (by assumption) (by assumption)))
  refine WC_turn (fun w2 => Parts w2 g S i l gs (.slice A gs.length c) m ∧ Blk w2 w.heap.size 145 [num p, num q] ∧ Chg w w2 none_ ∧ w2.heap.size = w.heap.size + 1) ⟨hB1.drew.drew.drew, hP1, hC1.dr.dr.dr, hz1⟩ ?_
  rintro w2 ⟨hB2, hP2, hC2, hz2⟩
  clear hB1 hP1 hC1 hz1 hS hH1 hm1
  have hH2 := hB2.head
  refine WC_draws [(0, true), (1, true), (2, true), (3, true), (4, true), (5, true), (6, true), (7, true), (8, true), (9, true), (10, true), (11, false), (12, false), (13, true), (14, true), (15, false)] (fun w1 => Blk w1 g 101 [num i, num l, .slice A gs.length c, .map (some m)] ∧ Blk w1 w.heap.size 145 [num p, num q]) mixedB (by kernel_rfl) (by kernel_rfl) ?_
  have hS : Blk w2.drew g 101 [num i, num l, .slice A gs.length c, .map (some m)] ∧ Blk w2.drew w.heap.size 145 [num p, num q] := ⟨hH2, hP2⟩
  repeat' (first
      | (apply WC_seqK; intro K hK)
      | (apply hK; clear hK)
      | (clear hK; apply hK; clear hK)
      | (clear hK; clear hK; apply hK; clear hK)
      | (clear hK; clear hK; clear hK; apply hK; clear hK)
      | (apply WC_block)
      | (apply WC_region)
      | (apply WL_nil)
      | (apply thenQ_normal)
      | (apply thenQ_ret)
      | (apply thenQ_exit)
      | (apply blockQ_hit)
      | (apply blockQ_miss; eq_refl)
      | (apply blockQ_ret)
      | (apply blockQ_normal)
      | (apply WC_ret)
      | (apply WC_exit)
      | (apply WC_skip)
      | (apply WC_label)
      | (apply WC_if_true; eq_refl)
      | (apply WC_if_false; eq_refl)
      | (apply ret1; eq_refl)
      | (apply ret2; eq_refl; eq_refl)
      | (apply ret3; eq_refl; eq_refl; eq_refl)
      | (apply ret0)
      | (apply ret0n)
      | (apply WS_nil)
      | (apply WS_next; eq_refl)
      | (apply WO_on0; eq_refl)
      | (apply WO_onG; eq_refl; eq_refl; eq_refl; eq_refl)
      | (apply WO_noG; eq_refl; eq_refl; eq_refl; eq_refl; (first | assumption | exact trivial))
      | (apply O_pv; eq_refl; (first | exact trivial | omega); (first | assumption | exact trivial))
      | (apply O_field; eq_refl; (first | assumption | exact trivial))
      | (apply O_loadR; eq_refl; (first | (intro _ h; exact h) | (intro _ h; exact h.1) | (intro _ h; exact h.2) | (intro _ h; exact h.2.1) | (intro _ h; exact h.2.2) | (intro _ h; exact h.2.2.1) | (intro _ h; exact h.2.2.2)); eq_refl; (first | assumption | exact trivial))
      | (apply O_loadW; eq_refl; (first | (intro _ h; exact h) | (intro _ h; exact h.1) | (intro _ h; exact h.2) | (intro _ h; exact h.2.1) | (intro _ h; exact h.2.2) | (intro _ h; exact h.2.2.1) | (intro _ h; exact h.2.2.2)); eq_refl; (first | assumption | exact trivial))
      | (apply O_loadC; eq_refl; (first | (intro _ h; exact h) | (intro _ h; exact h.1) | (intro _ h; exact h.2) | (intro _ h; exact h.2.1) | (intro _ h; exact h.2.2) | (intro _ h; exact h.2.2.1) | (intro _ h; exact h.2.2.2)); (first | assumption | exact trivial))
      | (apply O_cmpT; eq_refl; eq_refl; omega; (first | assumption | exact trivial))
      | (apply O_cmpF; eq_refl; eq_refl; omega; (first | assumption | exact trivial))
      | (apply O_cmp; eq_refl; eq_refl; (first | assumption | exact trivial); all_goals intro _)
      | (apply O_len; eq_refl; (first | assumption | exact trivial))
      | (apply O_lenS; eq_refl; (first | assumption | exact trivial))
      | (apply O_index; eq_refl; eq_refl; omega; omega; (first | assumption | exact trivial))
      | (apply O_eqB; eq_refl; eq_refl; (first | assumption | exact trivial))
      | (apply O_neqB; eq_refl; eq_refl; (first | assumption | exact trivial))
      | (apply O_pvL; eq_refl; (first | exact trivial | omega); (first | (intro _; assumption) | exact lo (by kernel_rfl)))
      | (apply O_pure; apply build145_0_1 <;> eq_refl; (first | assumption | exact trivial))
      | (apply O_pure; apply build145_; (first | assumption | exact trivial))
      | (apply O_pure; apply build57_0_1_2 <;> eq_refl; (first | assumption | exact trivial))
      | (apply WL_on0; eq_refl)
      | (apply WL_onG; eq_refl; eq_refl; eq_refl; eq_refl)
      | (apply WL_noG; eq_refl; eq_refl; eq_refl; eq_refl)
      | (apply X_pv; eq_refl; first | exact trivial | omega)
      | (apply X_field; eq_refl)
      | (apply X_loadR; eq_refl; (first | assumption | (apply Blk.alloc; assumption) | apply Blk.new | apply Blk.newA | (apply Blk.alloc; first | apply Blk.newA | (apply Blk.alloc; first | assumption | apply Blk.newA))); eq_refl)
      | (apply X_loadW; eq_refl; (first | assumption | (apply Blk.alloc; assumption) | apply Blk.new | apply Blk.newA | (apply Blk.alloc; first | apply Blk.newA | (apply Blk.alloc; first | assumption | apply Blk.newA))); eq_refl)
      | (apply X_loadC; eq_refl; (first | assumption | (apply cel; first | assumption | (apply cel; assumption))))
      | (apply X_cmpT; eq_refl; eq_refl; omega)
      | (apply X_cmpF; eq_refl; eq_refl; omega)
      | (apply X_cmp; eq_refl; eq_refl; all_goals intro _)
      | (apply X_len; eq_refl)
      | (apply X_lenS; eq_refl)
      | (apply X_index; eq_refl; eq_refl; omega; omega)
      | (apply X_eqB; eq_refl; eq_refl)
      | (apply X_neqB; eq_refl; eq_refl)
      | (apply X_eqP; eq_refl; eq_refl)
      | (apply X_eqL; eq_refl; eq_refl)
      | (apply X_max; eq_refl; eq_refl)
      | (apply X_min; eq_refl; eq_refl)
      | (apply X_cap; eq_refl)
      | (apply X_alloc)
      | (apply X_box; eq_refl)
      | (apply X_makeMap)
      | (apply X_pure; apply build145_0_1 <;> eq_refl)
      | (apply X_pure; apply build145_)
      | (apply X_pure; apply build57_0_1_2 <;> eq_refl)
      | (apply X_does; apply buildS25_1 <;> eq_refl))
  apply O_does
  · apply buildS25_1 <;> eq_refl
  · intro _; exact ⟨hS.1.alloc _, hS.2.alloc _⟩
  refine WS_turn (fun w3 => Parts w3 g S i l gs (.slice A gs.length c) m ∧ Blk w3 w.heap.size 145 [num p, num q] ∧ Chg w w3 none_ ∧ Blk w3 w2.drew.heap.size 57 [num (2 * (i + l + gs.length + 1)), num p, num q] ∧ w3.heap.size = w.heap.size + 2) ⟨hB2.drew.alloc _, hP2.drew.alloc _, hC2.dr.al _, Blk.newA _ _ _, ?_⟩ ?_
  · simp; exact hz2
  rintro w3 ⟨hB3, hP3, hC3, hN3, hz3⟩
  have hH3 := hB3.head
  replace hS : Blk w3 g 101 [num i, num l, .slice A gs.length c, .map (some m)] ∧ Blk w3 w.heap.size 145 [num p, num q] := ⟨hH3, hP3⟩
  repeat' (first
      | (apply WC_seqK; intro K hK)
      | (apply hK; clear hK)
      | (clear hK; apply hK; clear hK)
      | (clear hK; clear hK; apply hK; clear hK)
      | (clear hK; clear hK; clear hK; apply hK; clear hK)
      | (apply WC_block)
      | (apply WC_region)
      | (apply WL_nil)
      | (apply thenQ_normal)
      | (apply thenQ_ret)
      | (apply thenQ_exit)
      | (apply blockQ_hit)
      | (apply blockQ_miss; eq_refl)
      | (apply blockQ_ret)
      | (apply blockQ_normal)
      | (apply WC_ret)
      | (apply WC_exit)
      | (apply WC_skip)
      | (apply WC_label)
      | (apply WC_if_true; eq_refl)
      | (apply WC_if_false; eq_refl)
      | (apply ret1; eq_refl)
      | (apply ret2; eq_refl; eq_refl)
      | (apply ret3; eq_refl; eq_refl; eq_refl)
      | (apply ret0)
      | (apply ret0n)
      | (apply WS_nil)
      | (apply WS_next; eq_refl)
      | (apply WO_on0; eq_refl)
      | (apply WO_onG; eq_refl; eq_refl; eq_refl; eq_refl)
      | (apply WO_noG; eq_refl; eq_refl; eq_refl; eq_refl; (first | assumption | exact trivial))
      | (apply O_pv; eq_refl; (first | exact trivial | omega); (first | assumption | exact trivial))
      | (apply O_field; eq_refl; (first | assumption | exact trivial))
      | (apply O_loadR; eq_refl; (first | (intro _ h; exact h) | (intro _ h; exact h.1) | (intro _ h; exact h.2) | (intro _ h; exact h.2.1) | (intro _ h; exact h.2.2) | (intro _ h; exact h.2.2.1) | (intro _ h; exact h.2.2.2)); eq_refl; (first | assumption | exact trivial))
      | (apply O_loadW; eq_refl; (first | (intro _ h; exact h) | (intro _ h; exact h.1) | (intro _ h; exact h.2) | (intro _ h; exact h.2.1) | (intro _ h; exact h.2.2) | (intro _ h; exact h.2.2.1) | (intro _ h; exact h.2.2.2)); eq_refl; (first | assumption | exact trivial))
      | (apply O_loadC; eq_refl; (first | (intro _ h; exact h) | (intro _ h; exact h.1) | (intro _ h; exact h.2) | (intro _ h; exact h.2.1) | (intro _ h; exact h.2.2) | (intro _ h; exact h.2.2.1) | (intro _ h; exact h.2.2.2)); (first | assumption | exact trivial))
      | (apply O_cmpT; eq_refl; eq_refl; omega; (first | assumption | exact trivial))
      | (apply O_cmpF; eq_refl; eq_refl; omega; (first | assumption | exact trivial))
      | (apply O_cmp; eq_refl; eq_refl; (first | assumption | exact trivial); all_goals intro _)
      | (apply O_len; eq_refl; (first | assumption | exact trivial))
      | (apply O_lenS; eq_refl; (first | assumption | exact trivial))
      | (apply O_index; eq_refl; eq_refl; omega; omega; (first | assumption | exact trivial))
      | (apply O_eqB; eq_refl; eq_refl; (first | assumption | exact trivial))
      | (apply O_neqB; eq_refl; eq_refl; (first | assumption | exact trivial))
      | (apply O_pvL; eq_refl; (first | exact trivial | omega); (first | (intro _; assumption) | exact lo (by kernel_rfl)))
      | (apply O_pure; apply build145_0_1 <;> eq_refl; (first | assumption | exact trivial))
      | (apply O_pure; apply build145_; (first | assumption | exact trivial))
      | (apply O_pure; apply build57_0_1_2 <;> eq_refl; (first | assumption | exact trivial))
      | (apply WL_on0; eq_refl)
      | (apply WL_onG; eq_refl; eq_refl; eq_refl; eq_refl)
      | (apply WL_noG; eq_refl; eq_refl; eq_refl; eq_refl)
      | (apply X_pv; eq_refl; first | exact trivial | omega)
      | (apply X_field; eq_refl)
      | (apply X_loadR; eq_refl; (first | assumption | (apply Blk.alloc; assumption) | apply Blk.new | apply Blk.newA | (apply Blk.alloc; first | apply Blk.newA | (apply Blk.alloc; first | assumption | apply Blk.newA))); eq_refl)
      | (apply X_loadW; eq_refl; (first | assumption | (apply Blk.alloc; assumption) | apply Blk.new | apply Blk.newA | (apply Blk.alloc; first | apply Blk.newA | (apply Blk.alloc; first | assumption | apply Blk.newA))); eq_refl)
      | (apply X_loadC; eq_refl; (first | assumption | (apply cel; first | assumption | (apply cel; assumption))))
      | (apply X_cmpT; eq_refl; eq_refl; omega)
      | (apply X_cmpF; eq_refl; eq_refl; omega)
      | (apply X_cmp; eq_refl; eq_refl; all_goals intro _)
      | (apply X_len; eq_refl)
      | (apply X_lenS; eq_refl)
      | (apply X_index; eq_refl; eq_refl; omega; omega)
      | (apply X_eqB; eq_refl; eq_refl)
      | (apply X_neqB; eq_refl; eq_refl)
      | (apply X_eqP; eq_refl; eq_refl)
      | (apply X_eqL; eq_refl; eq_refl)
      | (apply X_max; eq_refl; eq_refl)
      | (apply X_min; eq_refl; eq_refl)
      | (apply X_cap; eq_refl)
      | (apply X_alloc)
      | (apply X_box; eq_refl)
      | (apply X_makeMap)
      | (apply X_pure; apply build145_0_1 <;> eq_refl)
      | (apply X_pure; apply build145_)
      | (apply X_pure; apply build57_0_1_2 <;> eq_refl)
      | (apply X_does; apply buildS25_1 <;> eq_refl))
  refine O_append 0 (by eq_refl) (by eq_refl) hB3.row hN3 rfl rfl (by decide) (by simp [Value.oneCell']) (by omega) (by decide) (Nat.zero_le _) ?_
  intro v' w4 hrow hC4 hown hnil
  obtain ⟨A', c', rfl⟩ := row_form hrow
  have hng : ¬ (Value.slice A gs.length c).ownBlock = some g := row_apart hB3.row hH3 (by decide)
  have hnp : ¬ (Value.slice A gs.length c).ownBlock = some w.heap.size := fun hh => absurd (hlt _ (hB.hv _ hh)) (by omega)
  have hH4 := hH3.chg hC4 hng
  have hP4 := hP3.chg hC4 hnp
  have hM4 := hB3.map.chg hC4 (map_row hB3.map hB3.row)
  replace hS : Blk w4 g 101 [num i, num l, .slice A gs.length c, .map (some m)] ∧ Blk w4 w.heap.size 145 [num p, num q] := ⟨hH4, hP4⟩
  refine ⟨fun _ => hS, ?_⟩
  repeat' (first
      | (apply WC_seqK; intro K hK)
      | (apply hK; clear hK)
      | (clear hK; apply hK; clear hK)
      | (clear hK; clear hK; apply hK; clear hK)
      | (clear hK; clear hK; clear hK; apply hK; clear hK)
      | (apply WC_block)
      | (apply WC_region)
      | (apply WL_nil)
      | (apply thenQ_normal)
      | (apply thenQ_ret)
      | (apply thenQ_exit)
      | (apply blockQ_hit)
      | (apply blockQ_miss; eq_refl)
      | (apply blockQ_ret)
      | (apply blockQ_normal)
      | (apply WC_ret)
      | (apply WC_exit)
      | (apply WC_skip)
      | (apply WC_label)
      | (apply WC_if_true; eq_refl)
      | (apply WC_if_false; eq_refl)
      | (apply ret1; eq_refl)
      | (apply ret2; eq_refl; eq_refl)
      | (apply ret3; eq_refl; eq_refl; eq_refl)
      | (apply ret0)
      | (apply ret0n)
      | (apply WS_nil)
      | (apply WS_next; eq_refl)
      | (apply WO_on0; eq_refl)
      | (apply WO_onG; eq_refl; eq_refl; eq_refl; eq_refl)
      | (apply WO_noG; eq_refl; eq_refl; eq_refl; eq_refl; (first | assumption | exact trivial))
      | (apply O_pv; eq_refl; (first | exact trivial | omega); (first | assumption | exact trivial))
      | (apply O_field; eq_refl; (first | assumption | exact trivial))
      | (apply O_loadR; eq_refl; (first | (intro _ h; exact h) | (intro _ h; exact h.1) | (intro _ h; exact h.2) | (intro _ h; exact h.2.1) | (intro _ h; exact h.2.2) | (intro _ h; exact h.2.2.1) | (intro _ h; exact h.2.2.2)); eq_refl; (first | assumption | exact trivial))
      | (apply O_loadW; eq_refl; (first | (intro _ h; exact h) | (intro _ h; exact h.1) | (intro _ h; exact h.2) | (intro _ h; exact h.2.1) | (intro _ h; exact h.2.2) | (intro _ h; exact h.2.2.1) | (intro _ h; exact h.2.2.2)); eq_refl; (first | assumption | exact trivial))
      | (apply O_loadC; eq_refl; (first | (intro _ h; exact h) | (intro _ h; exact h.1) | (intro _ h; exact h.2) | (intro _ h; exact h.2.1) | (intro _ h; exact h.2.2) | (intro _ h; exact h.2.2.1) | (intro _ h; exact h.2.2.2)); (first | assumption | exact trivial))
      | (apply O_cmpT; eq_refl; eq_refl; omega; (first | assumption | exact trivial))
      | (apply O_cmpF; eq_refl; eq_refl; omega; (first | assumption | exact trivial))
      | (apply O_cmp; eq_refl; eq_refl; (first | assumption | exact trivial); all_goals intro _)
      | (apply O_len; eq_refl; (first | assumption | exact trivial))
      | (apply O_lenS; eq_refl; (first | assumption | exact trivial))
      | (apply O_index; eq_refl; eq_refl; omega; omega; (first | assumption | exact trivial))
      | (apply O_eqB; eq_refl; eq_refl; (first | assumption | exact trivial))
      | (apply O_neqB; eq_refl; eq_refl; (first | assumption | exact trivial))
      | (apply O_pvL; eq_refl; (first | exact trivial | omega); (first | (intro _; assumption) | exact lo (by kernel_rfl)))
      | (apply O_pure; apply build145_0_1 <;> eq_refl; (first | assumption | exact trivial))
      | (apply O_pure; apply build145_; (first | assumption | exact trivial))
      | (apply O_pure; apply build57_0_1_2 <;> eq_refl; (first | assumption | exact trivial))
      | (apply WL_on0; eq_refl)
      | (apply WL_onG; eq_refl; eq_refl; eq_refl; eq_refl)
      | (apply WL_noG; eq_refl; eq_refl; eq_refl; eq_refl)
      | (apply X_pv; eq_refl; first | exact trivial | omega)
      | (apply X_field; eq_refl)
      | (apply X_loadR; eq_refl; (first | assumption | (apply Blk.alloc; assumption) | apply Blk.new | apply Blk.newA | (apply Blk.alloc; first | apply Blk.newA | (apply Blk.alloc; first | assumption | apply Blk.newA))); eq_refl)
      | (apply X_loadW; eq_refl; (first | assumption | (apply Blk.alloc; assumption) | apply Blk.new | apply Blk.newA | (apply Blk.alloc; first | apply Blk.newA | (apply Blk.alloc; first | assumption | apply Blk.newA))); eq_refl)
      | (apply X_loadC; eq_refl; (first | assumption | (apply cel; first | assumption | (apply cel; assumption))))
      | (apply X_cmpT; eq_refl; eq_refl; omega)
      | (apply X_cmpF; eq_refl; eq_refl; omega)
      | (apply X_cmp; eq_refl; eq_refl; all_goals intro _)
      | (apply X_len; eq_refl)
      | (apply X_lenS; eq_refl)
      | (apply X_index; eq_refl; eq_refl; omega; omega)
      | (apply X_eqB; eq_refl; eq_refl)
      | (apply X_neqB; eq_refl; eq_refl)
      | (apply X_eqP; eq_refl; eq_refl)
      | (apply X_eqL; eq_refl; eq_refl)
      | (apply X_max; eq_refl; eq_refl)
      | (apply X_min; eq_refl; eq_refl)
      | (apply X_cap; eq_refl)
      | (apply X_alloc)
      | (apply X_box; eq_refl)
      | (apply X_makeMap)
      | (apply X_pure; apply build145_0_1 <;> eq_refl)
      | (apply X_pure; apply build145_)
      | (apply X_pure; apply build57_0_1_2 <;> eq_refl)
      | (apply X_does; apply buildS25_1 <;> eq_refl))
  refine O_doesU (does_store1 (b := g) (o := 2) (v := .slice A' (gs.length + 1) c') (by eq_refl) (by eq_refl) hH4 (by simp) rfl rfl) (lo (by kernel_rfl)) ?_
  have hob : ∀ k, (Value.slice A' (gs.length + 1) c').ownBlock = some k → S k ∨ k = w3.heap.size := fun k hk => by
    rcases hown with h | h
    · exact .inl (hB.hv k (h ▸ hk))
    · exact .inr (Option.some.inj (hk.symm.trans h))
  have hrg : (Value.slice A' (gs.length + 1) c').ownBlock ≠ some g := row_apart hrow hH4 (by decide)
  refine WS_turn (fun w5 => Blk w5 g 101 [num i, num l, .slice A' (gs.length + 1) c', .map (some m)] ∧ w5.ownsRow 0 57 3 (.slice A' (gs.length + 1) c') (gs.length + 1) (flat gs ++ [num (2 * (i + l + gs.length + 1)), num p, num q]) ∧ MapHas w5 m gs.length (outOf gs) ∧ Blk w5 w.heap.size 145 [num p, num q] ∧ Chg w w5 S ∧ w.heap.size + 2 ≤ w5.heap.size)
    ⟨hH4.set _, row_chg hrow (Chg.setRow w4 g _ (S := fun k => k = g) rfl) (fun k hk h => hrg (h ▸ hk)), hM4.chg (Chg.setRow w4 g _ (S := fun k => k = g) rfl) (map_apart hM4 hH4), hP4.chg (Chg.setRow w4 g _ (S := fun k => k = g) rfl) (fun h => absurd (hlt g hB.hg) (by omega)), ?_, ?_⟩ ?_
  · exact (hC3.any.trans hC4 fun k _ hk => hB.hv k hk).trans (Chg.setRow w4 g _ hB.hg) fun _ _ h => h
  · have := hC4.size; simp [World.setRow]; omega
  rintro w5 ⟨hH5, hR5, hM5, hP5, hC5, hz5⟩
  clear hP2 hP3 hP4 hM4 hH4 hB3 hN3 hH3 hB2 hC2 hC3 hH2
  repeat' (first
      | (apply WS_nil)
      | (apply WC_seqK; intro K hK)
      | (apply hK; clear hK)
      | (clear hK; apply hK; clear hK)
      | (clear hK; clear hK; apply hK; clear hK)
      | (clear hK; clear hK; clear hK; apply hK; clear hK)
      | (apply WC_block)
      | (apply WC_region)
      | (apply WL_nil)
      | (apply thenQ_normal)
      | (apply thenQ_ret)
      | (apply thenQ_exit)
      | (apply blockQ_hit)
      | (apply blockQ_miss; eq_refl)
      | (apply blockQ_ret)
      | (apply blockQ_normal)
      | (apply WC_ret)
      | (apply WC_exit)
      | (apply WC_skip)
      | (apply WC_label)
      | (apply WC_if_true; eq_refl)
      | (apply WC_if_false; eq_refl)
      | (apply ret1; eq_refl)
      | (apply ret2; eq_refl; eq_refl)
      | (apply ret3; eq_refl; eq_refl; eq_refl)
      | (apply ret0)
      | (apply ret0n)
      | (apply WL_on0; eq_refl)
      | (apply WL_onG; eq_refl; eq_refl; eq_refl; eq_refl)
      | (apply WL_noG; eq_refl; eq_refl; eq_refl; eq_refl)
      | (apply X_pv; eq_refl; first | exact trivial | omega)
      | (apply X_field; eq_refl)
      | (apply X_loadR; eq_refl; (first | assumption | (apply Blk.alloc; assumption) | apply Blk.new | apply Blk.newA | (apply Blk.alloc; first | apply Blk.newA | (apply Blk.alloc; first | assumption | apply Blk.newA))); eq_refl)
      | (apply X_loadW; eq_refl; (first | assumption | (apply Blk.alloc; assumption) | apply Blk.new | apply Blk.newA | (apply Blk.alloc; first | apply Blk.newA | (apply Blk.alloc; first | assumption | apply Blk.newA))); eq_refl)
      | (apply X_loadC; eq_refl; (first | assumption | (apply cel; first | assumption | (apply cel; assumption))))
      | (apply X_cmpT; eq_refl; eq_refl; omega)
      | (apply X_cmpF; eq_refl; eq_refl; omega)
      | (apply X_cmp; eq_refl; eq_refl; all_goals intro _)
      | (apply X_len; eq_refl)
      | (apply X_lenS; eq_refl)
      | (apply X_index; eq_refl; eq_refl; omega; omega)
      | (apply X_eqB; eq_refl; eq_refl)
      | (apply X_neqB; eq_refl; eq_refl)
      | (apply X_eqP; eq_refl; eq_refl)
      | (apply X_eqL; eq_refl; eq_refl)
      | (apply X_max; eq_refl; eq_refl)
      | (apply X_min; eq_refl; eq_refl)
      | (apply X_cap; eq_refl)
      | (apply X_alloc)
      | (apply X_box; eq_refl)
      | (apply X_makeMap)
      | (apply X_pure; apply build145_0_1 <;> eq_refl)
      | (apply X_pure; apply build145_)
      | (apply X_pure; apply build57_0_1_2 <;> eq_refl)
      | (apply X_does; apply buildS25_1 <;> eq_refl))
  refine WC_draws [(0, true), (1, true), (2, true), (3, true), (4, true), (5, true), (6, false)] (fun w1 => Blk w1 g 101 [num i, num l, .slice A' (gs.length + 1) c', .map (some m)] ∧ Blk w1 w.heap.size 145 [num p, num q]) mixedB (by kernel_rfl) (by kernel_rfl) ?_
  replace hS : Blk w5.drew g 101 [num i, num l, .slice A' (gs.length + 1) c', .map (some m)] ∧ Blk w5.drew w.heap.size 145 [num p, num q] := ⟨hH5, hP5⟩
  repeat' (first
      | (apply WC_seqK; intro K hK)
      | (apply hK; clear hK)
      | (clear hK; apply hK; clear hK)
      | (clear hK; clear hK; apply hK; clear hK)
      | (clear hK; clear hK; clear hK; apply hK; clear hK)
      | (apply WC_block)
      | (apply WC_region)
      | (apply WL_nil)
      | (apply thenQ_normal)
      | (apply thenQ_ret)
      | (apply thenQ_exit)
      | (apply blockQ_hit)
      | (apply blockQ_miss; eq_refl)
      | (apply blockQ_ret)
      | (apply blockQ_normal)
      | (apply WC_ret)
      | (apply WC_exit)
      | (apply WC_skip)
      | (apply WC_label)
      | (apply WC_if_true; eq_refl)
      | (apply WC_if_false; eq_refl)
      | (apply ret1; eq_refl)
      | (apply ret2; eq_refl; eq_refl)
      | (apply ret3; eq_refl; eq_refl; eq_refl)
      | (apply ret0)
      | (apply ret0n)
      | (apply WS_nil)
      | (apply WS_next; eq_refl)
      | (apply WO_on0; eq_refl)
      | (apply WO_onG; eq_refl; eq_refl; eq_refl; eq_refl)
      | (apply WO_noG; eq_refl; eq_refl; eq_refl; eq_refl; (first | assumption | exact trivial))
      | (apply O_pv; eq_refl; (first | exact trivial | omega); (first | assumption | exact trivial))
      | (apply O_field; eq_refl; (first | assumption | exact trivial))
      | (apply O_loadR; eq_refl; (first | (intro _ h; exact h) | (intro _ h; exact h.1) | (intro _ h; exact h.2) | (intro _ h; exact h.2.1) | (intro _ h; exact h.2.2) | (intro _ h; exact h.2.2.1) | (intro _ h; exact h.2.2.2)); eq_refl; (first | assumption | exact trivial))
      | (apply O_loadW; eq_refl; (first | (intro _ h; exact h) | (intro _ h; exact h.1) | (intro _ h; exact h.2) | (intro _ h; exact h.2.1) | (intro _ h; exact h.2.2) | (intro _ h; exact h.2.2.1) | (intro _ h; exact h.2.2.2)); eq_refl; (first | assumption | exact trivial))
      | (apply O_loadC; eq_refl; (first | (intro _ h; exact h) | (intro _ h; exact h.1) | (intro _ h; exact h.2) | (intro _ h; exact h.2.1) | (intro _ h; exact h.2.2) | (intro _ h; exact h.2.2.1) | (intro _ h; exact h.2.2.2)); (first | assumption | exact trivial))
      | (apply O_cmpT; eq_refl; eq_refl; omega; (first | assumption | exact trivial))
      | (apply O_cmpF; eq_refl; eq_refl; omega; (first | assumption | exact trivial))
      | (apply O_cmp; eq_refl; eq_refl; (first | assumption | exact trivial); all_goals intro _)
      | (apply O_len; eq_refl; (first | assumption | exact trivial))
      | (apply O_lenS; eq_refl; (first | assumption | exact trivial))
      | (apply O_index; eq_refl; eq_refl; omega; omega; (first | assumption | exact trivial))
      | (apply O_eqB; eq_refl; eq_refl; (first | assumption | exact trivial))
      | (apply O_neqB; eq_refl; eq_refl; (first | assumption | exact trivial))
      | (apply O_pvL; eq_refl; (first | exact trivial | omega); (first | (intro _; assumption) | exact lo (by kernel_rfl)))
      | (apply O_pure; apply build145_0_1 <;> eq_refl; (first | assumption | exact trivial))
      | (apply O_pure; apply build145_; (first | assumption | exact trivial))
      | (apply O_pure; apply build57_0_1_2 <;> eq_refl; (first | assumption | exact trivial))
      | (apply WL_on0; eq_refl)
      | (apply WL_onG; eq_refl; eq_refl; eq_refl; eq_refl)
      | (apply WL_noG; eq_refl; eq_refl; eq_refl; eq_refl)
      | (apply X_pv; eq_refl; first | exact trivial | omega)
      | (apply X_field; eq_refl)
      | (apply X_loadR; eq_refl; (first | assumption | (apply Blk.alloc; assumption) | apply Blk.new | apply Blk.newA | (apply Blk.alloc; first | apply Blk.newA | (apply Blk.alloc; first | assumption | apply Blk.newA))); eq_refl)
      | (apply X_loadW; eq_refl; (first | assumption | (apply Blk.alloc; assumption) | apply Blk.new | apply Blk.newA | (apply Blk.alloc; first | apply Blk.newA | (apply Blk.alloc; first | assumption | apply Blk.newA))); eq_refl)
      | (apply X_loadC; eq_refl; (first | assumption | (apply cel; first | assumption | (apply cel; assumption))))
      | (apply X_cmpT; eq_refl; eq_refl; omega)
      | (apply X_cmpF; eq_refl; eq_refl; omega)
      | (apply X_cmp; eq_refl; eq_refl; all_goals intro _)
      | (apply X_len; eq_refl)
      | (apply X_lenS; eq_refl)
      | (apply X_index; eq_refl; eq_refl; omega; omega)
      | (apply X_eqB; eq_refl; eq_refl)
      | (apply X_neqB; eq_refl; eq_refl)
      | (apply X_eqP; eq_refl; eq_refl)
      | (apply X_eqL; eq_refl; eq_refl)
      | (apply X_max; eq_refl; eq_refl)
      | (apply X_min; eq_refl; eq_refl)
      | (apply X_cap; eq_refl)
      | (apply X_alloc)
      | (apply X_box; eq_refl)
      | (apply X_makeMap)
      | (apply X_pure; apply build145_0_1 <;> eq_refl)
      | (apply X_pure; apply build145_)
      | (apply X_pure; apply build57_0_1_2 <;> eq_refl)
      | (apply X_does; apply buildS25_1 <;> eq_refl))
  refine O_updateG (by eq_refl) (by eq_refl) (by eq_refl) (w := w5.drew) hM5 hp hq (by unfold fits; omega) (by simp only [maxLen]; omega) ?_
  intro w6 hM6 hC6
  refine ⟨lo (by kernel_rfl), ?_⟩
  have hgm : g ≠ m := fun h => map_apart hM5 hH5 h.symm
  repeat' (first
      | (apply WC_seqK; intro K hK)
      | (apply hK; clear hK)
      | (clear hK; apply hK; clear hK)
      | (clear hK; clear hK; apply hK; clear hK)
      | (clear hK; clear hK; clear hK; apply hK; clear hK)
      | (apply WC_block)
      | (apply WC_region)
      | (apply WL_nil)
      | (apply thenQ_normal)
      | (apply thenQ_ret)
      | (apply thenQ_exit)
      | (apply blockQ_hit)
      | (apply blockQ_miss; eq_refl)
      | (apply blockQ_ret)
      | (apply blockQ_normal)
      | (apply WC_ret)
      | (apply WC_exit)
      | (apply WC_skip)
      | (apply WC_label)
      | (apply WC_if_true; eq_refl)
      | (apply WC_if_false; eq_refl)
      | (apply ret1; eq_refl)
      | (apply ret2; eq_refl; eq_refl)
      | (apply ret3; eq_refl; eq_refl; eq_refl)
      | (apply ret0)
      | (apply ret0n)
      | (apply WS_nil)
      | (apply WS_next; eq_refl)
      | (apply WO_on0; eq_refl)
      | (apply WO_onG; eq_refl; eq_refl; eq_refl; eq_refl)
      | (apply WO_noG; eq_refl; eq_refl; eq_refl; eq_refl; (first | assumption | exact trivial))
      | (apply O_pv; eq_refl; (first | exact trivial | omega); (first | assumption | exact trivial))
      | (apply O_field; eq_refl; (first | assumption | exact trivial))
      | (apply O_loadR; eq_refl; (first | (intro _ h; exact h) | (intro _ h; exact h.1) | (intro _ h; exact h.2) | (intro _ h; exact h.2.1) | (intro _ h; exact h.2.2) | (intro _ h; exact h.2.2.1) | (intro _ h; exact h.2.2.2)); eq_refl; (first | assumption | exact trivial))
      | (apply O_loadW; eq_refl; (first | (intro _ h; exact h) | (intro _ h; exact h.1) | (intro _ h; exact h.2) | (intro _ h; exact h.2.1) | (intro _ h; exact h.2.2) | (intro _ h; exact h.2.2.1) | (intro _ h; exact h.2.2.2)); eq_refl; (first | assumption | exact trivial))
      | (apply O_loadC; eq_refl; (first | (intro _ h; exact h) | (intro _ h; exact h.1) | (intro _ h; exact h.2) | (intro _ h; exact h.2.1) | (intro _ h; exact h.2.2) | (intro _ h; exact h.2.2.1) | (intro _ h; exact h.2.2.2)); (first | assumption | exact trivial))
      | (apply O_cmpT; eq_refl; eq_refl; omega; (first | assumption | exact trivial))
      | (apply O_cmpF; eq_refl; eq_refl; omega; (first | assumption | exact trivial))
      | (apply O_cmp; eq_refl; eq_refl; (first | assumption | exact trivial); all_goals intro _)
      | (apply O_len; eq_refl; (first | assumption | exact trivial))
      | (apply O_lenS; eq_refl; (first | assumption | exact trivial))
      | (apply O_index; eq_refl; eq_refl; omega; omega; (first | assumption | exact trivial))
      | (apply O_eqB; eq_refl; eq_refl; (first | assumption | exact trivial))
      | (apply O_neqB; eq_refl; eq_refl; (first | assumption | exact trivial))
      | (apply O_pvL; eq_refl; (first | exact trivial | omega); (first | (intro _; assumption) | exact lo (by kernel_rfl)))
      | (apply O_pure; apply build145_0_1 <;> eq_refl; (first | assumption | exact trivial))
      | (apply O_pure; apply build145_; (first | assumption | exact trivial))
      | (apply O_pure; apply build57_0_1_2 <;> eq_refl; (first | assumption | exact trivial))
      | (apply WL_on0; eq_refl)
      | (apply WL_onG; eq_refl; eq_refl; eq_refl; eq_refl)
      | (apply WL_noG; eq_refl; eq_refl; eq_refl; eq_refl)
      | (apply X_pv; eq_refl; first | exact trivial | omega)
      | (apply X_field; eq_refl)
      | (apply X_loadR; eq_refl; (first | assumption | (apply Blk.alloc; assumption) | apply Blk.new | apply Blk.newA | (apply Blk.alloc; first | apply Blk.newA | (apply Blk.alloc; first | assumption | apply Blk.newA))); eq_refl)
      | (apply X_loadW; eq_refl; (first | assumption | (apply Blk.alloc; assumption) | apply Blk.new | apply Blk.newA | (apply Blk.alloc; first | apply Blk.newA | (apply Blk.alloc; first | assumption | apply Blk.newA))); eq_refl)
      | (apply X_loadC; eq_refl; (first | assumption | (apply cel; first | assumption | (apply cel; assumption))))
      | (apply X_cmpT; eq_refl; eq_refl; omega)
      | (apply X_cmpF; eq_refl; eq_refl; omega)
      | (apply X_cmp; eq_refl; eq_refl; all_goals intro _)
      | (apply X_len; eq_refl)
      | (apply X_lenS; eq_refl)
      | (apply X_index; eq_refl; eq_refl; omega; omega)
      | (apply X_eqB; eq_refl; eq_refl)
      | (apply X_neqB; eq_refl; eq_refl)
      | (apply X_eqP; eq_refl; eq_refl)
      | (apply X_eqL; eq_refl; eq_refl)
      | (apply X_max; eq_refl; eq_refl)
      | (apply X_min; eq_refl; eq_refl)
      | (apply X_cap; eq_refl)
      | (apply X_alloc)
      | (apply X_box; eq_refl)
      | (apply X_makeMap)
      | (apply X_pure; apply build145_0_1 <;> eq_refl)
      | (apply X_pure; apply build145_)
      | (apply X_pure; apply build57_0_1_2 <;> eq_refl)
      | (apply X_does; apply buildS25_1 <;> eq_refl))
  rw [andP_new (by omega) (by omega) (by assumption) (by assumption)]
  have hchg : Chg w w6 S := hC5.dr.trans hC6 fun k _ hk => by subst hk; exact hB.hm
  refine ⟨rfl, fun k => S k ∨ k = w3.heap.size ∧ (Value.slice A' (gs.length + 1) c').ownBlock = some k, ⟨.slice A' (gs.length + 1) c', m, ?_⟩, hchg, ?_⟩
  · refine ⟨hH5.drew.chg hC6 hgm, ?_, ?_, .inl hB.hg, .inl hB.hm, ?_, ?_⟩
    · have := row_chg (w' := w6) hR5 (hC5.dr.trans hC6 (S := S) (fun k _ hk => by subst hk; exact hB.hm) |> fun _ => (Chg.drew w5 none_).any.trans hC6 (S := fun k => k = m) (fun _ _ h => h)) (fun k hk h => map_row hM5 hR5 (h ▸ hk))
      simpa [flat_append, gcells] using this
    · have e : outOf (gs ++ [(2 * (i + l + ↑gs.length + 1), p, q)]) = fun p' q' => if p' = p ∧ q' = q then 2 * (i + l + ↑gs.length + 1) else outOf gs p' q' := by
        funext p' q'
        exact outOf_append gs _ _ _ _ _ (fun x hx => (hI.outs x hx).1) (by omega)
      simp only [List.length_append, List.length_singleton]
      rw [e]
      exact hM6
    · intro k hk
      rcases hob k hk with h | h
      · exact .inl h
      · exact .inr ⟨h, hk⟩
    · intro k hk
      rcases hk with h | ⟨_, h⟩
      · exact Nat.lt_of_lt_of_le (hlt k h) hchg.size
      · exact Nat.lt_of_lt_of_le (hR5.lt k h).2 hC6.size
  · intro k hk
    rcases hk with h | ⟨h, h'⟩
    · exact .inl h
    · exact .inr ⟨by omega, Nat.lt_of_lt_of_le (hR5.lt k h').2 hC6.size⟩
end SC
end Go.Proofs.Yticndofcfacopaa
end
section
/- The builder of hash: the functions around 'and'. -/
set_option linter.unusedVariables false
set_option linter.unusedSimpArgs false
namespace Go.Proofs.Yticndofcfacopaa
namespace SC
open Go.Proofs Go.Maps
attribute [local irreducible] WC WL WX WS WO OX Does DoesU Enters CV Pure thenQ blockQ retQ Wants
set_option maxRecDepth 100000
theorem lookedB_cv {w : World} {g b c' : Nat} {i l : Int} {A : Option Addr} {n c : Nat} {m : Value} {xs : List Int}
   (hb : Blk w g 101 [num i, num l, .slice A n c, m]) (hr : Blk w b 3 (xs.map num)) (hi : 0 ≤ i) (hl : 0 ≤ l) (hn : i + l + n ≤ 16384) (hlen : xs.length ≤ 1000) :
    CV Try.prog 80 [ptr g, .slice (some ⟨b, 0, none⟩) xs.length c'] w fun v w' => v = num (if ∀ x ∈ xs, 0 ≤ x ∧ x ≤ 2 * (i + l + n) + 1 then 0 else 5) ∧ Chg w w' none_ := by
  refine enter 24 [4] Try.func80 rfl rfl rfl (by decide) rfl ?_
  repeat' (first
      | (apply WC_seqK; intro K hK)
      | (apply hK; clear hK)
      | (clear hK; apply hK; clear hK)
      | (clear hK; clear hK; apply hK; clear hK)
      | (clear hK; clear hK; clear hK; apply hK; clear hK)
      | (apply WC_block)
      | (apply WC_region)
      | (apply WL_nil)
      | (apply thenQ_normal)
      | (apply thenQ_ret)
      | (apply thenQ_exit)
      | (apply blockQ_hit)
      | (apply blockQ_miss; eq_refl)
      | (apply blockQ_ret)
      | (apply blockQ_normal)
      | (apply WC_ret)
      | (apply WC_exit)
      | (apply WC_skip)
      | (apply WC_label)
      | (apply WC_if_true; eq_refl)
      | (apply WC_if_false; eq_refl)
      | (apply ret1; eq_refl)
      | (apply ret2; eq_refl; eq_refl)
      | (apply ret3; eq_refl; eq_refl; eq_refl)
      | (apply ret0)
      | (apply ret0n)
      | (apply WL_on0; eq_refl)
      | (apply WL_onG; eq_refl; eq_refl; eq_refl; eq_refl)
      | (apply WL_noG; eq_refl; eq_refl; eq_refl; eq_refl)
      | (apply X_pv; eq_refl; first | exact trivial | omega)
      | (apply X_field; eq_refl)
      | (apply X_loadR; eq_refl; (first | assumption | (apply Blk.alloc; assumption) | apply Blk.new | apply Blk.newA | (apply Blk.alloc; first | apply Blk.newA | (apply Blk.alloc; first | assumption | apply Blk.newA))); eq_refl)
      | (apply X_loadW; eq_refl; (first | assumption | (apply Blk.alloc; assumption) | apply Blk.new | apply Blk.newA | (apply Blk.alloc; first | apply Blk.newA | (apply Blk.alloc; first | assumption | apply Blk.newA))); eq_refl)
      | (apply X_loadC; eq_refl; (first | assumption | (apply cel; first | assumption | (apply cel; assumption))))
      | (apply X_cmpT; eq_refl; eq_refl; omega)
      | (apply X_cmpF; eq_refl; eq_refl; omega)
      | (apply X_cmp; eq_refl; eq_refl; all_goals intro _)
      | (apply X_len; eq_refl)
      | (apply X_lenS; eq_refl)
      | (apply X_index; eq_refl; eq_refl; omega; omega)
      | (apply X_eqB; eq_refl; eq_refl)
      | (apply X_neqB; eq_refl; eq_refl)
      | (apply X_eqP; eq_refl; eq_refl)
      | (apply X_eqL; eq_refl; eq_refl)
      | (apply X_max; eq_refl; eq_refl)
      | (apply X_min; eq_refl; eq_refl)
      | (apply X_cap; eq_refl)
      | (apply X_alloc)
      | (apply X_box; eq_refl)
      | (apply X_makeMap))
  refine WC_loop (fun k : Nat => [(0, ptr g), (7, .slice (some ⟨b, 0, none⟩) xs.length c'), (8, num xs.length), (9, num k)])
    (fun k w1 => Blk w1 g 101 [num i, num l, .slice A n c, m] ∧ Blk w1 b 3 (xs.map num) ∧ Chg w w1 none_ ∧ k ≤ xs.length ∧ ∀ x ∈ xs.take k, 0 ≤ x ∧ x ≤ 2 * (i + l + n) + 1) (fun k => xs.length - k) 0 ⟨rfl, rfl, rfl, rfl, trivial⟩ ⟨hb, hr, Chg.refl _ _, Nat.zero_le _, by simp⟩ ?_
  rintro k w1 ⟨hb1, hr1, hC1, hk, hall⟩
  rcases Nat.lt_or_ge k xs.length with hlt | hge
  · have hx : (xs.map num)[0 + (k : Int).toNat * 1]? = some (num xs[k]) := by simp [hlt]
    repeat' (first
      | (apply X_loadR; eq_refl; assumption; exact hx)
      | (apply X_fn; eq_refl; (apply greatest_cv; assumption; assumption; assumption; assumption); rintro _ _ ⟨rfl, rfl⟩)
      | (apply WC_seqK; intro K hK)
      | (apply hK; clear hK)
      | (clear hK; apply hK; clear hK)
      | (clear hK; clear hK; apply hK; clear hK)
      | (clear hK; clear hK; clear hK; apply hK; clear hK)
      | (apply WC_block)
      | (apply WC_region)
      | (apply WL_nil)
      | (apply thenQ_normal)
      | (apply thenQ_ret)
      | (apply thenQ_exit)
      | (apply blockQ_hit)
      | (apply blockQ_miss; eq_refl)
      | (apply blockQ_ret)
      | (apply blockQ_normal)
      | (apply WC_ret)
      | (apply WC_exit)
      | (apply WC_skip)
      | (apply WC_label)
      | (apply WC_if_true; eq_refl)
      | (apply WC_if_false; eq_refl)
      | (apply ret1; eq_refl)
      | (apply ret2; eq_refl; eq_refl)
      | (apply ret3; eq_refl; eq_refl; eq_refl)
      | (apply ret0)
      | (apply ret0n)
      | (apply WL_on0; eq_refl)
      | (apply WL_onG; eq_refl; eq_refl; eq_refl; eq_refl)
      | (apply WL_noG; eq_refl; eq_refl; eq_refl; eq_refl)
      | (apply X_pv; eq_refl; first | exact trivial | omega)
      | (apply X_field; eq_refl)
      | (apply X_loadR; eq_refl; (first | assumption | (apply Blk.alloc; assumption) | apply Blk.new | apply Blk.newA | (apply Blk.alloc; first | apply Blk.newA | (apply Blk.alloc; first | assumption | apply Blk.newA))); eq_refl)
      | (apply X_loadW; eq_refl; (first | assumption | (apply Blk.alloc; assumption) | apply Blk.new | apply Blk.newA | (apply Blk.alloc; first | apply Blk.newA | (apply Blk.alloc; first | assumption | apply Blk.newA))); eq_refl)
      | (apply X_loadC; eq_refl; (first | assumption | (apply cel; first | assumption | (apply cel; assumption))))
      | (apply X_cmpT; eq_refl; eq_refl; omega)
      | (apply X_cmpF; eq_refl; eq_refl; omega)
      | (apply X_cmp; eq_refl; eq_refl; all_goals intro _)
      | (apply X_len; eq_refl)
      | (apply X_lenS; eq_refl)
      | (apply X_index; eq_refl; eq_refl; omega; omega)
      | (apply X_eqB; eq_refl; eq_refl)
      | (apply X_neqB; eq_refl; eq_refl)
      | (apply X_eqP; eq_refl; eq_refl)
      | (apply X_eqL; eq_refl; eq_refl)
      | (apply X_max; eq_refl; eq_refl)
      | (apply X_min; eq_refl; eq_refl)
      | (apply X_cap; eq_refl)
      | (apply X_alloc)
      | (apply X_box; eq_refl)
      | (apply X_makeMap))
    · exact ⟨by rw [if_neg (fun h => by have := h xs[k] (List.getElem_mem hlt); omega)], hC1⟩
    · exact ⟨by rw [if_neg (fun h => by have := h xs[k] (List.getElem_mem hlt); omega)], hC1.dr⟩
    · refine ⟨k + 1, ⟨rfl, rfl, rfl, rfl, trivial⟩, ⟨hb1, hr1, hC1.dr, hlt, ?_⟩, by omega⟩
      intro x hx'
      rw [List.take_succ_eq_append_getElem hlt] at hx'
      simp only [List.mem_append, List.mem_singleton] at hx'
      rcases hx' with h | rfl
      · exact hall x h
      · omega
  · repeat' (first
      | (apply WC_seqK; intro K hK)
      | (apply hK; clear hK)
      | (clear hK; apply hK; clear hK)
      | (clear hK; clear hK; apply hK; clear hK)
      | (clear hK; clear hK; clear hK; apply hK; clear hK)
      | (apply WC_block)
      | (apply WC_region)
      | (apply WL_nil)
      | (apply thenQ_normal)
      | (apply thenQ_ret)
      | (apply thenQ_exit)
      | (apply blockQ_hit)
      | (apply blockQ_miss; eq_refl)
      | (apply blockQ_ret)
      | (apply blockQ_normal)
      | (apply WC_ret)
      | (apply WC_exit)
      | (apply WC_skip)
      | (apply WC_label)
      | (apply WC_if_true; eq_refl)
      | (apply WC_if_false; eq_refl)
      | (apply ret1; eq_refl)
      | (apply ret2; eq_refl; eq_refl)
      | (apply ret3; eq_refl; eq_refl; eq_refl)
      | (apply ret0)
      | (apply ret0n)
      | (apply WL_on0; eq_refl)
      | (apply WL_onG; eq_refl; eq_refl; eq_refl; eq_refl)
      | (apply WL_noG; eq_refl; eq_refl; eq_refl; eq_refl)
      | (apply X_pv; eq_refl; first | exact trivial | omega)
      | (apply X_field; eq_refl)
      | (apply X_loadR; eq_refl; (first | assumption | (apply Blk.alloc; assumption) | apply Blk.new | apply Blk.newA | (apply Blk.alloc; first | apply Blk.newA | (apply Blk.alloc; first | assumption | apply Blk.newA))); eq_refl)
      | (apply X_loadW; eq_refl; (first | assumption | (apply Blk.alloc; assumption) | apply Blk.new | apply Blk.newA | (apply Blk.alloc; first | apply Blk.newA | (apply Blk.alloc; first | assumption | apply Blk.newA))); eq_refl)
      | (apply X_loadC; eq_refl; (first | assumption | (apply cel; first | assumption | (apply cel; assumption))))
      | (apply X_cmpT; eq_refl; eq_refl; omega)
      | (apply X_cmpF; eq_refl; eq_refl; omega)
      | (apply X_cmp; eq_refl; eq_refl; all_goals intro _)
      | (apply X_len; eq_refl)
      | (apply X_lenS; eq_refl)
      | (apply X_index; eq_refl; eq_refl; omega; omega)
      | (apply X_eqB; eq_refl; eq_refl)
      | (apply X_neqB; eq_refl; eq_refl)
      | (apply X_eqP; eq_refl; eq_refl)
      | (apply X_eqL; eq_refl; eq_refl)
      | (apply X_max; eq_refl; eq_refl)
      | (apply X_min; eq_refl; eq_refl)
      | (apply X_cap; eq_refl)
      | (apply X_alloc)
      | (apply X_box; eq_refl)
      | (apply X_makeMap))
    rw [List.take_of_length_le hge] at hall
    exact ⟨by rw [if_pos hall], hC1⟩
theorem After.from {w w1 w' : World} {g : Nat} {S : Nat → Prop} {i l : Int} {r : Int × Int × List Gate} {v : Value} (hC : Chg w w1 none_) (h : After w1 g S i l r v w') : After w g S i l r v w' := by
  obtain ⟨h1, S', h2, h3⟩ := h
  exact ⟨h1, S', h2, (Step.of_chg hC.any).trans h3⟩
section
variable {w : World} {g : Nat} {S : Nat → Prop} {i l : Int} {gs : List Gate} {x y s : Int}
theorem looked_ok {b c' : Nat} {xs : List Int} (hB : Bld w g S i l gs) (hr : Blk w b 3 (xs.map num)) (hi : 0 ≤ i) (hl : 0 ≤ l) (hI : Inv (i + l) gs) (hlen : xs.length ≤ 1000) (h : ∀ x ∈ xs, okM (i + l) gs x) :
    CV Try.prog 80 [ptr g, .slice (some ⟨b, 0, none⟩) xs.length c'] w fun v w' => v = num 0 ∧ Chg w w' none_ ∧ Bld w' g S i l gs := by
  obtain ⟨v, m, hP⟩ := hB
  obtain ⟨A, c, rfl⟩ := row_form hP.row
  unfold okM at h
  refine (lookedB_cv hP.head hr hi hl hI.top hlen).mono fun v w' hv => ⟨by rw [hv.1, if_pos h], hv.2, ⟨_, _, hP.chg hv.2 fun _ _ => id⟩⟩
theorem looked_no {b c' : Nat} {xs : List Int} (hB : Bld w g S i l gs) (hr : Blk w b 3 (xs.map num)) (hi : 0 ≤ i) (hl : 0 ≤ l) (hI : Inv (i + l) gs) (hlen : xs.length ≤ 1000) (h : ¬ ∀ x ∈ xs, okM (i + l) gs x) :
    CV Try.prog 80 [ptr g, .slice (some ⟨b, 0, none⟩) xs.length c'] w fun v w' => v = num 5 ∧ Chg w w' none_ ∧ Bld w' g S i l gs := by
  obtain ⟨v, m, hP⟩ := hB
  obtain ⟨A, c, rfl⟩ := row_form hP.row
  unfold okM at h
  refine (lookedB_cv hP.head hr hi hl hI.top hlen).mono fun v w' hv => ⟨by rw [hv.1, if_neg h], hv.2, ⟨_, _, hP.chg hv.2 fun _ _ => id⟩⟩
theorem Bld.alloc (o : Obj) (h : Bld w g S i l gs) : Bld (w.alloc o) g S i l gs := h.chg (Chg.alloc w o none_) fun _ _ => id
theorem And_cv (hB : Bld w g S i l gs) (hi : 0 ≤ i) (hl : 0 ≤ l) (hI : Inv (i + l) gs) : CV Try.prog 79 [ptr g, num x, num y] w (After w g S i l (AndM (i + l) gs x y)) := by
  have hB' := hB.alloc (.cells #[num x, num y] 3)
  have hN : Blk (w.alloc (.cells #[num x, num y] 3)) w.heap.size 3 ([x, y].map num) := Blk.newA w #[num x, num y] 3
  by_cases hok : okM (i + l) gs x ∧ okM (i + l) gs y
  · have hx := hok.1
    have hy := hok.2
    refine enter 23 [6, 7] Try.func79 rfl rfl rfl (by decide) rfl ?_
    repeat' (first
      | (apply X_fn; eq_refl; (refine looked_ok (xs := [x, y]) hB' hN hi hl hI (by simp) ?_; simp; exact hok); rintro _ w1 ⟨rfl, hC1, hB1⟩)
      | (apply X_fn; eq_refl; (apply and_cv; assumption; assumption; assumption; assumption; assumption; assumption); rintro _ w2 ⟨rfl, S2, hB2, hSt2⟩)
      | (apply WC_seqK; intro K hK)
      | (apply hK; clear hK)
      | (clear hK; apply hK; clear hK)
      | (clear hK; clear hK; apply hK; clear hK)
      | (clear hK; clear hK; clear hK; apply hK; clear hK)
      | (apply WC_block)
      | (apply WC_region)
      | (apply WL_nil)
      | (apply thenQ_normal)
      | (apply thenQ_ret)
      | (apply thenQ_exit)
      | (apply blockQ_hit)
      | (apply blockQ_miss; eq_refl)
      | (apply blockQ_ret)
      | (apply blockQ_normal)
      | (apply WC_ret)
      | (apply WC_exit)
      | (apply WC_skip)
      | (apply WC_label)
      | (apply WC_if_true; eq_refl)
      | (apply WC_if_false; eq_refl)
      | (apply ret1; eq_refl)
      | (apply ret2; eq_refl; eq_refl)
      | (apply ret3; eq_refl; eq_refl; eq_refl)
      | (apply ret0)
      | (apply ret0n)
      | (apply WL_on0; eq_refl)
      | (apply WL_onG; eq_refl; eq_refl; eq_refl; eq_refl)
      | (apply WL_noG; eq_refl; eq_refl; eq_refl; eq_refl)
      | (apply X_pv; eq_refl; first | exact trivial | omega)
      | (apply X_field; eq_refl)
      | (apply X_loadR; eq_refl; (first | assumption | (apply Blk.alloc; assumption) | apply Blk.new | apply Blk.newA | (apply Blk.alloc; first | apply Blk.newA | (apply Blk.alloc; first | assumption | apply Blk.newA))); eq_refl)
      | (apply X_loadW; eq_refl; (first | assumption | (apply Blk.alloc; assumption) | apply Blk.new | apply Blk.newA | (apply Blk.alloc; first | apply Blk.newA | (apply Blk.alloc; first | assumption | apply Blk.newA))); eq_refl)
      | (apply X_loadC; eq_refl; (first | assumption | (apply cel; first | assumption | (apply cel; assumption))))
      | (apply X_cmpT; eq_refl; eq_refl; omega)
      | (apply X_cmpF; eq_refl; eq_refl; omega)
      | (apply X_cmp; eq_refl; eq_refl; all_goals intro _)
      | (apply X_len; eq_refl)
      | (apply X_lenS; eq_refl)
      | (apply X_index; eq_refl; eq_refl; omega; omega)
      | (apply X_eqB; eq_refl; eq_refl)
      | (apply X_neqB; eq_refl; eq_refl)
      | (apply X_eqP; eq_refl; eq_refl)
      | (apply X_eqL; eq_refl; eq_refl)
      | (apply X_max; eq_refl; eq_refl)
      | (apply X_min; eq_refl; eq_refl)
      | (apply X_cap; eq_refl)
      | (apply X_alloc)
      | (apply X_box; eq_refl)
      | (apply X_makeMap)
      | (apply X_does; apply buildS22_2 <;> eq_refl))
    exact After.from ((Chg.alloc w _ none_).trans hC1 fun _ _ h => h) ⟨by unfold AndM; rw [if_pos hok], S2, by unfold AndM; rw [if_pos hok]; exact hB2, hSt2⟩
  · refine enter 23 [6, 7] Try.func79 rfl rfl rfl (by decide) rfl ?_
    repeat' (first
      | (apply X_fn; eq_refl; (refine looked_no (xs := [x, y]) hB' hN hi hl hI (by simp) ?_; simp only [List.mem_cons, List.not_mem_nil, or_false, forall_eq_or_imp, forall_eq]; exact hok); rintro _ w1 ⟨rfl, hC1, hB1⟩)
      | (apply WC_seqK; intro K hK)
      | (apply hK; clear hK)
      | (clear hK; apply hK; clear hK)
      | (clear hK; clear hK; apply hK; clear hK)
      | (clear hK; clear hK; clear hK; apply hK; clear hK)
      | (apply WC_block)
      | (apply WC_region)
      | (apply WL_nil)
      | (apply thenQ_normal)
      | (apply thenQ_ret)
      | (apply thenQ_exit)
      | (apply blockQ_hit)
      | (apply blockQ_miss; eq_refl)
      | (apply blockQ_ret)
      | (apply blockQ_normal)
      | (apply WC_ret)
      | (apply WC_exit)
      | (apply WC_skip)
      | (apply WC_label)
      | (apply WC_if_true; eq_refl)
      | (apply WC_if_false; eq_refl)
      | (apply ret1; eq_refl)
      | (apply ret2; eq_refl; eq_refl)
      | (apply ret3; eq_refl; eq_refl; eq_refl)
      | (apply ret0)
      | (apply ret0n)
      | (apply WL_on0; eq_refl)
      | (apply WL_onG; eq_refl; eq_refl; eq_refl; eq_refl)
      | (apply WL_noG; eq_refl; eq_refl; eq_refl; eq_refl)
      | (apply X_pv; eq_refl; first | exact trivial | omega)
      | (apply X_field; eq_refl)
      | (apply X_loadR; eq_refl; (first | assumption | (apply Blk.alloc; assumption) | apply Blk.new | apply Blk.newA | (apply Blk.alloc; first | apply Blk.newA | (apply Blk.alloc; first | assumption | apply Blk.newA))); eq_refl)
      | (apply X_loadW; eq_refl; (first | assumption | (apply Blk.alloc; assumption) | apply Blk.new | apply Blk.newA | (apply Blk.alloc; first | apply Blk.newA | (apply Blk.alloc; first | assumption | apply Blk.newA))); eq_refl)
      | (apply X_loadC; eq_refl; (first | assumption | (apply cel; first | assumption | (apply cel; assumption))))
      | (apply X_cmpT; eq_refl; eq_refl; omega)
      | (apply X_cmpF; eq_refl; eq_refl; omega)
      | (apply X_cmp; eq_refl; eq_refl; all_goals intro _)
      | (apply X_len; eq_refl)
      | (apply X_lenS; eq_refl)
      | (apply X_index; eq_refl; eq_refl; omega; omega)
      | (apply X_eqB; eq_refl; eq_refl)
      | (apply X_neqB; eq_refl; eq_refl)
      | (apply X_eqP; eq_refl; eq_refl)
      | (apply X_eqL; eq_refl; eq_refl)
      | (apply X_max; eq_refl; eq_refl)
      | (apply X_min; eq_refl; eq_refl)
      | (apply X_cap; eq_refl)
      | (apply X_alloc)
      | (apply X_box; eq_refl)
      | (apply X_makeMap)
      | (apply X_does; apply buildS22_2 <;> eq_refl))
    exact After.same hB1 (((Chg.alloc w _ none_).trans hC1 fun _ _ h => h).any) (by unfold AndM; rw [if_neg hok])
end
end SC
end Go.Proofs.Yticndofcfacopaa
end
