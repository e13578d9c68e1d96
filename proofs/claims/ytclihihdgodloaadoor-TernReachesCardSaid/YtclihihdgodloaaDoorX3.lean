/- Texts of this seat, one behind the other: V4 V5 S1 I1 J3 B1 J4 J5 J6 K1 K2 K3 K4 K5 L1 L2 G3 G4 G5 G6 G7 H1 L3 L4 L5 L6 L7 L8 L9 S2 S3 S4 S5 S6 S7 S8 S9 S10 S11 S12 S13 L10 S14 S15 S16 S17 T1 S18 S19 S20 S21 S22 S23 S24 S27 S28 S29 S30 S31 S32 S33 S36 S34 S35 M1 M2 M3 S37 S38 S39 S40 O0. -/
import Derived.Test.YtclihihdgodloaaDoorX2
import Derived.ProofKit
import Derived.ChangeOld
import Derived.Below
import Derived.Deep.Slices
import Derived.Deep.Fields
import Derived.Lib.SmallJoins
import Derived.Maps.OwnOps
import Derived.Maps.Views
import Derived.DeepKeys4
import Derived.OwnWalk
import Derived.SizedLaws
import Derived.ChangeArms
section
/- What single operations do to memory as a list of entries. -/
set_option linter.unusedVariables false
set_option linter.unusedSimpArgs false
namespace Go.Proofs.YtclihihdgodloaaDoor
namespace SC
open Go.Proofs
/-! ### entries, and what can be read -/
inductive In : Mm → Ent → Prop
  | here {E : Ent} {Γ : Mm} : In (E :: Γ) E
  | there {E D : Ent} {Γ : Mm} : In Γ E → In (D :: Γ) E
theorem In.mem {Γ : Mm} {E : Ent} (h : In Γ E) : E ∈ Γ := by
  induction h with
  | here => simp
  | there _ ih => simp [ih]
theorem In.ok {Γ : Mm} {E : Ent} {w : World} (h : In Γ E) (M : Mem w Γ) : E.ok w := M.ok E h.mem
/-- In every world of Γ the row can be read. -/
def Rd {α : Type} (Γ : Mm) (enc : α → List Value) (sz : Nat) (A : Option Addr) (l : List α) : Prop := ∀ w, Mem w Γ → RowA w enc sz A l
class Enc {α : Type} (enc : α → List Value) (sz : outParam Nat) : Prop where
  len : ∀ a, (enc a).length = sz
  one : ∀ a, ∀ u ∈ enc a, u.oneCell' = true
  pos : 0 < sz
def booc (b : Bool) : List Value := [.bool b]
instance : Enc icell 1 := ⟨fun _ => rfl, fun a u h => by simp [icell] at h; subst h; rfl, by decide⟩
instance : Enc booc 1 := ⟨fun _ => rfl, fun a u h => by simp [booc] at h; subst h; rfl, by decide⟩
instance : Enc tcells 3 := ⟨fun _ => rfl, fun a u h => by simp [tcells] at h; rcases h with rfl | rfl | rfl <;> rfl, by decide⟩
instance : Enc scells 3 := ⟨fun _ => rfl, fun a u h => by simp [scells] at h; rcases h with rfl | rfl | rfl <;> rfl, by decide⟩
instance : Enc bcell 1 := ⟨fun _ => rfl, fun a u h => by simp [bcell] at h; subst h; rfl, by decide⟩
theorem Rd.own {α : Type} {Γ : Mm} {enc : α → List Value} {sz : Nat} {t : TypeId} {A : Option Addr} {c : Nat} {l : List α} (h : In Γ (.vec enc sz t A c l)) (H : Enc enc sz) : Rd Γ enc sz A l := fun w M => RowA.own H.len (h.ok M)
theorem Rd.old {α : Type} {Γ : Mm} {enc : α → List Value} {sz : Nat} {A : Option Addr} {l : List α} {w0 : World} (h : In Γ (.old w0 none_)) (h0 : RowA w0 enc sz A l) : Rd Γ enc sz A l := fun w M => h0.chg (h.ok M)
theorem Rd.at {α : Type} {Γ : Mm} {enc : α → List Value} {sz : Nat} {A : Option Addr} {l : List α} {w : World} (h : Rd Γ enc sz A l) (M : Mem w Γ) : RowA w enc sz A l := h w M
/-- The i-th of a list. -/
def gt {α : Type} [Inhabited α] (l : List α) (i : Int) : α := l.getD i.toNat default
theorem gt_nat {α : Type} [Inhabited α] {l : List α} {i : Nat} (h : i < l.length) : gt l (i : Int) = l[i] := by unfold gt; simp [h]
theorem gt_get {α : Type} [Inhabited α] {l : List α} {i : Int} (h0 : 0 ≤ i) (h : i < l.length) : ∃ hl : i.toNat < l.length, gt l i = l[i.toNat] := ⟨by omega, by unfold gt; simp [show i.toNat < l.length by omega]⟩
theorem gt_mem {α : Type} [Inhabited α] {l : List α} {i : Int} (h0 : 0 ≤ i) (h : i < l.length) : gt l i ∈ l := by obtain ⟨h1, h2⟩ := gt_get h0 h; rw [h2]; exact List.getElem_mem h1
/-- An element's address. -/
def At (A : Option Addr) (k : Nat) : Addr := (A.getD ⟨0, 0, none⟩).add k
theorem RowA.at {α : Type} [Inhabited α] {w : World} {enc : α → List Value} {sz : Nat} {A : Option Addr} {l : List α} (h : RowA w enc sz A l) {i : Int} (h0 : 0 ≤ i) (h1 : i < l.length) {j : Nat} {u : Value} (hj : (enc (gt l i))[j]? = some u) : w.cell? ((At A (i.toNat * sz)).add j) = some u := by
  obtain ⟨hl, e⟩ := gt_get h0 h1
  obtain ⟨p, rfl, hp⟩ := h i.toNat hl
  rw [e] at hj
  have := hp j u hj
  rw [Int.toNat_natCast] at this
  exact this
theorem add_zero (p : Addr) : p.add 0 = p := by
  cases p with
  | mk b o s => unfold Addr.add; split <;> simp_all
section
variable {P : Program} {n : Nat} {all : List Oper} {K : Env → Mm → Prop} {m : Md} {e : Env} {Γ Γ' : Mm} {d : Option Tmp} {op : Op} {ty t t' t0 : TypeId} {v u : Value} {x y z : Operand} {td : TypeDesc} {sz sz1 by_ by1 : Nat} {zv z1 : Value} {ag ag1 : Bool}
/-! ### what looks at no memory -/
theorem G_pv {C : Prop} (h : pv op e = some (v, C)) (hc : C) (hr : GN P n all K m (push d v e) Γ) : GX P n all K m d op ty e Γ := GX_pure (pv_pure h hc) hr
theorem G_cmpT {E C : Prop} (h : cv op e = some (E, C)) (hE : E) (hc : C) (hr : GN P n all K m (push d (.bool true) e) Γ) : GX P n all K m d op ty e Γ := GX_pure ((cv_pure h hE).1 hc) hr
theorem G_cmpF {E C : Prop} (h : cv op e = some (E, C)) (hE : E) (hc : ¬ C) (hr : GN P n all K m (push d (.bool false) e) Γ) : GX P n all K m d op ty e Γ := GX_pure ((cv_pure h hE).2 hc) hr
theorem G_cmp {E C : Prop} (h : cv op e = some (E, C)) (hE : E) (ht : C → GN P n all K m (push d (.bool true) e) Γ) (hf : ¬ C → GN P n all K m (push d (.bool false) e) Γ) : GX P n all K m d op ty e Γ := by
  by_cases hc : C
  · exact G_cmpT h hE hc (ht hc)
  · exact G_cmpF h hE hc (hf hc)
/-- The test as a value. -/
theorem G_cmpD {E C : Prop} (h : cv op e = some (E, C)) (hE : E) (hd : Decidable C) (hr : GN P n all K m (push d (.bool (decide C)) e) Γ) : GX P n all K m d op ty e Γ := by
  by_cases hc : C
  · rw [decide_eq_true hc] at hr; exact G_cmpT h hE hc hr
  · rw [decide_eq_false hc] at hr; exact G_cmpF h hE hc hr
theorem G_field {i off : Nat} [F : Fld P t i off] {b o : Nat} (h : ev e x = some (.pointer (some ⟨b, o, none⟩))) (hr : GN P n all K m (push d (.pointer (some ⟨b, o + off, none⟩)) e) Γ) : GX P n all K m d (.fieldAddr t x i) ty e Γ := GX_pure (p_field h) hr
theorem G_fieldP {i off : Nat} [F : Fld P t i off] {p : Addr} (h : ev e x = some (.pointer (some p))) (hr : GN P n all K m (push d (.pointer (some (p.add off))) e) Γ) : GX P n all K m d (.fieldAddr t x i) ty e Γ := GX_pure (p_fieldP h) hr
theorem G_len {A : Option Addr} {k c : Nat} [T : Ty P t (.slice t0) sz zv by_ ag] (h : ev e x = some (.slice A k c)) (hr : GN P n all K m (push d (.int .i64 (k : Int)) e) Γ) : GX P n all K m d (.call { callee := .builtin .len, args := #[x], argTypes := #[t] }) ty e Γ := GX_pure (p_len T.und h) hr
theorem G_neqB {a b : Bool} [T : Ty P t .bool sz zv by_ ag] (h : ev e x = some (.bool a)) (h1 : ev e y = some (.bool b)) (hr : GN P n all K m (push d (.bool (a != b)) e) Γ) : GX P n all K m d (.binOp .neq t x y t') ty e Γ := GX_pure (p_neqB T.und h h1) hr
theorem G_eqL {A : Option Addr} {k c : Nat} [T : Ty P t (.slice t0) sz zv by_ ag] (h : ev e x = some (.slice A k c)) (h1 : ev e y = some (.slice none 0 0)) (hr : GN P n all K m (push d (.bool A.isNone) e) Γ) : GX P n all K m d (.binOp .eql t x y t') ty e Γ := GX_pure (p_eqL0 T.und h h1) hr
/-! ### an element's address -/
theorem does_ix {w : World} [U : Ty P t (.slice t0) sz1 z1 by1 ag1] [T : Ty P t0 td sz zv by_ ag] {A : Option Addr} {k c : Nat} {i : Int} {ik : IntKind} (h : ev e x = some (.slice A k c)) (h1 : ev e y = some (.int ik i)) (h0 : 0 ≤ i) (h2 : i < k) (hA : A ≠ none) : Does P (.indexAddr t x y) ty e w (.pointer (some (At A (i.toNat * sz)))) w := by
  cases A with
  | none => exact absurd rfl hA
  | some p => exact does_indexP U.und h h1 h0 h2
theorem G_ix {α : Type} {enc : α → List Value} [U : Ty P t (.slice t0) sz1 z1 by1 ag1] [T : Ty P t0 td sz zv by_ ag] {A : Option Addr} {k c : Nat} {i : Int} {ik : IntKind} {l : List α} (h : ev e x = some (.slice A k c)) (h1 : ev e y = some (.int ik i)) (hR : Rd Γ enc sz A l) (hk : k = l.length) (h0 : 0 ≤ i) (h2 : i < k)
    (hr : GN P n all K m (push d (.pointer (some (At A (i.toNat * sz)))) e) Γ) : GX P n all K m d (.indexAddr t x y) ty e Γ :=
  GX_def (fun w M => does_ix h h1 h0 h2 (by obtain ⟨p, hp, _⟩ := hR w M i.toNat (by omega); rw [hp]; simp)) hr
/-! ### loads -/
theorem G_ld {b o : Nat} {t1 : TypeId} {cs : List Value} [T : Ty P t td sz zv by_ false] (h : ev e x = some (.pointer (some ⟨b, o, none⟩))) (hi : In Γ (.box b t1 cs)) (hv : cs[o]? = some v) (hr : GN P n all K m (push d v e) Γ) : GX P n all K m d (.load t x) ty e Γ :=
  GX_def (fun w M => does_load1 h (hi.ok M) hv) hr
theorem G_ldW {b : Nat} {t1 : TypeId} {cs : List Value} [T : Ty P t td sz zv by_ true] (h : ev e x = some (.pointer (some ⟨b, 0, none⟩))) (hi : In Γ (.box b t1 cs)) (hl : cs.length = sz) (hr : GN P n all K m (push d (.agg cs.toArray) e) Γ) : GX P n all K m d (.load t x) ty e Γ :=
  GX_def (fun w M => does_loadB h (hi.ok M) hl) hr
theorem G_ldO {b o : Nat} {t1 : TypeId} {cs : List Value} {w0 : World} [T : Ty P t td sz zv by_ false] (h : ev e x = some (.pointer (some ⟨b, o, none⟩))) (hi : In Γ (.old w0 none_)) (hb : Blk w0 b t1 cs) (hv : cs[o]? = some v) (hr : GN P n all K m (push d v e) Γ) : GX P n all K m d (.load t x) ty e Γ :=
  GX_def (fun w M => does_load1 h (hb.chg (hi.ok M) id) hv) hr
theorem G_ldC {p : Addr} {w0 : World} [T : Ty P t td sz zv by_ false] (h : ev e x = some (.pointer (some p))) (hi : In Γ (.old w0 none_)) (hv : w0.cell? p = some v) (hr : GN P n all K m (push d v e) Γ) : GX P n all K m d (.load t x) ty e Γ :=
  GX_def (fun w M => does_loadC h (cel_chg hv (hi.ok M) id)) hr
theorem G_rd {α : Type} {enc : α → List Value} {A : Option Addr} {i : Int} {l : List α} [T : Ty P t td sz1 zv by_ false] (h : ev e x = some (.pointer (some (At A (i.toNat * sz))))) (hR : Rd Γ enc sz A l) (ih : Inhabited α) (h0 : 0 ≤ i) (h1 : i < l.length) (hv : (enc (gt l i))[0]? = some v) (hr : GN P n all K m (push d v e) Γ) : GX P n all K m d (.load t x) ty e Γ :=
  GX_def (fun w M => does_loadC h (by have := (hR w M).at h0 h1 hv; rwa [add_zero] at this)) hr
theorem G_rdW {α : Type} {enc : α → List Value} {A : Option Addr} {i : Int} {l : List α} [T : Ty P t td sz zv by_ true] (h : ev e x = some (.pointer (some (At A (i.toNat * sz))))) (hR : Rd Γ enc sz A l) (N : Enc enc sz) (ih : Inhabited α) (h0 : 0 ≤ i) (h1 : i < l.length) (hr : GN P n all K m (push d (.agg (enc (gt l i)).toArray) e) Γ) : GX P n all K m d (.load t x) ty e Γ :=
  GX_def (fun w M => does_loadRP _ h (N.len _) fun j u hj => (hR w M).at h0 h1 hj) hr
/-! ### stores -/
theorem G_st {b o : Nat} {t1 : TypeId} {cs : List Value} [T : Ty P t td 1 zv by_ ag] (hm : wrOk all m = true) (h : ev e x = some (.pointer (some ⟨b, o, none⟩))) (h1 : ev e y = some v) (hv : v.cells = #[v]) (h2 : v.oneCell' = true) (hU : Upd Γ (.box b t1 cs) (.box b t1 (cs.set o v)) Γ') (hlt : o < cs.length)
    (hr : GN P n all K m (push d undef e) Γ') : GX P n all K m d (.store t x y) ty e Γ :=
  GX_acts (R := fun v Γ1 => v = undef ∧ Γ1 = Γ') hm (fun Δ w M => by
    have hb : Blk w b t1 cs := by obtain ⟨R, p, _⟩ := hU.perm; exact M.right.ok (.box b t1 cs) (p.mem_iff.2 (by simp))
    refine .inr (.inr ⟨_, does_store1 h h1 hb hlt hv h2, Γ', ?_, rfl, rfl⟩)
    exact Mem.upd hU M (Chg.setRow w b _ (S := fun k => k = b) rfl) (fun k _ h => h) (hb.set _) fun k hk => .inl hk) fun v Γ1 ⟨e1, e2⟩ => by rw [e1, e2]; exact hr
theorem G_stA {b o : Nat} {t1 : TypeId} {cs vs : List Value} [T : Ty P t td sz zv by_ ag] (hm : wrOk all m = true) (h : ev e x = some (.pointer (some ⟨b, o, none⟩))) (h1 : ev e y = some (.agg vs.toArray)) (hl : vs.length = sz) (h2 : ∀ v ∈ vs, v.oneCell' = true) (hU : Upd Γ (.box b t1 cs) (.box b t1 (splice cs o vs)) Γ') (hlt : o + vs.length ≤ cs.length)
    (hr : GN P n all K m (push d undef e) Γ') : GX P n all K m d (.store t x y) ty e Γ :=
  GX_acts (R := fun v Γ1 => v = undef ∧ Γ1 = Γ') hm (fun Δ w M => by
    have hb : Blk w b t1 cs := by obtain ⟨R, p, _⟩ := hU.perm; exact M.right.ok (.box b t1 cs) (p.mem_iff.2 (by simp))
    refine .inr (.inr ⟨_, does_storeA h h1 hb hl hlt h2, Γ', ?_, rfl, rfl⟩)
    exact Mem.upd hU M (Chg.setRow w b _ (S := fun k => k = b) rfl) (fun k _ h => h) (hb.set _) fun k hk => .inl hk) fun v Γ1 ⟨e1, e2⟩ => by rw [e1, e2]; exact hr
/-- A whole struct is stored into its box. -/
theorem G_stW {b : Nat} {t1 : TypeId} {cs vs : List Value} [T : Ty P t td sz zv by_ ag] (hm : wrOk all m = true) (h : ev e x = some (.pointer (some ⟨b, 0, none⟩))) (h1 : ev e y = some (.agg vs.toArray)) (hl : vs.length = sz) (h2 : vs.all Value.oneCell' = true) (hU : Upd Γ (.box b t1 cs) (.box b t1 vs) Γ') (hlt : cs.length = sz)
    (hr : GN P n all K m (push d undef e) Γ') : GX P n all K m d (.store t x y) ty e Γ := by
  have e1 : splice cs 0 vs = vs := by unfold splice; simp; omega
  rw [← e1] at hU
  exact G_stA hm h h1 hl (fun v hv => List.all_eq_true.1 h2 v hv) hU (by omega) hr
/-- The j-th cell of the i-th element is stored. -/
theorem vec_set {α : Type} {enc : α → List Value} {sz j : Nat} (hsz : ∀ a, (enc a).length = sz) : ∀ (l : List α) (k : Nat) (a : α) (v : Value) (hk : k < l.length), enc a = (enc l[k]).set j v → j < sz → (l.flatMap enc).set (k * sz + j) v = (l.set k a).flatMap enc
  | [], k, a, v, hk, _, _ => by simp at hk
  | x :: r, 0, a, v, hk, h, hj => by
    simp only [List.flatMap_cons, List.set_cons_zero, Nat.zero_mul, Nat.zero_add]
    rw [List.set_append_left _ _ (by rw [hsz]; exact hj)]
    rw [h]
    rfl
  | x :: r, k + 1, a, v, hk, h, hj => by
    simp only [List.flatMap_cons, List.set_cons_succ]
    rw [List.set_append_right _ _ (by rw [hsz, Nat.succ_mul]; omega), hsz]
    have e1 : (k + 1) * sz + j - sz = k * sz + j := by rw [Nat.succ_mul]; omega
    rw [e1, vec_set hsz r k a v (by simpa using hk) (by simpa using h) hj]
theorem vec_store {α : Type} {enc : α → List Value} [N : Enc enc sz] {w : World} {A : Option Addr} {c : Nat} {l : List α} (h : w.ownsRow 0 t0 sz (.slice A l.length c) l.length (l.flatMap enc)) {k j : Nat} (hk : k < l.length) (hj : j < sz) (a : α) (v : Value) (ha : enc a = (enc l[k]).set j v) :
    ∃ (g : Nat) (cur : List Value), A = some ⟨g, 0, none⟩ ∧ Blk w g t0 cur ∧ k * sz + j < cur.length ∧ (w.setRow g (cur.set (k * sz + j) v).toArray).ownsRow 0 t0 sz (.slice A l.length c) l.length ((l.set k a).flatMap enc) := by
  rcases h.2 with ⟨hv, hn⟩ | ⟨g, cap, cur, hv, h0, hcur, hcap, hm, hs, ht⟩
  · omega
  · cases hv
    have hlt : k * sz + j < l.length * sz := by
      have : (k + 1) * sz ≤ l.length * sz := Nat.mul_le_mul_right sz hk
      rw [Nat.succ_mul] at this
      omega
    have hle : l.length * sz ≤ c * sz := Nat.mul_le_mul_right sz hcap
    refine ⟨g, cur.toList, rfl, by simpa [Blk] using hcur, by rw [Array.length_toList, hs]; omega, ?_, .inr ⟨g, c, (cur.toList.set (k * sz + j) v).toArray, rfl, Nat.zero_le _, setRow_heap w g cur _ t0 (0, 0) hcur, hcap, hm, by simp [hs], ?_⟩⟩
    · have := h.1
      rw [← vec_set N.len l k a v hk ha hj, List.length_set]
      exact this
    · simp only [List.toList_toArray]
      rw [List.take_set, ht, vec_set N.len l k a v hk ha hj]
theorem G_stV' {α : Type} [Inhabited α] {enc : α → List Value} [N : Enc enc sz] {A : Option Addr} {c j : Nat} {p : Addr} {i : Int} {l : List α} [T : Ty P t td 1 zv by_ ag] (a : α) (hm : wrOk all m = true) (h : ev e x = some (.pointer (some p))) (hp : p = (At A (i.toNat * sz)).add j) (h1 : ev e y = some v) (hv : v.cells = #[v]) (h2 : v.oneCell' = true)
    (hU : Upd Γ (.vec enc sz t0 A c l) (.vec enc sz t0 A c (l.set i.toNat a)) Γ') (h0 : 0 ≤ i) (hlt : i < l.length) (hj : j < sz) (ha : enc a = (enc (gt l i)).set j v)
    (hr : GN P n all K m (push d undef e) Γ') : GX P n all K m d (.store t x y) ty e Γ :=
  GX_acts (R := fun v Γ1 => v = undef ∧ Γ1 = Γ') hm (fun Δ w M => by
    have hb : (Ent.vec enc sz t0 A c l).ok w := by obtain ⟨R, p, _⟩ := hU.perm; exact M.right.ok _ (p.mem_iff.2 (by simp))
    obtain ⟨hl, e1⟩ := gt_get h0 hlt
    rw [e1] at ha
    obtain ⟨g, cur, rfl, hB, hlt2, hown⟩ := vec_store hb hl hj a v ha
    have e2 : p = ⟨g, i.toNat * sz + j, none⟩ := by rw [hp]; unfold At; simp [add_at]
    rw [e2] at h
    refine .inr (.inr ⟨_, does_store1 h h1 hB hlt2 hv h2, Γ', ?_, rfl, rfl⟩)
    have hown' : (Ent.vec enc sz t0 (some ⟨g, 0, none⟩) c (l.set i.toNat a)).ok (w.setRow g (cur.set (i.toNat * sz + j) v).toArray) := by
      show World.ownsRow _ _ _ _ _ _ _
      rw [List.length_set]
      exact hown
    exact Mem.upd hU M (Chg.setRow w g _ (S := fun k => k = g) rfl) (fun k _ h => by subst h; rfl) hown' fun k hk => .inl hk) fun v Γ1 ⟨e1, e2⟩ => by rw [e1, e2]; exact hr
theorem G_stV {α : Type} {enc : α → List Value} {A : Option Addr} {c : Nat} {i : Int} {l : List α} {a : α} [T : Ty P t td 1 zv by_ ag] (hm : wrOk all m = true) (h : ev e x = some (.pointer (some (At A (i.toNat * 1))))) (h1 : ev e y = some v) (hv : v.cells = #[v]) (h2 : v.oneCell' = true)
    (hU : Upd Γ (.vec enc 1 t0 A c l) (.vec enc 1 t0 A c (l.set i.toNat a)) Γ') (N : Enc enc 1) (ih : Inhabited α) (ha : enc a = [v]) (h0 : 0 ≤ i) (hlt : i < l.length)
    (hr : GN P n all K m (push d undef e) Γ') : GX P n all K m d (.store t x y) ty e Γ :=
  G_stV' (j := 0) a hm h (add_zero _).symm h1 hv h2 hU h0 hlt (by decide) (by
    have := N.len (gt l i)
    rcases hh : enc (gt l i) with _ | ⟨u, _ | ⟨u', r⟩⟩
    · rw [hh] at this; simp at this
    · rw [ha]; rfl
    · rw [hh] at this; simp at this) hr
/-! ### new memory -/
theorem acts_new {R : Value → Mm → Prop} (val : Nat → Value) (cs : Array Value) (h : ∀ w, Does P op ty e w (val w.heap.size) (w.alloc (.cells cs t0))) : Acts P op ty e Γ fun v Γ1 => ∃ N, Γ1 = N ++ Γ ∧ ∃ b, v = val b ∧ N = [.box b t0 cs.toList] := fun Δ w M =>
  .inl ⟨_, _, h w, .box w.heap.size t0 cs.toList :: Γ, ((M.new cs t0).perm List.perm_middle.symm), [_], rfl, _, rfl, rfl⟩
theorem G_new (val : Nat → Value) (cs : Array Value) (hm : addOk m = true) (h : ∀ w, Does P op ty e w (val w.heap.size) (w.alloc (.cells cs t0))) (hr : ∀ b, GN P n all K m (push d (val b) e) (.box b t0 cs.toList :: Γ)) : GX P n all K m d op ty e Γ :=
  GX_adds (R := fun v N => ∃ b, v = val b ∧ N = [.box b t0 cs.toList]) hm (acts_new (R := fun _ _ => True) val cs h) fun v N ⟨b, e1, e2⟩ => by rw [e1, e2]; exact hr b
theorem G_alloc [T : Ty P t td sz zv by_ ag] (hm : addOk m = true) (hr : ∀ b, GN P n all K m (push d (.pointer (some ⟨b, 0, none⟩)) e) (.box b t zv.cells.toList :: Γ)) : GX P n all K m d (.alloc t) ty e Γ :=
  G_new (fun b => .pointer (some ⟨b, 0, none⟩)) zv.cells hm (fun w => does_alloc) hr
theorem G_box (hm : addOk m = true) (h : ev e x = some v) (hr : ∀ b, GN P n all K m (push d (.pointer (some ⟨b, 0, none⟩)) e) (.box b t v.cells.toList :: Γ)) : GX P n all K m d (.box t x) ty e Γ :=
  G_new (fun b => .pointer (some ⟨b, 0, none⟩)) v.cells hm (fun w => does_box h) hr
theorem GS_fl {A : List Fl} {Θ : Mm} {r : List PStep} {i d : Nat} {pos : String} {af : Array Edge} (ho : nth all i = some ⟨some d, .alloc t, ty, pos, af, none⟩) (T : Ty P t td sz zv by_ ag) (hd : slotOk n (some d) = true) (hk : keyFree e (some d) = true) (hA : offA A (some d) = true)
    (hr : GS P n all K (⟨i, d, fun b => .pointer (some ⟨b, 0, none⟩), t, zv.cells, []⟩ :: A) Θ r e Γ) : GS P n all K A Θ (.f i :: r) e Γ :=
  GS_float (F := ⟨i, d, fun b => .pointer (some ⟨b, 0, none⟩), t, zv.cells, []⟩) ho rfl hd hk hA trivial (fun w => does_alloc) hr
/-- A box is a vector. -/
theorem box_vec {α : Type} {enc : α → List Value} [N : Enc enc sz] {w : World} {b : Nat} {l : List α} (hb : Blk w b t0 (l.flatMap enc)) (hl : l.length ≤ maxLen) : (Ent.vec enc sz t0 (some ⟨b, 0, none⟩) l.length l).ok w := by
  have hlen : (l.flatMap enc).length = l.length * sz := by
    clear hb hl
    induction l with
    | nil => simp
    | cons a r ih => rw [List.flatMap_cons, List.length_append, ih, N.len, List.length_cons, Nat.succ_mul, Nat.add_comm]
  exact ⟨hlen, .inr ⟨b, l.length, (l.flatMap enc).toArray, rfl, Nat.zero_le _, hb, Nat.le_refl _, hl, by simp [hlen], by rw [← hlen, List.toList_toArray, List.take_length]⟩⟩
theorem Wk.vec {α : Type} {enc : α → List Value} [N : Enc enc sz] {b : Nat} {l : List α} {cs : List Value} {Γ1 : Mm} (hcs : cs = l.flatMap enc) (hl : l.length ≤ maxLen) : Wk (.box b t0 cs :: Γ1) (.vec enc sz t0 (some ⟨b, 0, none⟩) l.length l :: Γ1) := by
  subst hcs
  refine ⟨fun w M => M.tail.cons (box_vec M.head hl) fun k hk ho => ?_, fun k hk => ?_⟩
  · obtain ⟨E, hE, h2⟩ := ho
    simp only [Ent.own, Value.ownBlock, Option.some.injEq] at hk
    exact (List.pairwise_cons.1 M.ap).1 E hE k hk.symm h2
  · rw [owns_cons] at hk ⊢
    refine hk.imp (fun h => ?_) id
    simp only [Ent.own, Value.ownBlock, Option.some.injEq] at h ⊢
    exact h.symm
end
/-! ### vectors made and grown -/
section
variable {P : Program} {n : Nat} {all : List Oper} {K : Env → Mm → Prop} {m : Md} {e : Env} {Γ Γ' : Mm} {d : Option Tmp} {op : Op} {ty t t' t0 : TypeId} {v u : Value} {x y z : Operand} {td : TypeDesc} {sz sz1 by_ by1 : Nat} {zv z1 : Value} {ag ag1 : Bool}
theorem acts_newV {α : Type} {enc : α → List Value} [N : Enc enc sz] (val : Nat → Value) (l : List α) (cs : Array Value) (hcs : cs.toList = l.flatMap enc) (hl : l.length ≤ maxLen) (h : ∀ w, Does P op ty e w (val w.heap.size) (w.alloc (.cells cs t0))) :
    Acts P op ty e Γ fun v Γ1 => ∃ N, Γ1 = N ++ Γ ∧ ∃ b, v = val b ∧ N = [.vec enc sz t0 (some ⟨b, 0, none⟩) l.length l] := fun Δ w M => by
  refine .inl ⟨_, _, h w, .vec enc sz t0 (some ⟨w.heap.size, 0, none⟩) l.length l :: Γ, ?_, [_], rfl, _, rfl, rfl⟩
  have M1 := M.new cs t0
  rw [hcs] at M1
  exact ((Wk.vec rfl hl).mem _ M1).perm List.perm_middle.symm
theorem G_make {α : Type} (enc : α → List Value) [N : Enc enc sz] {a : α} {k : Nat} {ik : IntKind} [U : Ty P t (.slice t0) sz1 z1 by1 ag1] [T : Ty P t0 td sz zv by_ ag] (hm : addOk m = true) (h : ev e x = some (.int ik (k : Int))) (ha : enc a = zv.cells.toList) (hn : by_ * k ≤ 281474976710656) (h1 : 1 ≤ by_)
    (hr : ∀ b, GN P n all K m (push d (.slice (some ⟨b, 0, none⟩) k k) e) (.vec enc sz t0 (some ⟨b, 0, none⟩) k (List.replicate k a) :: Γ)) : GX P n all K m d (.makeSlice t x x) ty e Γ := by
  have hk1 : k ≤ by_ * k := Nat.le_mul_of_pos_left _ h1
  have hcs : (madeCells zv.cells (k * sz)).toList = (List.replicate k a).flatMap enc := by
    have hz : zv.cells.size = sz := by rw [← Array.length_toList, ← ha, N.len]
    apply List.ext_getElem?
    intro j
    have hpos := N.pos
    have hlen : ∀ k : Nat, ((List.replicate k a).flatMap enc).length = k * sz := fun k => by
      induction k with
      | zero => simp
      | succ k ih => rw [List.replicate_succ, List.flatMap_cons, List.length_append, ih, N.len, Nat.succ_mul, Nat.add_comm]
    by_cases hj : j < k * sz
    · have h1 : (madeCells zv.cells (k * sz)).toList[j]? = zv.cells[j % sz]? := by
        simp only [madeCells]
        simp [hj, hz, Nat.mod_lt _ hpos]
      rw [h1]
      have h2 := flatMap_get enc sz N.len (List.replicate k a) (j / sz) (by rw [List.length_replicate]; exact Nat.div_lt_of_lt_mul (by rw [Nat.mul_comm]; exact hj)) (j % sz) (Nat.mod_lt _ hpos)
      rw [show j / sz * sz + j % sz = j by rw [Nat.mul_comm]; exact Nat.div_add_mod j sz] at h2
      rw [h2, List.getElem_replicate, ha]
      simp
    · rw [List.getElem?_eq_none (by simp [madeCells]; omega), List.getElem?_eq_none (by rw [hlen]; omega)]
  have e1 : (List.replicate k a).length = k := List.length_replicate
  refine GX_adds (R := fun v N => ∃ b, v = .slice (some ⟨b, 0, none⟩) k k ∧ N = [.vec enc sz t0 (some ⟨b, 0, none⟩) (List.replicate k a).length (List.replicate k a)]) hm (acts_newV (fun b => .slice (some ⟨b, 0, none⟩) k k) (List.replicate k a) _ hcs (by rw [e1]; unfold maxLen; omega) fun w => does_makeSlice U.und T h (by rw [← Int.natCast_mul]; exact Int.ofNat_le.2 hn) (by omega)) ?_
  intro v N ⟨b, e2, e3⟩
  rw [e2, e3, e1]
  exact hr b
theorem G_makeI {α : Type} (enc : α → List Value) [N : Enc enc sz] {a : α} {i : Int} {ik : IntKind} [U : Ty P t (.slice t0) sz1 z1 by1 ag1] [T : Ty P t0 td sz zv by_ ag] (hm : addOk m = true) (h : ev e x = some (.int ik i)) (h0 : 0 ≤ i) (ha : enc a = zv.cells.toList) (hn : by_ * i.toNat ≤ 281474976710656) (h1 : 1 ≤ by_)
    (hr : ∀ b, GN P n all K m (push d (.slice (some ⟨b, 0, none⟩) i.toNat i.toNat) e) (.vec enc sz t0 (some ⟨b, 0, none⟩) i.toNat (List.replicate i.toNat a) :: Γ)) : GX P n all K m d (.makeSlice t x x) ty e Γ :=
  G_make enc hm (k := i.toNat) (by rw [h]; congr 2; omega) ha hn h1 hr
/-- make with length 0 and room for k. -/
theorem does_make0 {w : World} {k : Nat} {ik ik' : IntKind} [U : Ty P t (.slice t0) sz1 z1 by1 ag1] [T : Ty P t0 td sz zv by_ ag] (h : ev e x = some (.int ik 0)) (h' : ev e y = some (.int ik' (k : Int))) (hn : (by_ : Int) * k ≤ 281474976710656) (h63 : (k : Int) ≤ 9223372036854775807) :
    Does P (.makeSlice t x y) ty e w (.slice (some ⟨w.heap.size, 0, none⟩) 0 k) (w.alloc (.cells (madeCells zv.cells (k * sz)) t0)) := by
  intro ρ dst pos af g hρ
  obtain ⟨i, hi, hzz⟩ := Option.map_eq_some_iff.1 T.info
  simp only [Prod.mk.injEq] at hzz
  have hr := run_make (P := P) w t t0 i zv U.und hi hzz.1 ik ik' 0 k (by omega) (by omega) (by rw [hzz.2.2]; exact hn) h63
  simp only [Int.toNat_natCast, Int.toNat_zero, hzz.2.1] at hr
  simp [execOp, hρ _ _ h, hρ _ _ h', hr]
theorem G_make0 {α : Type} (enc : α → List Value) [N : Enc enc sz] {i : Int} {ik ik' : IntKind} [U : Ty P t (.slice t0) sz1 z1 by1 ag1] [T : Ty P t0 td sz zv by_ ag] (hm : addOk m = true) (h : ev e x = some (.int ik 0)) (h' : ev e y = some (.int ik' i)) (h0 : 0 ≤ i) (hz : zv.cells.size = sz) (hn : by_ * i.toNat ≤ 281474976710656) (h1 : 1 ≤ by_) (hsm : i ≤ 1000000000)
    (hr : ∀ b c, GN P n all K m (push d (.slice (some ⟨b, 0, none⟩) 0 c) e) (.vec enc sz t0 (some ⟨b, 0, none⟩) c ([] : List α) :: Γ)) : GX P n all K m d (.makeSlice t x y) ty e Γ :=
  GX_adds (R := fun v N => ∃ b, v = .slice (some ⟨b, 0, none⟩) 0 i.toNat ∧ N = [.vec enc sz t0 (some ⟨b, 0, none⟩) i.toNat ([] : List α)]) hm (fun Δ w M => by
    have hd := does_make0 (P := P) (ty := ty) (w := w) (t := t) (t0 := t0) (zv := zv) (by_ := by_) (sz := sz) (k := i.toNat) h (by rw [h']; congr 2; omega) (by rw [← Int.natCast_mul]; exact Int.ofNat_le.2 hn) (by omega)
    refine .inl ⟨_, _, hd, .vec enc sz t0 (some ⟨w.heap.size, 0, none⟩) i.toNat ([] : List α) :: Γ, ?_, [_], rfl, _, rfl, rfl⟩
    have M1 := M.new (madeCells zv.cells (i.toNat * sz)) t0
    have hb : (Ent.vec enc sz t0 (some ⟨w.heap.size, 0, none⟩) i.toNat ([] : List α)).ok (w.alloc (.cells (madeCells zv.cells (i.toNat * sz)) t0)) :=
      ⟨by simp, .inr ⟨w.heap.size, i.toNat, madeCells zv.cells (i.toNat * sz), rfl, Nat.zero_le _, heap_alloc_new w _, Nat.zero_le _, by unfold maxLen; omega, by simp [madeCells], by simp⟩⟩
    refine Mem.perm (M1.tail.cons hb fun k hk ho => ?_) List.perm_middle.symm
    obtain ⟨E, hE, h2⟩ := ho
    simp only [Ent.own, Value.ownBlock, Option.some.injEq] at hk
    exact (List.pairwise_cons.1 M1.ap).1 E hE k hk.symm h2) fun v N ⟨b, e1, e2⟩ => by rw [e1, e2]; exact hr b _
/-- A nil slice is an empty vector. -/
theorem vec_nil {α : Type} {enc : α → List Value} {w : World} : (Ent.vec enc sz t0 none 0 ([] : List α)).ok w := ⟨by simp, .inl ⟨rfl, rfl⟩⟩
theorem Wk.nilv {α : Type} {enc : α → List Value} {Γ' : Mm} (h : Wk Γ Γ') : Wk Γ (.vec enc sz t0 none 0 ([] : List α) :: Γ') :=
  ⟨fun w M => (h.mem w M).cons vec_nil fun k hk => by simp [Ent.own, Value.ownBlock] at hk, fun k hk => by
    rw [owns_cons] at hk
    rcases hk with hk | hk
    · simp [Ent.own, Value.ownBlock] at hk
    · exact h.sub k hk⟩
/-- Cells of elements. -/
inductive Dec {α : Type} (enc : α → List Value) : List Value → List α → Prop
  | nil : Dec enc [] []
  | c1 {v : Value} {a : α} {cs : List Value} {l : List α} : enc a = [v] → Dec enc cs l → Dec enc (v :: cs) (a :: l)
  | c2 {v v2 : Value} {a : α} {cs : List Value} {l : List α} : enc a = [v, v2] → Dec enc cs l → Dec enc (v :: v2 :: cs) (a :: l)
  | c3 {v v2 v3 : Value} {a : α} {cs : List Value} {l : List α} : enc a = [v, v2, v3] → Dec enc cs l → Dec enc (v :: v2 :: v3 :: cs) (a :: l)
  | cg {a : α} {cs : List Value} {l : List α} : Dec enc cs l → Dec enc (enc a ++ cs) (a :: l)
theorem Dec.eq {α : Type} {enc : α → List Value} {cs : List Value} {l : List α} (h : Dec enc cs l) : cs = l.flatMap enc := by
  induction h with
  | nil => rfl
  | c1 h _ ih => rw [List.flatMap_cons, h, ih]; rfl
  | c2 h _ ih => rw [List.flatMap_cons, h, ih]; rfl
  | c3 h _ ih => rw [List.flatMap_cons, h, ih]; rfl
  | cg _ ih => rw [List.flatMap_cons, ih]
theorem Dec.one {α : Type} {enc : α → List Value} (a : α) : Dec enc (enc a) [a] := by
  have := Dec.cg (enc := enc) (a := a) Dec.nil
  rwa [List.append_nil] at this
theorem flat_len {α : Type} {enc : α → List Value} (N : Enc enc sz) : ∀ l : List α, (l.flatMap enc).length = l.length * sz
  | [] => by simp
  | a :: r => by rw [List.flatMap_cons, List.length_append, flat_len N r, N.len, List.length_cons, Nat.succ_mul, Nat.add_comm]
theorem acts_append {α : Type} {enc : α → List Value} [N : Enc enc sz] [U : Ty P t (.slice t0) 1 (.slice none 0 0) 24 false] [T : Ty P t0 td sz zv by_ ag] {A : Option Addr} {c k1 k2 c2 : Nat} {p : Addr} {l l2 : List α} {Γ2 : Option Addr → Nat → Mm} (h : ev e x = some (.slice A k1 c)) (hk1 : k1 = l.length) (h1 : ev e y = some (.slice (some p) k2 c2)) (hk : k2 = l2.length)
    (hU : ∀ A' c', Upd Γ (.vec enc sz t0 A c l) (.vec enc sz t0 A' c' (l ++ l2)) (Γ2 A' c')) (hsrc : ∀ w, Mem w Γ → ∀ j u, (l2.flatMap enc)[j]? = some u → w.cell? (p.add j) = some u) (hzs : zv.cells.size = sz) (hby : (l.length + l2.length) * by_ ≤ 140737488355328) (hby1 : 1 ≤ by_) :
    Acts P (.call { callee := .builtin .append, args := #[x, y], argTypes := #[t, t] }) ty e Γ fun v Γ1 => ∃ A' c', v = .slice A' (l ++ l2).length c' ∧ Γ1 = Γ2 A' c' := fun Δ w M => by
  have hb : (Ent.vec enc sz t0 A c l).ok w := by obtain ⟨R, p, _⟩ := (hU A c).perm; exact M.right.ok _ (p.mem_iff.2 (by simp))
  subst hk1
  have hlen := flat_len N
  have hone : ∀ u ∈ l2.flatMap enc, u.oneCell' = true := fun u hu => by
    obtain ⟨a, _, h2⟩ := List.mem_flatMap.1 hu
    exact N.one a u h2
  obtain ⟨v', w', hd, h2, h3, h4⟩ := does_appendP (P := P) (ty := ty) 0 U.und T hzs N.pos h hb h1 (by rw [hlen, hk]) (hsrc w M.right) hone (by rw [hk]; exact hby) hby1 (Nat.zero_le _)
  obtain ⟨A', c', rfl⟩ := row_form' h2
  have e1 : (l ++ l2).length = l.length + k2 := by rw [List.length_append, hk]
  refine .inl ⟨_, w', hd, Γ2 A' c', ?_, A', c', by rw [e1], rfl⟩
  refine Mem.upd (hU A' c') M h3 (fun k _ hk => hk) ?_ fun k hk => ?_
  · show World.ownsRow _ _ _ _ _ _ _
    rw [e1, List.flatMap_append]
    exact h2
  · simp only [Ent.own] at hk
    rw [e1] at hk
    rcases h4 with h4 | h4
    · rw [h4] at hk
      exact .inl hk
    · rw [h4] at hk
      exact .inr (by have := Option.some.inj hk; omega)
theorem G_app {α : Type} {enc : α → List Value} [U : Ty P t (.slice t0) 1 (.slice none 0 0) 24 false] [T : Ty P t0 td sz zv by_ ag] {A : Option Addr} {b c k1 k2 c2 : Nat} {l l2 : List α} {t1 : TypeId} {news : List Value} {Γ2 : Option Addr → Nat → Mm} (hm : wrOk all m = true) (h : ev e x = some (.slice A k1 c)) (h1 : ev e y = some (.slice (some ⟨b, 0, none⟩) k2 c2))
    (hU : ∀ A' c', Upd Γ (.vec enc sz t0 A c l) (.vec enc sz t0 A' c' (l ++ l2)) (Γ2 A' c')) (N : Enc enc sz) (hi : In Γ (.box b t1 news)) (hD : Dec enc news l2) (hk1 : k1 = l.length) (hk : k2 = l2.length) (hzs : zv.cells.size = sz) (hby : (l.length + l2.length) * by_ ≤ 140737488355328) (hby1 : 1 ≤ by_)
    (hr : ∀ A' c', GN P n all K m (push d (.slice A' (l ++ l2).length c') e) (Γ2 A' c')) : GX P n all K m d (.call { callee := .builtin .append, args := #[x, y], argTypes := #[t, t] }) ty e Γ :=
  GX_acts hm (acts_append h hk1 h1 hk hU (fun w M j u hj => by
    rw [add_at, Nat.zero_add, (show Blk w b t1 news from hi.ok M).cell, hD.eq]
    exact hj) hzs hby hby1) fun v Γ1 ⟨A', c', e1, e2⟩ => by rw [e1, e2]; exact hr A' c'
/-- The source a row that can be read, or nil. -/
theorem acts_appendR {α : Type} {enc : α → List Value} [N : Enc enc sz] [U : Ty P t (.slice t0) 1 (.slice none 0 0) 24 false] [T : Ty P t0 td sz zv by_ ag] {A A2 : Option Addr} {c k1 k2 c2 : Nat} {l l2 : List α} {Γ2 : Option Addr → Nat → Mm} (h : ev e x = some (.slice A k1 c)) (hk1 : k1 = l.length) (h1 : ev e y = some (.slice A2 k2 c2)) (hk : k2 = l2.length)
    (hU : ∀ A' c', Upd Γ (.vec enc sz t0 A c l) (.vec enc sz t0 A' c' (l ++ l2)) (Γ2 A' c')) (hR : Rd Γ enc sz A2 l2) (hn : ∀ w, Mem w Γ → A2 = none → c2 = 0) (hzs : zv.cells.size = sz) (hby : (l.length + l2.length) * by_ ≤ 140737488355328) (hby1 : 1 ≤ by_) :
    Acts P (.call { callee := .builtin .append, args := #[x, y], argTypes := #[t, t] }) ty e Γ fun v Γ1 => ∃ A' c', v = .slice A' (l ++ l2).length c' ∧ Γ1 = Γ2 A' c' := by
  cases A2 with
  | some p => exact acts_append h hk1 h1 hk hU (fun w M j u hj => (hR w M).cells N.len N.pos rfl j u hj) hzs hby hby1
  | none =>
    intro Δ w M
    have hb : (Ent.vec enc sz t0 A c l).ok w := by obtain ⟨R, p, _⟩ := (hU A c).perm; exact M.right.ok _ (p.mem_iff.2 (by simp))
    have h0 := (hR w M.right).nil_of
    obtain rfl : c2 = 0 := hn w M.right rfl
    obtain rfl : l2 = [] := List.length_eq_zero_iff.1 h0
    subst hk hk1
    refine .inl ⟨_, w, does_append0 h h1 hb, Γ2 A c, ?_, A, c, by simp, rfl⟩
    have hU' := hU A c
    rw [List.append_nil] at hU'
    have : ∀ {Γ E Γ'}, Upd Γ E E Γ' → Γ = Γ' := fun h => by
      have key : ∀ {Γ E F Γ'}, Upd Γ E F Γ' → E = F → Γ = Γ' := fun h => by
        induction h with
        | here => intro e1; rw [e1]
        | there _ ih => intro e1; rw [ih e1]
      exact key h rfl
    rw [← this hU']
    exact M
/-- A box as a vector. -/
theorem acts_box {α : Type} {enc : α → List Value} {b : Nat} {l : List α} {cs : List Value} {R : Value → Mm → Prop} {Γ1 : Mm} [N : Enc enc sz] (hU : Upd Γ (.box b t0 cs) (.vec enc sz t0 (some ⟨b, 0, none⟩) l.length l) Γ1) (hD : Dec enc cs l) (hl : l.length ≤ maxLen) (h : Acts P op ty e Γ1 R) : Acts P op ty e Γ R := fun Δ w M => by
  have hb : Blk w b t0 cs := by obtain ⟨R, p, _⟩ := hU.perm; exact M.right.ok (.box b t0 cs) (p.mem_iff.2 (by simp))
  rw [hD.eq] at hb
  refine h Δ w (Mem.upd hU M (Chg.refl w none_) (fun _ _ h => h.elim) (box_vec hb hl) fun k hk => .inl ?_)
  simp only [Ent.own, Value.ownBlock, Option.some.injEq] at hk ⊢
  exact hk.symm
theorem G_appBR {α : Type} {enc : α → List Value} [U : Ty P t (.slice t0) 1 (.slice none 0 0) 24 false] [T : Ty P t0 td sz zv by_ ag] {A2 : Option Addr} {b c k1 k2 c2 : Nat} {l l2 : List α} {cs : List Value} {Γ1 : Mm} {Γ2 : Option Addr → Nat → Mm} (hm : wrOk all m = true) (h : ev e x = some (.slice (some ⟨b, 0, none⟩) k1 c)) (h1 : ev e y = some (.slice A2 k2 c2)) (hR : Rd Γ enc sz A2 l2) (N : Enc enc sz)
    (hU1 : Upd Γ (.box b t0 cs) (.vec enc sz t0 (some ⟨b, 0, none⟩) c l) Γ1) (hD : Dec enc cs l) (hU : ∀ A' c', Upd Γ1 (.vec enc sz t0 (some ⟨b, 0, none⟩) c l) (.vec enc sz t0 A' c' (l ++ l2)) (Γ2 A' c')) (hw : Wk Γ1 Γ → True) (hR1 : Rd Γ1 enc sz A2 l2) (hn : A2 = none → c2 = 0) (hk1 : k1 = l.length) (hc : c = l.length) (hl : l.length ≤ 1000) (hk : k2 = l2.length) (hzs : zv.cells.size = sz) (hby : (l.length + l2.length) * by_ ≤ 140737488355328) (hby1 : 1 ≤ by_)
    (hr : ∀ A' c', GN P n all K m (push d (.slice A' (l ++ l2).length c') e) (Γ2 A' c')) : GX P n all K m d (.call { callee := .builtin .append, args := #[x, y], argTypes := #[t, t] }) ty e Γ := by
  subst hc
  exact GX_acts hm (acts_box hU1 hD (by unfold maxLen; omega) (acts_appendR h hk1 h1 hk hU hR1 (fun _ _ => hn) hzs hby hby1)) fun v Γ1 ⟨A', c', e1, e2⟩ => by rw [e1, e2]; exact hr A' c'
/-! ### entries that are kept apart -/
/-! ### calls -/
theorem G_call {f : FuncId} [F : Go.Proofs.YtclihihdgodloaaDoor.SC.Fn P f] {args : Array Operand} {ats : Array TypeId} {vs : List Value} {R : Value → Mm → Prop} (hm : addOk m = true) (h : evs e args.toList = some vs) (hc : ∀ w, Mem w Γ → CVN P f vs w R) (hr : ∀ v N, R v N → GN P n all K m (push d v e) (N ++ Γ)) :
    GX P n all K m d (.call { callee := .value (.func f), args := args, argTypes := ats }) ty e Γ :=
  GX_adds (R := R) hm (fun Δ w M => .inr (.inl ⟨f, vs, enters (evs_map h), CV.mono (hc w M.right) fun v w' ⟨N, M', hR⟩ => ⟨N ++ Γ, by
    have := M.add M'
    rw [← List.append_assoc] at this ⊢
    exact this.perm ((List.perm_append_comm).append_right _), N, rfl, hR⟩⟩)) hr
/-- A call of a closure that changes nothing. -/
theorem G_callF {f : FuncId} {args : Array Operand} {ats : Array TypeId} {vs : List Value} {cap : Array Value} {R : Value → Mm → Prop} (hm : addOk m = true) (hx : ev e x = some (.func (.func f) #[] cap)) (F : Go.Proofs.YtclihihdgodloaaDoor.SC.Fn P f) (h : evs e args.toList = some vs) (hc : ∀ w, Mem w Γ → CVN P f (vs ++ cap.toList) w R) (hr : ∀ v N, R v N → GN P n all K m (push d v e) (N ++ Γ)) :
    GX P n all K m d (.call { callee := .value x, args := args, argTypes := ats }) ty e Γ :=
  GX_adds (R := R) hm (fun Δ w M => .inr (.inl ⟨f, vs ++ cap.toList, entersC hx (evs_map h), CV.mono (hc w M.right) fun v w' ⟨N, M', hR⟩ => ⟨N ++ Γ, by
    have := M.add M'
    rw [← List.append_assoc] at this ⊢
    exact this.perm ((List.perm_append_comm).append_right _), N, rfl, hR⟩⟩)) hr
/-- A call of a closure that lies in a slot. -/
theorem G_callC {f : FuncId} {args : Array Operand} {ats : Array TypeId} {vs : List Value} {cap : Array Value} {C : Mm} {R : Value → Mm → Prop} (hm : wrOk all m = true) (hx : ev e x = some (.func (.func f) #[] cap)) (F : Go.Proofs.YtclihihdgodloaaDoor.SC.Fn P f) (h : evs e args.toList = some vs) (hC : Rems Γ C Γ') (hc : ∀ w, Mem w Γ → CVM P f (vs ++ cap.toList) w C R) (hr : ∀ v N, R v N → GN P n all K m (push d v e) (N ++ Γ')) :
    GX P n all K m d (.call { callee := .value x, args := args, argTypes := ats }) ty e Γ :=
  GX_acts (R := fun v Γ1 => ∃ N, Γ1 = N ++ Γ' ∧ R v N) hm (fun Δ w M => .inr (.inl ⟨f, vs ++ cap.toList, entersC hx (evs_map h), CV.mono (hc w M.right) fun v w' ⟨N, M', hR⟩ => ⟨N ++ Γ', by
    have := (Mem.take hC M).addS M'
    rw [← List.append_assoc] at this ⊢
    exact this.perm ((List.perm_append_comm).append_right _), N, rfl, hR⟩⟩)) fun v Γ1 ⟨N, e1, h2⟩ => by rw [e1]; exact hr v N h2
theorem G_fun {fn : Go.Fn} {cap : Array Operand} {vs : List Value} (h : evs e cap.toList = some vs) (hr : GN P n all K m (push d (.func fn #[] vs.toArray) e) Γ) : GX P n all K m d (.makeFunc fn #[] cap) ty e Γ :=
  GX_def (fun w _ => does_makeFunc (evs_map h)) hr
end
end SC
end Go.Proofs.YtclihihdgodloaaDoor
end
section
/- Results in a cell; families of entries. -/
set_option linter.unusedVariables false
set_option linter.unusedSimpArgs false
namespace Go.Proofs.YtclihihdgodloaaDoor
namespace SC
open Go.Proofs
def retGC (a sz : Nat) (rs : List Nat) (R : Value → Mm → Prop) : PostG
  | .ret, e, Γ => ∃ b t cs vs, look e a = some (.pointer (some ⟨b, 0, none⟩)) ∧ In Γ (.box b t cs) ∧ cs.length = sz ∧ rs.map (look e) = vs.map some ∧ R (retVal (.agg cs.toArray :: vs)) Γ
  | .normal, e, Γ => ∃ b t cs vs, look e a = some (.pointer (some ⟨b, 0, none⟩)) ∧ In Γ (.box b t cs) ∧ cs.length = sz ∧ rs.map (look e) = vs.map some ∧ R (retVal (.agg cs.toArray :: vs)) Γ
  | _, _, _ => False
section
variable {P : Program} {f : FuncId} {args : List Value} {w : World} {R : Value → Mm → Prop} {C : Mm} {t : TypeId} {td : TypeDesc} {sz by_ : Nat} {zv : Value}
theorem CVN.enterC {fn : Func} {c : Code} (n a : Nat) (rs : List Nat) [T : Ty P t td sz zv by_ true] (hf : P.funcs[f]? = some fn) (hb : fn.body = some c)
    (hn : fn.ntmps = n) (hr : fn.results = (.cell a t :: rs.map ResultVar.tmp).toArray) (hl : rs.length = 0 ∨ rs.length = 2) (hs : Nat.ble args.length n = true) (h : GC P n c (retGC a sz rs fun v Γ => ∃ N, Wk Γ (N ++ [.old w none_]) ∧ R v N) (argEnv args 0) [.old w none_]) : CVN P f args w R := by
  refine SC.enterC (T := T) n a rs hf hb hn hr hl hs ((h w (Mem.start w)).mono ?_)
  intro s e w' ⟨Γ, M, hq⟩
  cases s with
  | normal => obtain ⟨b, t1, cs, vs, h0, hi, hs, h1, N, h2, h3⟩ := hq; exact ⟨⟨b, 0, none⟩, cs, vs, h0, fun j u hj => by rw [add_at, Nat.zero_add, (show Blk w' b t1 cs from hi.ok M).cell]; exact hj, hs, h1, N, h2.mem w' M, h3⟩
  | ret => obtain ⟨b, t1, cs, vs, h0, hi, hs, h1, N, h2, h3⟩ := hq; exact ⟨⟨b, 0, none⟩, cs, vs, h0, fun j u hj => by rw [add_at, Nat.zero_add, (show Blk w' b t1 cs from hi.ok M).cell]; exact hj, hs, h1, N, h2.mem w' M, h3⟩
  | exit i => exact hq
  | goto l => exact hq
  | panic c => exact hq
  | outgrown => exact hq
end
section rets
variable {R : Value → Mm → Prop} {e : Env} {Γ : Mm} {a a1 a2 sz b : Nat} {u v : Value} {t : TypeId} {cs : List Value}
theorem retGC0 (h : look e a = some (.pointer (some ⟨b, 0, none⟩))) (hi : In Γ (.box b t cs)) (hl : cs.length = sz) (hr : R (.agg cs.toArray) Γ) : retGC a sz [] R .ret e Γ := ⟨b, t, cs, [], h, hi, hl, rfl, hr⟩
end rets
/-! ### families -/
theorem In.skip {Δ Γ : Mm} {E : Ent} (h : In Γ E) : In (Δ ++ Γ) E := by
  induction Δ with
  | nil => exact h
  | cons D r ih => exact .there ih
theorem In.left {Δ Γ : Mm} {E : Ent} (h : In Δ E) : In (Δ ++ Γ) E := by
  induction h with
  | here => exact .here
  | there _ ih => exact .there ih
theorem In.of {Γ : Mm} {E : Ent} (h : E ∈ Γ) : In Γ E := by
  induction Γ with
  | nil => cases h
  | cons D r ih =>
    rcases List.mem_cons.1 h with rfl | h
    · exact .here
    · exact .there (ih h)
theorem Upd.skip {Δ Γ Γ' : Mm} {E F : Ent} (h : Upd Γ E F Γ') : Upd (Δ ++ Γ) E F (Δ ++ Γ') := by
  induction Δ with
  | nil => exact h
  | cons D r ih => exact .there ih
theorem Rem.skip {Δ Γ Γ' : Mm} {E : Ent} (h : Rem Γ E Γ') : Rem (Δ ++ Γ) E (Δ ++ Γ') := by
  induction Δ with
  | nil => exact h
  | cons D r ih => exact .there ih
theorem Wk.perm {Γ Γ' : Mm} (h : Γ.Perm Γ') : Wk Γ Γ' := ⟨fun w M => M.perm h, fun k hk => (owns_perm h).2 hk⟩
theorem Wk.drop {D : Ent} {Γ Γ' : Mm} (h : Wk Γ Γ') : Wk (D :: Γ) Γ' := ⟨fun w M => h.mem w M.tail, fun k hk => owns_cons.2 (.inr (h.sub k hk))⟩
theorem Wk.last {Γ Δ : Mm} {E : Ent} (h : Wk Γ (E :: Δ)) : Wk Γ (Δ ++ [E]) := h.trans (.perm (List.perm_append_comm (l₁ := [E])))
def fam {α : Type} (f : α → Mm) (l : List α) : Mm := l.reverse.flatMap f
theorem fam_snoc {α : Type} (f : α → Mm) (l : List α) (a : α) : fam f (l ++ [a]) = f a ++ fam f l := by unfold fam; simp
theorem fam_app {α : Type} (f : α → Mm) (l r : List α) : fam f (l ++ r) = fam f r ++ fam f l := by unfold fam; simp
theorem fam_mem {α : Type} {f : α → Mm} {l : List α} {a : α} {E : Ent} (h : a ∈ l) (hE : E ∈ f a) : E ∈ fam f l := by
  unfold fam
  rw [List.mem_flatMap]
  exact ⟨a, by simpa using h, hE⟩
/-! ### what a call that changes something may still read -/
theorem In.one {Γ : Mm} {E : Ent} {w : World} (h : In Γ E) (M : Mem w Γ) : Mem w [E] := .one (h.ok M)
theorem Rd.oldR {α : Type} {Γ : Mm} {enc : α → List Value} {sz : Nat} {A : Option Addr} {l : List α} {w0 : World} {S : Nat → Prop} (h : In Γ (.old w0 S)) (h0 : Rd [.old w0 S] enc sz A l) : Rd Γ enc sz A l := fun w M => h0 w (h.one M)
theorem Rd.frame {α : Type} {C Γ : Mm} {enc : α → List Value} {sz : Nat} {A : Option Addr} {l : List α} {w : World} (M : Mem w (C ++ Γ)) (h : Rd Γ enc sz A l) : Rd [.old w (owns C)] enc sz A l :=
  fun w2 M2 => h w2 (M.right.chg (S := owns C) (M2.ok (.old w (owns C)) (by simp)) fun k hk hs => M.sep k hs hk)
/-- In every world of Γ the block has these cells. -/
def RdB (Γ : Mm) (b : Nat) (t : TypeId) (cs : List Value) : Prop := ∀ w, Mem w Γ → Blk w b t cs
theorem RdB.own {Γ : Mm} {b : Nat} {t : TypeId} {cs : List Value} (h : In Γ (.box b t cs)) : RdB Γ b t cs := fun w M => h.ok M
theorem RdB.old {Γ : Mm} {b : Nat} {t : TypeId} {cs : List Value} {w0 : World} (h : In Γ (.old w0 none_)) (h0 : Blk w0 b t cs) : RdB Γ b t cs := fun w M => h0.chg (h.ok M) id
theorem RdB.oldR {Γ : Mm} {b : Nat} {t : TypeId} {cs : List Value} {w0 : World} {S : Nat → Prop} (h : In Γ (.old w0 S)) (h0 : RdB [.old w0 S] b t cs) : RdB Γ b t cs := fun w M => h0 w (h.one M)
theorem RdB.frame {C Γ : Mm} {b : Nat} {t : TypeId} {cs : List Value} {w : World} (M : Mem w (C ++ Γ)) (h : RdB Γ b t cs) : RdB [.old w (owns C)] b t cs :=
  fun w2 M2 => h w2 (M.right.chg (S := owns C) (M2.ok (.old w (owns C)) (by simp)) fun k hk hs => M.sep k hs hk)
theorem Mem.takes {C Γ Γ' : Mm} {w : World} (h : Rems Γ C Γ') (M : Mem w Γ) : Mem w (C ++ Γ') := M.perm h.perm
theorem G_ldR {P : Program} {n : Nat} {all : List Oper} {K : Env → Mm → Prop} {m : Md} {e : Env} {Γ : Mm} {d : Option Tmp} {ty t t1 : TypeId} {v : Value} {x : Operand} {td : TypeDesc} {sz by_ : Nat} {zv : Value} {b o : Nat} {cs : List Value} [T : Ty P t td sz zv by_ false] (h : ev e x = some (.pointer (some ⟨b, o, none⟩))) (hb : RdB Γ b t1 cs) (hv : cs[o]? = some v) (hr : GN P n all K m (push d v e) Γ) : GX P n all K m d (.load t x) ty e Γ :=
  GX_def (fun w M => does_load1 h (hb w M) hv) hr
/-- A slice of slices: each with its handle. -/
def encS {β : Type} (p : (Option Addr × Nat) × List β) : List Value := [.slice p.1.1 p.2.length p.1.2]
instance {β : Type} : Enc (encS (β := β)) 1 := ⟨fun _ => rfl, fun a u h => by simp [encS] at h; subst h; rfl, by decide⟩
def spotc (p : Int × Int) : List Value := [nu p.1, nu p.2]
instance : Enc spotc 2 := ⟨fun _ => rfl, fun a u h => by simp [spotc] at h; rcases h with rfl | rfl <;> rfl, by decide⟩
theorem Dec.pr {a b : Int} {cs : List Value} {l : List (Int × Int)} (h : Dec spotc cs l) : Dec spotc (nu a :: nu b :: cs) ((a, b) :: l) := .c2 rfl h
theorem Dec.tr {a b c : Int} {cs : List Value} {l : List Tri} (h : Dec tcells cs l) : Dec tcells (nu a :: nu b :: nu c :: cs) ((a, b, c) :: l) := .c3 rfl h
theorem Rd.nil {α : Type} {Γ : Mm} {enc : α → List Value} {sz : Nat} {A : Option Addr} : Rd Γ enc sz A ([] : List α) := fun _ _ k hk => absurd hk (Nat.not_lt_zero _)
/-- The justice lists of a circuit, each with its handle. -/
def jps (c : Circ) (js : Hd) : List ((Option Addr × Nat) × List Int) := (List.range c.justice.length).map fun k => (js k, c.justice.getD k [])
theorem jps_len (c : Circ) (js : Hd) : (jps c js).length = c.justice.length := by unfold jps; simp
theorem jps_gt (c : Circ) (js : Hd) {i : Nat} (h : i < c.justice.length) : gt (jps c js) (i : Int) = (js i, c.justice[i]) := by
  rw [gt_nat (by rw [jps_len]; exact h)]
  unfold jps
  simp [h]
theorem CirAt.jrow {w : World} {c : Circ} {h js : Hd} (H : CirAt w c h js) : RowA w encS 1 (h 6).1 (jps c js) := fun k hk => by
  rw [jps_len] at hk
  obtain ⟨p, h1, h2⟩ := H.justice k hk
  refine ⟨p, h1, fun j u hj => ?_⟩
  have e1 : (jps c js)[k]'(by rw [jps_len]; exact hk) = (js k, c.justice[k]) := by unfold jps; simp [hk]
  rw [e1] at hj
  match j, hj with
  | 0, hj =>
    simp only [encS, List.getElem?_cons_zero, Option.some.injEq] at hj
    rw [add_zero, h2, ← hj]
  | j + 1, hj => simp [encS] at hj
theorem CirAt.jeach {w : World} {c : Circ} {h js : Hd} (H : CirAt w c h js) {i : Nat} (hi : i < c.justice.length) : RowA w icell 1 (gt (jps c js) (i : Int)).1.1 (gt (jps c js) (i : Int)).2 := by
  rw [jps_gt c js hi]
  exact H.each i hi
end SC
end Go.Proofs.YtclihihdgodloaaDoor
end
section
/- trestleref07: Lit, All, Next0. -/
set_option linter.unusedVariables false
set_option linter.unusedSimpArgs false
namespace Go.Proofs.YtclihihdgodloaaDoor
namespace SC
open Go.Proofs
/-- A literal's value. -/
def lv (v : List Bool) (l : Int) : Bool := gt v (l / 2) != decide (l % 2 = 1)
/-- The values have a literal. -/
def hasL (v : List Bool) (l : Int) : Prop := 0 ≤ l ∧ l / 2 < v.length ∧ l ≤ 9223372036854775807
attribute [local irreducible] WC WL WX WS WO OX Does DoesU Enters CV Pure thenQ blockQ retQ Wants retQC GC GL GS GX RdB thenG blockG retG Rd At gt CVN CVM
set_option maxRecDepth 100000
end SC
end Go.Proofs.YtclihihdgodloaaDoor
end
section
/- A circuit that comes in: what it reads as lies in memory as the plain word says. -/
set_option linter.unusedVariables false
set_option linter.unusedSimpArgs false
namespace Go.Proofs.YtclihihdgodloaaDoor
namespace SC
open Go.Proofs
set_option maxRecDepth 100000
theorem listOf {α : Type} : ∀ {n : Nat} {Q : Nat → α → Prop}, (∀ i, i < n → ∃ x, Q i x) → ∃ l : List α, l.length = n ∧ ∀ i (hi : i < l.length), Q i l[i]
  | 0, _, _ => ⟨[], rfl, fun i hi => absurd hi (Nat.not_lt_zero _)⟩
  | n + 1, Q, h => by
    obtain ⟨l, hl, hq⟩ := listOf (n := n) (Q := Q) fun i hi => h i (by omega)
    obtain ⟨x, hx⟩ := h n (by omega)
    refine ⟨l ++ [x], by simp [hl], fun i hi => ?_⟩
    rcases Nat.lt_or_ge i n with hlt | hge
    · rw [List.getElem_append_left (by omega)]
      exact hq i (by omega)
    · have e : i = n := by simp [hl] at hi; omega
      subst e
      rw [List.getElem_append_right (by omega)]
      simpa [hl] using hx
section
variable {H : Type} {enc : TypeId × Value → H} {W : World} {base : Nat} {spare : Nat → Bool} {held : Bool}
/-- A field of a struct whose fields have one cell each. -/
theorem openField {t : TypeId} {fs : Array Field} {fuel : Nat} {cs : List Value} {x : DataW H × List MemPlace} (ht : Tryd.prog.underlying t = some (.struct fs)) (hc : Tryd.prog.cellsOf t = fs.size) (h : DataW.trod enc Tryd.prog W base spare held fuel t cs = some x) :
    cs.length = fs.size ∧ ∃ n, ∀ (i : Nat) (f : Field) (hi : i < cs.length), fs[i]? = some f → f.offset = i → Tryd.prog.cellsOf f.type = 1 → ∃ y, DataW.trod enc Tryd.prog W base spare held n f.type [cs[i]] = some y := by
  obtain ⟨xs, n, _, _, hcl, hxl, hf⟩ := DataW.trod_struct ht h
  refine ⟨hcl.trans hc, n, fun i f hi hfi ho h1 => ?_⟩
  have := hf i f hfi
  have hx : i < xs.length := by rw [hxl, ← hc, ← hcl]; exact hi
  rw [ho, h1, List.drop_eq_getElem_cons hi, List.getElem?_eq_getElem hx] at this
  exact ⟨_, this⟩
theorem bounds8 {n : Int} (h : (Lit.int .u8 n).wf = true) : 0 ≤ n ∧ n ≤ 255 := by simp [Lit.wf, IntKind.min, IntKind.max, IntKind.signed, IntKind.bits] at h; omega
theorem openSym {fuel : Nat} {cs : List Value} {x : DataW H × List MemPlace} (h : DataW.trod enc Tryd.prog W base spare held fuel 130 cs = some x) :
    ∃ s, scells s = cs ∧ ((0 ≤ s.kind ∧ s.kind ≤ 255) ∧ (-9223372036854775808 ≤ s.at_ ∧ s.at_ ≤ 9223372036854775807) ∧ s.name.size ≤ maxLen) := by
  obtain ⟨hl, n, hfl⟩ := openField Tryd.underlying130 (by kernel_rfl) h
  have hl : cs.length = 3 := hl
  obtain ⟨y0, h0⟩ := hfl 0 _ (by omega) rfl rfl (by kernel_rfl)
  obtain ⟨y1, h1⟩ := hfl 1 _ (by omega) rfl rfl (by kernel_rfl)
  obtain ⟨y2, h2⟩ := hfl 2 _ (by omega) rfl rfl (by kernel_rfl)
  obtain ⟨p, e0, _, w0⟩ := DataW.trod_int Tryd.underlying5 h0
  obtain ⟨q, e1, _, w1⟩ := DataW.trod_int Tryd.underlying3 h1
  obtain ⟨r, e2, _, w2⟩ := DataW.trod_string Tryd.underlying9 h2
  refine ⟨⟨p, q, r⟩, ?_, bounds8 w0, ?_, w2⟩
  · apply List.ext_getElem (by rw [hl]; rfl)
    intro i hi1 hi2
    match i, hi2 with
    | 0, _ => exact (List.cons.inj e0).1.symm
    | 1, _ => exact (List.cons.inj e1).1.symm
    | 2, _ => exact (List.cons.inj e2).1.symm
  · simp [Lit.wf, IntKind.min, IntKind.max, IntKind.signed, IntKind.bits] at w1; simp only; omega
theorem openTxt {fuel : Nat} {cs : List Value} {x : DataW H × List MemPlace} (h : DataW.trod enc Tryd.prog W base spare held fuel 9 cs = some x) : ∃ s, bcell s = cs ∧ s.size ≤ maxLen := by
  obtain ⟨r, rfl, _, w⟩ := DataW.trod_string Tryd.underlying9 h
  exact ⟨r, rfl, w⟩
/-- A list within a list: where it lies, and what it holds. -/
structure Lst where
  A : Option Addr
  cp : Nat
  l : List Int
def lcell (x : Lst) : List Value := [.slice x.A x.l.length x.cp]
end
end SC
end Go.Proofs.YtclihihdgodloaaDoor
end
section
/- trestlebook: CopyLists, SameInts, KeptInts, SpoilInts. -/
set_option linter.unusedVariables false
set_option linter.unusedSimpArgs false
namespace Go.Proofs.YtclihihdgodloaaDoor
namespace SC
open Go.Proofs
attribute [local irreducible] WC WL WX WS WO OX Does DoesU Enters CV Pure thenQ blockQ retQ Wants retQC
set_option maxRecDepth 100000
end SC
end Go.Proofs.YtclihihdgodloaaDoor
end
section
/- The builders of hash: plain words and their laws; what is known of their memory. -/
set_option linter.unusedVariables false
set_option linter.unusedSimpArgs false
namespace Go.Proofs.YtclihihdgodloaaDoor
namespace SC
open Go.Proofs Go.Maps

/-! ### plain words -/
abbrev Gate := Int × Int × Int
def outOf : List Gate → Int → Int → Int
  | [], _, _ => 0
  | g :: r, p, q => if g.2.1 = p ∧ g.2.2 = q then g.1 else outOf r p q
structure Inv (n : Int) (gs : List Gate) : Prop where
  nn : 0 ≤ n
  top : n + gs.length ≤ 16384
  outs : ∀ g ∈ gs, 2 ≤ g.1 ∧ g.1 ≤ 2 * (n + gs.length)
  fit : ∀ g ∈ gs, 0 ≤ g.2.1 ∧ g.2.1 ≤ 40000 ∧ 0 ≤ g.2.2 ∧ g.2.2 ≤ 40000
section
variable {n : Int} {gs : List Gate} {p q : Int}
end
def okM (n : Int) (gs : List Gate) (x : Int) : Prop := 0 ≤ x ∧ x ≤ 2 * (n + gs.length) + 1
instance (n : Int) (gs : List Gate) (x : Int) : Decidable (okM n gs x) := by unfold okM; infer_instance
theorem outOf_mem : ∀ (gs : List Gate) (p q : Int), outOf gs p q = 0 ∨ ∃ g ∈ gs, outOf gs p q = g.1
  | [], _, _ => .inl rfl
  | g :: r, p, q => by
    unfold outOf
    split
    · exact .inr ⟨g, by simp, rfl⟩
    · rcases outOf_mem r p q with h | ⟨g', hg, h⟩
      · exact .inl h
      · exact .inr ⟨g', by simp [hg], h⟩
theorem Inv.out {n : Int} {gs : List Gate} (h : Inv n gs) (p q : Int) : 0 ≤ outOf gs p q ∧ outOf gs p q ≤ 2 * (n + gs.length) := by
  rcases outOf_mem gs p q with h1 | ⟨g, hg, h1⟩
  · have := h.nn; omega
  · have := h.outs g hg; omega
/-- What 'andM' answers. -/
structure Good (n : Int) (gs : List Gate) (r : Int × Int × List Gate) : Prop where
  inv : Inv n r.2.2
  ok : okM n r.2.2 r.1
  more : gs.length ≤ r.2.2.length
/-! ### the map of gates -/
def fits (a : Int) : Prop := -9223372036854775808 ≤ a ∧ a ≤ 9223372036854775807
end SC
end Go.Proofs.YtclihihdgodloaaDoor
end
section
/- trestlebook: are two lists of things the same? -/
set_option linter.unusedVariables false
set_option linter.unusedSimpArgs false
namespace Go.Proofs.YtclihihdgodloaaDoor
namespace SC
open Go.Proofs Go.Maps
set_option maxRecDepth 100000
def TriFits (x : Tri) : Prop := fits x.1 ∧ fits x.2.1 ∧ fits x.2.2
section
variable {e : Env} {x y : Operand} {ty t : TypeId}
end
attribute [local irreducible] WC WL WX WS WO OX Does DoesU Enters CV Pure thenQ blockQ retQ Wants retQC
end SC
end Go.Proofs.YtclihihdgodloaaDoor
end
section
/- trestlebook: symbols, texts, lists: the same? -/
set_option linter.unusedVariables false
set_option linter.unusedSimpArgs false
namespace Go.Proofs.YtclihihdgodloaaDoor
namespace SC
open Go.Proofs Go.Maps
set_option maxRecDepth 100000
def SymFits (s : Sym) : Prop := fit8 s.kind ∧ fit64 s.at_ ∧ s.name.size ≤ 9223372036854775807
section
variable {P : Program} {n : Nat} {all rest : List Oper} {K : Env → World → Prop} {S : World → Prop} {r : List (Nat × Bool)} {i : Nat} {e : Env} {w : World} {d : Option Tmp} {ty : TypeId} {x y : Operand} {t t' : TypeId}
end
attribute [local irreducible] WC WL WX WS WO OX Does DoesU Enters CV Pure thenQ blockQ retQ Wants retQC
end SC
end Go.Proofs.YtclihihdgodloaaDoor
end
section
/- trestlebook: SameLists, SameCircuit. -/
set_option linter.unusedVariables false
set_option linter.unusedSimpArgs false
namespace Go.Proofs.YtclihihdgodloaaDoor
namespace SC
open Go.Proofs
attribute [local irreducible] WC WL WX WS WO OX Does DoesU Enters CV Pure thenQ blockQ retQ Wants retQC
set_option maxRecDepth 100000
/-- The numbers and texts of a circuit fit. -/
structure Circ.Okay (c : Circ) : Prop where
  lens : ∀ n ∈ c.lens, n ≤ 9223372036854775807
  just : ∀ l ∈ c.justice, l.length ≤ 9223372036854775807
  latches : ∀ x ∈ c.latches, TriFits x
  ands : ∀ x ∈ c.ands, TriFits x
  symbols : ∀ x ∈ c.symbols, SymFits x
theorem Circ.same {c d : Circ} (h0 : c.max = d.max) (h1 : c.inputs = d.inputs) (h2 : c.latches = d.latches) (h3 : c.outputs = d.outputs) (h4 : c.bads = d.bads) (h5 : c.constraints = d.constraints) (h6 : c.justice = d.justice) (h7 : c.fairness = d.fairness) (h8 : c.ands = d.ands) (h9 : c.symbols = d.symbols) (h10 : c.comments = d.comments) : c = d := by
  cases c; cases d
  simp at h0 h1 h2 h3 h4 h5 h6 h7 h8 h9 h10
  simp [h0, h1, h2, h3, h4, h5, h6, h7, h8, h9, h10]
end SC
end Go.Proofs.YtclihihdgodloaaDoor
end
section
/- trestlebook: KeptInts, SpoilInts; names. -/
set_option linter.unusedVariables false
set_option linter.unusedSimpArgs false
namespace Go.Proofs.YtclihihdgodloaaDoor
namespace SC
open Go.Proofs
attribute [local irreducible] WC WL WX WS WO OX Does DoesU Enters CV Pure thenQ blockQ retQ Wants retQC
set_option maxRecDepth 100000
theorem RowA.left {α : Type} {w : World} {enc : α → List Value} {sz : Nat} {A : Option Addr} {l m : List α} (h : RowA w enc sz A (l ++ m)) : RowA w enc sz A l := fun k hk => by
  obtain ⟨p, h1, h2⟩ := h k (by simp; omega)
  refine ⟨p, h1, fun j u hj => h2 j u ?_⟩
  rwa [List.getElem_append_left hk]
end SC
end Go.Proofs.YtclihihdgodloaaDoor
end
section
/- trestlebook: CopyCircuit. -/
set_option linter.unusedVariables false
set_option linter.unusedSimpArgs false
namespace Go.Proofs.YtclihihdgodloaaDoor
namespace SC
open Go.Proofs
section
variable {P : Program} {d : Option Tmp} {op : Op} {ty : TypeId} {pos : String} {af : Array Edge} {g : Option (Nat × Bool)} {e : Env} {w : World} {R : Value → World → Prop}
theorem Ex.does {v : Value} {w' : World} (h : Does P op ty e w v w') (hr : R v w') : Ex P ⟨d, op, ty, pos, af, g⟩ e w R := .inl ⟨v, w', h, hr⟩
theorem Ex.fn {f : FuncId} [F : Go.Proofs.YtclihihdgodloaaDoor.SC.Fn P f] {args : Array Operand} {ats : Array TypeId} {vs : List Value} {R' : Value → World → Prop} (h : evs e args.toList = some vs) (hc : CV P f vs w R') (hr : ∀ v w', R' v w' → R v w') :
    Ex P ⟨d, .call { callee := .value (.func f), args := args, argTypes := ats }, ty, pos, af, g⟩ e w R := .inr (.inl ⟨f, vs, enters (evs_map h), hc.mono hr⟩)
end
/-- Where there is no row there is no room. -/
def Nils (h js : Hd) : Prop := (∀ i, (h i).1 = none → (h i).2 = 0) ∧ ∀ i, (js i).1 = none → (js i).2 = 0
attribute [local irreducible] WC WL WX WS WO OX Does DoesU Enters CV Pure thenQ blockQ retQ Wants retQC
set_option maxRecDepth 100000
end SC
end Go.Proofs.YtclihihdgodloaaDoor
end
section
/- trestlebook: LendCircuit. -/
set_option linter.unusedVariables false
set_option linter.unusedSimpArgs false
namespace Go.Proofs.YtclihihdgodloaaDoor
namespace SC
open Go.Proofs
/-- As many as memory holds, one more in each list. -/
structure Circ.Fits1 (c : Circ) : Prop extends c.Fits where
  inputs1 : (c.inputs.length + 1) * 8 ≤ 140737488355328
  latches1 : (c.latches.length + 1) * 24 ≤ 140737488355328
  outputs1 : (c.outputs.length + 1) * 8 ≤ 140737488355328
  bads1 : (c.bads.length + 1) * 8 ≤ 140737488355328
  constraints1 : (c.constraints.length + 1) * 8 ≤ 140737488355328
  fairness1 : (c.fairness.length + 1) * 8 ≤ 140737488355328
  ands1 : (c.ands.length + 1) * 24 ≤ 140737488355328
def lintRow (h : Hd) (i : Nat) (l : List Int) : Rw := ⟨slc h i (l.length + 1), 3, 1, l.length + 1, (l ++ [-77]).flatMap icell⟩
def ltriRow (h : Hd) (i : Nat) (t : TypeId) (l : List Tri) : Rw := ⟨slc h i (l.length + 1), t, 3, l.length + 1, (l ++ [(-77, 0, 0)]).flatMap tcells⟩
/-- The rows of a circuit that is lent: one more behind the end. -/
def lentRow (c : Circ) (h js : Hd) : Nat → Rw
  | 1 => lintRow h 1 c.inputs
  | 2 => ltriRow h 2 59 c.latches
  | 3 => lintRow h 3 c.outputs
  | 4 => lintRow h 4 c.bads
  | 5 => lintRow h 5 c.constraints
  | 7 => lintRow h 7 c.fairness
  | 8 => ltriRow h 8 61 c.ands
  | k => cirRows c h js js c.justice.length k
def Has (w : World) (base : Nat) (f : Nat → Rw) : Prop := ∀ i, (f i).own w base
def CirLent (w : World) (base : Nat) (c : Circ) (h js : Hd) : Prop := Has w base (lentRow c h js)
theorem Has.chg {w w' : World} {base : Nat} {f : Nat → Rw} {T : Nat → Prop} (H : Has w base f) (hc : Chg w w' T) (hT : ∀ i k, (f i).v.ownBlock = some k → ¬ T k) : Has w' base f := fun i => own_chg (H i) hc (hT i)
theorem Has.put {w w' : World} {base : Nat} {f : Nat → Rw} {T : Nat → Prop} (H : Has w base f) (i : Nat) (r : Rw) (hc : Chg w w' T) (hT : ∀ j k, j ≠ i → (f j).v.ownBlock = some k → ¬ T k) (hr : r.own w' base) : Has w' base (upd f i r) := fun j => by
  unfold upd
  split
  · exact hr
  · rename_i hne
    exact own_chg (H j) hc fun k hk => hT j k hne hk
theorem Has.lt {w : World} {base : Nat} {f : Nat → Rw} (H : Has w base f) {i k : Nat} (hk : (f i).v.ownBlock = some k) : base ≤ k ∧ k < w.heap.size := World.ownsRow.lt (H i) k hk
section
variable {P : Program} {n : Nat} {all : List Oper} {S : World → Prop} {K : Env → World → Prop} {i : Nat} {r : List (Nat × Bool)} {d : Option Tmp} {ty t t0 : TypeId} {e : Env} {w : World} {x y : Operand} {td : TypeDesc} {sz by_ sz1 by1 : Nat} {zv z1 : Value} {ag ag1 : Bool}
end
attribute [local irreducible] WC WL WX WS WO OX Does DoesU Enters CV Pure thenQ blockQ retQ Wants retQC
set_option maxRecDepth 100000
end SC
end Go.Proofs.YtclihihdgodloaaDoor
end
section
/- trestlebook: KeptCircuit. -/
set_option linter.unusedVariables false
set_option linter.unusedSimpArgs false
namespace Go.Proofs.YtclihihdgodloaaDoor
namespace SC
open Go.Proofs
theorem lint_at {w : World} {base : Nat} {h : Hd} {i : Nat} {l : List Int} (H : (lintRow h i l).own w base) : RowA w icell 1 (h i).1 (l ++ [-77]) ∧ l.length + 1 ≤ (h i).2 := by
  have H1 : w.ownsRow base 3 1 (.slice (h i).1 (l ++ [-77]).length (h i).2) (l ++ [-77]).length ((l ++ [-77]).flatMap icell) := by
    have e : (l ++ [(-77 : Int)]).length = l.length + 1 := by simp
    rw [e]; exact H
  have hc := own_cap H1
  exact ⟨RowA.own ilen H1, by simpa using hc⟩
theorem ltri_at {w : World} {base : Nat} {h : Hd} {i : Nat} {t : TypeId} {l : List Tri} (H : (ltriRow h i t l).own w base) : RowA w tcells 3 (h i).1 (l ++ [(-77, 0, 0)]) ∧ l.length + 1 ≤ (h i).2 := by
  have H1 : w.ownsRow base t 3 (.slice (h i).1 (l ++ [(-77, 0, 0)]).length (h i).2) (l ++ [(-77, 0, 0)]).length ((l ++ [(-77, 0, 0)]).flatMap tcells) := by
    have e : (l ++ [((-77, 0, 0) : Tri)]).length = l.length + 1 := by simp
    rw [e]; exact H
  have hc := own_cap H1
  exact ⟨RowA.own tlen H1, by simpa using hc⟩
theorem CirLent.chg {w w' : World} {base : Nat} {c : Circ} {h js : Hd} (H : CirLent w base c h js) (hc : Chg w w' none_) : CirLent w' base c h js := fun i => own_chg (H i) hc fun _ _ => id
theorem CirLent.at {w : World} {base : Nat} {c : Circ} {h js : Hd} (H : CirLent w base c h js) : CirAt w c h js := by
  refine ⟨(lint_at (H 1)).1.left, (ltri_at (H 2)).1.left, (lint_at (H 3)).1.left, (lint_at (H 4)).1.left, (lint_at (H 5)).1.left, fun k hk => ?_, fun k hk => ?_, (lint_at (H 7)).1.left, (ltri_at (H 8)).1.left, RowA.own slen (H 9), RowA.own blen (H 10)⟩
  · have h6 := H 6
    simp only [Rw.own, lentRow, cirRows] at h6
    rcases h6.2 with ⟨hv, hn⟩ | ⟨g, cap, cur, hv, hb, hg, rest⟩
    · omega
    · simp only [slc, Value.slice.injEq] at hv
      refine ⟨⟨g, 0, none⟩, hv.1, ?_⟩
      have := h6.cells (g := g) (by simp [slc, hv.1, Value.ownBlock]) k (slc js k c.justice[k].length) (by simp [hk])
      rw [show (k : Int).toNat * 1 = k by omega]
      exact this
  · have := H (k + 11)
    simp only [lentRow, cirRows, if_pos hk] at this
    have e : c.justice.getD k [] = c.justice[k] := by simp [hk]
    rw [e] at this
    exact RowA.own ilen this
section
variable {e : Env} {x y : Operand} {ty t : TypeId}
end
attribute [local irreducible] WC WL WX WS WO OX Does DoesU Enters CV Pure thenQ blockQ retQ Wants retQC
set_option maxRecDepth 100000
end SC
end Go.Proofs.YtclihihdgodloaaDoor
end
section
/- A circuit that comes in, with its reach: numbers that fit, lists that memory holds, no room where there is no row. -/
set_option linter.unusedVariables false
set_option linter.unusedSimpArgs false
namespace Go.Proofs.YtclihihdgodloaaDoor
namespace SC
open Go.Proofs
set_option maxRecDepth 100000
theorem weightsAll_mem {H : Type} {P : Program} {e : TypeId} : ∀ {l : List (DataW H)} {d : DataW H}, d ∈ l → ∀ n ∈ d.weights P e, n ∈ DataW.weightsAll P e l
  | d' :: r, d, hd, n, hn => by
    simp only [DataW.weightsAll, List.mem_append]
    rcases List.mem_cons.1 hd with rfl | h
    · exact Or.inl hn
    · exact Or.inr (weightsAll_mem h n hn)
section
variable {H : Type} {enc : TypeId × Value → H} {W : World} {base : Nat} {spare : Nat → Bool} {held : Bool}
/-- A row that comes in. -/
theorem openRowS {α : Type} (en : α → List Value) (Good : α → DataW H → Prop) {t e : TypeId} {sz : Nat} (ht : Tryd.prog.underlying t = some (.slice e)) (hsz : Tryd.prog.cellsOf e = sz) (hl : ∀ a, (en a).length = sz)
    (he : ∀ (fuel : Nat) (cs : List Value) (x : DataW H × List MemPlace), DataW.trod enc Tryd.prog W base spare held fuel e cs = some x → ∃ a, en a = cs ∧ Good a x.1) {fuel : Nat} {cs : List Value} {x : DataW H × List MemPlace}
    (h : DataW.trod enc Tryd.prog W base spare held fuel t cs = some x) : ∃ (A : Option Addr) (cp : Nat) (l : List α), cs = [.slice A l.length cp] ∧ RowA W en sz A l ∧ (∀ a ∈ l, ∃ d, Good a d ∧ ∀ n ∈ d.weights Tryd.prog e, n ∈ x.1.weights Tryd.prog t) ∧ l.length ≤ maxLen ∧ (A = none → cp = 0) ∧ (∀ R, (∀ n ∈ x.1.weights Tryd.prog t, n ≤ R) → l.length * Tryd.prog.bytesOf e ≤ R) := by
  rcases DataW.trod_slice ht h with ⟨rfl, _⟩ | ⟨a, len, cap, elems, rest, n, _, rfl, hx0, hb, hlc, hcm, hel, hi, _⟩
  · exact ⟨none, 0, [], rfl, fun k hk => absurd hk (Nat.not_lt_zero _), fun a ha => (by cases ha), Nat.zero_le _, fun _ => rfl, fun R _ => by simp⟩
  · have key : ∀ i, i < len → ∃ y : α, (∃ d, Good y d ∧ ∀ n ∈ d.weights Tryd.prog e, n ∈ x.1.weights Tryd.prog t) ∧ ∀ j u, (en y)[j]? = some u → W.cell? ((a.add (i * sz)).add j) = some u := fun i hlt => by
      have h1 := hi i hlt
      have hlt' : i < elems.length := by omega
      rw [List.getElem?_eq_getElem hlt'] at h1
      obtain ⟨cs, hc, hx⟩ := Option.bind_eq_some_iff.1 h1
      rw [hsz] at hc
      obtain ⟨_, hcl, hat⟩ := World.cells?_some hc
      obtain ⟨y, rfl, hg⟩ := he _ _ _ hx
      refine ⟨y, ⟨_, hg, fun m hm => ?_⟩, fun j u hj => ?_⟩
      · rw [hx0]
        simp only [DataW.weights, ht, List.mem_cons, List.mem_append]
        exact .inr (.inl (weightsAll_mem (List.mem_map.2 ⟨_, List.getElem_mem hlt', rfl⟩) m hm))
      · have hjl : j < sz := by have := (List.getElem?_eq_some_iff.1 hj).1; rwa [hl] at this
        rw [hat j hjl]
        exact hj
    obtain ⟨l, hll, hq⟩ := listOf key
    subst hll
    refine ⟨some a, cap, l, rfl, fun k hk => ⟨a, rfl, fun j u hj => ?_⟩, fun y hy => ?_, Nat.le_trans hlc hcm, fun h => (by cases h), fun R hR => ?_⟩
    · rw [show (k : Int).toNat = k by omega]
      exact (hq k hk).2 j u hj
    · obtain ⟨i, hi', rfl⟩ := List.mem_iff_getElem.1 hy
      exact (hq i hi').1
    · have := hR ((elems.length + rest.length) * Tryd.prog.bytesOf e) (by rw [hx0]; simp [DataW.weights, ht])
      rw [← hel]
      exact Nat.le_trans (Nat.mul_le_mul_right _ (Nat.le_add_right _ _)) this
theorem openFieldS {t : TypeId} {fs : Array Field} {fuel : Nat} {cs : List Value} {x : DataW H × List MemPlace} (ht : Tryd.prog.underlying t = some (.struct fs)) (hc : Tryd.prog.cellsOf t = fs.size) (h : DataW.trod enc Tryd.prog W base spare held fuel t cs = some x) :
    cs.length = fs.size ∧ ∃ n, ∀ (i : Nat) (f : Field) (hi : i < cs.length), fs[i]? = some f → f.offset = i → Tryd.prog.cellsOf f.type = 1 → ∃ y, DataW.trod enc Tryd.prog W base spare held n f.type [cs[i]] = some y ∧ ∀ n ∈ y.1.weights Tryd.prog f.type, n ∈ x.1.weights Tryd.prog t := by
  obtain ⟨xs, n, _, hx0, hcl, hxl, hf⟩ := DataW.trod_struct ht h
  refine ⟨hcl.trans hc, n, fun i f hi hfi ho h1 => ?_⟩
  have := hf i f hfi
  have hx : i < xs.length := by rw [hxl, ← hc, ← hcl]; exact hi
  rw [ho, h1, List.drop_eq_getElem_cons hi, List.getElem?_eq_getElem hx] at this
  refine ⟨_, this, fun m hm => ?_⟩
  rw [hx0]
  simp only [DataW.weights, ht]
  exact DataW.weights_mem_each (j := i) (t := f.type) (d := xs[i].1) (by rw [List.getElem?_map, Array.getElem?_toList, hfi]; rfl) (by rw [List.getElem?_map, List.getElem?_eq_getElem hx]; rfl) m hm
theorem openIntS {fuel : Nat} {cs : List Value} {x : DataW H × List MemPlace} (h : DataW.trod enc Tryd.prog W base spare held fuel 3 cs = some x) : ∃ a, icell a = cs ∧ fits a := by
  obtain ⟨z, rfl, _, w1⟩ := DataW.trod_int Tryd.underlying3 h
  refine ⟨z, rfl, ?_⟩
  simp [Lit.wf, IntKind.min, IntKind.max, IntKind.signed, IntKind.bits] at w1; unfold fits; omega
theorem openTriS {t : TypeId} {fs : Array Field} (ht : Tryd.prog.underlying t = some (.struct fs)) (hc : Tryd.prog.cellsOf t = 3) (hs : fs.size = 3) (hf : ∀ i, i < 3 → ∃ f, fs[i]? = some f ∧ f.offset = i ∧ f.type = 3) {fuel : Nat} {cs : List Value} {x : DataW H × List MemPlace}
    (h : DataW.trod enc Tryd.prog W base spare held fuel t cs = some x) : ∃ a, tcells a = cs ∧ TriFits a := by
  obtain ⟨hl, n, hfl⟩ := openField ht (hc.trans hs.symm) h
  rw [hs] at hl
  have one : ∀ (i : Nat) (hi : i < cs.length), ∃ z : Int, cs[i] = nu z ∧ fits z := fun i hi => by
    obtain ⟨f, h1, h2, h3⟩ := hf i (by omega)
    obtain ⟨y, hy⟩ := hfl i f hi h1 h2 (by rw [h3]; kernel_rfl)
    rw [h3] at hy
    obtain ⟨z, hz, hw⟩ := openIntS hy
    exact ⟨z, (List.cons.inj hz).1.symm, hw⟩
  obtain ⟨p, h0, f0⟩ := one 0 (by omega)
  obtain ⟨q, h1, f1⟩ := one 1 (by omega)
  obtain ⟨r, h2, f2⟩ := one 2 (by omega)
  refine ⟨(p, q, r), ?_, f0, f1, f2⟩
  apply List.ext_getElem (by rw [hl]; rfl)
  intro i hi1 hi2
  match i, hi2 with
  | 0, _ => exact h0.symm
  | 1, _ => exact h1.symm
  | 2, _ => exact h2.symm
theorem openAndS {fuel : Nat} {cs : List Value} {x : DataW H × List MemPlace} (h : DataW.trod enc Tryd.prog W base spare held fuel 61 cs = some x) : ∃ a, tcells a = cs ∧ TriFits a :=
  openTriS Tryd.underlying61 (by kernel_rfl) rfl (fun i hi => match i, hi with
    | 0, _ => ⟨_, rfl, rfl, rfl⟩
    | 1, _ => ⟨_, rfl, rfl, rfl⟩
    | 2, _ => ⟨_, rfl, rfl, rfl⟩) h
theorem openLatchS {fuel : Nat} {cs : List Value} {x : DataW H × List MemPlace} (h : DataW.trod enc Tryd.prog W base spare held fuel 59 cs = some x) : ∃ a, tcells a = cs ∧ TriFits a :=
  openTriS Tryd.underlying59 (by kernel_rfl) rfl (fun i hi => match i, hi with
    | 0, _ => ⟨_, rfl, rfl, rfl⟩
    | 1, _ => ⟨_, rfl, rfl, rfl⟩
    | 2, _ => ⟨_, rfl, rfl, rfl⟩) h
theorem bytes3 : Tryd.prog.bytesOf 3 = 8 := by kernel_rfl
theorem bytes70 : Tryd.prog.bytesOf 59 = 24 := by kernel_rfl
theorem bytes43 : Tryd.prog.bytesOf 61 = 24 := by kernel_rfl
theorem bytes45 : Tryd.prog.bytesOf 22 = 24 := by kernel_rfl
theorem bytes117 : Tryd.prog.bytesOf 130 = 32 := by kernel_rfl
theorem bytes9 : Tryd.prog.bytesOf 9 = 16 := by kernel_rfl
theorem openIntsS {fuel : Nat} {cs : List Value} {x : DataW H × List MemPlace} (h : DataW.trod enc Tryd.prog W base spare held fuel 22 cs = some x) : ∃ y, lcell y = cs ∧ (RowA W icell 1 y.A y.l ∧ y.l.length ≤ maxLen ∧ (y.A = none → y.cp = 0) ∧ ∀ R, (∀ n ∈ x.1.weights Tryd.prog 22, n ≤ R) → y.l.length * 8 ≤ R) := by
  obtain ⟨A, cp, l, rfl, hr, _, hl, hn, hw⟩ := openRowS icell (fun _ _ => True) Tryd.underlying22 (by kernel_rfl) ilen (fun _ _ _ h => by obtain ⟨a, h1, _⟩ := openIntS h; exact ⟨a, h1, trivial⟩) h
  rw [bytes3] at hw
  exact ⟨⟨A, cp, l⟩, rfl, hr, hl, hn, hw⟩
/-- A circuit that comes in. -/
theorem openCirS {v : Value} {d : DataW H} {ps : List MemPlace} {r : Reach} {b0 : Nat} (hv : Value.okWide Tryd.prog W r b0 29 v) (h : DataW.Trod enc Tryd.prog W base spare held 29 v d ps) (hz : ∀ n ∈ d.weights Tryd.prog 29, n ≤ 140737488351232) :
    ∃ (c : Circ) (h js : Hd), v = .agg (ccells c h).toArray ∧ CirAt W c h js ∧ c.Sane ∧ c.Okay ∧ c.Fits1 ∧ Nils h js := by
  obtain ⟨cs, rfl, hsz⟩ := Go.WideShapes.okWide_struct Tryd.underlying29 hv
  obtain ⟨fuel, hf⟩ := h
  rw [agg_cells] at hf
  obtain ⟨hl, n, hfl⟩ := openFieldS Tryd.underlying29 (by kernel_rfl) hf
  have hl : cs.toList.length = 11 := hl
  obtain ⟨y0, h0, g0⟩ := hfl 0 _ (by rw [hl]; decide) rfl rfl (by kernel_rfl)
  obtain ⟨y1, h1, g1⟩ := hfl 1 _ (by rw [hl]; decide) rfl rfl (by kernel_rfl)
  obtain ⟨y2, h2, g2⟩ := hfl 2 _ (by rw [hl]; decide) rfl rfl (by kernel_rfl)
  obtain ⟨y3, h3, g3⟩ := hfl 3 _ (by rw [hl]; decide) rfl rfl (by kernel_rfl)
  obtain ⟨y4, h4, g4⟩ := hfl 4 _ (by rw [hl]; decide) rfl rfl (by kernel_rfl)
  obtain ⟨y5, h5, g5⟩ := hfl 5 _ (by rw [hl]; decide) rfl rfl (by kernel_rfl)
  obtain ⟨y6, h6, g6⟩ := hfl 6 _ (by rw [hl]; decide) rfl rfl (by kernel_rfl)
  obtain ⟨y7, h7, g7⟩ := hfl 7 _ (by rw [hl]; decide) rfl rfl (by kernel_rfl)
  obtain ⟨y8, h8, g8⟩ := hfl 8 _ (by rw [hl]; decide) rfl rfl (by kernel_rfl)
  obtain ⟨y9, h9, g9⟩ := hfl 9 _ (by rw [hl]; decide) rfl rfl (by kernel_rfl)
  obtain ⟨y10, h10, g10⟩ := hfl 10 _ (by rw [hl]; decide) rfl rfl (by kernel_rfl)
  obtain ⟨m, e0, _, _⟩ := DataW.trod_int Tryd.underlying3 h0
  have oi : ∀ (fuel : Nat) (cs : List Value) (x : DataW H × List MemPlace), DataW.trod enc Tryd.prog W base spare held fuel 3 cs = some x → ∃ a, icell a = cs ∧ True := fun _ _ _ h => by obtain ⟨a, h1, _⟩ := openIntS h; exact ⟨a, h1, trivial⟩
  obtain ⟨A1, c1, l1, e1, r1, _, n1, z1, w1⟩ := openRowS icell (fun _ _ => True) Tryd.underlying22 (by kernel_rfl) ilen oi h1
  obtain ⟨A2, c2, l2, e2, r2, k2, n2, z2, w2⟩ := openRowS tcells (fun a _ => TriFits a) Tryd.underlying23 (by kernel_rfl) tlen (fun _ _ _ h => openLatchS h) h2
  obtain ⟨A3, c3, l3, e3, r3, _, n3, z3, w3⟩ := openRowS icell (fun _ _ => True) Tryd.underlying22 (by kernel_rfl) ilen oi h3
  obtain ⟨A4, c4, l4, e4, r4, _, n4, z4, w4⟩ := openRowS icell (fun _ _ => True) Tryd.underlying22 (by kernel_rfl) ilen oi h4
  obtain ⟨A5, c5, l5, e5, r5, _, n5, z5, w5⟩ := openRowS icell (fun _ _ => True) Tryd.underlying22 (by kernel_rfl) ilen oi h5
  obtain ⟨A6, c6, l6, e6, r6, k6, n6, z6, w6⟩ := openRowS lcell (fun y d => RowA W icell 1 y.A y.l ∧ y.l.length ≤ maxLen ∧ (y.A = none → y.cp = 0) ∧ ∀ R, (∀ n ∈ d.weights Tryd.prog 22, n ≤ R) → y.l.length * 8 ≤ R) Tryd.underlying24 (by kernel_rfl) (fun _ => rfl) (fun _ _ _ h => openIntsS h) h6
  obtain ⟨A7, c7, l7, e7, r7, _, n7, z7, w7⟩ := openRowS icell (fun _ _ => True) Tryd.underlying22 (by kernel_rfl) ilen oi h7
  obtain ⟨A8, c8, l8, e8, r8, k8, n8, z8, w8⟩ := openRowS tcells (fun a _ => TriFits a) Tryd.underlying25 (by kernel_rfl) tlen (fun _ _ _ h => openAndS h) h8
  obtain ⟨A9, c9, l9, e9, r9, k9, n9, z9, w9⟩ := openRowS scells (fun s _ => (0 ≤ s.kind ∧ s.kind ≤ 255) ∧ (-9223372036854775808 ≤ s.at_ ∧ s.at_ ≤ 9223372036854775807) ∧ s.name.size ≤ maxLen) Tryd.underlying26 (by kernel_rfl) slen (fun _ _ _ h => openSym h) h9
  obtain ⟨A10, c10, l10, e10, r10, k10, n10, z10, w10⟩ := openRowS bcell (fun s _ => s.size ≤ maxLen) Tryd.underlying27 (by kernel_rfl) blen (fun _ _ _ h => openTxt h) h10
  rw [bytes3] at w1 w3 w4 w5 w7
  rw [bytes70] at w2
  rw [bytes43] at w8
  rw [bytes45] at w6
  rw [bytes117] at w9
  rw [bytes9] at w10
  have v1 := w1 _ fun n hn => hz n (g1 n hn)
  have v2 := w2 _ fun n hn => hz n (g2 n hn)
  have v3 := w3 _ fun n hn => hz n (g3 n hn)
  have v4 := w4 _ fun n hn => hz n (g4 n hn)
  have v5 := w5 _ fun n hn => hz n (g5 n hn)
  have v6 := w6 _ fun n hn => hz n (g6 n hn)
  have v7 := w7 _ fun n hn => hz n (g7 n hn)
  have v8 := w8 _ fun n hn => hz n (g8 n hn)
  have v9 := w9 _ fun n hn => hz n (g9 n hn)
  have v10 := w10 _ fun n hn => hz n (g10 n hn)
  have k6' : ∀ y ∈ l6, RowA W icell 1 y.A y.l ∧ y.l.length ≤ maxLen ∧ (y.A = none → y.cp = 0) ∧ y.l.length * 8 ≤ 140737488351232 := fun y hy => by
    obtain ⟨d, ⟨q1, q2, q3, q4⟩, q5⟩ := k6 y hy
    exact ⟨q1, q2, q3, q4 _ fun n hn => hz n (g6 n (q5 n hn))⟩
  have k9' : ∀ s ∈ l9, (0 ≤ s.kind ∧ s.kind ≤ 255) ∧ (-9223372036854775808 ≤ s.at_ ∧ s.at_ ≤ 9223372036854775807) ∧ s.name.size ≤ maxLen := fun s hs => by obtain ⟨_, q, _⟩ := k9 s hs; exact q
  have k10' : ∀ s ∈ l10, s.size ≤ maxLen := fun s hs => by obtain ⟨_, q, _⟩ := k10 s hs; exact q
  refine ⟨⟨m, l1, l2, l3, l4, l5, l6.map (·.l), l7, l8, l9, l10⟩, fun | 1 => (A1, c1) | 2 => (A2, c2) | 3 => (A3, c3) | 4 => (A4, c4) | 5 => (A5, c5) | 6 => (A6, c6) | 7 => (A7, c7) | 8 => (A8, c8) | 9 => (A9, c9) | 10 => (A10, c10) | _ => (none, 0), fun k => ((l6[k]?).map fun y => (y.A, y.cp)).getD (none, 0), ?_, ?_, ?_, ?_, ?_, ?_, ?_⟩
  · congr 1
    apply Array.ext'
    apply List.ext_getElem (by rw [hl]; rfl)
    intro i hi1 hi2
    match i, hi2 with
    | 0, _ => exact (List.cons.inj e0).1
    | 1, _ => exact (List.cons.inj e1).1
    | 2, _ => exact (List.cons.inj e2).1
    | 3, _ => exact (List.cons.inj e3).1
    | 4, _ => exact (List.cons.inj e4).1
    | 5, _ => exact (List.cons.inj e5).1
    | 6, _ =>
      refine (List.cons.inj e6).1.trans ?_
      show _ = Value.slice A6 (l6.map (·.l)).length c6
      rw [List.length_map]
    | 7, _ => exact (List.cons.inj e7).1
    | 8, _ => exact (List.cons.inj e8).1
    | 9, _ => exact (List.cons.inj e9).1
    | 10, _ => exact (List.cons.inj e10).1
  · refine ⟨r1, r2, r3, r4, r5, fun k hk => ?_, fun k hk => ?_, r7, r8, r9, r10⟩
    · have hk' : k < l6.length := by simpa using hk
      obtain ⟨p, hp, hc⟩ := r6 k hk'
      refine ⟨p, hp, ?_⟩
      have := hc 0 (.slice l6[k].A l6[k].l.length l6[k].cp) rfl
      rw [add_zero'] at this
      rw [this]
      simp [hk']
    · have hk' : k < l6.length := by simpa using hk
      have := (k6' _ (List.getElem_mem hk')).1
      simpa [hk'] using this
  · refine ⟨fun l hl => ?_, fun s hs => (k9' s hs).1, fun s hs => (k9' s hs).2.1, fun s hs => ?_, fun s hs => ?_, ?_⟩
    · obtain ⟨y, hy, rfl⟩ := List.mem_map.1 hl
      have := (k6' y hy).2.1
      simp only [maxLen] at this
      omega
    · have := (k9' s hs).2.2
      simp only [maxLen] at this
      omega
    · have := k10' s hs
      simp only [maxLen] at this
      omega
    · simp only [maxLen] at *
      simp only [List.length_map]
      omega
  · refine ⟨fun n hn => ?_, fun l hl => ?_, fun x hx => (by obtain ⟨_, q, _⟩ := k2 x hx; exact q), fun x hx => (by obtain ⟨_, q, _⟩ := k8 x hx; exact q), fun s hs => ?_⟩
    · simp only [maxLen] at *
      simp only [Circ.lens, List.mem_cons, List.length_map, List.not_mem_nil, or_false] at hn
      rcases hn with rfl | rfl | rfl | rfl | rfl | rfl | rfl | rfl | rfl | rfl <;> omega
    · obtain ⟨y, hy, rfl⟩ := List.mem_map.1 hl
      have := (k6' y hy).2.1
      simp only [maxLen] at this
      omega
    · have := k9' s hs
      simp only [maxLen] at this
      exact ⟨this.1, this.2.1, by omega⟩
  · refine ⟨⟨?_, ?_, ?_, ?_, ?_, ?_, fun l hl => ?_, ?_, ?_, ?_, ?_⟩, ?_, ?_, ?_, ?_, ?_, ?_, ?_⟩
    all_goals first
      | (simp only [List.length_map]; omega)
      | (obtain ⟨y, hy, rfl⟩ := List.mem_map.1 hl
         have := (k6' y hy).2.2.2
         omega)
  · intro i hi
    match i with
    | 1 => exact z1 hi
    | 2 => exact z2 hi
    | 3 => exact z3 hi
    | 4 => exact z4 hi
    | 5 => exact z5 hi
    | 6 => exact z6 hi
    | 7 => exact z7 hi
    | 8 => exact z8 hi
    | 9 => exact z9 hi
    | 10 => exact z10 hi
    | 0 => rfl
    | k + 11 => rfl
  · intro k hk
    cases hy : l6[k]? with
    | none => simp only [hy]; rfl
    | some y =>
      have hm := List.mem_of_getElem? hy
      simp only [hy, Option.map_some, Option.getD_some] at hk ⊢
      exact (k6' y hm).2.2.1 hk
end
end SC
end Go.Proofs.YtclihihdgodloaaDoor
end
section
/- trestleref03: size, one, used. -/
set_option linter.unusedVariables false
set_option linter.unusedSimpArgs false
namespace Go.Proofs.YtclihihdgodloaaDoor
namespace SC
open Go.Proofs
attribute [local irreducible] WC WL WX WS WO OX Does DoesU Enters CV Pure thenQ blockQ retQ Wants retQC
set_option maxRecDepth 100000
end SC
end Go.Proofs.YtclihihdgodloaaDoor
end
section
/- trestleref03: one, used, usedAll. -/
set_option linter.unusedVariables false
set_option linter.unusedSimpArgs false
namespace Go.Proofs.YtclihihdgodloaaDoor
namespace SC
open Go.Proofs
attribute [local irreducible] WC WL WX WS WO OX Does DoesU Enters CV Pure thenQ blockQ retQ Wants retQC
set_option maxRecDepth 100000
end SC
end Go.Proofs.YtclihihdgodloaaDoor
end
section
/- shape: Copy. -/
set_option linter.unusedVariables false
set_option linter.unusedSimpArgs false
namespace Go.Proofs.YtclihihdgodloaaDoor
namespace SC
open Go.Proofs
attribute [local irreducible] WC WL WX WS WO OX Does DoesU Enters CV Pure thenQ blockQ retQ Wants retQC
set_option maxRecDepth 100000
end SC
end Go.Proofs.YtclihihdgodloaaDoor
end
section
/- shape: Renumber's closures. -/
set_option linter.unusedVariables false
set_option linter.unusedSimpArgs false
namespace Go.Proofs.YtclihihdgodloaaDoor
namespace SC
open Go.Proofs
attribute [local irreducible] WC WL WX WS WO OX Does DoesU Enters CV Pure thenQ blockQ retQ Wants retQC
set_option maxRecDepth 100000
/-- A literal by a map of variables. -/
def litM (to : List Int) (l : Int) : Int := L to (l / 2) + l % 2
end SC
end Go.Proofs.YtclihihdgodloaaDoor
end
section
/- shape: Renumber, the plain words. -/
set_option linter.unusedVariables false
set_option linter.unusedSimpArgs false
namespace Go.Proofs.YtclihihdgodloaaDoor
namespace SC
open Go.Proofs
def giveM : List Int → Int → List Int → List Int
  | [], _, to => to
  | l :: r, nx, to => giveM r (nx + 2) (to.set (l / 2).toNat (nx + 2))
/-- The map behind these definitions. -/
def mapOf (max : Int) (ks : List Int) : List Int := giveM ks 0 (List.replicate (max + 1).toNat 0)
/-- The gates' definitions in an order. -/
def andAt (c : Circ) (i : Int) : Tri := c.ands.getD i.toNat (0, 0, 0)
def defsOf (c : Circ) (ord : List Int) : List Int := c.inputs ++ c.latches.map (·.1) ++ ord.map fun i => (andAt c i).1
def renLatch (to : List Int) (x : Tri) : Tri := (litM to x.1, litM to x.2.1, if 1 < x.2.2 then litM to x.2.2 else x.2.2)
def renAnd (to : List Int) (x : Tri) : Tri := (litM to x.1, max (litM to x.2.1) (litM to x.2.2), min (litM to x.2.1) (litM to x.2.2))
/-- The circuit in another order. -/
def renM (c : Circ) (ord : List Int) : Circ :=
  let to := mapOf c.max (defsOf c ord)
  { c with
    max := (defsOf c ord).length
    inputs := c.inputs.map (litM to)
    outputs := c.outputs.map (litM to)
    bads := c.bads.map (litM to)
    constraints := c.constraints.map (litM to)
    fairness := c.fairness.map (litM to)
    justice := c.justice.map fun l => l.map (litM to)
    latches := c.latches.map (renLatch to)
    ands := ord.map fun i => renAnd to (andAt c i) }
/-- A row's block. -/
theorem Rows.block {w : World} {base : Nat} {F : Nat → Rw} (h : Rows w base F) (i : Nat) {n : Nat} {a : Option Addr} {c : Nat} (hv : (F i).v = .slice a n c) (hn : (F i).n = n) (h0 : 0 < n) : ∃ g, a = some ⟨g, 0, none⟩ ∧ (F i).v.ownBlock = some g := by
  have := h.own i
  rcases this.2 with ⟨hv', hn'⟩ | ⟨g, cap, cur, hv', _⟩
  · omega
  · rw [hv] at hv'
    cases hv'
    exact ⟨g, rfl, by rw [hv]; rfl⟩
end SC
end Go.Proofs.YtclihihdgodloaaDoor
end
section
/- shape: Renumber, the walk. -/
set_option linter.unusedVariables false
set_option linter.unusedSimpArgs false
namespace Go.Proofs.YtclihihdgodloaaDoor
namespace SC
open Go.Proofs
section
variable {P : Program} {n : Nat} {all : List Oper} {K : Env → World → Prop} {S : World → Prop} {r : List (Nat × Bool)} {i : Nat} {e : Env} {w : World} {d : Option Tmp} {ty : TypeId} {x : Operand}
end
attribute [local irreducible] WC WL WX WS WO OX Does DoesU Enters CV Pure thenQ blockQ retQ Wants retQC
set_option maxRecDepth 100000
section
variable {w W W' : World} {c : Circ} {h : Hd} {u : Value} {ord : List Int} {tr : Nat} {ks : List Int}
end
section
variable {w W W' : World} {c : Circ} {h : Hd} {u : Value} {ord to : List Int} {tr lb ob : Nat} {cs : List Value} {F : Nat → Rw}
end
end SC
end Go.Proofs.YtclihihdgodloaaDoor
end
section
/- shape: works. -/
set_option linter.unusedVariables false
set_option linter.unusedSimpArgs false
namespace Go.Proofs.YtclihihdgodloaaDoor
namespace SC
open Go.Proofs
attribute [local irreducible] WC WL WX WS WO OX Does DoesU Enters CV Pure thenQ blockQ retQ Wants retQC
set_option maxRecDepth 100000
theorem RowA.emp {α : Type} {w : World} {enc : α → List Value} {sz : Nat} {A : Option Addr} : RowA w enc sz A ([] : List α) := fun k hk => absurd hk (Nat.not_lt_zero _)
theorem RowA.blk {α : Type} {w : World} {enc : α → List Value} {sz b : Nat} {t : TypeId} {l : List α} (hsz : ∀ a, (enc a).length = sz) (h : Blk w b t (l.flatMap enc)) : RowA w enc sz (some ⟨b, 0, none⟩) l := fun k hk => by
  refine ⟨_, rfl, fun j u hj => ?_⟩
  have hjl : j < sz := by have := (List.getElem?_eq_some_iff.1 hj).1; rwa [hsz] at this
  rw [add_at, add_at, Nat.zero_add, h.cell, Int.toNat_natCast, flatMap_get enc sz hsz l k hk j hjl]
  exact hj
def hNil : Hd := fun _ => (none, 0)
end SC
end Go.Proofs.YtclihihdgodloaaDoor
end
section
/- shape's laws: gates of each variable; ShapeOrders' walk. -/
set_option linter.unusedVariables false
set_option linter.unusedSimpArgs false
namespace Go.Proofs.YtclihihdgodloaaDoor
namespace SC
open Go.Proofs
def gatesL : List Tri → Nat → List Int → List Int
  | [], _, l => l
  | x :: r, i, l => gatesL r (i + 1) (l.set (x.1 / 2).toNat i)
theorem gatesL_not : ∀ (ls : List Tri) (k : Nat) (l : List Int) (v : Int), 0 ≤ v → (∀ x ∈ ls, rg l.length (x.1 / 2) ∧ x.1 / 2 ≠ v) → L (gatesL ls k l) v = L l v
  | [], _, _, _, _, _ => rfl
  | x :: r, k, l, v, hv, h => by
    obtain ⟨h1, h2⟩ := h x (by simp)
    unfold gatesL
    rw [gatesL_not r (k + 1) _ v hv fun y hy => by rw [List.length_set]; exact h y (by simp [hy]), L_set _ h1 hv, if_neg (fun e => h2 e.symm)]
theorem gatesL_at : ∀ (ls : List Tri) (k : Nat) (l : List Int) (j : Nat) (hj : j < ls.length), (∀ x ∈ ls, rg l.length (x.1 / 2)) → (∀ i (hi : i < ls.length), ls[i].1 / 2 = ls[j].1 / 2 → i = j) → L (gatesL ls k l) (ls[j].1 / 2) = k + j
  | [], _, _, j, hj, _, _ => absurd hj (Nat.not_lt_zero _)
  | x :: r, k, l, 0, hj, h, hu => by
    have h1 := h x (by simp)
    unfold gatesL
    simp only [List.getElem_cons_zero]
    rw [gatesL_not r (k + 1) _ _ h1.1 fun y hy => ⟨by rw [List.length_set]; exact h y (by simp [hy]), fun e => ?_⟩, L_set _ h1 h1.1, if_pos rfl]
    · simp
    · obtain ⟨i, hi, rfl⟩ := List.mem_iff_getElem.1 hy
      have := hu (i + 1) (by simp; omega) (by simpa using e)
      omega
  | x :: r, k, l, j + 1, hj, h, hu => by
    unfold gatesL
    simp only [List.getElem_cons_succ]
    rw [gatesL_at r (k + 1) _ j (by simpa using hj) (fun y hy => by rw [List.length_set]; exact h y (by simp [hy])) fun i hi e => by
      have := hu (i + 1) (by simp; omega) (by simpa using e)
      omega]
    simp; omega
/-- Of each variable the gate that defines it, or -1. -/
def gatesM (c : Circ) : List Int := gatesL c.ands 0 (List.replicate (c.max + 1).toNat (-1))
theorem TabOk.gatesM {c : Circ} {t : Tab} (h : TabOk c t) {v : Int} (hv : rg (c.max + 1).toNat v) : L (SC.gatesM c) v = if kindAt t v = 3 then atOf t v else -1 := by
  have hrg : ∀ x ∈ c.ands, rg (List.replicate (c.max + 1).toNat (-1 : Int)).length (x.1 / 2) := fun x hx => by
    obtain ⟨j, hj, rfl⟩ := List.mem_iff_getElem.1 hx
    have := (h.gat j hj).1
    rw [List.length_replicate]
    unfold defBad at this; unfold rg; omega
  have e : v = ((v.toNat : Nat) : Int) := by unfold rg at hv; omega
  by_cases hk : kindAt t v = 3
  · rw [if_pos hk]
    rw [e] at hk
    obtain ⟨j, hj, h1, h2, h3⟩ := h.gate hk
    rw [← e] at h1 h2
    have e2 : c.ands[j].1 / 2 = v := by omega
    have := gatesL_at c.ands 0 (List.replicate (c.max + 1).toNat (-1)) j hj hrg fun i hi e3 => by
      have g1 := (h.gat i hi).2
      have g2 := (h.gat j hj).2
      rw [e3, g2] at g1
      simp at g1
      omega
    rw [e2] at this
    unfold SC.gatesM
    rw [this, h2]
    simp
  · rw [if_neg hk]
    unfold SC.gatesM
    rw [gatesL_not c.ands 0 _ v hv.1 fun x hx => ⟨hrg x hx, fun e2 => hk ?_⟩]
    · unfold L
      unfold rg at hv
      simp only [List.getD_eq_getElem?_getD, List.getElem?_replicate]
      rw [if_pos (by omega)]
      rfl
    · obtain ⟨j, hj, rfl⟩ := List.mem_iff_getElem.1 hx
      have := (h.gat j hj).2
      rw [e2] at this
      rw [kindAt_get this]
theorem mem_gateB {c : Circ} {t : Tab} {i : Int} {z : Int} (hi : rg c.ands.length i) : z ∈ gateB t c i ↔ ∃ l, (l = (andAt c i).2.1 ∨ l = (andAt c i).2.2) ∧ kindAt t (l / 2) = 3 ∧ atOf t (l / 2) = z := by
  unfold gateB belowM
  rw [mem_belowL]
  unfold andAt
  simp
attribute [local irreducible] WC WL WX WS WO OX Does DoesU Enters CV Pure thenQ blockQ retQ Wants retQC
set_option maxRecDepth 100000
end SC
end Go.Proofs.YtclihihdgodloaaDoor
end
section
/- trestleref03: Defined. -/
set_option linter.unusedVariables false
set_option linter.unusedSimpArgs false
namespace Go.Proofs.YtclihihdgodloaaDoor
namespace SC
open Go.Proofs
attribute [local irreducible] WC WL WX WS WO OX Does DoesU Enters CV Pure thenQ blockQ retQ Wants retQC
set_option maxRecDepth 100000
end SC
end Go.Proofs.YtclihihdgodloaaDoor
end
section
/- trestleref03: uses. -/
set_option linter.unusedVariables false
set_option linter.unusedSimpArgs false
namespace Go.Proofs.YtclihihdgodloaaDoor
namespace SC
open Go.Proofs
section
variable {P : Program} {ty t t0 : TypeId} {e : Env} {w : World} {x y : Operand} {d0 : TypeDesc} {sz by_ sz1 by1 : Nat} {z z1 : Value} {ag ag1 : Bool} {m b o : Nat} {i : Int} {k : IntKind}
theorem does_indexA [U : Ty P t (.array m t0) sz1 z1 by1 ag1] [T : Ty P t0 d0 sz z by_ ag] (h : ev e x = some (.pointer (some ⟨b, o, none⟩))) (h1 : ev e y = some (.int k i)) (h0 : 0 ≤ i) (h2 : i < m) : Does P (.indexAddr t x y) ty e w (.pointer (some ⟨b, o + i.toNat * sz, none⟩)) w := by
  intro ρ dst pos af g hρ
  simp [execOp, hρ _ _ h, hρ _ _ h1, Instr.indexAt, Instr.sureAddr, asIntOf, run_underlying U.und, h0, h2, T.size, add_at]
end
attribute [local irreducible] WC WL WX WS WO OX Does DoesU Enters CV Pure thenQ blockQ retQ Wants retQC
set_option maxRecDepth 100000
end SC
end Go.Proofs.YtclihihdgodloaaDoor
end
section
/- trestleref03: gates. -/
set_option linter.unusedVariables false
set_option linter.unusedSimpArgs false
namespace Go.Proofs.YtclihihdgodloaaDoor
namespace SC
open Go.Proofs
/-- What a gate asks for: a literal's gate, or none. -/
theorem TabOk.lit {c : Circ} {t : Tab} (hT : TabOk c t) (hU : UseAll c t) {i : Int} (hi : rg c.ands.length i) {l : Int} (hl : l = (andAt c i).2.1 ∨ l = (andAt c i).2.2) :
    0 ≤ l ∧ l ≤ 2 * c.max + 1 ∧ ((kindAt t (l / 2) = 3 ∧ L (SC.gatesM c) (l / 2) = atOf t (l / 2) ∧ rg c.ands.length (atOf t (l / 2)) ∧ atOf t (l / 2) ∈ gateB t c i) ∨ (kindAt t (l / 2) ≠ 3 ∧ L (SC.gatesM c) (l / 2) = -1)) := by
  have hlt : i.toNat < c.ands.length := by unfold rg at hi; omega
  have e : andAt c i = c.ands[i.toNat] := by unfold andAt; simp [hlt]
  have hu := hU.ands _ (List.getElem_mem hlt)
  rw [← e] at hu
  have h0 : 0 ≤ l ∧ l ≤ 2 * c.max + 1 := by
    rcases hl with rfl | rfl
    · exact ⟨hu.1.1, hu.1.2.1⟩
    · exact ⟨hu.2.1, hu.2.2.1⟩
  refine ⟨h0.1, h0.2, ?_⟩
  have hr : rg (c.max + 1).toNat (l / 2) := by unfold rg; omega
  have hg := hT.gatesM hr
  by_cases hk : kindAt t (l / 2) = 3
  · rw [if_pos hk] at hg
    have hm : atOf t (l / 2) ∈ gateB t c i := (mem_gateB hi).2 ⟨l, hl, hk, rfl⟩
    exact .inl ⟨hk, hg, hT.below hU i hi _ hm, hm⟩
  · rw [if_neg hk] at hg
    exact .inr ⟨hk, hg⟩
attribute [local irreducible] WC WL WX WS WO OX Does DoesU Enters CV Pure thenQ blockQ retQ Wants retQC
set_option maxRecDepth 100000
end SC
end Go.Proofs.YtclihihdgodloaaDoor
end
section
/- trestleref03: told. -/
set_option linter.unusedVariables false
set_option linter.unusedSimpArgs false
namespace Go.Proofs.YtclihihdgodloaaDoor
namespace SC
open Go.Proofs
section
variable {P : Program} {n : Nat} {all rest : List Oper} {K : Env → World → Prop} {e : Env} {w : World}
end
attribute [local irreducible] WC WL WX WS WO OX Does DoesU Enters CV Pure thenQ blockQ retQ Wants retQC
set_option maxRecDepth 100000
end SC
end Go.Proofs.YtclihihdgodloaaDoor
end
section
/- trestleref03: round. -/
set_option linter.unusedVariables false
set_option linter.unusedSimpArgs false
namespace Go.Proofs.YtclihihdgodloaaDoor
namespace SC
open Go.Proofs
section
variable {P : Program} {n : Nat} {all : List Oper} {S : World → Prop} {K : Env → World → Prop} {i : Nat} {r : List (Nat × Bool)} {d : Option Tmp} {ty t : TypeId} {e : Env} {w : World} {td : TypeDesc} {sz by_ : Nat} {zv : Value} {ag : Bool}
end
attribute [local irreducible] WC WL WX WS WO OX Does DoesU Enters CV Pure thenQ blockQ retQ Wants retQC
set_option maxRecDepth 100000
end SC
end Go.Proofs.YtclihihdgodloaaDoor
end
section
/- trestleref03: symbols. -/
set_option linter.unusedVariables false
set_option linter.unusedSimpArgs false
namespace Go.Proofs.YtclihihdgodloaaDoor
namespace SC
open Go.Proofs
section
variable {P : Program} {n : Nat} {x y r b : Code} {Q : Post} {e : Env} {w : World}
end
attribute [local irreducible] WC WL WX WS WO OX Does DoesU Enters CV Pure thenQ blockQ retQ Wants retQC
set_option maxRecDepth 100000
end SC
end Go.Proofs.YtclihihdgodloaaDoor
end
section
/- trestleref03: Check. -/
set_option linter.unusedVariables false
set_option linter.unusedSimpArgs false
namespace Go.Proofs.YtclihihdgodloaaDoor
namespace SC
open Go.Proofs
attribute [local irreducible] WC WL WX WS WO OX Does DoesU Enters CV Pure thenQ blockQ retQ Wants retQC
set_option maxRecDepth 100000
end SC
end Go.Proofs.YtclihihdgodloaaDoor
end
section
/- The order of a right circuit; trestleref07: Next0, Starts0, Values0. -/
set_option linter.unusedVariables false
set_option linter.unusedSimpArgs false
namespace Go.Proofs.YtclihihdgodloaaDoor
namespace SC
open Go.Proofs
theorem ownsRow_low {w : World} {base : Nat} {t : TypeId} {sz n : Nat} {v : Value} {xs : List Value} (h : w.ownsRow base t sz v n xs) : w.ownsRow 0 t sz v n xs := ⟨h.1, h.2.imp id fun ⟨g, cap, cur, h1, _, h2⟩ => ⟨g, cap, cur, h1, Nat.zero_le _, h2⟩⟩
/-- A new row of its own, as an entry. -/
theorem own_vec {α : Type} {enc : α → List Value} {sz : Nat} {w w' : World} {t : TypeId} {u : Value} {l : List α} (h : w'.ownsRow w.heap.size t sz u l.length (l.flatMap enc)) (hc : Chg w w' none_) : ∃ A k, u = .slice A l.length k ∧ Mem w' ([.vec enc sz t A k l] ++ [.old w none_]) := by
  obtain ⟨A, k, rfl⟩ := row_form' h
  refine ⟨A, k, rfl, Mem.join (.one (ownsRow_low h)) (.one hc) fun j ⟨E, hE, h1⟩ ⟨F, hF, h2⟩ => ?_⟩
  simp only [List.mem_singleton] at hE hF
  subst hE hF
  have := (World.ownsRow.lt h j h1).1
  have := h2.1
  omega
/-- The order of its gates. -/
noncomputable def ordM (c : Circ) : List Int := by classical exact if h : ∃ out, All c.ands.length (gateB (tabM c) c) out then h.choose else []
theorem ordM_eq {c : Circ} {out : List Int} (h : All c.ands.length (gateB (tabM c) c) out) : ordM c = out := by
  have hex : ∃ out, All c.ands.length (gateB (tabM c) c) out := ⟨out, h⟩
  unfold ordM
  rw [dif_pos hex]
  exact All.only hex.choose_spec h
/-- What Order answers. -/
def OrdR (c : Circ) (v : Value) (N : Mm) : Prop :=
  ((lookM c).2 ≠ 0 ∧ v = .tuple #[.slice none 0 0, nu (lookM c).2] ∧ N = []) ∨ ((lookM c).2 = 0 ∧ ∃ A k, v = .tuple #[.slice A (ordM c).length k, nu 0] ∧ N = [.vec icell 1 3 A k (ordM c)])
theorem OrderG {w : World} {c : Circ} {h js : Hd} (H : CirAt w c h js) (hs : c.Sane) : CVN Tryd.prog 75 [.agg (ccells c h).toArray] w (OrdR c) := CV.mono (Order_cv H hs) fun v w' ⟨hc, hv⟩ => by
  rcases hv with ⟨h1, rfl⟩ | ⟨h1, out, u, rfl, h2, h3, h4⟩
  · exact ⟨[], .one hc, .inl ⟨h1, rfl, rfl⟩⟩
  · rw [← flat_icell] at h4
    obtain ⟨A, k, rfl, M⟩ := own_vec h4 hc
    rw [← ordM_eq h2] at M ⊢
    exact ⟨_, M, .inr ⟨h1, A, k, rfl, rfl⟩⟩
/-! ### a row that is filled from the left -/
def fillL {α β : Type} (f : α → β) (l : List α) (z : β) (i : Nat) : List β := (l.take i).map f ++ List.replicate (l.length - i) z
theorem fillL_len {α β : Type} {f : α → β} {l : List α} {z : β} {i : Nat} (h : i ≤ l.length) : (fillL f l z i).length = l.length := by unfold fillL; simp; omega
theorem fillL_0 {α β : Type} {f : α → β} {l : List α} {z : β} : fillL f l z 0 = List.replicate l.length z := by unfold fillL; simp
theorem fillL_all {α β : Type} {f : α → β} {l : List α} {z : β} {i : Nat} (h : l.length ≤ i) : fillL f l z i = l.map f := by unfold fillL; rw [List.take_of_length_le h, show l.length - i = 0 by omega]; simp
theorem fillL_set {α β : Type} [Inhabited α] {f : α → β} {l : List α} {z : β} {i : Nat} (h : i < l.length) : (fillL f l z i).set (i : Int).toNat (f (gt l (i : Int))) = fillL f l z (i + 1) := by
  unfold fillL
  rw [gt_nat h, Int.toNat_natCast, List.set_append_right _ _ (by simp; omega)]
  have e1 : i - ((l.take i).map f).length = 0 := by simp; omega
  have e2 : l.length - i = (l.length - (i + 1)) + 1 := by omega
  rw [e1, e2, List.replicate_succ, List.set_cons_zero, List.take_succ_eq_append_getElem h, List.map_append]
  simp
/-- Next, by the values. -/
def nxtM (c : Circ) (v : List Bool) : List Bool := c.latches.map fun x => lv v x.2.1
attribute [local irreducible] WC WL WX WS WO OX Does DoesU Enters CV Pure thenQ blockQ retQ Wants retQC GC GL GS GX RdB thenG blockG retG Rd At gt CVN CVM
set_option maxRecDepth 100000
end SC
end Go.Proofs.YtclihihdgodloaaDoor
end
section
/- A right circuit; its values. trestleref07: Starts0, Values0. -/
set_option linter.unusedVariables false
set_option linter.unusedSimpArgs false
namespace Go.Proofs.YtclihihdgodloaaDoor
namespace SC
open Go.Proofs
theorem CV.ex {P : Program} {f : FuncId} {args : List Value} {w : World} {R : Value → World → Prop} (h : CV P f args w R) : ∃ v w', R v w' := by
  obtain ⟨e, w', fr, h1, _⟩ := h []
  cases e with
  | returned v => exact ⟨v, w', h1⟩
  | panicked c => exact h1.elim
  | outgrown => exact h1.elim
/-- What is so of a right circuit. -/
structure Right (c : Circ) : Prop where
  tab : TabOk c (tabM c)
  use : UseAll c (tabM c)
  m0 : 0 ≤ c.max
  m1 : c.max ≤ 16384
  lens : ∀ n ∈ c.lens, n ≤ 16384
  sum : sumW c.justice ≤ 16384
  all : All c.ands.length (gateB (tabM c) c) (ordM c)
  ordLen : (ordM c).length = c.ands.length
theorem right_of {w : World} {c : Circ} {h js : Hd} (H : CirAt w c h js) (hs : c.Sane) (he : (lookM c).2 = 0) : Right c := by
  obtain ⟨v, w', _, hv⟩ := CV.ex (Order_cv H hs)
  rcases hv with ⟨h1, _⟩ | ⟨_, out, u, _, h2, h3, _⟩
  · exact absurd he h1
  · obtain ⟨_, g1, g2, g3, _⟩ := lookM_ok he
    obtain ⟨k1, k2, k3, k4⟩ := sizesM_ok g1
    have e1 := ordM_eq h2
    exact ⟨definesM_spec k1 g2, usesM_spec.1 g3, k1, k2, k3, k4, by rw [e1]; exact h2, by rw [e1]; exact h3⟩
def inR (c : Circ) (l : Int) : Prop := 0 ≤ l ∧ l ≤ 2 * c.max + 1
def defR (c : Circ) (l : Int) : Prop := 2 ≤ l ∧ l ≤ 2 * c.max ∧ l % 2 = 0
section
variable {c : Circ} (R : Right c)
include R
theorem Right.nIn : c.inputs.length ≤ 16384 := by have := R.lens c.inputs.length (by simp [Circ.lens]); omega
theorem Right.nLat : c.latches.length ≤ 16384 := by have := R.lens c.latches.length (by simp [Circ.lens]); omega
theorem Right.nAnd : c.ands.length ≤ 16384 := by have := R.lens c.ands.length (by simp [Circ.lens]); omega
theorem Right.nBad : c.bads.length ≤ 16384 := by have := R.lens c.bads.length (by simp [Circ.lens]); omega
theorem Right.nCon : c.constraints.length ≤ 16384 := by have := R.lens c.constraints.length (by simp [Circ.lens]); omega
theorem Right.nFair : c.fairness.length ≤ 16384 := by have := R.lens c.fairness.length (by simp [Circ.lens]); omega
theorem Right.nJust : c.justice.length ≤ 16384 := by have := R.lens c.justice.length (by simp [Circ.lens]); omega
theorem Right.inp {l : Int} (h : l ∈ c.inputs) : defR c l := by
  obtain ⟨j, hj, rfl⟩ := List.mem_iff_getElem.1 h
  have := (R.tab.inp j hj).1
  unfold defBad at this; unfold defR; omega
theorem Right.lat {x : Tri} (h : x ∈ c.latches) : defR c x.1 ∧ inR c x.2.1 ∧ (x.2.2 = 0 ∨ x.2.2 = 1 ∨ x.2.2 = x.1) := by
  obtain ⟨j, hj, rfl⟩ := List.mem_iff_getElem.1 h
  have h1 := (R.tab.lat j hj).1
  have h2 := (R.tab.lat j hj).2.2
  have h3 := R.use.next _ (List.getElem_mem hj)
  unfold defBad at h1; unfold badReset at h2; unfold useOk at h3; unfold defR inR
  omega
theorem Right.gate {x : Tri} (h : x ∈ c.ands) : defR c x.1 ∧ inR c x.2.1 ∧ inR c x.2.2 := by
  obtain ⟨j, hj, rfl⟩ := List.mem_iff_getElem.1 h
  have h1 := (R.tab.gat j hj).1
  have h3 := R.use.ands _ (List.getElem_mem hj)
  unfold defBad at h1; unfold useOk at h3; unfold defR inR
  omega
theorem Right.con {l : Int} (h : l ∈ c.constraints) : inR c l := ⟨(R.use.constraints l h).1, (R.use.constraints l h).2.1⟩
theorem Right.bad {l : Int} (h : l ∈ c.bads) : inR c l := ⟨(R.use.bads l h).1, (R.use.bads l h).2.1⟩
theorem Right.fair {l : Int} (h : l ∈ c.fairness) : inR c l := ⟨(R.use.fairness l h).1, (R.use.fairness l h).2.1⟩
theorem Right.just {ls : List Int} {l : Int} (h : ls ∈ c.justice) (h2 : l ∈ ls) : inR c l := ⟨(R.use.justice ls h l h2).1, (R.use.justice ls h l h2).2.1⟩
theorem Right.ord {i : Int} (h : i ∈ ordM c) : 0 ≤ i ∧ i < c.ands.length := R.all.told.all i h
end
theorem inR.has {c : Circ} {l : Int} {v : List Bool} (h : inR c l) (hm : c.max ≤ 16384) (hv : v.length = (c.max + 1).toNat) : hasL v l := by unfold inR at h; unfold hasL; omega
theorem defR.in {c : Circ} {l : Int} (h : defR c l) : inR c l := by unfold defR at h; unfold inR; omega
/-! ### the values -/
def vIn (c : Circ) (r : List Bool) (i : Nat) : List Bool := (List.range i).foldl (fun v (k : Nat) => v.set (gt c.inputs (k : Int) / 2).toNat (gt r (k : Int))) (List.replicate (c.max + 1).toNat false)
def vLt (c : Circ) (s v : List Bool) (i : Nat) : List Bool := (List.range i).foldl (fun v (k : Nat) => v.set ((gt c.latches (k : Int)).1 / 2).toNat (gt s (k : Int))) v
def vAn (c : Circ) (ord : List Int) (v : List Bool) (i : Nat) : List Bool := (List.range i).foldl (fun v (k : Nat) => v.set ((gt c.ands (gt ord (k : Int))).1 / 2).toNat (lv v (gt c.ands (gt ord (k : Int))).2.1 && lv v (gt c.ands (gt ord (k : Int))).2.2)) v
noncomputable def valM (c : Circ) (s r : List Bool) : List Bool := vAn c (ordM c) (vLt c s (vIn c r c.inputs.length) c.latches.length) (ordM c).length
theorem fold_snoc {α : Type} (f : α → Nat → α) (a : α) (i : Nat) : (List.range (i + 1)).foldl f a = f ((List.range i).foldl f a) i := by rw [List.range_succ, List.foldl_append]; rfl
theorem fold_len (g : List Bool → Nat → Nat) (h : List Bool → Nat → Bool) (v : List Bool) (i : Nat) : ((List.range i).foldl (fun v k => v.set (g v k) (h v k)) v).length = v.length := by
  induction i with
  | zero => simp
  | succ i ih => rw [fold_snoc, List.length_set, ih]
theorem vIn_len (c : Circ) (r : List Bool) (i : Nat) : (vIn c r i).length = (c.max + 1).toNat := by unfold vIn; rw [fold_len]; simp
theorem vLt_len (c : Circ) (s v : List Bool) (i : Nat) : (vLt c s v i).length = v.length := by unfold vLt; rw [fold_len]
theorem vAn_len (c : Circ) (ord : List Int) (v : List Bool) (i : Nat) : (vAn c ord v i).length = v.length := by unfold vAn; rw [fold_len]
theorem valM_len (c : Circ) (s r : List Bool) : (valM c s r).length = (c.max + 1).toNat := by unfold valM; rw [vAn_len, vLt_len, vIn_len]
/-- May the state begin? -/
def okSt (x : Tri) (b : Bool) : Bool := (decide (x.2.2 ≠ 0) || !b) && (decide (x.2.2 ≠ 1) || b)
def startsM (c : Circ) (s : List Bool) (i : Nat) : Bool := (List.range i).all fun (k : Nat) => okSt (gt c.latches (k : Int)) (gt s (k : Int))
theorem startsM_succ (c : Circ) (s : List Bool) (i : Nat) : startsM c s (i + 1) = (startsM c s i && okSt (gt c.latches (i : Int)) (gt s (i : Int))) := by unfold startsM; rw [List.range_succ, List.all_append]; simp
theorem startsM_false {c : Circ} {s : List Bool} {i n : Nat} (h : i < n) (hf : okSt (gt c.latches (i : Int)) (gt s (i : Int)) = false) : startsM c s n = false := by
  unfold startsM
  rw [List.all_eq_false]
  exact ⟨i, by simpa using h, by rw [hf]; decide⟩
attribute [local irreducible] WC WL WX WS WO OX Does DoesU Enters CV Pure thenQ blockQ retQ Wants retQC GC GL GS GX RdB thenG blockG retG Rd At gt CVN CVM
set_option maxRecDepth 100000
end SC
end Go.Proofs.YtclihihdgodloaaDoor
end
section
/- trestleref07: Values0. -/
set_option linter.unusedVariables false
set_option linter.unusedSimpArgs false
namespace Go.Proofs.YtclihihdgodloaaDoor
namespace SC
open Go.Proofs
theorem vIn_succ (c : Circ) (r : List Bool) (i : Nat) : vIn c r (i + 1) = (vIn c r i).set (gt c.inputs (i : Int) / 2).toNat (gt r (i : Int)) := by unfold vIn; rw [fold_snoc]
theorem vLt_succ (c : Circ) (s v : List Bool) (i : Nat) : vLt c s v (i + 1) = (vLt c s v i).set ((gt c.latches (i : Int)).1 / 2).toNat (gt s (i : Int)) := by unfold vLt; rw [fold_snoc]
theorem vAn_succ (c : Circ) (o : List Int) (v : List Bool) (i : Nat) : vAn c o v (i + 1) = (vAn c o v i).set ((gt c.ands (gt o (i : Int))).1 / 2).toNat (lv (vAn c o v i) (gt c.ands (gt o (i : Int))).2.1 && lv (vAn c o v i) (gt c.ands (gt o (i : Int))).2.2) := by unfold vAn; rw [fold_snoc]
attribute [local irreducible] WC WL WX WS WO OX Does DoesU Enters CV Pure thenQ blockQ retQ Wants retQC GC GL GS GX RdB thenG blockG retG Rd At gt CVN CVM
set_option maxRecDepth 100000
end SC
end Go.Proofs.YtclihihdgodloaaDoor
end
section
/- trestleref07: looked, Values, Next, Holds, Starts. -/
set_option linter.unusedVariables false
set_option linter.unusedSimpArgs false
namespace Go.Proofs.YtclihihdgodloaaDoor
namespace SC
open Go.Proofs
/-- A circuit that can be read, and what is so of any. -/
structure CirIn (w : World) (c : Circ) (h js : Hd) : Prop where
  at_ : CirAt w c h js
  sane : c.Sane
  okay : c.Okay
  fits : c.Fits
theorem CirIn.chg {w w' : World} {c : Circ} {h js : Hd} (H : CirIn w c h js) (hc : Chg w w' none_) : CirIn w' c h js := ⟨H.at_.chg hc, H.sane, H.okay, H.fits⟩
theorem In.old {Γ : Mm} {w w0 : World} (h : In Γ (.old w0 none_)) (M : Mem w Γ) : Chg w0 w none_ := h.ok M
attribute [local irreducible] WC WL WX WS WO OX Does DoesU Enters CV Pure thenQ blockQ retQ Wants retQC GC GL GS GX RdB thenG blockG retG Rd At gt CVN CVM
set_option maxRecDepth 100000
section
variable {w : World} {c : Circ} {h js : Hd} {S T : Option Addr} {k2 k3 : Nat} {s r : List Bool} (H : CirIn w c h js) (hS : RowA w booc 1 S s) (hT : RowA w booc 1 T r)
include H hS hT
end
/-- Whether a state may begin, and what is wrong. -/
noncomputable def startE (c : Circ) (s : List Bool) : Int := if (lookM c).2 ≠ 0 then (lookM c).2 else if s.length ≠ c.latches.length then 4 else 0
noncomputable def startB (c : Circ) (s : List Bool) : Bool := if startE c s = 0 then startsM c s c.latches.length else false
end SC
end Go.Proofs.YtclihihdgodloaaDoor
end
section
/- sim: is, values, next, holds. -/
set_option linter.unusedVariables false
set_option linter.unusedSimpArgs false
namespace Go.Proofs.YtclihihdgodloaaDoor
namespace SC
open Go.Proofs
/-- The runner's cells. -/
noncomputable def rcells (c : Circ) (h : Hd) (B : Option Addr) (k : Nat) : List Value := ccells c h ++ [.slice B (ordM c).length k]
theorem In.box {Γ : Mm} {w : World} {b : Nat} {t : TypeId} {cs : List Value} (h : In Γ (.box b t cs)) (M : Mem w Γ) : Blk w b t cs := h.ok M
theorem In.row {Γ : Mm} {w : World} {α : Type} {enc : α → List Value} {sz : Nat} [H : Enc enc sz] {t : TypeId} {A : Option Addr} {c : Nat} {l : List α} (h : In Γ (.vec enc sz t A c l)) (M : Mem w Γ) : RowA w enc sz A l := (Rd.own h H).at M
instance : Fn Tryd.prog 89 := ⟨fun args w => Tryd.call89 args w⟩
instance : Fn Tryd.prog 92 := ⟨fun args w => Tryd.call92 args w⟩
instance : Fn Tryd.prog 105 := ⟨fun args w => Tryd.call105 args w⟩
attribute [local irreducible] WC WL WX WS WO OX Does DoesU Enters CV Pure thenQ blockQ retQ Wants retQC GC GL GS GX RdB thenG blockG retG Rd At gt CVN CVM
set_option maxRecDepth 100000
theorem is_cv {w : World} {A : Option Addr} {c k : Nat} {v : List Bool} {l : Int} (hA : RowA w booc 1 A v) (hk : k = v.length) (hl : hasL v l) : CVN Tryd.prog 88 [.slice A k c, nu l] w fun r N => N = [] ∧ r = .bool (lv v l) := by
  obtain ⟨h0, h1, h2⟩ := hl
  refine CVN.enter 14 [4] Tryd.func88 rfl rfl rfl (by decide) rfl ?_
  repeat' (first
|(apply GC_seqK;intro K hK)
|(apply hK;clear hK K)
|(apply GC_region)
|(apply GL_nil)
|(apply thenG_normal)
|(apply GC_ret)
|(apply retG1;eq_refl)
|(apply GL_on;eq_refl;eq_refl)
|(apply G_pv;eq_refl;first|exact trivial|omega)
|(apply G_rd;eq_refl;(first|(apply Rd.own;(repeat first|exact In.here|apply In.there|apply In.skip);infer_instance)|(apply Rd.old;(repeat first|exact In.here|apply In.there|apply In.skip);assumption)|(apply Rd.oldR;(repeat first|exact In.here|apply In.there|apply In.skip);assumption)|exact Rd.nil|assumption);(case ih => infer_instance);omega;omega;eq_refl)
|(apply G_cmpD;eq_refl;eq_refl;(case hd => infer_instance))
|(apply G_ix;eq_refl;eq_refl;(first|(apply Rd.own;(repeat first|exact In.here|apply In.there|apply In.skip);infer_instance)|(apply Rd.old;(repeat first|exact In.here|apply In.there|apply In.skip);assumption)|(apply Rd.oldR;(repeat first|exact In.here|apply In.there|apply In.skip);assumption)|exact Rd.nil|assumption);(first|eq_refl|omega);omega;omega)
|(apply G_neqB;eq_refl;eq_refl))
  exact ⟨[], (by repeat first | exact Wk.nil | exact Wk.refl | (apply Wk.cons; (focus ((repeat first | exact Rem.here | apply Rem.there | apply Rem.skip); done))) | apply Wk.nilv | apply Wk.last | apply Wk.drop), rfl, rfl⟩
theorem of_cv {w : World} {A : Option Addr} {b c k : Nat} {v : List Bool} {l : Int} (hB : Blk w b 53 [.slice A k c]) (hA : RowA w booc 1 A v) (hk : k = v.length) (hl : hasL v l) : CVN Tryd.prog 89 [nu l, pt b] w fun r N => N = [] ∧ r = .bool (lv v l) := by
  obtain ⟨h0, h1, h2⟩ := hl
  refine CVN.enter 13 [3] Tryd.func89 rfl rfl rfl (by decide) rfl ?_
  repeat' (first
|(apply GC_seqK;intro K hK)
|(apply hK;clear hK K)
|(apply GC_region)
|(apply GL_nil)
|(apply thenG_normal)
|(apply GC_ret)
|(apply retG1;eq_refl)
|(apply GL_on;eq_refl;eq_refl)
|(apply G_pv;eq_refl;first|exact trivial|omega)
|(apply G_ldO;eq_refl;(repeat first|exact In.here|apply In.there|apply In.skip);assumption;eq_refl)
|(apply G_rd;eq_refl;(first|(apply Rd.own;(repeat first|exact In.here|apply In.there|apply In.skip);infer_instance)|(apply Rd.old;(repeat first|exact In.here|apply In.there|apply In.skip);assumption)|(apply Rd.oldR;(repeat first|exact In.here|apply In.there|apply In.skip);assumption)|exact Rd.nil|assumption);(case ih => infer_instance);omega;omega;eq_refl)
|(apply G_cmpD;eq_refl;eq_refl;(case hd => infer_instance))
|(apply G_ix;eq_refl;eq_refl;(first|(apply Rd.own;(repeat first|exact In.here|apply In.there|apply In.skip);infer_instance)|(apply Rd.old;(repeat first|exact In.here|apply In.there|apply In.skip);assumption)|(apply Rd.oldR;(repeat first|exact In.here|apply In.there|apply In.skip);assumption)|exact Rd.nil|assumption);(first|eq_refl|omega);omega;omega)
|(apply G_neqB;eq_refl;eq_refl))
  exact ⟨[], (by repeat first | exact Wk.nil | exact Wk.refl | (apply Wk.cons; (focus ((repeat first | exact Rem.here | apply Rem.there | apply Rem.skip); done))) | apply Wk.nilv | apply Wk.last | apply Wk.drop), rfl, rfl⟩
theorem values_cv {w : World} {c : Circ} {h js : Hd} {p : Nat} {B S T : Option Addr} {k1 k2 k3 : Nat} {s r : List Bool} (R : Right c) (hP : Blk w p 123 (rcells c h B k1)) (H : CirAt w c h js) (hB : RowA w icell 1 B (ordM c)) (hS : RowA w booc 1 S s) (hT : RowA w booc 1 T r) (hs : s.length = c.latches.length) (hr : r.length = c.inputs.length) :
    CVN Tryd.prog 66 [pt p, .slice S s.length k2, .slice T r.length k3] w fun v N => ∃ A' k', v = .slice A' (valM c s r).length k' ∧ N = [.vec booc 1 4 A' k' (valM c s r)] := by
  have hLat := H.latches
  have hInp := H.inputs
  have hAnd := H.ands
  have m0 := R.m0
  have m1 := R.m1
  have n1 := R.nIn
  have n2 := R.nLat
  have n3 := R.nAnd
  have n4 := R.ordLen
  refine CVN.enter 107 [6] Tryd.func66 rfl rfl rfl (by decide) rfl ?_
  repeat' (first
|(apply GC_seqK;intro K hK)
|(apply hK;clear hK K)
|(apply GC_block)
|(apply GC_region)
|(apply GL_nil)
|(apply thenG_normal)
|(apply GL_on;eq_refl;eq_refl)
|(apply G_pv;eq_refl;first|exact trivial|omega)
|(apply G_field;eq_refl)
|(apply G_ldO;eq_refl;(repeat first|exact In.here|apply In.there|apply In.skip);assumption;eq_refl)
|(apply G_len;eq_refl)
|(apply G_alloc;eq_refl;intro _)
|(apply G_st;(first|exact wr_p|kernel_rfl);eq_refl;eq_refl;eq_refl;eq_refl;(repeat first|exact Upd.here|apply Upd.there|apply Upd.skip);(first|decide|exact Nat.le_of_ble_eq_true rfl))
|(apply G_makeI booc;eq_refl;eq_refl;omega;eq_refl;omega;decide;intro _))
  rename_i b1 b0
  refine GC_loopK [0, 1, 2, 7, 26] (fun s : Nat × List Bool => [(27, nu s.1)]) (fun s => [.box b0 53 [.slice (some ⟨b1, 0, none⟩) (c.max + 1).toNat (c.max + 1).toNat], .vec booc 1 4 (some ⟨b1, 0, none⟩) (c.max + 1).toNat s.2, .old w none_]) (fun s => s.1 ≤ c.inputs.length ∧ s.2 = vIn c r s.1) (fun s => c.inputs.length - s.1) (0, _) (by repeat first | exact Pick.nil | (apply Pick.cons; eq_refl)) (by repeat first | exact trivial | refine ⟨rfl, ?_⟩) (by repeat first | exact Wk.nil | exact Wk.refl | (apply Wk.cons; (focus ((repeat first | exact Rem.here | apply Rem.there | apply Rem.skip); done))) | apply Wk.nilv | apply Wk.last | apply Wk.drop) ⟨Nat.zero_le _, rfl⟩ ?_
  rintro ⟨i, v⟩ ⟨hi, hv⟩
  dsimp only at hi hv ⊢
  have hlen : v.length = (c.max + 1).toNat := by rw [hv, vIn_len]
  rcases Nat.lt_or_ge i c.inputs.length with hlt | hge
  · have hd := R.inp (gt_mem (l := c.inputs) (i := (i : Int)) (by omega) (by omega))
    have hst := vIn_succ c r i
    rw [← hv] at hst
    unfold defR at hd
    repeat' (first
|(apply GC_seqK;intro K hK)
|(apply hK;clear hK K)
|(apply GC_block)
|(apply GC_region)
|(apply GL_nil)
|(apply thenG_normal)
|(apply blockG_normal)
|(apply GC_skip)
|(apply GC_if_true;eq_refl)
|(apply GL_on;eq_refl;eq_refl)
|(refine GC_draws (id := 5) [.q 0, .q 1, .q 2, .q 3, .q 4, .q 5, .q 6, .q 7, .q 8, .q 9, .q 10, .q 11, .q 12, .q 13, .q 14, .c 15] mixed (by kernel_rfl) (by kernel_rfl) ?_)
|(apply GS_nil)
|(apply GS_qon;eq_refl;eq_refl;eq_refl;eq_refl)
|(apply GS_con;eq_refl;eq_refl;eq_refl;eq_refl)
|(apply G_pv;eq_refl;first|exact trivial|omega)
|(apply G_field;eq_refl)
|(apply G_ld;eq_refl;(repeat first|exact In.here|apply In.there|apply In.skip);eq_refl)
|(apply G_ldO;eq_refl;(repeat first|exact In.here|apply In.there|apply In.skip);assumption;eq_refl)
|(apply G_rd;eq_refl;(first|(apply Rd.own;(repeat first|exact In.here|apply In.there|apply In.skip);infer_instance)|(apply Rd.old;(repeat first|exact In.here|apply In.there|apply In.skip);assumption)|(apply Rd.oldR;(repeat first|exact In.here|apply In.there|apply In.skip);assumption)|exact Rd.nil|assumption);(case ih => infer_instance);omega;omega;eq_refl)
|(apply G_cmpT;eq_refl;eq_refl;omega)
|(apply G_ix;eq_refl;eq_refl;(first|(apply Rd.own;(repeat first|exact In.here|apply In.there|apply In.skip);infer_instance)|(apply Rd.old;(repeat first|exact In.here|apply In.there|apply In.skip);assumption)|(apply Rd.oldR;(repeat first|exact In.here|apply In.there|apply In.skip);assumption)|exact Rd.nil|assumption);(first|eq_refl|omega);omega;omega)
|(apply G_stV;(first|exact wr_p|kernel_rfl);eq_refl;eq_refl;eq_refl;eq_refl;(repeat first|exact Upd.here|apply Upd.there|apply Upd.skip);infer_instance;infer_instance;eq_refl;omega;(try simp only [List.length_set, List.length_append, List.length_replicate]);omega))
    exact ⟨(i + 1, _), (by repeat first | exact trivial | refine ⟨rfl, ?_⟩), (by repeat first | exact Wk.nil | exact Wk.refl | (apply Wk.cons; (focus ((repeat first | exact Rem.here | apply Rem.there | apply Rem.skip); done))) | apply Wk.nilv | apply Wk.last | apply Wk.drop), ⟨hlt, hst.symm⟩, by simp only; omega⟩
  · obtain rfl : i = c.inputs.length := by omega
    repeat' (first
|(apply GC_seqK;intro K hK)
|(apply hK;clear hK K)
|(clear hK K;apply hK;clear hK K)
|(apply GC_block)
|(apply GC_region)
|(apply GL_nil)
|(apply thenG_normal)
|(apply thenG_exit)
|(apply blockG_hit)
|(apply GC_exit)
|(apply GC_if_false;eq_refl)
|(apply GL_on;eq_refl;eq_refl)
|(apply G_pv;eq_refl;first|exact trivial|omega)
|(apply G_field;eq_refl)
|(apply G_ldO;eq_refl;(repeat first|exact In.here|apply In.there|apply In.skip);assumption;eq_refl)
|(apply G_cmpF;eq_refl;eq_refl;omega)
|(apply G_len;eq_refl))
    refine GC_loopK [0, 1, 2, 7, 51] (fun s : Nat × List Bool => [(52, nu s.1)]) (fun s => [.box b0 53 [.slice (some ⟨b1, 0, none⟩) (c.max + 1).toNat (c.max + 1).toNat], .vec booc 1 4 (some ⟨b1, 0, none⟩) (c.max + 1).toNat s.2, .old w none_]) (fun t => t.1 ≤ c.latches.length ∧ t.2 = vLt c s v t.1) (fun s => c.latches.length - s.1) (0, _) (by repeat first | exact Pick.nil | (apply Pick.cons; eq_refl)) (by repeat first | exact trivial | refine ⟨rfl, ?_⟩) (by repeat first | exact Wk.nil | exact Wk.refl | (apply Wk.cons; (focus ((repeat first | exact Rem.here | apply Rem.there | apply Rem.skip); done))) | apply Wk.nilv | apply Wk.last | apply Wk.drop) ⟨Nat.zero_le _, rfl⟩ ?_
    rintro ⟨i, v2⟩ ⟨hi2, hv2⟩
    dsimp only at hi2 hv2 ⊢
    have hlen2 : v2.length = (c.max + 1).toNat := by rw [hv2, vLt_len, hlen]
    rcases Nat.lt_or_ge i c.latches.length with hlt | hge
    · have hd := (R.lat (gt_mem (l := c.latches) (i := (i : Int)) (by omega) (by omega))).1
      have hst := vLt_succ c s v i
      rw [← hv2] at hst
      unfold defR at hd
      repeat' (first
|(apply GC_seqK;intro K hK)
|(apply hK;clear hK K)
|(apply GC_block)
|(apply GC_region)
|(apply GL_nil)
|(apply thenG_normal)
|(apply blockG_normal)
|(apply GC_skip)
|(apply GC_if_true;eq_refl)
|(apply GL_on;eq_refl;eq_refl)
|(refine GC_draws (id := 10) [.q 0, .q 1, .q 2, .q 3, .q 4, .q 5, .q 6, .q 7, .q 8, .q 9, .q 10, .q 11, .q 12, .q 13, .q 14, .q 15, .c 16] mixed (by kernel_rfl) (by kernel_rfl) ?_)
|(apply GS_nil)
|(apply GS_qon;eq_refl;eq_refl;eq_refl;eq_refl)
|(apply GS_con;eq_refl;eq_refl;eq_refl;eq_refl)
|(apply G_pv;eq_refl;first|exact trivial|omega)
|(apply G_field;eq_refl)
|(apply G_fieldP;eq_refl)
|(apply G_ld;eq_refl;(repeat first|exact In.here|apply In.there|apply In.skip);eq_refl)
|(apply G_ldO;eq_refl;(repeat first|exact In.here|apply In.there|apply In.skip);assumption;eq_refl)
|(apply G_rd;eq_refl;(first|(apply Rd.own;(repeat first|exact In.here|apply In.there|apply In.skip);infer_instance)|(apply Rd.old;(repeat first|exact In.here|apply In.there|apply In.skip);assumption)|(apply Rd.oldR;(repeat first|exact In.here|apply In.there|apply In.skip);assumption)|exact Rd.nil|assumption);(case ih => infer_instance);omega;omega;eq_refl)
|(apply G_cmpT;eq_refl;eq_refl;omega)
|(apply G_ix;eq_refl;eq_refl;(first|(apply Rd.own;(repeat first|exact In.here|apply In.there|apply In.skip);infer_instance)|(apply Rd.old;(repeat first|exact In.here|apply In.there|apply In.skip);assumption)|(apply Rd.oldR;(repeat first|exact In.here|apply In.there|apply In.skip);assumption)|exact Rd.nil|assumption);(first|eq_refl|omega);omega;omega)
|(apply G_stV;(first|exact wr_p|kernel_rfl);eq_refl;eq_refl;eq_refl;eq_refl;(repeat first|exact Upd.here|apply Upd.there|apply Upd.skip);infer_instance;infer_instance;eq_refl;omega;(try simp only [List.length_set, List.length_append, List.length_replicate]);omega))
      exact ⟨(i + 1, _), (by repeat first | exact trivial | refine ⟨rfl, ?_⟩), (by repeat first | exact Wk.nil | exact Wk.refl | (apply Wk.cons; (focus ((repeat first | exact Rem.here | apply Rem.there | apply Rem.skip); done))) | apply Wk.nilv | apply Wk.last | apply Wk.drop), ⟨hlt, hst.symm⟩, by simp only; omega⟩
    · obtain rfl : i = c.latches.length := by omega
      repeat' (first
|(apply GC_seqK;intro K hK)
|(apply hK;clear hK K)
|(clear hK K;apply hK;clear hK K)
|(apply GC_block)
|(apply GC_region)
|(apply GL_nil)
|(apply thenG_normal)
|(apply thenG_exit)
|(apply blockG_hit)
|(apply GC_exit)
|(apply GC_if_false;eq_refl)
|(apply GL_on;eq_refl;eq_refl)
|(apply G_pv;eq_refl;first|exact trivial|omega)
|(apply G_field;eq_refl)
|(apply G_ldO;eq_refl;(repeat first|exact In.here|apply In.there|apply In.skip);assumption;eq_refl)
|(apply G_cmpF;eq_refl;eq_refl;omega)
|(apply G_len;eq_refl)
|(apply G_fun;eq_refl))
      refine GC_loopK [0, 1, 2, 7, 10, 76, 77] (fun s : Nat × List Bool => [(78, nu s.1)]) (fun s => [.box b0 53 [.slice (some ⟨b1, 0, none⟩) (c.max + 1).toNat (c.max + 1).toNat], .vec booc 1 4 (some ⟨b1, 0, none⟩) (c.max + 1).toNat s.2, .old w none_]) (fun t => t.1 ≤ (ordM c).length ∧ t.2 = vAn c (ordM c) v2 t.1) (fun s => (ordM c).length - s.1) (0, _) (by repeat first | exact Pick.nil | (apply Pick.cons; eq_refl)) (by repeat first | exact trivial | refine ⟨rfl, ?_⟩) (by repeat first | exact Wk.nil | exact Wk.refl | (apply Wk.cons; (focus ((repeat first | exact Rem.here | apply Rem.there | apply Rem.skip); done))) | apply Wk.nilv | apply Wk.last | apply Wk.drop) ⟨Nat.zero_le _, rfl⟩ ?_
      rintro ⟨i, v3⟩ ⟨hi3, hv3⟩
      dsimp only at hi3 hv3 ⊢
      have hlen3 : v3.length = (c.max + 1).toNat := by rw [hv3, vAn_len, hlen2]
      rcases Nat.lt_or_ge i (ordM c).length with hlt | hge
      · have ho := R.ord (gt_mem (l := ordM c) (i := (i : Int)) (by omega) (by omega))
        have hst := vAn_succ c (ordM c) v2 i
        rw [← hv3] at hst
        obtain ⟨hd, hl1, hl2⟩ := R.gate (gt_mem (l := c.ands) ho.1 ho.2)
        have hl1' := hl1.has m1 hlen3
        have hl2' := hl2.has m1 hlen3
        unfold defR at hd
        have hlit : ∀ Γ, In Γ (.box b0 53 [.slice (some ⟨b1, 0, none⟩) (c.max + 1).toNat (c.max + 1).toNat]) → In Γ (.vec booc 1 4 (some ⟨b1, 0, none⟩) (c.max + 1).toNat v3) → ∀ l, hasL v3 l → ∀ w', Mem w' Γ → CVN Tryd.prog 89 ([nu l] ++ (#[pt b0] : Array Value).toList) w' fun r N => N = [] ∧ r = .bool (lv v3 l) := fun Γ h0 hi l hl w' M => of_cv (h0.box M) (hi.row M) hlen3.symm hl
        cases hx : lv v3 (gt c.ands (gt (ordM c) (i : Int))).2.1
        all_goals
          rw [hx] at hst
          repeat' (first
|(apply G_callF;eq_refl;eq_refl;infer_instance;eq_refl;(apply hlit;(repeat first|exact In.here|apply In.there|apply In.skip);(repeat first|exact In.here|apply In.there|apply In.skip);assumption);(first|rw [hx]|skip);rintro _ _ ⟨rfl, rfl⟩)
|(apply GC_seqK;intro K hK)
|(apply hK;clear hK K)
|(apply GC_block)
|(apply GC_region)
|(apply GL_nil)
|(apply thenG_normal)
|(apply blockG_normal)
|(apply GC_skip)
|(apply GC_if_true;eq_refl)
|(apply GL_on;eq_refl;eq_refl)
|(refine GC_draws (id := 17) [.q 0, .q 1, .q 2, .q 3, .q 4, .q 5, .q 6, .c 7, .q 8, .q 9, .q 10, .q 11, .c 12, .q 13, .q 14, .c 15] mixed (by kernel_rfl) (by kernel_rfl) ?_)
|(apply GS_nil)
|(apply GS_qon;eq_refl;eq_refl;eq_refl;eq_refl)
|(apply GS_qoff;eq_refl;eq_refl;eq_refl;eq_refl)
|(apply GS_con;eq_refl;eq_refl;eq_refl;eq_refl)
|(apply GS_coff;eq_refl;eq_refl;eq_refl;eq_refl)
|(apply G_pv;eq_refl;first|exact trivial|omega)
|(apply G_field;eq_refl)
|(apply G_ld;eq_refl;(repeat first|exact In.here|apply In.there|apply In.skip);eq_refl)
|(apply G_ldO;eq_refl;(repeat first|exact In.here|apply In.there|apply In.skip);assumption;eq_refl)
|(apply G_rd;eq_refl;(first|(apply Rd.own;(repeat first|exact In.here|apply In.there|apply In.skip);infer_instance)|(apply Rd.old;(repeat first|exact In.here|apply In.there|apply In.skip);assumption)|(apply Rd.oldR;(repeat first|exact In.here|apply In.there|apply In.skip);assumption)|exact Rd.nil|assumption);(case ih => infer_instance);omega;omega;eq_refl)
|(apply G_rdW;eq_refl;(first|(apply Rd.own;(repeat first|exact In.here|apply In.there|apply In.skip);infer_instance)|(apply Rd.old;(repeat first|exact In.here|apply In.there|apply In.skip);assumption)|(apply Rd.oldR;(repeat first|exact In.here|apply In.there|apply In.skip);assumption)|exact Rd.nil|assumption);infer_instance;(case ih => infer_instance);omega;omega)
|(apply G_cmpT;eq_refl;eq_refl;omega)
|(apply G_ix;eq_refl;eq_refl;(first|(apply Rd.own;(repeat first|exact In.here|apply In.there|apply In.skip);infer_instance)|(apply Rd.old;(repeat first|exact In.here|apply In.there|apply In.skip);assumption)|(apply Rd.oldR;(repeat first|exact In.here|apply In.there|apply In.skip);assumption)|exact Rd.nil|assumption);(first|eq_refl|omega);omega;omega)
|(apply G_alloc;eq_refl;intro _)
|(apply G_stV;(first|exact wr_p|kernel_rfl);eq_refl;eq_refl;eq_refl;eq_refl;(repeat first|exact Upd.here|apply Upd.there|apply Upd.skip);infer_instance;infer_instance;eq_refl;omega;(try simp only [List.length_set, List.length_append, List.length_replicate]);omega)
|(apply G_stW;(first|exact wr_p|kernel_rfl);eq_refl;eq_refl;eq_refl;eq_refl;(repeat first|exact Upd.here|apply Upd.there|apply Upd.skip);eq_refl))
        all_goals exact ⟨(i + 1, _), (by repeat first | exact trivial | refine ⟨rfl, ?_⟩), (by repeat first | exact Wk.nil | exact Wk.refl | (apply Wk.cons; (focus ((repeat first | exact Rem.here | apply Rem.there | apply Rem.skip); done))) | apply Wk.nilv | apply Wk.last | apply Wk.drop), ⟨hlt, hst.symm⟩, by simp only; omega⟩
      · obtain rfl : i = (ordM c).length := by omega
        repeat' (first
|(apply GC_seqK;intro K hK)
|(apply hK;clear hK K)
|(clear hK K;apply hK;clear hK K)
|(apply GC_region)
|(apply GL_nil)
|(apply thenG_normal)
|(apply thenG_exit)
|(apply blockG_hit)
|(apply GC_ret)
|(apply GC_exit)
|(apply GC_if_false;eq_refl)
|(apply retG1;eq_refl)
|(apply GL_on;eq_refl;eq_refl)
|(apply G_pv;eq_refl;first|exact trivial|omega)
|(apply G_ld;eq_refl;(repeat first|exact In.here|apply In.there|apply In.skip);eq_refl)
|(apply G_cmpF;eq_refl;eq_refl;omega))
        subst hv3 hv2 hv
        refine ⟨[_], (by repeat first | exact Wk.nil | exact Wk.refl | (apply Wk.cons; (focus ((repeat first | exact Rem.here | apply Rem.there | apply Rem.skip); done))) | apply Wk.nilv | apply Wk.last | apply Wk.drop), _, _, by rw [valM_len], rfl⟩
theorem next_cv {w : World} {c : Circ} {h js : Hd} {p : Nat} {A B : Option Addr} {k k1 : Nat} {v : List Bool} (hP : Blk w p 123 (rcells c h B k1)) (H : CirAt w c h js) (hA : RowA w booc 1 A v) (hn : c.latches.length ≤ 16384) (hl : ∀ x ∈ c.latches, hasL v x.2.1) :
    CVN Tryd.prog 64 [pt p, .slice A v.length k] w fun r N => ∃ A' k', r = .slice A' (nxtM c v).length k' ∧ N = [.vec booc 1 4 A' k' (nxtM c v)] := by
  have hLat := H.latches
  refine CVN.enter 35 [4] Tryd.func64 rfl rfl rfl (by decide) rfl ?_
  repeat' (first
|(apply GC_seqK;intro K hK)
|(apply hK;clear hK K)
|(apply GC_block)
|(apply GC_region)
|(apply GL_nil)
|(apply thenG_normal)
|(apply GL_on;eq_refl;eq_refl)
|(apply G_pv;eq_refl;first|exact trivial|omega)
|(apply G_field;eq_refl)
|(apply G_ldO;eq_refl;(repeat first|exact In.here|apply In.there|apply In.skip);assumption;eq_refl)
|(apply G_len;eq_refl)
|(apply G_make booc;eq_refl;eq_refl;eq_refl;omega;decide;intro _))
  rename_i b1
  refine GC_loopK [1, 5, 19, 20] (fun s : Nat × List Bool => [(21, nu s.1)]) (fun s => [.vec booc 1 4 (some ⟨b1, 0, none⟩) c.latches.length s.2, .old w none_]) (fun s => s.1 ≤ c.latches.length ∧ s.2 = fillL (fun x => lv v x.2.1) c.latches false s.1) (fun s => c.latches.length - s.1) (0, List.replicate c.latches.length false) (by repeat first | exact Pick.nil | (apply Pick.cons; eq_refl)) (by repeat first | exact trivial | refine ⟨rfl, ?_⟩) (by repeat first | exact Wk.nil | exact Wk.refl | (apply Wk.cons; (focus ((repeat first | exact Rem.here | apply Rem.there | apply Rem.skip); done))) | apply Wk.nilv | apply Wk.last | apply Wk.drop) ⟨Nat.zero_le _, fillL_0.symm⟩ ?_
  rintro ⟨i, out⟩ ⟨hi, hout⟩
  dsimp only at hi hout ⊢
  have hlen : out.length = c.latches.length := by rw [hout, fillL_len hi]
  rcases Nat.lt_or_ge i c.latches.length with hlt | hge
  · have hL := hl _ (gt_mem (l := c.latches) (i := (i : Int)) (by omega) (by omega))
    have hst := fillL_set (f := fun x : Tri => lv v x.2.1) (z := false) hlt
    rw [← hout] at hst
    have hlit : ∀ Γ, In Γ (.old w none_) → ∀ w', Mem w' Γ → CVN Tryd.prog 88 [.slice A v.length k, nu (gt c.latches (i : Int)).2.1] w' _ := fun Γ h0 w' M => is_cv (hA.chg (h0.old M)) rfl hL
    repeat' (first
|(apply G_call;eq_refl;eq_refl;(apply hlit;(repeat first|exact In.here|apply In.there|apply In.skip));rintro _ _ ⟨rfl, rfl⟩)
|(apply GC_seqK;intro K hK)
|(apply hK;clear hK K)
|(apply GC_block)
|(apply GC_region)
|(apply GL_nil)
|(apply thenG_normal)
|(apply blockG_normal)
|(apply GC_skip)
|(apply GC_if_true;eq_refl)
|(apply GL_on;eq_refl;eq_refl)
|(apply G_pv;eq_refl;first|exact trivial|omega)
|(apply G_field;eq_refl)
|(apply G_ld;eq_refl;(repeat first|exact In.here|apply In.there|apply In.skip);eq_refl)
|(apply G_rdW;eq_refl;(first|(apply Rd.own;(repeat first|exact In.here|apply In.there|apply In.skip);infer_instance)|(apply Rd.old;(repeat first|exact In.here|apply In.there|apply In.skip);assumption)|(apply Rd.oldR;(repeat first|exact In.here|apply In.there|apply In.skip);assumption)|exact Rd.nil|assumption);infer_instance;(case ih => infer_instance);omega;omega)
|(apply G_cmpT;eq_refl;eq_refl;omega)
|(apply G_ix;eq_refl;eq_refl;(first|(apply Rd.own;(repeat first|exact In.here|apply In.there|apply In.skip);infer_instance)|(apply Rd.old;(repeat first|exact In.here|apply In.there|apply In.skip);assumption)|(apply Rd.oldR;(repeat first|exact In.here|apply In.there|apply In.skip);assumption)|exact Rd.nil|assumption);(first|eq_refl|omega);omega;omega)
|(apply G_alloc;eq_refl;intro _)
|(apply G_stV;(first|exact wr_p|kernel_rfl);eq_refl;eq_refl;eq_refl;eq_refl;(repeat first|exact Upd.here|apply Upd.there|apply Upd.skip);infer_instance;infer_instance;eq_refl;omega;(try simp only [List.length_set, List.length_append, List.length_replicate]);omega)
|(apply G_stW;(first|exact wr_p|kernel_rfl);eq_refl;eq_refl;eq_refl;eq_refl;(repeat first|exact Upd.here|apply Upd.there|apply Upd.skip);eq_refl))
    exact ⟨(i + 1, _), (by repeat first | exact trivial | refine ⟨rfl, ?_⟩), (by repeat first | exact Wk.nil | exact Wk.refl | (apply Wk.cons; (focus ((repeat first | exact Rem.here | apply Rem.there | apply Rem.skip); done))) | apply Wk.nilv | apply Wk.last | apply Wk.drop), ⟨hlt, hst⟩, by simp only; omega⟩
  · rw [fillL_all hge] at hout
    repeat' (first
|(apply GC_seqK;intro K hK)
|(apply hK;clear hK K)
|(clear hK K;apply hK;clear hK K)
|(apply GC_region)
|(apply GL_nil)
|(apply thenG_normal)
|(apply thenG_exit)
|(apply blockG_hit)
|(apply GC_ret)
|(apply GC_exit)
|(apply GC_if_false;eq_refl)
|(apply retG1;eq_refl)
|(apply GL_on;eq_refl;eq_refl)
|(apply G_pv;eq_refl;first|exact trivial|omega)
|(apply G_cmpF;eq_refl;eq_refl;omega))
    have e1 : c.latches.length = (nxtM c v).length := by unfold nxtM; simp
    refine ⟨[.vec booc 1 4 (some ⟨b1, 0, none⟩) c.latches.length out], (by repeat first | exact Wk.nil | exact Wk.refl | (apply Wk.cons; (focus ((repeat first | exact Rem.here | apply Rem.there | apply Rem.skip); done))) | apply Wk.nilv | apply Wk.last | apply Wk.drop), some ⟨b1, 0, none⟩, c.latches.length, by rw [e1], by rw [hout]; rfl⟩
/-! ### slices.ContainsFunc at numbers -/
theorem indexFunc_cv {w : World} {f : FuncId} [F : Fn Tryd.prog f] {cap : Array Value} {p : Int → Bool} {A : Option Addr} {k : Nat} {ls : List Int} (hA : RowA w icell 1 A ls) (hn : ls.length ≤ 9223372036854775807) (hf : ∀ x ∈ ls, ∀ w', Chg w w' none_ → CVN Tryd.prog f ([nu x] ++ cap.toList) w' fun v N => N = [] ∧ v = .bool (p x)) :
    CVN Tryd.prog 69 [.slice A ls.length k, .func (.func f) #[] cap] w fun v N => N = [] ∧ ∃ i : Int, v = nu i ∧ decide (0 ≤ i) = ls.any p := by
  refine CVN.enter 19 [4] Tryd.func69 rfl rfl rfl (by decide) rfl ?_
  repeat' (first
|(apply GC_seqK;intro K hK)
|(apply hK;clear hK K)
|(apply GC_block)
|(apply GC_region)
|(apply GL_nil)
|(apply thenG_normal)
|(apply GL_on;eq_refl;eq_refl)
|(apply G_pv;eq_refl;first|exact trivial|omega)
|(apply G_len;eq_refl))
  refine GC_loopK [0, 1, 7] (fun i : Nat => [(8, nu i)]) (fun _ => [.old w none_]) (fun i => i ≤ ls.length ∧ (ls.take i).any p = false) (fun i => ls.length - i) 0 (by repeat first | exact Pick.nil | (apply Pick.cons; eq_refl)) (by repeat first | exact trivial | refine ⟨rfl, ?_⟩) (by repeat first | exact Wk.nil | exact Wk.refl | (apply Wk.cons; (focus ((repeat first | exact Rem.here | apply Rem.there | apply Rem.skip); done))) | apply Wk.nilv | apply Wk.last | apply Wk.drop) ⟨Nat.zero_le _, by simp⟩ ?_
  rintro i ⟨hi, hall⟩
  rcases Nat.lt_or_ge i ls.length with hlt | hge
  · have e1 := List.take_succ_eq_append_getElem hlt
    have eg := gt_nat hlt
    have hcl : ∀ Γ, In Γ (.old w none_) → ∀ w', Mem w' Γ → CVN Tryd.prog f ([nu (gt ls (i : Int))] ++ cap.toList) w' _ := fun Γ h0 w' M => hf _ (by rw [eg]; exact List.getElem_mem hlt) w' (h0.old M)
    rw [← eg] at e1
    cases hv : p (gt ls (i : Int))
    all_goals
      rw [hv] at hcl
      repeat' (first
|(apply G_callF;eq_refl;eq_refl;infer_instance;eq_refl;(apply hcl;(repeat first|exact In.here|apply In.there|apply In.skip));rintro _ _ ⟨rfl, rfl⟩)
|(apply GC_seqK;intro K hK)
|(apply hK;clear hK K)
|(apply GC_block)
|(apply GC_region)
|(apply GL_nil)
|(apply thenG_normal)
|(apply thenG_ret)
|(apply blockG_ret)
|(apply blockG_normal)
|(apply GC_ret)
|(apply GC_skip)
|(apply GC_if_true;eq_refl)
|(apply GC_if_false;eq_refl)
|(apply retG1;eq_refl)
|(apply GL_on;eq_refl;eq_refl)
|(apply G_pv;eq_refl;first|exact trivial|omega)
|(apply G_rd;eq_refl;(first|(apply Rd.own;(repeat first|exact In.here|apply In.there|apply In.skip);infer_instance)|(apply Rd.old;(repeat first|exact In.here|apply In.there|apply In.skip);assumption)|(apply Rd.oldR;(repeat first|exact In.here|apply In.there|apply In.skip);assumption)|exact Rd.nil|assumption);(case ih => infer_instance);omega;omega;eq_refl)
|(apply G_cmpT;eq_refl;eq_refl;omega)
|(apply G_ix;eq_refl;eq_refl;(first|(apply Rd.own;(repeat first|exact In.here|apply In.there|apply In.skip);infer_instance)|(apply Rd.old;(repeat first|exact In.here|apply In.there|apply In.skip);assumption)|(apply Rd.oldR;(repeat first|exact In.here|apply In.there|apply In.skip);assumption)|exact Rd.nil|assumption);(first|eq_refl|omega);omega;omega))
    · exact ⟨i + 1, (by repeat first | exact trivial | refine ⟨rfl, ?_⟩), (by repeat first | exact Wk.nil | exact Wk.refl | (apply Wk.cons; (focus ((repeat first | exact Rem.here | apply Rem.there | apply Rem.skip); done))) | apply Wk.nilv | apply Wk.last | apply Wk.drop), ⟨hlt, by rw [e1, List.any_append, hall]; simp [hv]⟩, by omega⟩
    · refine ⟨[], (by repeat first | exact Wk.nil | exact Wk.refl | (apply Wk.cons; (focus ((repeat first | exact Rem.here | apply Rem.there | apply Rem.skip); done))) | apply Wk.nilv | apply Wk.last | apply Wk.drop), rfl, _, rfl, ?_⟩
      have : ls.any p = true := List.any_eq_true.2 ⟨_, List.getElem_mem hlt, by rw [← eg, hv]⟩
      rw [this]
      simp
  · repeat' (first
|(apply GC_seqK;intro K hK)
|(apply hK;clear hK K)
|(clear hK K;apply hK;clear hK K)
|(apply GC_region)
|(apply GL_nil)
|(apply thenG_normal)
|(apply thenG_exit)
|(apply blockG_hit)
|(apply GC_ret)
|(apply GC_exit)
|(apply GC_if_false;eq_refl)
|(apply retG1;eq_refl)
|(apply GL_on;eq_refl;eq_refl)
|(apply G_pv;eq_refl;first|exact trivial|omega)
|(apply G_cmpF;eq_refl;eq_refl;omega))
    rw [List.take_of_length_le hge] at hall
    exact ⟨[], (by repeat first | exact Wk.nil | exact Wk.refl | (apply Wk.cons; (focus ((repeat first | exact Rem.here | apply Rem.there | apply Rem.skip); done))) | apply Wk.nilv | apply Wk.last | apply Wk.drop), rfl, _, rfl, by rw [hall]; rfl⟩
theorem containsFunc_cv {w : World} {f : FuncId} [F : Fn Tryd.prog f] {cap : Array Value} {p : Int → Bool} {A : Option Addr} {k : Nat} {ls : List Int} (hA : RowA w icell 1 A ls) (hn : ls.length ≤ 9223372036854775807) (hf : ∀ x ∈ ls, ∀ w', Chg w w' none_ → CVN Tryd.prog f ([nu x] ++ cap.toList) w' fun v N => N = [] ∧ v = .bool (p x)) :
    CVN Tryd.prog 41 [.slice A ls.length k, .func (.func f) #[] cap] w fun v N => N = [] ∧ v = .bool (ls.any p) := by
  have hix : ∀ Γ, In Γ (.old w none_) → ∀ w', Mem w' Γ → CVN Tryd.prog 69 [.slice A ls.length k, .func (.func f) #[] cap] w' _ := fun Γ h0 w' M => indexFunc_cv (p := p) (hA.chg (h0.old M)) hn fun x hx w2 hc => hf x hx w2 ((h0.old M).trans hc fun _ _ h => h)
  refine CVN.enter 9 [4] Tryd.func41 rfl rfl rfl (by decide) rfl ?_
  repeat' (first
|(apply G_call;eq_refl;eq_refl;(apply hix;(repeat first|exact In.here|apply In.there|apply In.skip));rintro _ _ ⟨rfl, i, rfl, hi⟩)
|(apply GC_seqK;intro K hK)
|(apply hK;clear hK K)
|(apply GC_region)
|(apply GL_nil)
|(apply thenG_normal)
|(apply GC_ret)
|(apply retG1;eq_refl)
|(apply GL_on;eq_refl;eq_refl)
|(apply G_pv;eq_refl;first|exact trivial|omega)
|(apply G_cmpD;eq_refl;eq_refl;(case hd => infer_instance)))
  exact ⟨[], (by repeat first | exact Wk.nil | exact Wk.refl | (apply Wk.cons; (focus ((repeat first | exact Rem.here | apply Rem.there | apply Rem.skip); done))) | apply Wk.nilv | apply Wk.last | apply Wk.drop), rfl, by rw [← hi]⟩
theorem notIs_cv {w : World} {A : Option Addr} {b c k : Nat} {v : List Bool} {l : Int} (hB : Blk w b 53 [.slice A k c]) (hA : RowA w booc 1 A v) (hk : k = v.length) (hl : hasL v l) : CVN Tryd.prog 105 [nu l, pt b] w fun r N => N = [] ∧ r = .bool (!lv v l) := by
  have his : ∀ Γ, In Γ (.old w none_) → ∀ w', Mem w' Γ → CVN Tryd.prog 88 [.slice A k c, nu l] w' _ := fun Γ h0 w' M => is_cv (hA.chg (h0.old M)) hk hl
  refine CVN.enter 8 [3] Tryd.func105 rfl rfl rfl (by decide) rfl ?_
  repeat' (first
|(apply G_call;eq_refl;eq_refl;(apply his;(repeat first|exact In.here|apply In.there|apply In.skip));rintro _ _ ⟨rfl, rfl⟩)
|(apply GC_seqK;intro K hK)
|(apply hK;clear hK K)
|(apply GC_region)
|(apply GL_nil)
|(apply thenG_normal)
|(apply GC_ret)
|(apply retG1;eq_refl)
|(apply GL_on;eq_refl;eq_refl)
|(apply G_pv;eq_refl;first|exact trivial|omega)
|(apply G_ldO;eq_refl;(repeat first|exact In.here|apply In.there|apply In.skip);assumption;eq_refl))
  exact ⟨[], (by repeat first | exact Wk.nil | exact Wk.refl | (apply Wk.cons; (focus ((repeat first | exact Rem.here | apply Rem.there | apply Rem.skip); done))) | apply Wk.nilv | apply Wk.last | apply Wk.drop), rfl, rfl⟩
theorem holds_cv {w : World} {c : Circ} {h js : Hd} {p : Nat} {A B : Option Addr} {k k1 : Nat} {v : List Bool} (hP : Blk w p 123 (rcells c h B k1)) (H : CirAt w c h js) (hA : RowA w booc 1 A v) (hn : c.constraints.length ≤ 16384) (hl : ∀ l ∈ c.constraints, hasL v l) :
    CVN Tryd.prog 91 [pt p, .slice A v.length k] w fun r N => N = [] ∧ r = .bool (c.constraints.all (lv v)) := by
  have hcf : ∀ Γ b, In Γ (.old w none_) → In Γ (.box b 53 [.slice A v.length k]) → ∀ w', Mem w' Γ → CVN Tryd.prog 41 [.slice (h 5).1 c.constraints.length (h 5).2, .func (.func 105) #[] #[pt b]] w' _ := fun Γ b h0 hb w' M => containsFunc_cv (p := fun l => !lv v l) (H.constraints.chg (h0.old M)) (by omega) fun x hx w2 hc => notIs_cv ((hb.box M).chg hc id) ((hA.chg (h0.old M)).chg hc) rfl (hl x hx)
  refine CVN.enter 13 [4] Tryd.func91 rfl rfl rfl (by decide) rfl ?_
  repeat' (first
|(apply G_call;eq_refl;eq_refl;(apply hcf;(repeat first|exact In.here|apply In.there|apply In.skip);(repeat first|exact In.here|apply In.there|apply In.skip));rintro _ _ ⟨rfl, rfl⟩)
|(apply GC_seqK;intro K hK)
|(apply hK;clear hK K)
|(apply GC_region)
|(apply GL_nil)
|(apply thenG_normal)
|(apply GC_ret)
|(apply retG1;eq_refl)
|(apply GL_on;eq_refl;eq_refl)
|(apply G_pv;eq_refl;first|exact trivial|omega)
|(apply G_field;eq_refl)
|(apply G_ldO;eq_refl;(repeat first|exact In.here|apply In.there|apply In.skip);assumption;eq_refl)
|(apply G_box;eq_refl;eq_refl;intro _)
|(apply G_fun;eq_refl))
  refine ⟨[], (by repeat first | exact Wk.nil | exact Wk.refl | (apply Wk.cons; (focus ((repeat first | exact Rem.here | apply Rem.there | apply Rem.skip); done))) | apply Wk.nilv | apply Wk.last | apply Wk.drop), rfl, ?_⟩
  congr 1
  rw [List.not_any_eq_all_not]
  simp
end SC
end Go.Proofs.YtclihihdgodloaaDoor
end
section
/- trestlebook: SameBools, SpoilBools; trestlelaw07: lent, lit. -/
set_option linter.unusedVariables false
set_option linter.unusedSimpArgs false
namespace Go.Proofs.YtclihihdgodloaaDoor
namespace SC
open Go.Proofs
attribute [local irreducible] WC WL WX WS WO OX Does DoesU Enters CV Pure thenQ blockQ retQ Wants retQC GC GL GS GX RdB thenG blockG retG Rd At gt CVN CVM
set_option maxRecDepth 100000
end SC
end Go.Proofs.YtclihihdgodloaaDoor
end
section
/- sim: ready, step, Values, Next, Holds, Starts. -/
set_option linter.unusedVariables false
set_option linter.unusedSimpArgs false
namespace Go.Proofs.YtclihihdgodloaaDoor
namespace SC
open Go.Proofs
/-- What ready answers. -/
def ReadyR (c : Circ) (h : Hd) (v : Value) (N : Mm) : Prop :=
  ((lookM c).2 ≠ 0 ∧ v = .tuple #[.pointer none, nu (lookM c).2] ∧ N = []) ∨ ((lookM c).2 = 0 ∧ ∃ p B k, v = .tuple #[pt p, nu 0] ∧ N = [.box p 123 (rcells c h B k), .vec icell 1 3 B k (ordM c)])
attribute [local irreducible] WC WL WX WS WO OX Does DoesU Enters CV Pure thenQ blockQ retQ Wants retQC GC GL GS GX RdB thenG blockG retG Rd At gt CVN CVM
set_option maxRecDepth 100000
theorem ready_cv {w : World} {c : Circ} {h js : Hd} (H : CirIn w c h js) : CVN Tryd.prog 65 [.agg (ccells c h).toArray] w (ReadyR c h) := by
  have hord : ∀ Γ, In Γ (.old w none_) → ∀ w', Mem w' Γ → CVN Tryd.prog 75 [.agg (ccells c h).toArray] w' (OrdR c) := fun Γ hi w' M => have H' := H.chg (hi.old M); OrderG H'.at_ H'.sane
  refine CVN.enter 18 [2, 3] Tryd.func65 rfl rfl rfl (by decide) rfl ?_
  repeat' (first
|(apply G_call;eq_refl;eq_refl;(apply hord;(repeat first|exact In.here|apply In.there|apply In.skip));rintro _ _ (⟨he, rfl, rfl⟩|⟨he, A1, k1, rfl, rfl⟩))
|(apply GC_seqK;intro K hK)
|(apply hK;clear hK K)
|(apply GC_region)
|(apply GL_nil)
|(apply thenG_normal)
|(apply thenG_ret)
|(apply GC_ret)
|(apply GC_skip)
|(apply GC_if_true;eq_refl)
|(apply GC_if_false;eq_refl)
|(apply retG2;eq_refl;eq_refl)
|(apply GL_on;eq_refl;eq_refl)
|(apply G_pv;eq_refl;first|exact trivial|omega)
|(apply G_ldW;eq_refl;(repeat first|exact In.here|apply In.there|apply In.skip);eq_refl)
|(apply G_cmpT;eq_refl;eq_refl;omega)
|(apply G_cmpF;eq_refl;eq_refl;omega)
|(apply G_box;eq_refl;eq_refl;intro _)
|(apply GX_pure;apply build123_0_1 <;> eq_refl))
  · exact ⟨[], (by repeat first | exact Wk.nil | exact Wk.refl | (apply Wk.cons; (focus ((repeat first | exact Rem.here | apply Rem.there | apply Rem.skip); done))) | apply Wk.nilv | apply Wk.last | apply Wk.drop), .inl ⟨he, rfl, rfl⟩⟩
  · exact ⟨[.box _ 123 (rcells c h A1 k1), _], (by repeat first | exact Wk.nil | exact Wk.refl | (apply Wk.cons; (focus ((repeat first | exact Rem.here | apply Rem.there | apply Rem.skip); done))) | apply Wk.nilv | apply Wk.last | apply Wk.drop), .inr ⟨he, _, _, _, rfl, rfl⟩⟩
section
variable {w : World} {c : Circ} {h js : Hd} {S T : Option Addr} {k2 k3 : Nat} {s r : List Bool} (H : CirIn w c h js) (hS : RowA w booc 1 S s) (hT : RowA w booc 1 T r)
include H hS hT
end
theorem startsM_right {c : Circ} {s : List Bool} (R : Right c) {i : Nat} (hi : i < c.latches.length) : okSt (gt c.latches (i : Int)) (gt s (i : Int)) = !(decide ((gt c.latches (i : Int)).2.2 < 2) && (gt s (i : Int) != decide ((gt c.latches (i : Int)).2.2 = 1))) := by
  have h := R.lat (gt_mem (l := c.latches) (i := (i : Int)) (by omega) (by omega))
  unfold defR at h
  generalize gt c.latches (i : Int) = x at *
  generalize gt s (i : Int) = b at *
  obtain ⟨h1, h2, h3⟩ := h
  unfold okSt
  rcases h3 with h3 | h3 | h3
  · rw [h3]; cases b <;> rfl
  · rw [h3]; cases b <;> rfl
  · have : ¬ x.2.2 < 2 := by omega
    have h4 : x.2.2 ≠ 0 := by omega
    have h5 : x.2.2 ≠ 1 := by omega
    simp [this, h4, h5]
theorem StartsP_cv {w : World} {c : Circ} {h js : Hd} {S : Option Addr} {k2 : Nat} {s : List Bool} (H : CirIn w c h js) (hS : RowA w booc 1 S s) : CVN Tryd.prog 35 [.agg (ccells c h).toArray, .slice S s.length k2] w fun v N => v = .tuple #[.bool (startB c s), nu (startE c s)] ∧ N = [] := by
  have hck : ∀ Γ, In Γ (.old w none_) → ∀ w', Mem w' Γ → CVN Tryd.prog 55 [.agg (ccells c h).toArray] w' fun v N => N = [] ∧ v = .tuple #[nu (lookM c).1, nu (lookM c).2] := fun Γ hi w' M => have H' := H.chg (hi.old M); CVN.of (check_cv H'.at_ H'.sane) fun v w' h => ⟨h.2, h.1⟩
  have hLat := H.at_.latches
  refine CVN.enter 46 [4, 5] Tryd.func35 rfl rfl rfl (by decide) rfl ?_
  by_cases h1 : (lookM c).2 = 0
  · by_cases h2 : s.length = c.latches.length
    · have e1 : startE c s = 0 := by unfold startE; rw [if_neg (by omega), if_neg (by omega)]
      have e2 : startB c s = startsM c s c.latches.length := if_pos e1
      have R := right_of H.at_ H.sane h1
      have hn := R.nLat
      rw [e1, e2]
      repeat' (first
|(apply G_call;eq_refl;eq_refl;(apply hck;(repeat first|exact In.here|apply In.there|apply In.skip));rintro _ _ ⟨rfl, rfl⟩)
|(apply GC_seqK;intro K hK)
|(apply hK;clear hK K)
|(apply GC_block)
|(apply GC_region)
|(apply GL_nil)
|(apply thenG_normal)
|(apply GC_skip)
|(apply GC_if_false;eq_refl)
|(apply GL_on;eq_refl;eq_refl)
|(apply G_pv;eq_refl;first|exact trivial|omega)
|(apply G_field;eq_refl)
|(apply G_ld;eq_refl;(repeat first|exact In.here|apply In.there|apply In.skip);eq_refl)
|(apply G_ldW;eq_refl;(repeat first|exact In.here|apply In.there|apply In.skip);eq_refl)
|(apply G_cmpF;eq_refl;eq_refl;omega)
|(apply G_len;eq_refl)
|(apply G_box;eq_refl;eq_refl;intro _))
      refine GC_loopK [1, 2, 25, 26] (fun i : Nat => [(27, nu i)]) (fun _ => [.old w none_]) (fun i => i ≤ c.latches.length ∧ startsM c s i = true) (fun i => c.latches.length - i) 0 (by repeat first | exact Pick.nil | (apply Pick.cons; eq_refl)) (by repeat first | exact trivial | refine ⟨rfl, ?_⟩) (by repeat first | exact Wk.nil | exact Wk.refl | (apply Wk.cons; (focus ((repeat first | exact Rem.here | apply Rem.there | apply Rem.skip); done))) | apply Wk.nilv | apply Wk.last | apply Wk.drop) ⟨Nat.zero_le _, rfl⟩ ?_
      rintro i ⟨hi, hall⟩
      rcases Nat.lt_or_ge i c.latches.length with hlt | hge
      · have hsc := startsM_succ c s i
        rw [hall, Bool.true_and] at hsc
        have hf := startsM_false (c := c) (s := s) hlt
        rw [startsM_right R hlt] at hsc hf
        generalize hb : gt s (i : Int) = b at *
        cases b
        all_goals
          repeat' (first
|(apply G_rd;eq_refl;(apply Rd.old;(repeat first|exact In.here|apply In.there|apply In.skip);assumption);(case ih => infer_instance);omega;omega;(rw [hb];eq_refl))
|(apply GC_seqK;intro K hK)
|(apply hK;clear hK K)
|(apply GC_block)
|(apply GC_region)
|(apply GL_nil)
|(apply thenG_normal)
|(apply thenG_ret)
|(apply blockG_ret)
|(apply blockG_normal)
|(apply GC_ret)
|(apply GC_skip)
|(apply GC_if_true;eq_refl)
|(apply GC_if_false;eq_refl)
|(apply retG2;eq_refl;eq_refl)
|(apply GL_on;eq_refl;eq_refl)
|(refine GC_draws (id := 9) [.q 0, .q 1, .q 2, .q 3, .q 4, .q 5, .q 6, .q 7, .q 8, .q 9, .q 10, .q 11, .q 12] mixed (by kernel_rfl) (by kernel_rfl) ?_)
|(apply GS_nil)
|(apply GS_qon;eq_refl;eq_refl;eq_refl;eq_refl)
|(apply GS_qoff;eq_refl;eq_refl;eq_refl;eq_refl)
|(apply G_pv;eq_refl;first|exact trivial|omega)
|(apply G_field;eq_refl)
|(apply G_ld;eq_refl;(repeat first|exact In.here|apply In.there|apply In.skip);eq_refl)
|(apply G_rdW;eq_refl;(first|(apply Rd.own;(repeat first|exact In.here|apply In.there|apply In.skip);infer_instance)|(apply Rd.old;(repeat first|exact In.here|apply In.there|apply In.skip);assumption)|(apply Rd.oldR;(repeat first|exact In.here|apply In.there|apply In.skip);assumption)|exact Rd.nil|assumption);infer_instance;(case ih => infer_instance);omega;omega)
|(apply G_cmpT;eq_refl;eq_refl;omega)
|(apply G_cmp;eq_refl;eq_refl;all_goals intro _)
|(apply G_ix;eq_refl;eq_refl;(first|(apply Rd.own;(repeat first|exact In.here|apply In.there|apply In.skip);infer_instance)|(apply Rd.old;(repeat first|exact In.here|apply In.there|apply In.skip);assumption)|(apply Rd.oldR;(repeat first|exact In.here|apply In.there|apply In.skip);assumption)|exact Rd.nil|assumption);(first|eq_refl|omega);omega;omega)
|(apply G_neqB;eq_refl;eq_refl)
|(apply G_alloc;eq_refl;intro _)
|(apply G_stW;(first|exact wr_p|kernel_rfl);eq_refl;eq_refl;eq_refl;eq_refl;(repeat first|exact Upd.here|apply Upd.there|apply Upd.skip);eq_refl))
        all_goals first
          | exact ⟨[], (by repeat first | exact Wk.nil | exact Wk.refl | (apply Wk.cons; (focus ((repeat first | exact Rem.here | apply Rem.there | apply Rem.skip); done))) | apply Wk.nilv | apply Wk.last | apply Wk.drop), by rw [hf (by simp [*])], rfl⟩
          | exact ⟨i + 1, (by repeat first | exact trivial | refine ⟨rfl, ?_⟩), (by repeat first | exact Wk.nil | exact Wk.refl | (apply Wk.cons; (focus ((repeat first | exact Rem.here | apply Rem.there | apply Rem.skip); done))) | apply Wk.nilv | apply Wk.last | apply Wk.drop), ⟨hlt, by rw [hsc]; simp [*]⟩, by omega⟩
      · obtain rfl : i = c.latches.length := by omega
        repeat' (first
|(apply GC_seqK;intro K hK)
|(apply hK;clear hK K)
|(clear hK K;apply hK;clear hK K)
|(apply GC_region)
|(apply GL_nil)
|(apply thenG_normal)
|(apply thenG_exit)
|(apply blockG_hit)
|(apply GC_ret)
|(apply GC_exit)
|(apply GC_if_false;eq_refl)
|(apply retG2;eq_refl;eq_refl)
|(apply GL_on;eq_refl;eq_refl)
|(apply G_pv;eq_refl;first|exact trivial|omega)
|(apply G_cmpF;eq_refl;eq_refl;omega))
        exact ⟨[], (by repeat first | exact Wk.nil | exact Wk.refl | (apply Wk.cons; (focus ((repeat first | exact Rem.here | apply Rem.there | apply Rem.skip); done))) | apply Wk.nilv | apply Wk.last | apply Wk.drop), by rw [hall], rfl⟩
    · have e1 : startE c s = 4 := by unfold startE; rw [if_neg (by omega), if_pos h2]
      have e2 : startB c s = false := if_neg (by rw [e1]; decide)
      rw [e1, e2]
      repeat' (first
|(apply G_call;eq_refl;eq_refl;(apply hck;(repeat first|exact In.here|apply In.there|apply In.skip));rintro _ _ ⟨rfl, rfl⟩)
|(apply GC_seqK;intro K hK)
|(apply hK;clear hK K)
|(apply GC_region)
|(apply GL_nil)
|(apply thenG_normal)
|(apply thenG_ret)
|(apply GC_ret)
|(apply GC_skip)
|(apply GC_if_true;eq_refl)
|(apply GC_if_false;eq_refl)
|(apply retG2;eq_refl;eq_refl)
|(apply GL_on;eq_refl;eq_refl)
|(apply G_pv;eq_refl;first|exact trivial|omega)
|(apply G_field;eq_refl)
|(apply G_ld;eq_refl;(repeat first|exact In.here|apply In.there|apply In.skip);eq_refl)
|(apply G_ldW;eq_refl;(repeat first|exact In.here|apply In.there|apply In.skip);eq_refl)
|(apply G_cmpT;eq_refl;eq_refl;omega)
|(apply G_cmpF;eq_refl;eq_refl;omega)
|(apply G_len;eq_refl)
|(apply G_box;eq_refl;eq_refl;intro _))
      exact ⟨[], (by repeat first | exact Wk.nil | exact Wk.refl | (apply Wk.cons; (focus ((repeat first | exact Rem.here | apply Rem.there | apply Rem.skip); done))) | apply Wk.nilv | apply Wk.last | apply Wk.drop), rfl, rfl⟩
  · have e1 : startE c s = (lookM c).2 := if_pos h1
    have e2 : startB c s = false := if_neg (by rw [e1]; exact h1)
    rw [e1, e2]
    repeat' (first
|(apply G_call;eq_refl;eq_refl;(apply hck;(repeat first|exact In.here|apply In.there|apply In.skip));rintro _ _ ⟨rfl, rfl⟩)
|(apply GC_seqK;intro K hK)
|(apply hK;clear hK K)
|(apply GC_region)
|(apply GL_nil)
|(apply thenG_normal)
|(apply thenG_ret)
|(apply GC_ret)
|(apply GC_if_true;eq_refl)
|(apply retG2;eq_refl;eq_refl)
|(apply GL_on;eq_refl;eq_refl)
|(apply G_pv;eq_refl;first|exact trivial|omega)
|(apply G_ldW;eq_refl;(repeat first|exact In.here|apply In.there|apply In.skip);eq_refl)
|(apply G_cmpT;eq_refl;eq_refl;omega)
|(apply G_box;eq_refl;eq_refl;intro _))
    exact ⟨[], (by repeat first | exact Wk.nil | exact Wk.refl | (apply Wk.cons; (focus ((repeat first | exact Rem.here | apply Rem.there | apply Rem.skip); done))) | apply Wk.nilv | apply Wk.last | apply Wk.drop), rfl, rfl⟩
end SC
end Go.Proofs.YtclihihdgodloaaDoor
end
section
/- What is so in a step. trestleref07: moment. -/
set_option linter.unusedVariables false
set_option linter.unusedSimpArgs false
namespace Go.Proofs.YtclihihdgodloaaDoor
namespace SC
open Go.Proofs
structure Mom where
  state : List Bool
  holds : Bool
  bads : List Int
  fair : List (Int × Int)
instance : Inhabited Mom := ⟨⟨[], false, [], []⟩⟩
abbrev HMom := (Option Addr × Nat) × (Option Addr × Nat) × (Option Addr × Nat)
def encM (p : HMom × Mom) : List Value := [.slice p.1.1.1 p.2.state.length p.1.1.2, .bool p.2.holds, .slice p.1.2.1.1 p.2.bads.length p.1.2.1.2, .slice p.1.2.2.1 p.2.fair.length p.1.2.2.2]
def momE (p : HMom × Mom) : Mm := [.vec booc 1 4 p.1.1.1 p.1.1.2 p.2.state, .vec icell 1 3 p.1.2.1.1 p.1.2.1.2 p.2.bads, .vec spotc 2 127 p.1.2.2.1 p.1.2.2.2 p.2.fair]
instance : Enc encM 4 := ⟨fun _ => rfl, fun a u h => by simp [encM] at h; rcases h with rfl | rfl | rfl | rfl <;> rfl, by decide⟩
def selI (v : List Bool) (ls : List Int) (i : Nat) : List Int := ((List.range i).filter fun (k : Nat) => lv v (gt ls (k : Int))).map fun (k : Nat) => (k : Int)
def selF (at_ : Int) (v : List Bool) (ls : List Int) (i : Nat) : List (Int × Int) := ((List.range i).filter fun (k : Nat) => lv v (gt ls (k : Int))).map fun (k : Nat) => (at_, (k : Int))
def fairJ (v : List Bool) (js : List (List Int)) (i : Nat) : List (Int × Int) := (List.range i).flatMap fun (k : Nat) => selF (k : Int) v (js.getD k []) (js.getD k []).length
def momM (c : Circ) (s v : List Bool) : Mom := ⟨s, c.constraints.all (lv v), selI v c.bads c.bads.length, fairJ v c.justice c.justice.length ++ selF (-1) v c.fairness c.fairness.length⟩
theorem selI_t {v : List Bool} {ls : List Int} {i : Nat} (h : lv v (gt ls (i : Int)) = true) : selI v ls (i + 1) = selI v ls i ++ [(i : Int)] := by unfold selI; rw [List.range_succ, List.filter_append, List.map_append]; simp [h]
theorem selI_f {v : List Bool} {ls : List Int} {i : Nat} (h : lv v (gt ls (i : Int)) = false) : selI v ls (i + 1) = selI v ls i := by unfold selI; rw [List.range_succ, List.filter_append, List.map_append]; simp [h]
theorem selF_t {a : Int} {v : List Bool} {ls : List Int} {i : Nat} (h : lv v (gt ls (i : Int)) = true) : selF a v ls (i + 1) = selF a v ls i ++ [(a, (i : Int))] := by unfold selF; rw [List.range_succ, List.filter_append, List.map_append]; simp [h]
theorem selF_f {a : Int} {v : List Bool} {ls : List Int} {i : Nat} (h : lv v (gt ls (i : Int)) = false) : selF a v ls (i + 1) = selF a v ls i := by unfold selF; rw [List.range_succ, List.filter_append, List.map_append]; simp [h]
theorem selI_len (v : List Bool) (ls : List Int) (i : Nat) : (selI v ls i).length ≤ i := by unfold selI; rw [List.length_map]; exact Nat.le_trans (List.length_filter_le ..) (by simp)
theorem selF_len (a : Int) (v : List Bool) (ls : List Int) (i : Nat) : (selF a v ls i).length ≤ i := by unfold selF; rw [List.length_map]; exact Nat.le_trans (List.length_filter_le ..) (by simp)
theorem fairJ_succ (v : List Bool) (js : List (List Int)) (i : Nat) : fairJ v js (i + 1) = fairJ v js i ++ selF (i : Int) v (js.getD i []) (js.getD i []).length := by unfold fairJ; rw [List.range_succ, List.flatMap_append]; simp
theorem sumL_take_le (l : List (List Int)) (i : Nat) : sumL (l.take i) ≤ sumL l := by
  unfold sumL
  induction l generalizing i with
  | nil => simp
  | cons a r ih =>
    cases i with
    | zero => simp
    | succ i => simp only [List.take_succ_cons, List.map_cons, List.sum_cons]; have := ih i; omega
theorem fairJ_len (v : List Bool) (js : List (List Int)) (i : Nat) (h : i ≤ js.length) : (fairJ v js i).length ≤ sumL (js.take i) := by
  induction i with
  | zero => simp [fairJ]
  | succ i ih =>
    have h1 := ih (by omega)
    have h2 := selF_len (i : Int) v (js.getD i []) (js.getD i []).length
    rw [fairJ_succ, List.length_append, List.take_succ_eq_append_getElem (by omega)]
    unfold sumL at *
    rw [List.map_append, List.sum_append]
    have e1 : js.getD i [] = js[i] := by simp [show i < js.length by omega]
    rw [e1] at h2 ⊢
    simp only [List.map_cons, List.map_nil, List.sum_cons, List.sum_nil]
    omega
theorem Right.sumJ {c : Circ} (R : Right c) (hf : c.Fits) : sumL c.justice ≤ 16384 := by
  have h1 := sumL_le (l := c.justice) (M := 17592186044416) fun x hx => by have := hf.each x hx; omega
  have h2 := R.nJust
  have h3 := R.sum
  unfold sumW at h3
  have h4 : c.justice.length * 17592186044416 ≤ 16384 * 17592186044416 := Nat.mul_le_mul_right _ h2
  rw [wrap64_id (by omega) (by omega)] at h3
  omega
theorem each_sum {l : List (List Int)} {i : Nat} (h : i < l.length) : sumL (l.take i) + l[i].length ≤ sumL l := by
  have := sumL_take_le l (i + 1)
  rw [List.take_succ_eq_append_getElem h] at this
  unfold sumL at *
  rw [List.map_append, List.sum_append] at this
  simpa using this
/-- What moment answers: a struct, its three lists new memory. -/
def MomR (m : Mom) (v : Value) (N : Mm) : Prop := ∃ hm : HMom, v = .agg (encM (hm, m)).toArray ∧ N = momE (hm, m)
attribute [local irreducible] WC WL WX WS WO OX Does DoesU Enters CV Pure thenQ blockQ retQ Wants retQC GC GL GS GX RdB thenG blockG retG Rd At gt CVN CVM
set_option maxRecDepth 100000
end SC
end Go.Proofs.YtclihihdgodloaaDoor
end
section
/- sim: moment. -/
set_option linter.unusedVariables false
set_option linter.unusedSimpArgs false
namespace Go.Proofs.YtclihihdgodloaaDoor
namespace SC
open Go.Proofs
attribute [local irreducible] WC WL WX WS WO OX Does DoesU Enters CV Pure thenQ blockQ retQ Wants retQC GC GL GS GX RdB thenG blockG retG Rd At gt CVN CVM
set_option maxRecDepth 100000
/-- The closure that tells the fair spots. -/
def fairC (b : Nat) (x0 x1 x2 : Value) (A : Option Addr) (k : Nat) (F : List (Int × Int)) : Mm := [.box b 73 [x0, x1, x2, .slice A F.length k], .vec spotc 2 127 A k F]
theorem fair_cv {w : World} {b5 b7 k c kF kL : Nat} {x0 x1 x2 : Value} {A AF L : Option Addr} {v : List Bool} {F : List (Int × Int)} {ls : List Int} {at_ : Int} (M : Mem w (fairC b7 x0 x1 x2 AF kF F)) (hB : RdB [.old w (owns (fairC b7 x0 x1 x2 AF kF F))] b5 53 [.slice A k c]) (hA : Rd [.old w (owns (fairC b7 x0 x1 x2 AF kF F))] booc 1 A v) (hL : Rd [.old w (owns (fairC b7 x0 x1 x2 AF kF F))] icell 1 L ls)
    (hk : k = v.length) (hin : ∀ l ∈ ls, hasL v l) (hn : F.length + ls.length ≤ 100000) : CVM Tryd.prog 92 ([nu at_, .slice L ls.length kL] ++ (#[pt b5, pt b7] : Array Value).toList) w (fairC b7 x0 x1 x2 AF kF F) fun r N => r = .tuple #[] ∧ ∃ A' k', N = fairC b7 x0 x1 x2 A' k' (F ++ selF at_ v ls ls.length) := by
  obtain ⟨S, hS⟩ : ∃ S, S = owns (fairC b7 x0 x1 x2 AF kF F) := ⟨_, rfl⟩
  rw [← hS] at hB hA hL
  have his : ∀ Γ, In Γ (.old w S) → ∀ l, hasL v l → ∀ w', Mem w' Γ → CVN Tryd.prog 88 [.slice A k c, nu l] w' _ := fun Γ hi l hl w' M => is_cv (hA.at (hi.one M)) hk hl
  refine CVM.enter 27 [] Tryd.func92 rfl rfl rfl (by decide) rfl M ?_
  rw [← hS]
  clear hS M
  unfold fairC
  repeat' (first
|(apply GC_seqK;intro K hK)
|(apply hK;clear hK K)
|(apply GC_block)
|(apply GC_region)
|(apply GL_nil)
|(apply thenG_normal)
|(apply GL_on;eq_refl;eq_refl)
|(apply G_pv;eq_refl;first|exact trivial|omega)
|(apply G_len;eq_refl))
  refine GC_loopK [0, 2, 3, 8, 9] (fun t : Nat × List (Int × Int) × Option Addr × Nat => [(10, nu t.1)]) (fun t => [.box b7 73 [x0, x1, x2, .slice t.2.2.1 t.2.1.length t.2.2.2], .vec spotc 2 127 t.2.2.1 t.2.2.2 t.2.1, .old w S])
    (fun t => t.1 ≤ ls.length ∧ t.2.1 = F ++ selF at_ v ls t.1) (fun t => ls.length - t.1) (0, F, AF, kF) (by repeat first | exact Pick.nil | (apply Pick.cons; eq_refl)) (by repeat first | exact trivial | refine ⟨rfl, ?_⟩) (by repeat first | exact Wk.nil | exact Wk.refl | (apply Wk.cons; (focus ((repeat first | exact Rem.here | apply Rem.there | apply Rem.skip); done))) | apply Wk.nilv | apply Wk.last | apply Wk.drop) ⟨Nat.zero_le _, by simp [selF]⟩ ?_
  rintro ⟨j, F2, AF2, kF2⟩ ⟨hj, hF2⟩
  dsimp only at hj hF2 ⊢
  have hFl2 : F2.length ≤ F.length + j := by rw [hF2, List.length_append]; have := selF_len at_ v ls j; omega
  rcases Nat.lt_or_ge j ls.length with hlt2 | hge2
  · have hl := hin _ (gt_mem (l := ls) (i := (j : Int)) (by omega) (by omega))
    repeat' (first
|(apply G_call;eq_refl;eq_refl;(apply his;(repeat first|exact In.here|apply In.there|apply In.skip);assumption);rintro _ _ ⟨rfl, rfl⟩)
|(apply GC_seqK;intro K hK)
|(apply hK;clear hK K)
|(apply GC_block)
|(apply GC_region)
|(apply GL_nil)
|(apply thenG_normal)
|(apply blockG_normal)
|(apply GC_skip)
|(apply GC_if_true;eq_refl)
|(apply GC_if;eq_refl;all_goals intro _)
|(apply GL_on;eq_refl;eq_refl)
|(apply G_pv;eq_refl;first|exact trivial|omega)
|(apply G_field;eq_refl)
|(apply G_ld;eq_refl;(repeat first|exact In.here|apply In.there|apply In.skip);eq_refl)
|(apply G_ldR;eq_refl;(apply RdB.oldR;(repeat first|exact In.here|apply In.there|apply In.skip);assumption);eq_refl)
|(apply G_rd;eq_refl;(first|(apply Rd.own;(repeat first|exact In.here|apply In.there|apply In.skip);infer_instance)|(apply Rd.old;(repeat first|exact In.here|apply In.there|apply In.skip);assumption)|(apply Rd.oldR;(repeat first|exact In.here|apply In.there|apply In.skip);assumption)|exact Rd.nil|assumption);(case ih => infer_instance);omega;omega;eq_refl)
|(apply G_cmpT;eq_refl;eq_refl;omega)
|(apply G_ix;eq_refl;eq_refl;(first|(apply Rd.own;(repeat first|exact In.here|apply In.there|apply In.skip);infer_instance)|(apply Rd.old;(repeat first|exact In.here|apply In.there|apply In.skip);assumption)|(apply Rd.oldR;(repeat first|exact In.here|apply In.there|apply In.skip);assumption)|exact Rd.nil|assumption);(first|eq_refl|omega);omega;omega)
|(apply G_st;(first|exact wr_p|kernel_rfl);eq_refl;eq_refl;eq_refl;eq_refl;(repeat first|exact Upd.here|apply Upd.there|apply Upd.skip);(first|decide|exact Nat.le_of_ble_eq_true rfl))
|(apply G_app;(first|exact wr_p|kernel_rfl);eq_refl;eq_refl;(intro A c;(repeat first|exact Upd.here|apply Upd.there|apply Upd.skip));infer_instance;(repeat first|exact In.here|apply In.there|apply In.skip);(repeat first|exact Dec.nil|apply Dec.pr|apply Dec.tr|(apply Dec.c1;eq_refl)|(apply Dec.c2;eq_refl)|(apply Dec.c3;eq_refl));eq_refl;eq_refl;eq_refl;((try simp only [List.length_append, List.length_cons, List.length_nil]);omega);decide;intro _ _)
|(apply GX_pure;apply build127_0_1 <;> eq_refl)
|(apply G_new (fun b => .slice (some ⟨b, 0, none⟩) 1 1);eq_refl;(intro _;apply buildS71_1 <;> eq_refl);intro _))
    · exact ⟨(j + 1, _, _, _), (by repeat first | exact trivial | refine ⟨rfl, ?_⟩), (by repeat first | exact Wk.nil | exact Wk.refl | (apply Wk.cons; (focus ((repeat first | exact Rem.here | apply Rem.there | apply Rem.skip); done))) | apply Wk.nilv | apply Wk.last | apply Wk.drop), ⟨hlt2, by rw [selF_t (by assumption), hF2, List.append_assoc]⟩, by simp only; omega⟩
    · exact ⟨(j + 1, _, _, _), (by repeat first | exact trivial | refine ⟨rfl, ?_⟩), (by repeat first | exact Wk.nil | exact Wk.refl | (apply Wk.cons; (focus ((repeat first | exact Rem.here | apply Rem.there | apply Rem.skip); done))) | apply Wk.nilv | apply Wk.last | apply Wk.drop), ⟨hlt2, by rw [selF_f (by assumption), hF2]⟩, by simp only; omega⟩
  · obtain rfl : j = ls.length := by omega
    repeat' (first
|(apply GC_seqK;intro K hK)
|(apply hK;clear hK K)
|(apply GC_region)
|(apply GL_nil)
|(apply thenG_normal)
|(apply thenG_exit)
|(apply blockG_hit)
|(apply GC_exit)
|(apply GC_if_false;eq_refl)
|(apply retG0n)
|(apply GL_on;eq_refl;eq_refl)
|(apply G_cmpF;eq_refl;eq_refl;omega))
    subst hF2
    exact ⟨_, (by repeat first | exact Wk.nil | exact Wk.refl | (apply Wk.cons; (focus ((repeat first | exact Rem.here | apply Rem.there | apply Rem.skip); done))) | apply Wk.nilv | apply Wk.last | apply Wk.drop), rfl, AF2, kF2, rfl⟩
theorem clone144_cv {w : World} {A : Option Addr} {k : Nat} {l : List Bool} (hA : RowA w booc 1 A l) (hn : l.length ≤ 140737488355000) : CVN Tryd.prog 90 [.slice A l.length k] w fun v N => ∃ A' k', v = .slice A' l.length k' ∧ N = [.vec booc 1 4 A' k' l] := by
  refine CVN.enter 8 [2] Tryd.func90 rfl rfl rfl (by decide) rfl ?_
  cases A with
  | none =>
    obtain rfl : l = [] := List.length_eq_zero_iff.1 hA.nil_of
    repeat' (first
|(apply GC_seqK;intro K hK)
|(apply hK;clear hK K)
|(apply GC_region)
|(apply GL_nil)
|(apply thenG_normal)
|(apply thenG_ret)
|(apply GC_ret)
|(apply GC_if_true;eq_refl)
|(apply retG1;eq_refl)
|(apply GL_on;eq_refl;eq_refl)
|(apply G_pv;eq_refl;first|exact trivial|omega)
|(apply G_eqL;eq_refl;eq_refl))
    exact ⟨[.vec booc 1 4 none 0 []], (by repeat first | exact Wk.nil | exact Wk.refl | (apply Wk.cons; (focus ((repeat first | exact Rem.here | apply Rem.there | apply Rem.skip); done))) | apply Wk.nilv | apply Wk.last | apply Wk.drop), none, 0, rfl, rfl⟩
  | some p =>
    have hk : some p = none → k = 0 := fun h => by cases h
    repeat' (first
|(apply GC_seqK;intro K hK)
|(apply hK;clear hK K)
|(apply GC_region)
|(apply GL_nil)
|(apply thenG_normal)
|(apply GC_ret)
|(apply GC_skip)
|(apply GC_if_false;eq_refl)
|(apply retG1;eq_refl)
|(apply GL_on;eq_refl;eq_refl)
|(apply G_pv;eq_refl;first|exact trivial|omega)
|(apply G_eqL;eq_refl;eq_refl)
|(apply G_appBR;(first|exact wr_p|kernel_rfl);eq_refl;eq_refl;(first|(apply Rd.own;(repeat first|exact In.here|apply In.there|apply In.skip);infer_instance)|(apply Rd.old;(repeat first|exact In.here|apply In.there|apply In.skip);assumption)|(apply Rd.oldR;(repeat first|exact In.here|apply In.there|apply In.skip);assumption)|exact Rd.nil|assumption);infer_instance;(repeat first|exact Upd.here|apply Upd.there|apply Upd.skip);(repeat first|exact Dec.nil|apply Dec.pr|apply Dec.tr|(apply Dec.c1;eq_refl)|(apply Dec.c2;eq_refl)|(apply Dec.c3;eq_refl));(intro A c;(repeat first|exact Upd.here|apply Upd.there|apply Upd.skip));(intro _;trivial);(first|(apply Rd.own;(repeat first|exact In.here|apply In.there|apply In.skip);infer_instance)|(apply Rd.old;(repeat first|exact In.here|apply In.there|apply In.skip);assumption)|(apply Rd.oldR;(repeat first|exact In.here|apply In.there|apply In.skip);assumption)|exact Rd.nil|assumption);assumption;eq_refl;eq_refl;decide;eq_refl;eq_refl;(try simp only [List.length_nil]);omega;decide;intro _ _)
|(apply G_new (fun b => .slice (some ⟨b, 0, none⟩) 0 0);eq_refl;(intro _;apply buildS53_0);intro _))
    exact ⟨[_], (by repeat first | exact Wk.nil | exact Wk.refl | (apply Wk.cons; (focus ((repeat first | exact Rem.here | apply Rem.there | apply Rem.skip); done))) | apply Wk.nilv | apply Wk.last | apply Wk.drop), _, _, rfl, rfl⟩
theorem moment_cv {w : World} {c : Circ} {h js : Hd} {p : Nat} {B S A : Option Addr} {k k1 k2 : Nat} {s v : List Bool} (R : Right c) (hP : Blk w p 123 (rcells c h B k1)) (H : CirAt w c h js) (hf : c.Fits) (hS : RowA w booc 1 S s) (hn : s.length ≤ 16384) (hA : RowA w booc 1 A v) (hv : v.length = (c.max + 1).toNat) :
    CVN Tryd.prog 67 [pt p, .slice S s.length k, .slice A v.length k2] w (MomR (momM c s v)) := by
  have m1 := R.m1
  have n1 := R.nBad
  have n2 := R.nFair
  have n3 := R.nJust
  have n5 := R.sumJ hf
  have hBad := H.bads
  have hFair := H.fairness
  have hJ := H.jrow
  have hjl := jps_len c js
  have hall : ∀ Γ, In Γ (.old w none_) → ∀ w', Mem w' Γ → CVN Tryd.prog 91 [pt p, .slice A v.length k2] w' _ := fun Γ hi w' M => holds_cv (hP.chg (hi.old M) id) (H.chg (hi.old M)) (hA.chg (hi.old M)) R.nCon fun l hl => (R.con hl).has m1 hv
  have hcl : ∀ Γ, In Γ (.old w none_) → ∀ w', Mem w' Γ → CVN Tryd.prog 90 [.slice S s.length k] w' _ := fun Γ hi w' M => clone144_cv (hS.chg (hi.old M)) (by omega)
  have hlit : ∀ Γ, In Γ (.old w none_) → ∀ l, inR c l → ∀ w', Mem w' Γ → CVN Tryd.prog 88 [.slice A v.length k2, nu l] w' _ := fun Γ hi l hl w' M => is_cv (hA.chg (hi.old M)) rfl (hl.has m1 hv)
  have hfr : ∀ {Γ Γ' : Mm} {b5 b7 kF kL : Nat} {x0 x1 x2 : Value} {AF L : Option Addr} {F : List (Int × Int)} {ls : List Int} {at_ : Int}, Rems Γ (fairC b7 x0 x1 x2 AF kF F) Γ' → In Γ' (.box b5 53 [.slice A v.length k2]) → In Γ' (.old w none_) → RowA w icell 1 L ls → (∀ l ∈ ls, inR c l) → F.length + ls.length ≤ 100000 → ∀ w', Mem w' Γ →
      CVM Tryd.prog 92 ([nu at_, .slice L ls.length kL] ++ (#[pt b5, pt b7] : Array Value).toList) w' (fairC b7 x0 x1 x2 AF kF F) _ := fun hC hb ho hL hin hl w' M => fair_cv (M.takes hC).left ((RdB.own hb).frame (M.takes hC)) ((Rd.old ho hA).frame (M.takes hC)) ((Rd.old ho hL).frame (M.takes hC)) rfl (fun l hl => (hin l hl).has m1 hv) hl
  refine CVN.enterC (t := 73) 65 6 [] Tryd.func67 rfl rfl rfl (.inl rfl) rfl ?_
  repeat' (first
|(apply G_call;eq_refl;eq_refl;(apply hcl;(repeat first|exact In.here|apply In.there|apply In.skip));rintro _ _ ⟨A0, k0, rfl, rfl⟩)
|(apply G_call;eq_refl;eq_refl;(apply hall;(repeat first|exact In.here|apply In.there|apply In.skip));rintro _ _ ⟨rfl, rfl⟩)
|(apply GC_seqK;intro K hK)
|(apply hK;clear hK K)
|(apply GC_block)
|(apply GC_region)
|(apply GL_nil)
|(apply thenG_normal)
|(apply GL_on;eq_refl;eq_refl)
|(refine GC_draws (id := 1) [.q 0, .q 2, .q 3, .f 6, .c 1, .c 4, .q 5, .land, .c 7] mixed (by kernel_rfl) (by kernel_rfl) ?_)
|(apply GS_nil)
|(apply GS_qon;eq_refl;eq_refl;eq_refl;eq_refl)
|(apply GS_con;eq_refl;eq_refl;eq_refl;eq_refl)
|(apply GS_fl;eq_refl;infer_instance;eq_refl;eq_refl;eq_refl)
|(apply GS_land;simp only [landG];intros)
|(apply G_pv;eq_refl;first|exact trivial|omega)
|(apply G_field;eq_refl)
|(apply G_ld;eq_refl;(repeat first|exact In.here|apply In.there|apply In.skip);eq_refl)
|(apply G_ldO;eq_refl;(repeat first|exact In.here|apply In.there|apply In.skip);assumption;eq_refl)
|(apply G_len;eq_refl)
|(apply G_alloc;eq_refl;intro _)
|(apply G_box;eq_refl;eq_refl;intro _)
|(apply G_stW;(first|exact wr_p|kernel_rfl);eq_refl;eq_refl;eq_refl;eq_refl;(repeat first|exact Upd.here|apply Upd.there|apply Upd.skip);eq_refl)
|(apply GX_pure;apply build73_0_1 <;> eq_refl))
  rename_i b5 b6 b7
  refine GC_loopK [0, 5, 6, 7, 23, 24] (fun t : Nat × List Int × Option Addr × Nat => [(25, nu t.1)]) (fun t => [.box b7 73 [.slice A0 s.length k0, .bool (c.constraints.all (lv v)), .slice t.2.2.1 t.2.1.length t.2.2.2, .slice none 0 0], .vec icell 1 3 t.2.2.1 t.2.2.2 t.2.1, .vec booc 1 4 A0 k0 s, .box b6 73 [.slice none 0 0, .bool false, .slice none 0 0, .slice none 0 0], .box b5 53 [.slice A v.length k2], .old w none_])
    (fun t => t.1 ≤ c.bads.length ∧ t.2.1 = selI v c.bads t.1) (fun t => c.bads.length - t.1) (0, [], none, 0) (by repeat first | exact Pick.nil | (apply Pick.cons; eq_refl)) (by repeat first | exact trivial | refine ⟨rfl, ?_⟩) (by repeat first | exact Wk.nil | exact Wk.refl | (apply Wk.cons; (focus ((repeat first | exact Rem.here | apply Rem.there | apply Rem.skip); done))) | apply Wk.nilv | apply Wk.last | apply Wk.drop) ⟨Nat.zero_le _, rfl⟩ ?_
  rintro ⟨i, B, AB, kB⟩ ⟨hi, hB⟩
  dsimp only at hi hB ⊢
  have hBl : B.length ≤ i := by rw [hB]; exact selI_len ..
  rcases Nat.lt_or_ge i c.bads.length with hlt | hge
  · have hl := R.bad (gt_mem (l := c.bads) (i := (i : Int)) (by omega) (by omega))
    repeat' (first
|(apply G_call;eq_refl;eq_refl;(apply hlit;(repeat first|exact In.here|apply In.there|apply In.skip);assumption);rintro _ _ ⟨rfl, rfl⟩)
|(apply GC_seqK;intro K hK)
|(apply hK;clear hK K)
|(apply GC_block)
|(apply GC_region)
|(apply GL_nil)
|(apply thenG_normal)
|(apply blockG_normal)
|(apply GC_skip)
|(apply GC_if_true;eq_refl)
|(apply GC_if;eq_refl;all_goals intro _)
|(apply GL_on;eq_refl;eq_refl)
|(apply G_pv;eq_refl;first|exact trivial|omega)
|(apply G_field;eq_refl)
|(apply G_ld;eq_refl;(repeat first|exact In.here|apply In.there|apply In.skip);eq_refl)
|(apply G_rd;eq_refl;(first|(apply Rd.own;(repeat first|exact In.here|apply In.there|apply In.skip);infer_instance)|(apply Rd.old;(repeat first|exact In.here|apply In.there|apply In.skip);assumption)|(apply Rd.oldR;(repeat first|exact In.here|apply In.there|apply In.skip);assumption)|exact Rd.nil|assumption);(case ih => infer_instance);omega;omega;eq_refl)
|(apply G_cmpT;eq_refl;eq_refl;omega)
|(apply G_ix;eq_refl;eq_refl;(first|(apply Rd.own;(repeat first|exact In.here|apply In.there|apply In.skip);infer_instance)|(apply Rd.old;(repeat first|exact In.here|apply In.there|apply In.skip);assumption)|(apply Rd.oldR;(repeat first|exact In.here|apply In.there|apply In.skip);assumption)|exact Rd.nil|assumption);(first|eq_refl|omega);omega;omega)
|(apply G_st;(first|exact wr_p|kernel_rfl);eq_refl;eq_refl;eq_refl;eq_refl;(repeat first|exact Upd.here|apply Upd.there|apply Upd.skip);(first|decide|exact Nat.le_of_ble_eq_true rfl))
|(apply G_app;(first|exact wr_p|kernel_rfl);eq_refl;eq_refl;(intro A c;(repeat first|exact Upd.here|apply Upd.there|apply Upd.skip));infer_instance;(repeat first|exact In.here|apply In.there|apply In.skip);(repeat first|exact Dec.nil|apply Dec.pr|apply Dec.tr|(apply Dec.c1;eq_refl)|(apply Dec.c2;eq_refl)|(apply Dec.c3;eq_refl));eq_refl;eq_refl;eq_refl;((try simp only [List.length_append, List.length_cons, List.length_nil]);omega);decide;intro _ _)
|(apply G_new (fun b => .slice (some ⟨b, 0, none⟩) 1 1);eq_refl;(intro _;apply buildS22_1 <;> eq_refl);intro _))
    · exact ⟨(i + 1, _, _, _), (by repeat first | exact trivial | refine ⟨rfl, ?_⟩), (by repeat first | exact Wk.nil | exact Wk.refl | (apply Wk.cons; (focus ((repeat first | exact Rem.here | apply Rem.there | apply Rem.skip); done))) | apply Wk.nilv | apply Wk.last | apply Wk.drop), ⟨hlt, by rw [selI_t (by assumption), hB]⟩, by simp only; omega⟩
    · exact ⟨(i + 1, _, _, _), (by repeat first | exact trivial | refine ⟨rfl, ?_⟩), (by repeat first | exact Wk.nil | exact Wk.refl | (apply Wk.cons; (focus ((repeat first | exact Rem.here | apply Rem.there | apply Rem.skip); done))) | apply Wk.nilv | apply Wk.last | apply Wk.drop), ⟨hlt, by rw [selI_f (by assumption), hB]⟩, by simp only; omega⟩
  · obtain rfl : i = c.bads.length := by omega
    repeat' (first
|(apply GC_seqK;intro K hK)
|(apply hK;clear hK K)
|(clear hK K;apply hK;clear hK K)
|(apply GC_block)
|(apply GC_region)
|(apply GL_nil)
|(apply thenG_normal)
|(apply thenG_exit)
|(apply blockG_hit)
|(apply GC_exit)
|(apply GC_if_false;eq_refl)
|(apply GL_on;eq_refl;eq_refl)
|(apply G_pv;eq_refl;first|exact trivial|omega)
|(apply G_field;eq_refl)
|(apply G_ldO;eq_refl;(repeat first|exact In.here|apply In.there|apply In.skip);assumption;eq_refl)
|(apply G_cmpF;eq_refl;eq_refl;omega)
|(apply G_len;eq_refl)
|(apply G_fun;eq_refl))
    refine GC_loopK [0, 5, 6, 7, 10, 45, 46] (fun t : Nat × List (Int × Int) × Option Addr × Nat => [(47, nu t.1)]) (fun t => [.box b7 73 [.slice A0 s.length k0, .bool (c.constraints.all (lv v)), .slice AB B.length kB, .slice t.2.2.1 t.2.1.length t.2.2.2], .vec spotc 2 127 t.2.2.1 t.2.2.2 t.2.1, .vec icell 1 3 AB kB B, .vec booc 1 4 A0 k0 s, .box b6 73 [.slice none 0 0, .bool false, .slice none 0 0, .slice none 0 0], .box b5 53 [.slice A v.length k2], .old w none_])
      (fun t => t.1 ≤ c.justice.length ∧ t.2.1 = fairJ v c.justice t.1) (fun t => c.justice.length - t.1) (0, [], none, 0) (by repeat first | exact Pick.nil | (apply Pick.cons; eq_refl)) (by repeat first | exact trivial | refine ⟨rfl, ?_⟩) (by repeat first | exact Wk.nil | exact Wk.refl | (apply Wk.cons; (focus ((repeat first | exact Rem.here | apply Rem.there | apply Rem.skip); done))) | apply Wk.nilv | apply Wk.last | apply Wk.drop) ⟨Nat.zero_le _, rfl⟩ ?_
    rintro ⟨i, F, AF, kF⟩ ⟨hi2, hF⟩
    dsimp only at hi2 hF ⊢
    have hFl := fairJ_len v c.justice i hi2
    rw [← hF] at hFl
    rcases Nat.lt_or_ge i c.justice.length with hlt | hge
    · have hje := H.jeach (js := js) hlt
      have ej := jps_gt c js hlt
      have el : (gt (jps c js) (i : Int)).2 = c.justice.getD i [] := by rw [ej]; simp [hlt]
      have hes := each_sum hlt
      have el2 : (gt (jps c js) (i : Int)).2.length = c.justice[i].length := by rw [ej]
      have hin : ∀ l ∈ (gt (jps c js) (i : Int)).2, inR c l := fun l hl => R.just (ls := c.justice[i]) (List.getElem_mem hlt) (by rw [ej] at hl; exact hl)
      have hsc := fairJ_succ v c.justice i
      rw [← el, ← hF] at hsc
      repeat' (first
|(apply G_callC (C := fairC b7 _ _ _ AF kF F);exact wr_p;eq_refl;infer_instance;eq_refl;(repeat first|exact Rems.nil|(apply Rems.cons;(focus ((repeat first|exact Rem.here|apply Rem.there|apply Rem.skip);done))));(apply hfr;(repeat first|exact Rems.nil|(apply Rems.cons;(focus ((repeat first|exact Rem.here|apply Rem.there|apply Rem.skip);done))));(repeat first|exact In.here|apply In.there|apply In.skip);(repeat first|exact In.here|apply In.there|apply In.skip);exact hje;exact hin;omega);rintro _ _ ⟨rfl, A9, k9, rfl⟩)
|(apply GC_seqK;intro K hK)
|(apply hK;clear hK K)
|(apply GC_block)
|(apply GC_region)
|(apply GL_nil)
|(apply thenG_normal)
|(apply blockG_normal)
|(apply GC_skip)
|(apply GC_if_true;eq_refl)
|(apply GL_on;eq_refl;eq_refl)
|(apply G_pv;eq_refl;first|exact trivial|omega)
|(apply G_rd;eq_refl;(first|(apply Rd.own;(repeat first|exact In.here|apply In.there|apply In.skip);infer_instance)|(apply Rd.old;(repeat first|exact In.here|apply In.there|apply In.skip);assumption)|(apply Rd.oldR;(repeat first|exact In.here|apply In.there|apply In.skip);assumption)|exact Rd.nil|assumption);(case ih => infer_instance);omega;omega;eq_refl)
|(apply G_cmpT;eq_refl;eq_refl;omega)
|(apply G_ix;eq_refl;eq_refl;(first|(apply Rd.own;(repeat first|exact In.here|apply In.there|apply In.skip);infer_instance)|(apply Rd.old;(repeat first|exact In.here|apply In.there|apply In.skip);assumption)|(apply Rd.oldR;(repeat first|exact In.here|apply In.there|apply In.skip);assumption)|exact Rd.nil|assumption);(first|eq_refl|omega);omega;omega))
      exact ⟨(i + 1, _, _, _), (by repeat first | exact trivial | refine ⟨rfl, ?_⟩), (by repeat first | exact Wk.nil | exact Wk.refl | (apply Wk.cons; (focus ((repeat first | exact Rem.here | apply Rem.there | apply Rem.skip); done))) | apply Wk.nilv | apply Wk.last | apply Wk.drop), ⟨hlt, by rw [hsc]⟩, by simp only; omega⟩
    · obtain rfl : i = c.justice.length := by omega
      rw [List.take_length] at hFl
      repeat' (first
|(apply G_callC (C := fairC b7 _ _ _ AF kF F);exact wr_p;eq_refl;infer_instance;eq_refl;(repeat first|exact Rems.nil|(apply Rems.cons;(focus ((repeat first|exact Rem.here|apply Rem.there|apply Rem.skip);done))));(apply hfr;(repeat first|exact Rems.nil|(apply Rems.cons;(focus ((repeat first|exact Rem.here|apply Rem.there|apply Rem.skip);done))));(repeat first|exact In.here|apply In.there|apply In.skip);(repeat first|exact In.here|apply In.there|apply In.skip);exact hFair;exact fun l hl => R.fair hl;omega);rintro _ _ ⟨rfl, A9, k9, rfl⟩)
|(apply GC_seqK;intro K hK)
|(apply hK;clear hK K)
|(clear hK K;apply hK;clear hK K)
|(apply GC_region)
|(apply GL_nil)
|(apply thenG_normal)
|(apply thenG_exit)
|(apply blockG_hit)
|(apply GC_ret)
|(apply GC_exit)
|(apply GC_if_false;eq_refl)
|(apply retGC0;eq_refl;(repeat first|exact In.here|apply In.there|apply In.skip);eq_refl)
|(apply GL_on;eq_refl;eq_refl)
|(apply G_pv;eq_refl;first|exact trivial|omega)
|(apply G_field;eq_refl)
|(apply G_ldW;eq_refl;(repeat first|exact In.here|apply In.there|apply In.skip);eq_refl)
|(apply G_ldO;eq_refl;(repeat first|exact In.here|apply In.there|apply In.skip);assumption;eq_refl)
|(apply G_cmpF;eq_refl;eq_refl;omega)
|(apply G_stW;(first|exact wr_p|kernel_rfl);eq_refl;eq_refl;eq_refl;eq_refl;(repeat first|exact Upd.here|apply Upd.there|apply Upd.skip);eq_refl))
      subst hF hB
      exact ⟨_, (by repeat first | exact Wk.nil | exact Wk.refl | (apply Wk.cons; (focus ((repeat first | exact Rem.here | apply Rem.there | apply Rem.skip); done))) | apply Wk.nilv | apply Wk.last | apply Wk.drop), ((A0, k0), (AB, kB), (A9, k9)), rfl, rfl⟩
end SC
end Go.Proofs.YtclihihdgodloaaDoor
end
section
/- Traces and runs. trestleref07: Fits, Run0, Run; sim: Run. -/
set_option linter.unusedVariables false
set_option linter.unusedSimpArgs false
namespace Go.Proofs.YtclihihdgodloaaDoor
namespace SC
open Go.Proofs
abbrev Hdl := Option Addr × Nat
/-- A trace, each row with its handle. -/
structure Trc where
  init : List Bool
  rows : List (Hdl × List Bool)
  loop : Int
def tcs (t : Trc) (a b : Hdl) : List Value := [.slice a.1 t.init.length a.2, .slice b.1 t.rows.length b.2, nu t.loop]
structure TrcIn (w : World) (t : Trc) (a b : Hdl) : Prop where
  init : RowA w booc 1 a.1 t.init
  rows : RowA w encS 1 b.1 t.rows
  each : ∀ p ∈ t.rows, RowA w booc 1 p.1.1 p.2
  nila : a.1 = none → a.2 = 0
  nilb : b.1 = none → b.2 = 0
  nile : ∀ p ∈ t.rows, p.1.1 = none → p.1.2 = 0
  li : t.init.length ≤ 140737488351232
  lr : t.rows.length ≤ 5864062014634
  le : ∀ p ∈ t.rows, p.2.length ≤ 140737488351232
  lo : fits t.loop
theorem TrcIn.chg {w w' : World} {t : Trc} {a b : Hdl} (H : TrcIn w t a b) (hc : Chg w w' none_) : TrcIn w' t a b := ⟨H.init.chg hc, H.rows.chg hc, fun p hp => (H.each p hp).chg hc, H.nila, H.nilb, H.nile, H.li, H.lr, H.le, H.lo⟩
def fitsM (c : Circ) (t : Trc) : Bool := decide (t.init.length = c.latches.length) && decide (1 ≤ t.rows.length) && decide (t.rows.length ≤ 512) && decide (-1 ≤ t.loop) && decide (t.loop < t.rows.length) && t.rows.all fun p => decide (p.2.length = c.inputs.length)
structure Fit (c : Circ) (t : Trc) : Prop where
  init : t.init.length = c.latches.length
  pos : 1 ≤ t.rows.length
  few : t.rows.length ≤ 512
  lo : -1 ≤ t.loop
  hi : t.loop < t.rows.length
  rows : ∀ p ∈ t.rows, p.2.length = c.inputs.length
theorem fitsM_iff {c : Circ} {t : Trc} : fitsM c t = true ↔ Fit c t := by
  unfold fitsM
  simp only [Bool.and_eq_true, decide_eq_true_eq, List.all_eq_true]
  exact ⟨fun ⟨⟨⟨⟨⟨h1, h2⟩, h3⟩, h4⟩, h5⟩, h6⟩ => ⟨h1, h2, h3, h4, h5, h6⟩, fun h => ⟨⟨⟨⟨⟨h.init, h.pos⟩, h.few⟩, h.lo⟩, h.hi⟩, h.rows⟩⟩
/-- The states of a run, and what is so in its steps. -/
noncomputable def stM (c : Circ) (t : Trc) : Nat → List Bool
  | 0 => t.init
  | k + 1 => nxtM c (valM c (stM c t k) (gt t.rows (k : Int)).2)
noncomputable def runM (c : Circ) (t : Trc) (n : Nat) : List Mom := (List.range n).map fun k => momM c (stM c t k) (valM c (stM c t k) (gt t.rows (k : Int)).2)
theorem runM_succ (c : Circ) (t : Trc) (n : Nat) : runM c t (n + 1) = runM c t n ++ [momM c (stM c t n) (valM c (stM c t n) (gt t.rows (n : Int)).2)] := by unfold runM; rw [List.range_succ, List.map_append]; rfl
theorem runM_len (c : Circ) (t : Trc) (n : Nat) : (runM c t n).length = n := by unfold runM; simp
theorem stM_len {c : Circ} {t : Trc} (h : t.init.length = c.latches.length) : ∀ k, (stM c t k).length = c.latches.length
  | 0 => h
  | k + 1 => by unfold stM nxtM; simp
noncomputable def runE (c : Circ) (t : Trc) : Int := if (lookM c).2 ≠ 0 then (lookM c).2 else if fitsM c t = true then 0 else 4
noncomputable def runsM (c : Circ) (t : Trc) : List Mom := if runE c t = 0 then runM c t t.rows.length else []
theorem runE_look {c : Circ} {t : Trc} (h : (lookM c).2 ≠ 0) : runE c t = (lookM c).2 := if_pos h
theorem runE_fit {c : Circ} {t : Trc} (h : (lookM c).2 = 0) (h2 : Fit c t) : runE c t = 0 := by unfold runE; rw [if_neg (by omega), if_pos (fitsM_iff.2 h2)]
theorem runE_not {c : Circ} {t : Trc} (h : (lookM c).2 = 0) (h2 : ¬ Fit c t) : runE c t = 4 := by unfold runE; rw [if_neg (by omega), if_neg (fun hh => h2 (fitsM_iff.1 hh))]
theorem runE_zero {c : Circ} {t : Trc} (h : runE c t = 0) : (lookM c).2 = 0 ∧ Fit c t := by
  unfold runE at h
  split at h
  · exact absurd h (by assumption)
  · split at h
    · rename_i h1 h2; exact ⟨by omega, fitsM_iff.1 h2⟩
    · cases h
/-- What Run answers. -/
def RunR (c : Circ) (t : Trc) (v : Value) (N : Mm) : Prop := ∃ (ps : List (HMom × Mom)) (A : Option Addr) (k : Nat), v = .tuple #[.slice A ps.length k, nu (runE c t)] ∧ ps.map (·.2) = runsM c t ∧ N = .vec encM 4 73 A k ps :: fam momE ps
theorem In.nil0 {Γ : Mm} {α : Type} {enc : α → List Value} {sz : Nat} {t : TypeId} {A : Option Addr} {c : Nat} {l : List α} {w : World} (h : In Γ (.vec enc sz t A c l)) (M : Mem w Γ) (hA : A = none) : c = 0 := by
  rcases (h.ok M).2 with ⟨h1, _⟩ | ⟨g, cap, cur, h1, _⟩
  · simp only [Value.slice.injEq] at h1; exact h1.2.2
  · simp only [Value.slice.injEq] at h1; rw [h1.1] at hA; cases hA
instance : Inhabited HMom := ⟨((none, 0), (none, 0), (none, 0))⟩
attribute [local irreducible] WC WL WX WS WO OX Does DoesU Enters CV Pure thenQ blockQ retQ Wants retQC GC GL GS GX RdB thenG blockG retG Rd At gt CVN CVM
set_option maxRecDepth 100000
end SC
end Go.Proofs.YtclihihdgodloaaDoor
end
section
/- trestleref07: Run; sim: Run. -/
set_option linter.unusedVariables false
set_option linter.unusedSimpArgs false
namespace Go.Proofs.YtclihihdgodloaaDoor
namespace SC
open Go.Proofs
def stEnt : Nat → Option Addr → Nat → List Bool → Mm
  | 0, _, _, _ => []
  | _ + 1, A, k, l => [.vec booc 1 4 A k l]
attribute [local irreducible] WC WL WX WS WO OX Does DoesU Enters CV Pure thenQ blockQ retQ Wants retQC GC GL GS GX RdB thenG blockG retG Rd At gt CVN CVM
set_option maxRecDepth 100000
theorem Run_cv {w : World} {c : Circ} {h js : Hd} {t : Trc} {a b : Hdl} (H : CirIn w c h js) (HT : TrcIn w t a b) : CVN Tryd.prog 36 [.agg (ccells c h).toArray, .agg (tcs t a b).toArray] w (RunR c t) := by
  have hrd : ∀ Γ, In Γ (.old w none_) → ∀ w', Mem w' Γ → CVN Tryd.prog 65 [.agg (ccells c h).toArray] w' (ReadyR c h) := fun Γ hi w' M => ready_cv (H.chg (hi.old M))
  have hI := HT.init
  have hR := HT.rows
  have hlr := HT.lr
  have hli := HT.li
  have hlo := HT.lo
  unfold fits at hlo
  refine CVN.enter 94 [4, 5] Tryd.func36 rfl rfl rfl (by decide) rfl ?_
  by_cases he : (lookM c).2 = 0
  · have R := right_of H.at_ H.sane he
    have n1 := R.nIn
    have n2 := R.nLat
    by_cases h1 : 1 ≤ t.rows.length ∧ t.rows.length ≤ 512 ∧ -1 ≤ t.loop ∧ t.loop < t.rows.length ∧ t.init.length = c.latches.length
    · obtain ⟨g2, g3, g4, g5, g1⟩ := h1
      repeat' (first
|(apply G_call;eq_refl;eq_refl;(apply hrd;(repeat first|exact In.here|apply In.there|apply In.skip));rintro _ _ (⟨he', rfl, rfl⟩|⟨_, p1, B1, k1, rfl, rfl⟩);(exact absurd he he'))
|(apply GC_seqK;intro K hK)
|(apply hK;clear hK K)
|(apply GC_block)
|(apply GC_region)
|(apply GL_nil)
|(apply thenG_normal)
|(apply GC_skip)
|(apply GC_if_false;eq_refl)
|(apply GL_on;eq_refl;eq_refl)
|(apply G_pv;eq_refl;first|exact trivial|omega)
|(apply G_field;eq_refl)
|(apply G_ld;eq_refl;(repeat first|exact In.here|apply In.there|apply In.skip);eq_refl)
|(apply G_ldW;eq_refl;(repeat first|exact In.here|apply In.there|apply In.skip);eq_refl)
|(apply G_cmpF;eq_refl;eq_refl;omega)
|(apply G_len;eq_refl)
|(apply G_box;eq_refl;eq_refl;intro _))
      rename_i b2 b3 hz
      refine GC_loopK [2, 3, 6, 8, 54, 55] (fun i : Nat => [(56, nu i)]) (fun _ => [.box p1 123 (rcells c h B1 k1), .vec icell 1 3 B1 k1 (ordM c), .box b3 65 (tcs t a b), .box b2 29 (ccells c h), .old w none_]) (fun i => i ≤ t.rows.length ∧ ∀ k < i, (gt t.rows (k : Int)).2.length = c.inputs.length) (fun i => t.rows.length - i) 0 (by repeat first | exact Pick.nil | (apply Pick.cons; eq_refl)) (by repeat first | exact trivial | refine ⟨rfl, ?_⟩) (by repeat first | exact Wk.nil | exact Wk.refl | (apply Wk.cons; (focus ((repeat first | exact Rem.here | apply Rem.there | apply Rem.skip); done))) | apply Wk.nilv | apply Wk.last | apply Wk.drop) ⟨Nat.zero_le _, fun k hk => absurd hk (Nat.not_lt_zero _)⟩ ?_
      rintro i ⟨hi, hall⟩
      rcases Nat.lt_or_ge i t.rows.length with hlt | hge
      · have hm := gt_mem (l := t.rows) (i := (i : Int)) (by omega) (by omega)
        have hle := HT.le _ hm
        by_cases hx : (gt t.rows (i : Int)).2.length = c.inputs.length
        · repeat' (first
|(apply GC_seqK;intro K hK)
|(apply hK;clear hK K)
|(apply GC_block)
|(apply GC_region)
|(apply GL_nil)
|(apply thenG_normal)
|(apply blockG_normal)
|(apply GC_skip)
|(apply GC_if_true;eq_refl)
|(apply GC_if_false;eq_refl)
|(apply GL_on;eq_refl;eq_refl)
|(apply G_pv;eq_refl;first|exact trivial|omega)
|(apply G_field;eq_refl)
|(apply G_ld;eq_refl;(repeat first|exact In.here|apply In.there|apply In.skip);eq_refl)
|(apply G_rd;eq_refl;(first|(apply Rd.own;(repeat first|exact In.here|apply In.there|apply In.skip);infer_instance)|(apply Rd.old;(repeat first|exact In.here|apply In.there|apply In.skip);assumption)|(apply Rd.oldR;(repeat first|exact In.here|apply In.there|apply In.skip);assumption)|exact Rd.nil|assumption);(case ih => infer_instance);omega;omega;eq_refl)
|(apply G_cmpT;eq_refl;eq_refl;omega)
|(apply G_cmpF;eq_refl;eq_refl;omega)
|(apply G_len;eq_refl)
|(apply G_ix;eq_refl;eq_refl;(first|(apply Rd.own;(repeat first|exact In.here|apply In.there|apply In.skip);infer_instance)|(apply Rd.old;(repeat first|exact In.here|apply In.there|apply In.skip);assumption)|(apply Rd.oldR;(repeat first|exact In.here|apply In.there|apply In.skip);assumption)|exact Rd.nil|assumption);(first|eq_refl|omega);omega;omega))
          exact ⟨i + 1, (by repeat first | exact trivial | refine ⟨rfl, ?_⟩), (by repeat first | exact Wk.nil | exact Wk.refl | (apply Wk.cons; (focus ((repeat first | exact Rem.here | apply Rem.there | apply Rem.skip); done))) | apply Wk.nilv | apply Wk.last | apply Wk.drop), ⟨hlt, fun k hk => if h1 : k < i then hall k h1 else by rw [show k = i by omega]; exact hx⟩, by omega⟩
        · have hnF : ¬ Fit c t := fun hf => hx (hf.rows _ hm)
          have e1 : runsM c t = [] := if_neg (by rw [runE_not he hnF]; decide)
          unfold RunR
          rw [runE_not he hnF, e1]
          repeat' (first
|(apply GC_seqK;intro K hK)
|(apply hK;clear hK K)
|(apply GC_block)
|(apply GC_region)
|(apply GL_nil)
|(apply thenG_normal)
|(apply thenG_ret)
|(apply blockG_ret)
|(apply GC_ret)
|(apply GC_skip)
|(apply GC_if_true;eq_refl)
|(apply retG2;eq_refl;eq_refl)
|(apply GL_on;eq_refl;eq_refl)
|(apply G_pv;eq_refl;first|exact trivial|omega)
|(apply G_field;eq_refl)
|(apply G_ld;eq_refl;(repeat first|exact In.here|apply In.there|apply In.skip);eq_refl)
|(apply G_rd;eq_refl;(first|(apply Rd.own;(repeat first|exact In.here|apply In.there|apply In.skip);infer_instance)|(apply Rd.old;(repeat first|exact In.here|apply In.there|apply In.skip);assumption)|(apply Rd.oldR;(repeat first|exact In.here|apply In.there|apply In.skip);assumption)|exact Rd.nil|assumption);(case ih => infer_instance);omega;omega;eq_refl)
|(apply G_cmpT;eq_refl;eq_refl;omega)
|(apply G_len;eq_refl)
|(apply G_ix;eq_refl;eq_refl;(first|(apply Rd.own;(repeat first|exact In.here|apply In.there|apply In.skip);infer_instance)|(apply Rd.old;(repeat first|exact In.here|apply In.there|apply In.skip);assumption)|(apply Rd.oldR;(repeat first|exact In.here|apply In.there|apply In.skip);assumption)|exact Rd.nil|assumption);(first|eq_refl|omega);omega;omega))
          exact ⟨[.vec encM 4 73 none 0 []], (by repeat first | exact Wk.nil | exact Wk.refl | (apply Wk.cons; (focus ((repeat first | exact Rem.here | apply Rem.there | apply Rem.skip); done))) | apply Wk.nilv | apply Wk.last | apply Wk.drop), [], none, 0, rfl, rfl, rfl⟩
      · have F : Fit c t := ⟨g1, g2, g3, g4, g5, fun p hp => by
          obtain ⟨k, hk, rfl⟩ := List.mem_iff_getElem.1 hp
          rw [← gt_nat hk]
          exact hall k (by omega)⟩
        have e1 : runsM c t = runM c t t.rows.length := if_pos (runE_fit he F)
        have hv0 : ∀ Γ S k s (i : Nat), i < t.rows.length → s = stM c t i → In Γ (.old w none_) → Rd Γ booc 1 S s → In Γ (.box p1 123 (rcells c h B1 k1)) → In Γ (.vec icell 1 3 B1 k1 (ordM c)) → ∀ w', Mem w' Γ → CVN Tryd.prog 66 [pt p1, .slice S s.length k, .slice (gt t.rows (i : Int)).1.1 (gt t.rows (i : Int)).2.length (gt t.rows (i : Int)).1.2] w' _ := fun Γ S k s i hi hs ho hv hb hov w' M => by
          have hm := gt_mem (l := t.rows) (i := (i : Int)) (by omega) (by omega)
          exact values_cv R (hb.box M) (H.at_.chg (ho.old M)) (hov.row M) (hv.at M) ((HT.each _ hm).chg (ho.old M)) (by rw [hs]; exact stM_len F.init i) (F.rows _ hm)
        have hmo : ∀ Γ S k A' k' s r, s.length = c.latches.length → In Γ (.old w none_) → Rd Γ booc 1 S s → In Γ (.box p1 123 (rcells c h B1 k1)) → In Γ (.vec booc 1 4 A' k' (valM c s r)) → ∀ w', Mem w' Γ → CVN Tryd.prog 67 [pt p1, .slice S s.length k, .slice A' (valM c s r).length k'] w' _ := fun Γ S k A' k' s r hs ho hv hb hv' w' M =>
          moment_cv R (hb.box M) (H.at_.chg (ho.old M)) H.fits (hv.at M) (by omega) (hv'.row M) (valM_len c s r)
        have hnx : ∀ Γ A k s r, In Γ (.old w none_) → In Γ (.box p1 123 (rcells c h B1 k1)) → In Γ (.vec booc 1 4 A k (valM c s r)) → ∀ w', Mem w' Γ → CVN Tryd.prog 64 [pt p1, .slice A (valM c s r).length k] w' _ := fun Γ A k s r ho hb hv w' M =>
          next_cv (hb.box M) (H.at_.chg (ho.old M)) (hv.row M) R.nLat fun x hx => (R.lat hx).2.1.has R.m1 (valM_len c s r)
        repeat' (first
|(apply G_make0 encM;eq_refl;eq_refl;eq_refl;omega;eq_refl;omega;decide;omega;intro b0 c0)
|(apply GC_seqK;intro K hK)
|(apply hK;clear hK K)
|(clear hK K;apply hK;clear hK K)
|(apply GC_block)
|(apply GC_region)
|(apply GL_nil)
|(apply thenG_normal)
|(apply thenG_exit)
|(apply blockG_hit)
|(apply GC_exit)
|(apply GC_if_false;eq_refl)
|(apply GL_on;eq_refl;eq_refl)
|(apply G_pv;eq_refl;first|exact trivial|omega)
|(apply G_field;eq_refl)
|(apply G_ld;eq_refl;(repeat first|exact In.here|apply In.there|apply In.skip);eq_refl)
|(apply G_cmpF;eq_refl;eq_refl;omega)
|(apply G_len;eq_refl))
        refine GC_loopK [3, 6, 72, 73] (fun s : Nat × (List Bool × Option Addr × Nat) × (List (HMom × Mom) × Option Addr × Nat) => [(12, .slice s.2.1.2.1 s.2.1.1.length s.2.1.2.2), (11, .slice s.2.2.2.1 s.2.2.1.length s.2.2.2.2), (74, nu s.1)])
          (fun s => stEnt s.1 s.2.1.2.1 s.2.1.2.2 s.2.1.1 ++ .vec encM 4 73 s.2.2.2.1 s.2.2.2.2 s.2.2.1 :: .box p1 123 (rcells c h B1 k1) :: .vec icell 1 3 B1 k1 (ordM c) :: .box b3 65 (tcs t a b) :: .old w none_ :: fam momE s.2.2.1)
          (fun s => s.1 ≤ t.rows.length ∧ s.2.1.1 = stM c t s.1 ∧ s.2.2.1.map (·.2) = runM c t s.1 ∧ (s.1 = 0 → s.2.1 = (t.init, a.1, a.2))) (fun s => t.rows.length - s.1) (0, (t.init, a.1, a.2), ([], some ⟨b0, 0, none⟩, c0)) (by repeat first | exact Pick.nil | (apply Pick.cons; eq_refl)) (by repeat first | exact trivial | refine ⟨rfl, ?_⟩) (by repeat first | exact Wk.nil | exact Wk.refl | (apply Wk.cons; (focus ((repeat first | exact Rem.here | apply Rem.there | apply Rem.skip); done))) | apply Wk.nilv | apply Wk.last | apply Wk.drop) ⟨Nat.zero_le _, rfl, rfl, fun _ => rfl⟩ ?_
        rintro ⟨i, ⟨st, A8, c8⟩, ⟨ps, A9, c9⟩⟩ ⟨hi, hst, hps, h0⟩
        dsimp only at hi hst hps h0 ⊢
        have hpl : ps.length = i := by have := congrArg List.length hps; rw [List.length_map, runM_len] at this; exact this
        have hsl : st.length = c.latches.length := by rw [hst]; exact stM_len F.init i
        rcases Nat.lt_or_ge i t.rows.length with hlt | hge
        · have hrow : RowA w booc 1 A8 st ∨ 0 < i := by
            rcases Nat.eq_zero_or_pos i with h1 | h1
            · have := h0 h1
              simp only [Prod.mk.injEq] at this
              rw [this.1, this.2.1]
              exact .inl hI
            · exact .inr h1
          have hex : ∀ {Γ'' : Mm}, True := fun {_} => trivial
          cases i with
          | zero =>
            have hS : RowA w booc 1 A8 st := hrow.resolve_right (by omega)
            repeat' (first
|(apply G_call;eq_refl;eq_refl;(apply hv0;exact hlt;exact hst;(repeat first|exact In.here|apply In.there|apply In.skip);(first|(apply Rd.own;(repeat first|exact In.here|apply In.there|apply In.skip);infer_instance)|(apply Rd.old;(repeat first|exact In.here|apply In.there|apply In.skip);assumption)|(apply Rd.oldR;(repeat first|exact In.here|apply In.there|apply In.skip);assumption)|exact Rd.nil|assumption);(repeat first|exact In.here|apply In.there|apply In.skip);(repeat first|exact In.here|apply In.there|apply In.skip));rintro _ _ ⟨A11, k11, rfl, rfl⟩)
|(apply G_call;eq_refl;eq_refl;(apply hmo;exact hsl;(repeat first|exact In.here|apply In.there|apply In.skip);(first|(apply Rd.own;(repeat first|exact In.here|apply In.there|apply In.skip);infer_instance)|(apply Rd.old;(repeat first|exact In.here|apply In.there|apply In.skip);assumption)|(apply Rd.oldR;(repeat first|exact In.here|apply In.there|apply In.skip);assumption)|exact Rd.nil|assumption);(repeat first|exact In.here|apply In.there|apply In.skip);(repeat first|exact In.here|apply In.there|apply In.skip));rintro _ _ ⟨hm, rfl, rfl⟩)
|(apply G_call;eq_refl;eq_refl;(apply hnx;(repeat first|exact In.here|apply In.there|apply In.skip);(repeat first|exact In.here|apply In.there|apply In.skip);(repeat first|exact In.here|apply In.there|apply In.skip));rintro _ _ ⟨A12, k12, rfl, rfl⟩)
|(apply G_app;exact wr_p;eq_refl;eq_refl;(intro A c;(repeat first|exact Upd.here|apply Upd.there|apply Upd.skip));infer_instance;(repeat first|exact In.here|apply In.there|apply In.skip);exact Dec.one (hm, momM _ _ _);eq_refl;eq_refl;eq_refl;(simp only [List.length_cons, List.length_nil];omega);decide;intro A13 k13)
|(apply GC_seqK;intro K hK)
|(apply hK;clear hK K)
|(apply GC_block)
|(apply GC_region)
|(apply GL_nil)
|(apply thenG_normal)
|(apply blockG_normal)
|(apply GC_skip)
|(apply GC_if_true;eq_refl)
|(apply GL_on;eq_refl;eq_refl)
|(apply G_pv;eq_refl;first|exact trivial|omega)
|(apply G_rd;eq_refl;(first|(apply Rd.own;(repeat first|exact In.here|apply In.there|apply In.skip);infer_instance)|(apply Rd.old;(repeat first|exact In.here|apply In.there|apply In.skip);assumption)|(apply Rd.oldR;(repeat first|exact In.here|apply In.there|apply In.skip);assumption)|exact Rd.nil|assumption);(case ih => infer_instance);omega;omega;eq_refl)
|(apply G_cmpT;eq_refl;eq_refl;omega)
|(apply G_ix;eq_refl;eq_refl;(first|(apply Rd.own;(repeat first|exact In.here|apply In.there|apply In.skip);infer_instance)|(apply Rd.old;(repeat first|exact In.here|apply In.there|apply In.skip);assumption)|(apply Rd.oldR;(repeat first|exact In.here|apply In.there|apply In.skip);assumption)|exact Rd.nil|assumption);(first|eq_refl|omega);omega;omega)
|(apply G_new (fun b => .slice (some ⟨b, 0, none⟩) 1 1);eq_refl;(intro _;apply buildS68_1 <;> eq_refl);intro _))
            refine ⟨(0 + 1, (_, _, _), (_, _, _)), (by repeat first | exact trivial | refine ⟨rfl, ?_⟩), ?_, ⟨hlt, ?_, ?_, fun h => by simp at h⟩, by simp only; omega⟩
            · dsimp only
              rw [fam_snoc]
              exact (by repeat first | exact Wk.nil | exact Wk.refl | (apply Wk.cons; (focus ((repeat first | exact Rem.here | apply Rem.there | apply Rem.skip); done))) | apply Wk.nilv | apply Wk.last | apply Wk.drop)
            · dsimp only
              first | (rw [hst]; done) | (rw [hst]; rfl)
            · dsimp only
              rw [runM_succ c t 0, List.map_append, hps, ← hst]
              first | done | rfl
          | succ i =>
            repeat' (first
|(apply G_call;eq_refl;eq_refl;(apply hv0;exact hlt;exact hst;(repeat first|exact In.here|apply In.there|apply In.skip);(first|(apply Rd.own;(repeat first|exact In.here|apply In.there|apply In.skip);infer_instance)|(apply Rd.old;(repeat first|exact In.here|apply In.there|apply In.skip);assumption)|(apply Rd.oldR;(repeat first|exact In.here|apply In.there|apply In.skip);assumption)|exact Rd.nil|assumption);(repeat first|exact In.here|apply In.there|apply In.skip);(repeat first|exact In.here|apply In.there|apply In.skip));rintro _ _ ⟨A11, k11, rfl, rfl⟩)
|(apply G_call;eq_refl;eq_refl;(apply hmo;exact hsl;(repeat first|exact In.here|apply In.there|apply In.skip);(first|(apply Rd.own;(repeat first|exact In.here|apply In.there|apply In.skip);infer_instance)|(apply Rd.old;(repeat first|exact In.here|apply In.there|apply In.skip);assumption)|(apply Rd.oldR;(repeat first|exact In.here|apply In.there|apply In.skip);assumption)|exact Rd.nil|assumption);(repeat first|exact In.here|apply In.there|apply In.skip);(repeat first|exact In.here|apply In.there|apply In.skip));rintro _ _ ⟨hm, rfl, rfl⟩)
|(apply G_call;eq_refl;eq_refl;(apply hnx;(repeat first|exact In.here|apply In.there|apply In.skip);(repeat first|exact In.here|apply In.there|apply In.skip);(repeat first|exact In.here|apply In.there|apply In.skip));rintro _ _ ⟨A12, k12, rfl, rfl⟩)
|(apply G_app;exact wr_p;eq_refl;eq_refl;(intro A c;(repeat first|exact Upd.here|apply Upd.there|apply Upd.skip));infer_instance;(repeat first|exact In.here|apply In.there|apply In.skip);exact Dec.one (hm, momM _ _ _);eq_refl;eq_refl;eq_refl;(simp only [List.length_cons, List.length_nil];omega);decide;intro A13 k13)
|(apply GC_seqK;intro K hK)
|(apply hK;clear hK K)
|(apply GC_block)
|(apply GC_region)
|(apply GL_nil)
|(apply thenG_normal)
|(apply blockG_normal)
|(apply GC_skip)
|(apply GC_if_true;eq_refl)
|(apply GL_on;eq_refl;eq_refl)
|(apply G_pv;eq_refl;first|exact trivial|omega)
|(apply G_rd;eq_refl;(first|(apply Rd.own;(repeat first|exact In.here|apply In.there|apply In.skip);infer_instance)|(apply Rd.old;(repeat first|exact In.here|apply In.there|apply In.skip);assumption)|(apply Rd.oldR;(repeat first|exact In.here|apply In.there|apply In.skip);assumption)|exact Rd.nil|assumption);(case ih => infer_instance);omega;omega;eq_refl)
|(apply G_cmpT;eq_refl;eq_refl;omega)
|(apply G_ix;eq_refl;eq_refl;(first|(apply Rd.own;(repeat first|exact In.here|apply In.there|apply In.skip);infer_instance)|(apply Rd.old;(repeat first|exact In.here|apply In.there|apply In.skip);assumption)|(apply Rd.oldR;(repeat first|exact In.here|apply In.there|apply In.skip);assumption)|exact Rd.nil|assumption);(first|eq_refl|omega);omega;omega)
|(apply G_new (fun b => .slice (some ⟨b, 0, none⟩) 1 1);eq_refl;(intro _;apply buildS68_1 <;> eq_refl);intro _))
            refine ⟨(i + 1 + 1, (_, _, _), (_, _, _)), (by repeat first | exact trivial | refine ⟨rfl, ?_⟩), ?_, ⟨hlt, ?_, ?_, fun h => by simp at h⟩, by simp only; omega⟩
            · dsimp only
              rw [fam_snoc]
              exact (by repeat first | exact Wk.nil | exact Wk.refl | (apply Wk.cons; (focus ((repeat first | exact Rem.here | apply Rem.there | apply Rem.skip); done))) | apply Wk.nilv | apply Wk.last | apply Wk.drop)
            · dsimp only
              first | (rw [hst]; done) | (rw [hst]; rfl)
            · dsimp only
              rw [runM_succ c t (i + 1), List.map_append, hps, ← hst]
              first | done | rfl
        · obtain rfl : i = t.rows.length := by omega
          repeat' (first
|(apply GC_seqK;intro K hK)
|(apply hK;clear hK K)
|(clear hK K;apply hK;clear hK K)
|(apply GC_region)
|(apply GL_nil)
|(apply thenG_normal)
|(apply thenG_exit)
|(apply blockG_hit)
|(apply GC_ret)
|(apply GC_exit)
|(apply GC_if_false;eq_refl)
|(apply retG2;eq_refl;eq_refl)
|(apply GL_on;eq_refl;eq_refl)
|(apply G_pv;eq_refl;first|exact trivial|omega)
|(apply G_cmpF;eq_refl;eq_refl;omega))
          refine ⟨_ :: fam momE ps, ?_, ps, A9, c9, by rw [runE_fit he F], by rw [e1]; exact hps, rfl⟩
          refine Wk.trans ⟨fun w M => M.right, fun k hk => owns_append.2 (.inr hk)⟩ ?_
          exact (by repeat first | exact Wk.nil | exact Wk.refl | (apply Wk.cons; (focus ((repeat first | exact Rem.here | apply Rem.there | apply Rem.skip); done))) | apply Wk.nilv | apply Wk.last | apply Wk.drop)
    · have hnF : ¬ Fit c t := fun hf => h1 ⟨hf.pos, hf.few, hf.lo, hf.hi, hf.init⟩
      have e1 : runsM c t = [] := if_neg (by rw [runE_not he hnF]; decide)
      unfold RunR
      rw [runE_not he hnF, e1]
      repeat' (first
|(apply G_call;eq_refl;eq_refl;(apply hrd;(repeat first|exact In.here|apply In.there|apply In.skip));rintro _ _ (⟨he', rfl, rfl⟩|⟨_, p1, B1, k1, rfl, rfl⟩);(exact absurd he he'))
|(apply GC_seqK;intro K hK)
|(apply hK;clear hK K)
|(apply GC_region)
|(apply GL_nil)
|(apply thenG_normal)
|(apply thenG_ret)
|(apply GC_ret)
|(apply GC_skip)
|(apply GC_if_true;eq_refl)
|(apply GC_if_false;eq_refl)
|(apply retG2;eq_refl;eq_refl)
|(apply GL_on;eq_refl;eq_refl)
|(apply GL_off;eq_refl;eq_refl)
|(apply G_pv;eq_refl;first|exact trivial|omega)
|(apply G_field;eq_refl)
|(apply G_ld;eq_refl;(repeat first|exact In.here|apply In.there|apply In.skip);eq_refl)
|(apply G_ldW;eq_refl;(repeat first|exact In.here|apply In.there|apply In.skip);eq_refl)
|(apply G_cmpT;eq_refl;eq_refl;omega)
|(apply G_cmpF;eq_refl;eq_refl;omega)
|(apply G_cmp;eq_refl;eq_refl;all_goals intro _)
|(apply G_len;eq_refl)
|(apply G_box;eq_refl;eq_refl;intro _))
      all_goals first
        | exact ⟨[.vec encM 4 73 none 0 []], (by repeat first | exact Wk.nil | exact Wk.refl | (apply Wk.cons; (focus ((repeat first | exact Rem.here | apply Rem.there | apply Rem.skip); done))) | apply Wk.nilv | apply Wk.last | apply Wk.drop), [], none, 0, rfl, rfl, rfl⟩
        | (exfalso; omega)
  · have e1 : runsM c t = [] := if_neg (by rw [runE_look he]; exact he)
    unfold RunR
    rw [runE_look he, e1]
    repeat' (first
|(apply G_call;eq_refl;eq_refl;(apply hrd;(repeat first|exact In.here|apply In.there|apply In.skip));rintro _ _ (⟨_, rfl, rfl⟩|⟨he', p1, B1, k1, rfl, rfl⟩);rotate_left;(exact absurd he' he))
|(apply GC_seqK;intro K hK)
|(apply hK;clear hK K)
|(apply GC_region)
|(apply GL_nil)
|(apply thenG_normal)
|(apply thenG_ret)
|(apply GC_ret)
|(apply GC_if_true;eq_refl)
|(apply retG2;eq_refl;eq_refl)
|(apply GL_on;eq_refl;eq_refl)
|(apply G_pv;eq_refl;first|exact trivial|omega)
|(apply G_ldW;eq_refl;(repeat first|exact In.here|apply In.there|apply In.skip);eq_refl)
|(apply G_cmpT;eq_refl;eq_refl;omega)
|(apply G_box;eq_refl;eq_refl;intro _))
    exact ⟨[.vec encM 4 73 none 0 []], (by repeat first | exact Wk.nil | exact Wk.refl | (apply Wk.cons; (focus ((repeat first | exact Rem.here | apply Rem.there | apply Rem.skip); done))) | apply Wk.nilv | apply Wk.last | apply Wk.drop), [], none, 0, rfl, rfl, rfl⟩
end SC
end Go.Proofs.YtclihihdgodloaaDoor
end
section
/- trestlelaw07: works. -/
set_option linter.unusedVariables false
set_option linter.unusedSimpArgs false
namespace Go.Proofs.YtclihihdgodloaaDoor
namespace SC
open Go.Proofs
attribute [local irreducible] WC WL WX WS WO OX Does DoesU Enters CV Pure thenQ blockQ retQ Wants retQC GC GL GS GX RdB thenG blockG retG Rd At CVN CVM
set_option maxRecDepth 100000
end SC
end Go.Proofs.YtclihihdgodloaaDoor
end
section
/- ShapeChecks: the walk. -/
set_option linter.unusedVariables false
set_option linter.unusedSimpArgs false
namespace Go.Proofs.YtclihihdgodloaaDoor
namespace SC
open Go.Proofs
attribute [local irreducible] WC WL WX WS WO OX Does DoesU Enters CV Pure thenQ blockQ retQ Wants retQC
set_option maxRecDepth 100000
end SC
end Go.Proofs.YtclihihdgodloaaDoor
end
section
/- trestlelaw07: SimStarts, SimSteps: the walks. -/
set_option linter.unusedVariables false
set_option linter.unusedSimpArgs false
namespace Go.Proofs.YtclihihdgodloaaDoor
namespace SC
open Go.Proofs
/-- A lent circuit, as an entry. -/
def lentX (base : Nat) (c : Circ) (h js : Hd) : EntX where
  own := fun k => ∃ i, (lentRow c h js i).v.ownBlock = some k
  ok := fun w => CirLent w base c h js
  lt := fun w H k ⟨i, hi⟩ => (World.ownsRow.lt (H i) k hi).2
  keep := fun w w' S H hc hn => fun i => own_chg (H i) hc fun k hk => hn k ⟨i, hk⟩
theorem In.lent {Γ : Mm} {w w0 : World} {base : Nat} {c : Circ} {h js h' js' : Hd} (H : CirIn w0 c h js) (hi : In Γ (.any (lentX base c h' js'))) (M : Mem w Γ) : CirIn w c h' js' := ⟨CirLent.at (hi.ok M), H.sane, H.okay, H.fits⟩
attribute [local irreducible] WC WL WX WS WO OX Does DoesU Enters CV Pure thenQ blockQ retQ Wants retQC GC GL GS GX RdB thenG blockG retG Rd At gt CVN CVM
set_option maxRecDepth 100000
end SC
end Go.Proofs.YtclihihdgodloaaDoor
end
section
/- trestlelaw07: SimSteps: the walk. -/
set_option linter.unusedVariables false
set_option linter.unusedSimpArgs false
namespace Go.Proofs.YtclihihdgodloaaDoor
namespace SC
open Go.Proofs
attribute [local irreducible] WC WL WX WS WO OX Does DoesU Enters CV Pure thenQ blockQ retQ Wants retQC GC GL GS GX RdB thenG blockG retG Rd At gt CVN CVM
set_option maxRecDepth 100000
end SC
end Go.Proofs.YtclihihdgodloaaDoor
end
section
/- Lists of bools that come in. -/
set_option linter.unusedVariables false
set_option linter.unusedSimpArgs false
namespace Go.Proofs.YtclihihdgodloaaDoor
namespace SC
open Go.Proofs
set_option maxRecDepth 100000
section
variable {H : Type} {enc : TypeId × Value → H} {W : World} {base : Nat} {spare : Nat → Bool} {held : Bool}
theorem bytes4 : Tryd.prog.bytesOf 4 = 1 := by kernel_rfl
theorem openBoolS {fuel : Nat} {cs : List Value} {x : DataW H × List MemPlace} (h : DataW.trod enc Tryd.prog W base spare held fuel 4 cs = some x) : ∃ a, booc a = cs ∧ True := by
  obtain ⟨b, h1, h2⟩ := DataW.trod_bool Tryd.underlying4 h
  exact ⟨b, h1.symm, trivial⟩
/-- A list of bools that comes in. -/
theorem openBoolsF {fuel : Nat} {cs : List Value} {x : DataW H × List MemPlace} (h : DataW.trod enc Tryd.prog W base spare held fuel 53 cs = some x) : ∃ (A : Option Addr) (cp : Nat) (l : List Bool), cs = [.slice A l.length cp] ∧ RowA W booc 1 A l ∧ (A = none → cp = 0) ∧ (∀ R, (∀ n ∈ x.1.weights Tryd.prog 53, n ≤ R) → l.length ≤ R) := by
  obtain ⟨A, cp, l, e, r, _, _, z, w⟩ := openRowS booc (fun _ _ => True) Tryd.underlying53 (by kernel_rfl) (fun _ => rfl) (fun _ _ _ h => openBoolS h) h
  refine ⟨A, cp, l, e, r, z, fun R hR => ?_⟩
  have := w R hR
  rw [bytes4] at this
  omega
end
end SC
end Go.Proofs.YtclihihdgodloaaDoor
end
section
/- What is so of the values of a right circuit; trestlelaw07: lit. -/
set_option linter.unusedVariables false
set_option linter.unusedSimpArgs false
namespace Go.Proofs.YtclihihdgodloaaDoor
namespace SC
open Go.Proofs
/-! ### a list that is written from the left -/
section
variable {g : Nat → Nat} {h : List Bool → Nat → Bool} {v : List Bool}
end
theorem nodup_ix {l : List Int} (h : l.Nodup) {a b : Nat} (ha : a < l.length) (hb : b < l.length) (e : l[a] = l[b]) : a = b := by
  have hp := List.pairwise_iff_getElem.1 h
  rcases Nat.lt_trichotomy a b with h1 | h1 | h1
  · exact absurd e (hp a b ha hb h1)
  · exact h1
  · exact absurd e.symm (hp b a hb ha h1)
attribute [local irreducible] WC WL WX WS WO OX Does DoesU Enters CV Pure thenQ blockQ retQ Wants retQC GC GL GS GX RdB thenG blockG retG Rd At gt CVN CVM
set_option maxRecDepth 100000
end SC
end Go.Proofs.YtclihihdgodloaaDoor
end
section
/- Three values: the plain law. -/
set_option linter.unusedVariables false
set_option linter.unusedSimpArgs false
namespace Go.Proofs.YtclihihdgodloaaDoor
namespace SC
open Go.Proofs
def tnot (x : Int) : Int := if x = 2 then 2 else 1 - x
def tand (x y : Int) : Int := if x = 0 ∨ y = 0 then 0 else if x = 1 ∧ y = 1 then 1 else 2
def Is3 (x : Int) : Prop := 0 ≤ x ∧ x ≤ 2
def Row3 (l : List Int) : Prop := ∀ x ∈ l, Is3 x
theorem Is3.tnot {x : Int} (h : Is3 x) : Is3 (tnot x) := by unfold Is3 at *; unfold SC.tnot; split <;> omega
theorem is3_tand (x y : Int) : Is3 (tand x y) := by unfold Is3; unfold tand; split <;> (try split) <;> omega
/-- A literal's value. -/
def tl (v : List Int) (l : Int) : Int := if l % 2 = 1 then tnot (gt v (l / 2)) else gt v (l / 2)
theorem Row3.gt {l : List Int} (h : Row3 l) {i : Int} : 0 ≤ i → i < l.length → Is3 (gt l i) := fun h0 h1 => h _ (gt_mem h0 h1)
theorem Row3.tl {v : List Int} (h : Row3 v) {l : Int} (h0 : 0 ≤ l / 2) (h1 : l / 2 < v.length) : Is3 (tl v l) := by
  unfold SC.tl
  split
  · exact (h.gt h0 h1).tnot
  · exact h.gt h0 h1
theorem Row3.set {l : List Int} (h : Row3 l) {i : Nat} {x : Int} (hx : Is3 x) : Row3 (l.set i x) := fun y hy => by
  rcases List.mem_or_eq_of_mem_set hy with h1 | h1
  · exact h y h1
  · rw [h1]; exact hx
/-! ### the values -/
def tB (c : Circ) : List Int := 0 :: List.replicate c.max.toNat 2
def tIn (c : Circ) (r : List Int) (i : Nat) : List Int := (List.range i).foldl (fun v (k : Nat) => v.set (gt c.inputs (k : Int) / 2).toNat (gt r (k : Int))) (tB c)
def tLt (c : Circ) (s v : List Int) (i : Nat) : List Int := (List.range i).foldl (fun v (k : Nat) => v.set ((gt c.latches (k : Int)).1 / 2).toNat (gt s (k : Int))) v
def tAn (c : Circ) (ord : List Int) (v : List Int) (i : Nat) : List Int := (List.range i).foldl (fun v (k : Nat) => v.set ((gt c.ands (gt ord (k : Int))).1 / 2).toNat (tand (tl v (gt c.ands (gt ord (k : Int))).2.1) (tl v (gt c.ands (gt ord (k : Int))).2.2))) v
noncomputable def valT (c : Circ) (s r : List Int) : List Int := tAn c (ordM c) (tLt c s (tIn c r c.inputs.length) c.latches.length) (ordM c).length
theorem foldI_len (g : List Int → Nat → Nat) (h : List Int → Nat → Int) (v : List Int) (i : Nat) : ((List.range i).foldl (fun v k => v.set (g v k) (h v k)) v).length = v.length := by
  induction i with
  | zero => simp
  | succ i ih => rw [fold_snoc, List.length_set, ih]
theorem tB_len {c : Circ} (m0 : 0 ≤ c.max) : (tB c).length = (c.max + 1).toNat := by unfold tB; rw [List.length_cons, List.length_replicate]; omega
theorem tIn_len {c : Circ} (m0 : 0 ≤ c.max) (r : List Int) (i : Nat) : (tIn c r i).length = (c.max + 1).toNat := by unfold tIn; rw [foldI_len, tB_len m0]
theorem tLt_len (c : Circ) (s v : List Int) (i : Nat) : (tLt c s v i).length = v.length := by unfold tLt; rw [foldI_len]
theorem tAn_len (c : Circ) (ord : List Int) (v : List Int) (i : Nat) : (tAn c ord v i).length = v.length := by unfold tAn; rw [foldI_len]
theorem valT_len {c : Circ} (m0 : 0 ≤ c.max) (s r : List Int) : (valT c s r).length = (c.max + 1).toNat := by unfold valT; rw [tAn_len, tLt_len, tIn_len m0]
theorem tIn_succ (c : Circ) (r : List Int) (i : Nat) : tIn c r (i + 1) = (tIn c r i).set (gt c.inputs (i : Int) / 2).toNat (gt r (i : Int)) := by unfold tIn; rw [fold_snoc]
theorem tLt_succ (c : Circ) (s v : List Int) (i : Nat) : tLt c s v (i + 1) = (tLt c s v i).set ((gt c.latches (i : Int)).1 / 2).toNat (gt s (i : Int)) := by unfold tLt; rw [fold_snoc]
theorem tAn_succ (c : Circ) (o : List Int) (v : List Int) (i : Nat) : tAn c o v (i + 1) = (tAn c o v i).set ((gt c.ands (gt o (i : Int))).1 / 2).toNat (tand (tl (tAn c o v i) (gt c.ands (gt o (i : Int))).2.1) (tl (tAn c o v i) (gt c.ands (gt o (i : Int))).2.2)) := by unfold tAn; rw [fold_snoc]
theorem tB_row (c : Circ) : Row3 (tB c) := fun x hx => by
  unfold tB at hx
  rcases List.mem_cons.1 hx with rfl | h
  · exact ⟨by decide, by decide⟩
  · rw [(List.mem_replicate.1 h).2]
    exact ⟨by decide, by decide⟩
theorem tIn_row {c : Circ} {r : List Int} (hr : Row3 r) : ∀ i ≤ r.length, Row3 (tIn c r i)
  | 0, _ => tB_row c
  | i + 1, h => by rw [tIn_succ]; exact (tIn_row hr i (by omega)).set (hr.gt (by omega) (by omega))
theorem tLt_row {c : Circ} {s v : List Int} (hs : Row3 s) (hv : Row3 v) : ∀ i ≤ s.length, Row3 (tLt c s v i)
  | 0, _ => hv
  | i + 1, h => by rw [tLt_succ]; exact (tLt_row hs hv i (by omega)).set (hs.gt (by omega) (by omega))
theorem tAn_row {c : Circ} {o v : List Int} (hv : Row3 v) : ∀ i : Nat, Row3 (tAn c o v i)
  | 0 => hv
  | i + 1 => by rw [tAn_succ]; exact (tAn_row hv i).set (is3_tand _ _)
theorem valT_row {c : Circ} {s r : List Int} (hs : Row3 s) (hr : Row3 r) (h1 : s.length = c.latches.length) (h2 : r.length = c.inputs.length) : Row3 (valT c s r) := tAn_row (tLt_row hs (tIn_row hr _ (by omega)) _ (by omega)) _
/-- The next row of latches. -/
def nxtT (c : Circ) (v : List Int) : List Int := c.latches.map fun x => tl v x.2.1
theorem inR.hasI {c : Circ} {l : Int} {v : List Int} (h : inR c l) (hv : v.length = (c.max + 1).toNat) : 0 ≤ l / 2 ∧ l / 2 < v.length := by unfold inR at h; omega
/-- The row with which a circuit begins. -/
def rsT (c : Circ) : List Int := c.latches.map fun x => if x.2.2 < 2 then x.2.2 else 2
theorem rsT_row {c : Circ} (R : Right c) : Row3 (rsT c) := fun x hx => by
  unfold rsT at hx
  obtain ⟨y, hy, rfl⟩ := List.mem_map.1 hx
  obtain ⟨h1, _, h2⟩ := R.lat hy
  unfold defR at h1
  unfold Is3
  split <;> omega
/-- What two rows have in common. -/
def joinT (a b : List Int) : List Int := (List.range a.length).map fun (i : Nat) => if gt a (i : Int) = gt b (i : Int) then gt a (i : Int) else 2
theorem joinT_len (a b : List Int) : (joinT a b).length = a.length := by unfold joinT; simp
theorem joinT_gt {a b : List Int} {i : Nat} (h : i < a.length) : gt (joinT a b) (i : Int) = if gt a (i : Int) = gt b (i : Int) then gt a (i : Int) else 2 := by
  rw [gt_nat (by rw [joinT_len]; exact h)]
  unfold joinT
  rw [List.getElem_map, List.getElem_range]
theorem joinT_row {a b : List Int} (ha : Row3 a) : Row3 (joinT a b) := fun x hx => by
  unfold joinT at hx
  obtain ⟨i, hi, rfl⟩ := List.mem_map.1 hx
  have hi := List.mem_range.1 hi
  split
  · exact ha.gt (by omega) (by omega)
  · exact ⟨by decide, by decide⟩
/-! ### settling -/
/-- One round of settling. -/
noncomputable def setT (c : Circ) (a : List Int) : List Int := joinT a (nxtT c (valT c a (List.replicate c.inputs.length 2)))
theorem setT_len (c : Circ) (a : List Int) : (setT c a).length = a.length := joinT_len _ _
/-- How many are open. -/
def opn (l : List Int) : Nat := l.countP fun x => decide (x = 2)
theorem opn_le (l : List Int) : opn l ≤ l.length := List.countP_le_length
theorem row_ext {a b : List Int} (hl : a.length = b.length) (h : ∀ i : Nat, i < a.length → gt a (i : Int) = gt b (i : Int)) : a = b := by
  apply List.ext_getElem hl
  intro i h1 h2
  have := h i h1
  rwa [gt_nat h1, gt_nat h2] at this
theorem countP_lt {α : Type} {p : α → Bool} : ∀ {a b : List α}, a.length = b.length → (∀ i (h1 : i < a.length) (h2 : i < b.length), p a[i] = true → p b[i] = true) → (∃ i, ∃ h1 : i < a.length, ∃ h2 : i < b.length, p a[i] = false ∧ p b[i] = true) → a.countP p < b.countP p
  | [], _, _, _, ⟨i, h, _⟩ => absurd h (Nat.not_lt_zero _)
  | x :: a, [], hl, _, _ => by cases hl
  | x :: a, y :: b, hl, h, ⟨i, h1, h2, g1, g2⟩ => by
    have hle : ∀ (a b : List α), a.length = b.length → (∀ i (h1 : i < a.length) (h2 : i < b.length), p a[i] = true → p b[i] = true) → a.countP p ≤ b.countP p := by
      intro a
      induction a with
      | nil => intro b _ _; simp
      | cons x a ih =>
        intro b hl h
        cases b with
        | nil => cases hl
        | cons y b =>
          have h0 := h 0 (by simp) (by simp)
          have hr := ih b (by simpa using hl) fun i h1 h2 => h (i + 1) (by simpa using h1) (by simpa using h2)
          simp only [List.getElem_cons_zero] at h0
          rw [List.countP_cons, List.countP_cons]
          cases hp : p x
          · simp; omega
          · rw [h0 hp]; simp; omega
    have h0 := h 0 (by simp) (by simp)
    simp only [List.getElem_cons_zero] at h0
    rw [List.countP_cons, List.countP_cons]
    rcases i with _ | i
    · simp only [List.getElem_cons_zero] at g1 g2
      have hr := hle a b (by simpa using hl) fun i h1 h2 => h (i + 1) (by simpa using h1) (by simpa using h2)
      rw [g1, g2]
      simp
      omega
    · have hr := countP_lt (p := p) (a := a) (b := b) (by simpa using hl) (fun i h1 h2 => h (i + 1) (by simpa using h1) (by simpa using h2)) ⟨i, by simpa using h1, by simpa using h2, by simpa using g1, by simpa using g2⟩
      cases hp : p x
      · simp; omega
      · rw [h0 hp]; simp; omega
theorem joinT_opn {a b : List Int} (h : joinT a b ≠ a) : opn a < opn (joinT a b) := by
  unfold opn
  have hl := joinT_len a b
  refine countP_lt hl.symm (fun i h1 h2 hp => ?_) ?_
  · have := joinT_gt (a := a) (b := b) h1
    rw [gt_nat h2, gt_nat h1] at this
    rw [this]
    split
    · exact hp
    · rfl
  · refine Classical.byContradiction fun hn => h ?_
    refine row_ext hl fun i hi => ?_
    rw [hl] at hi
    have hj := joinT_gt (a := a) (b := b) hi
    rw [hj]
    split
    · rfl
    · rename_i hne
      by_cases h2 : gt a (i : Int) = 2
      · exact h2.symm
      · refine absurd ⟨i, hi, by omega, ?_, ?_⟩ hn
        · rw [gt_nat hi] at h2
          exact decide_eq_false h2
        · rw [gt_nat (by omega), if_neg hne] at hj
          exact decide_eq_true hj
/-- The rows of settling. -/
noncomputable def stT (c : Circ) : Nat → List Int
  | 0 => rsT c
  | n + 1 => setT c (stT c n)
theorem stT_len (c : Circ) : ∀ n, (stT c n).length = c.latches.length
  | 0 => by unfold stT rsT; simp
  | n + 1 => by unfold stT; rw [setT_len, stT_len c n]
theorem stT_row {c : Circ} (R : Right c) : ∀ n, Row3 (stT c n)
  | 0 => rsT_row R
  | n + 1 => joinT_row (stT_row R n)
theorem stT_opn (c : Circ) : ∀ n, (∀ k < n, setT c (stT c k) ≠ stT c k) → n ≤ opn (stT c n)
  | 0, _ => Nat.zero_le _
  | n + 1, h => by
    have h1 := stT_opn c n fun k hk => h k (by omega)
    have h2 := joinT_opn (h n (by omega))
    show n + 1 ≤ opn (setT c (stT c n))
    unfold setT
    omega
theorem stT_ends (c : Circ) : ∃ n, setT c (stT c n) = stT c n := Classical.byContradiction fun hn => by
  have h1 := stT_opn c (c.latches.length + 1) fun k _ he => hn ⟨k, he⟩
  have h2 := opn_le (stT c (c.latches.length + 1))
  rw [stT_len] at h2
  omega
end SC
end Go.Proofs.YtclihihdgodloaaDoor
end
section
/- trestlelaw07: SimGates: the walk. -/
set_option linter.unusedVariables false
set_option linter.unusedSimpArgs false
namespace Go.Proofs.YtclihihdgodloaaDoor
namespace SC
open Go.Proofs
attribute [local irreducible] WC WL WX WS WO OX Does DoesU Enters CV Pure thenQ blockQ retQ Wants retQC GC GL GS GX RdB thenG blockG retG Rd At gt CVN CVM
set_option maxRecDepth 100000
end SC
end Go.Proofs.YtclihihdgodloaaDoor
end
section
/- trestlebook: SameInts, SpoilInts, SameTrace; trestlelaw07: same. -/
set_option linter.unusedVariables false
set_option linter.unusedSimpArgs false
namespace Go.Proofs.YtclihihdgodloaaDoor
namespace SC
open Go.Proofs Go.Maps
set_option maxRecDepth 100000
/-! ### spots -/
/-! ### traces -/
structure TrcEq (t t' : Trc) : Prop where
  init : t.init = t'.init
  loop : t.loop = t'.loop
  rows : t.rows.map (·.2) = t'.rows.map (·.2)
theorem gt_snd {α β γ : Type} [Inhabited α] [Inhabited β] [Inhabited γ] {ps : List (α × β)} {qs : List (γ × β)} (h : ps.map (·.2) = qs.map (·.2)) {i : Nat} (hi : i < ps.length) : (gt ps (i : Int)).2 = (gt qs (i : Int)).2 := by
  have hl := congrArg List.length h
  simp only [List.length_map] at hl
  rw [gt_nat hi, gt_nat (by omega)]
  have := congrArg (fun l => l[i]?) h
  simp only [List.getElem?_map, List.getElem?_eq_getElem hi, List.getElem?_eq_getElem (show i < qs.length by omega), Option.map_some, Option.some.injEq] at this
  exact this
/-! ### the moments of a run, in memory -/
structure MomsIn (w : World) (A : Option Addr) (ps : List (HMom × Mom)) : Prop where
  row : RowA w encM 4 A ps
  st : ∀ p ∈ ps, RowA w booc 1 p.1.1.1 p.2.state
  bd : ∀ p ∈ ps, RowA w icell 1 p.1.2.1.1 p.2.bads
  fr : ∀ p ∈ ps, RowA w spotc 2 p.1.2.2.1 p.2.fair
  len : ps.length ≤ 9223372036854775807
  le : ∀ p ∈ ps, p.2.state.length ≤ 9223372036854775807 ∧ p.2.bads.length ≤ 9223372036854775807 ∧ p.2.fair.length ≤ 9223372036854775807
theorem vec_len {α : Type} {enc : α → List Value} {sz : Nat} {w : World} {t : TypeId} {A : Option Addr} {c : Nat} {l : List α} (h : w.ownsRow 0 t sz (.slice A l.length c) l.length (l.flatMap enc)) : l.length ≤ 9223372036854775807 := by
  rcases h.2 with ⟨_, h2⟩ | ⟨g, cap, cur, _, _, _, hc, hm, _⟩
  · omega
  · simp only [maxLen] at hm
    omega
theorem MomsIn.of {Γ : Mm} {w : World} {A : Option Addr} {k : Nat} {ps : List (HMom × Mom)} (hi : In Γ (.vec encM 4 73 A k ps)) (hf : ∀ E ∈ fam momE ps, In Γ E) (M : Mem w Γ) : MomsIn w A ps := by
  have h1 : ∀ p ∈ ps, In Γ (.vec booc 1 4 p.1.1.1 p.1.1.2 p.2.state) := fun p hp => hf _ (fam_mem hp (by unfold momE; simp))
  have h2 : ∀ p ∈ ps, In Γ (.vec icell 1 3 p.1.2.1.1 p.1.2.1.2 p.2.bads) := fun p hp => hf _ (fam_mem hp (by unfold momE; simp))
  have h3 : ∀ p ∈ ps, In Γ (.vec spotc 2 127 p.1.2.2.1 p.1.2.2.2 p.2.fair) := fun p hp => hf _ (fam_mem hp (by unfold momE; simp))
  exact ⟨hi.row M, fun p hp => (h1 p hp).row M, fun p hp => (h2 p hp).row M, fun p hp => (h3 p hp).row M, vec_len (hi.ok M), fun p hp => ⟨vec_len ((h1 p hp).ok M), vec_len ((h2 p hp).ok M), vec_len ((h3 p hp).ok M)⟩⟩
attribute [local irreducible] WC WL WX WS WO OX Does DoesU Enters CV Pure thenQ blockQ retQ Wants retQC GC GL GS GX RdB thenG blockG retG Rd At gt CVN CVM
end SC
end Go.Proofs.YtclihihdgodloaaDoor
end
section
/- trestlebook: CopyTrace; runs of traces that read the same. -/
set_option linter.unusedVariables false
set_option linter.unusedSimpArgs false
namespace Go.Proofs.YtclihihdgodloaaDoor
namespace SC
open Go.Proofs
theorem map_snd_get {α β γ : Type} [Inhabited α] [Inhabited β] [Inhabited γ] {ps : List (α × β)} {qs : List (γ × β)} (h : ps.map (·.2) = qs.map (·.2)) (i : Nat) : (gt ps (i : Int)).2 = (gt qs (i : Int)).2 := by
  have hl := congrArg List.length h
  simp only [List.length_map] at hl
  by_cases hi : i < ps.length
  · exact gt_snd h hi
  · unfold gt
    simp only [Int.toNat_natCast]
    rw [List.getD_eq_getElem?_getD, List.getD_eq_getElem?_getD, List.getElem?_eq_none (by omega), List.getElem?_eq_none (by omega)]
    rfl
theorem TrcEq.fit {c : Circ} {t t' : Trc} (E : TrcEq t t') : fitsM c t = fitsM c t' := by
  have e3 := congrArg List.length E.rows
  simp only [List.length_map] at e3
  have e4 : ∀ (r : List (Hdl × List Bool)), (r.all fun p => decide (p.2.length = c.inputs.length)) = (r.map (·.2)).all fun l => decide (l.length = c.inputs.length) := fun r => by rw [List.all_map]; rfl
  unfold fitsM
  rw [E.init, E.loop, e3, e4, e4, E.rows]
theorem TrcEq.st {c : Circ} {t t' : Trc} (E : TrcEq t t') : ∀ k, stM c t k = stM c t' k
  | 0 => E.init
  | k + 1 => by unfold stM; rw [TrcEq.st E k, map_snd_get E.rows k]
theorem TrcEq.runE {c : Circ} {t t' : Trc} (E : TrcEq t t') : runE c t = runE c t' := by unfold SC.runE; rw [E.fit]
theorem TrcEq.runs {c : Circ} {t t' : Trc} (E : TrcEq t t') : runsM c t = runsM c t' := by
  have e3 := congrArg List.length E.rows
  simp only [List.length_map] at e3
  unfold runsM runM
  rw [E.runE, e3]
  congr 1
  exact List.map_congr_left fun k _ => by rw [E.st k, map_snd_get E.rows k]
def rowE (p : Hdl × List Bool) : Mm := [.vec booc 1 4 p.1.1 p.1.2 p.2]
/-- A trace in memory of its own. -/
theorem TrcIn.own {Γ : Mm} {w w0 : World} {t t' : Trc} {a b a' b' : Hdl} (H : TrcIn w0 t a b) (E : TrcEq t' t) (h1 : In Γ (.vec booc 1 4 a'.1 a'.2 t'.init)) (h2 : In Γ (.vec encS 1 53 b'.1 b'.2 t'.rows)) (h3 : ∀ F ∈ fam rowE t'.rows, In Γ F) (M : Mem w Γ) : TrcIn w t' a' b' := by
  have e3 := congrArg List.length E.rows
  simp only [List.length_map] at e3
  have hp : ∀ p ∈ t'.rows, In Γ (.vec booc 1 4 p.1.1 p.1.2 p.2) := fun p hp => h3 _ (fam_mem hp (by unfold rowE; simp))
  refine ⟨h1.row M, h2.row M, fun p h => (hp p h).row M, fun h => h1.nil0 M h, fun h => h2.nil0 M h, fun p h hA => (hp p h).nil0 M hA, by rw [E.init]; exact H.li, by rw [e3]; exact H.lr, fun p h => ?_, by rw [E.loop]; exact H.lo⟩
  have : p.2 ∈ t.rows.map (·.2) := by rw [← E.rows]; exact List.mem_map.2 ⟨p, h, rfl⟩
  obtain ⟨q, hq, e⟩ := List.mem_map.1 this
  rw [← e]
  exact H.le q hq
attribute [local irreducible] WC WL WX WS WO OX Does DoesU Enters CV Pure thenQ blockQ retQ Wants retQC GC GL GS GX RdB thenG blockG retG Rd At gt CVN CVM
set_option maxRecDepth 100000
end SC
end Go.Proofs.YtclihihdgodloaaDoor
end
section
/- Entries bound together; what runs answer. -/
set_option linter.unusedVariables false
set_option linter.unusedSimpArgs false
namespace Go.Proofs.YtclihihdgodloaaDoor
namespace SC
open Go.Proofs
/-- Entries as one. -/
def bun (Δ : Mm) : EntX where
  own := owns Δ
  ok := fun w => Mem w Δ
  lt := fun w M k hk => M.lt hk
  keep := fun w w' S M hc hn => M.chg hc hn
theorem In.bun {Γ Δ : Mm} {w : World} (h : In Γ (.any (bun Δ))) (M : Mem w Γ) : Mem w Δ := h.ok M
theorem Rd.bun {α : Type} {Γ Δ : Mm} {enc : α → List Value} {sz : Nat} {A : Option Addr} {l : List α} (h : In Γ (.any (bun Δ))) (h0 : Rd Δ enc sz A l) : Rd Γ enc sz A l := fun w M => h0.at (h.bun M)
theorem CVN.bun {P : Program} {f : FuncId} {args : List Value} {w : World} {R : Value → Mm → Prop} (h : CVN P f args w R) : CVN P f args w fun v N => ∃ N', R v N' ∧ N = [.any (bun N')] :=
  CV.mono h fun v w' ⟨N, M, hR⟩ => ⟨[.any (SC.bun N)], Mem.join (.one M.left) M.right fun k ⟨E, hE, h1⟩ h2 => by
    simp only [List.mem_singleton] at hE
    subst hE
    exact M.sep k h1 h2, N, hR, rfl⟩
theorem Wk.left {Γ Δ : Mm} : Wk (Δ ++ Γ) Δ := ⟨fun w M => M.left, fun k hk => owns_append.2 (.inl hk)⟩
/-- A run's moments, bound together. -/
abbrev runB (ps : List (HMom × Mom)) (A : Option Addr) (k : Nat) : Mm := .vec encM 4 73 A k ps :: fam momE ps
theorem MomsIn.bun {Γ : Mm} {w : World} {A : Option Addr} {k : Nat} {ps : List (HMom × Mom)} (hi : In Γ (.any (bun (runB ps A k)))) (M : Mem w Γ) : MomsIn w A ps := MomsIn.of .here (fun E hE => .there (In.of hE)) (hi.bun M)
abbrev trcB (t : Trc) (a b : Hdl) : Mm := .vec booc 1 4 a.1 a.2 t.init :: .vec encS 1 53 b.1 b.2 t.rows :: fam rowE t.rows
theorem TrcIn.bun {Γ : Mm} {w w0 : World} {t t' : Trc} {a b a' b' : Hdl} (H : TrcIn w0 t a b) (E : TrcEq t' t) (hi : In Γ (.any (bun (trcB t' a' b')))) (M : Mem w Γ) : TrcIn w t' a' b' := H.own E .here (.there .here) (fun F hF => .there (.there (In.of hF))) (hi.bun M)
def RunR' (ε : Int) (m : List Mom) (v : Value) (N : Mm) : Prop := ∃ (ps : List (HMom × Mom)) (A : Option Addr) (k : Nat), v = .tuple #[.slice A ps.length k, nu ε] ∧ ps.map (·.2) = m ∧ N = runB ps A k
def RunB (ε : Int) (m : List Mom) (v : Value) (N : Mm) : Prop := ∃ (ps : List (HMom × Mom)) (A : Option Addr) (k : Nat), v = .tuple #[.slice A ps.length k, nu ε] ∧ ps.map (·.2) = m ∧ N = [.any (bun (runB ps A k))]
theorem RunR.to {P : Program} {f : FuncId} {args : List Value} {w : World} {c : Circ} {t : Trc} {ε : Int} {m : List Mom} (h : CVN P f args w (RunR c t)) (h1 : runE c t = ε) (h2 : runsM c t = m) : CVN P f args w (RunR' ε m) := by
  subst h1 h2
  exact h
theorem RunB.to {P : Program} {f : FuncId} {args : List Value} {w : World} {ε : Int} {m : List Mom} (h : CVN P f args w (RunR' ε m)) : CVN P f args w (RunB ε m) :=
  h.bun.mono fun v N ⟨N', ⟨ps, A, k, e1, e2, e3⟩, e4⟩ => ⟨ps, A, k, e1, e2, by rw [e4, e3]⟩
end SC
end Go.Proofs.YtclihihdgodloaaDoor
end
section
/- trestlelaw07: SimRuns: the walk. -/
set_option linter.unusedVariables false
set_option linter.unusedSimpArgs false
namespace Go.Proofs.YtclihihdgodloaaDoor
namespace SC
open Go.Proofs
attribute [local irreducible] WC WL WX WS WO OX Does DoesU Enters CV Pure thenQ blockQ retQ Wants retQC GC GL GS GX RdB thenG blockG retG Rd At gt CVN CVM
attribute [local irreducible] fam bun
set_option maxRecDepth 100000
end SC
end Go.Proofs.YtclihihdgodloaaDoor
end
section
/- Traces that come in. -/
set_option linter.unusedVariables false
set_option linter.unusedSimpArgs false
namespace Go.Proofs.YtclihihdgodloaaDoor
namespace SC
open Go.Proofs
set_option maxRecDepth 100000
section
variable {H : Type} {enc : TypeId × Value → H} {W : World} {base : Nat} {spare : Nat → Bool} {held : Bool}
theorem bytes62 : Tryd.prog.bytesOf 53 = 24 := by kernel_rfl
/-- A row of a trace that comes in. -/
theorem openTrowS {fuel : Nat} {cs : List Value} {x : DataW H × List MemPlace} (h : DataW.trod enc Tryd.prog W base spare held fuel 53 cs = some x) : ∃ y : Hdl × List Bool, encS y = cs ∧ (RowA W booc 1 y.1.1 y.2 ∧ (y.1.1 = none → y.1.2 = 0) ∧ ∀ R, (∀ n ∈ x.1.weights Tryd.prog 53, n ≤ R) → y.2.length ≤ R) := by
  obtain ⟨A, cp, l, rfl, r, z, w⟩ := openBoolsF h
  exact ⟨((A, cp), l), rfl, r, z, w⟩
/-- A trace that comes in. -/
theorem openTrcS {v : Value} {d : DataW H} {ps : List MemPlace} {r : Reach} {b0 : Nat} (hv : Value.okWide Tryd.prog W r b0 65 v) (h : DataW.Trod enc Tryd.prog W base spare held 65 v d ps) (hz : ∀ n ∈ d.weights Tryd.prog 65, n ≤ 140737488351232) :
    ∃ (t : Trc) (a b : Hdl), v = .agg (tcs t a b).toArray ∧ TrcIn W t a b := by
  obtain ⟨cs, rfl, hsz⟩ := Go.WideShapes.okWide_struct Tryd.underlying65 hv
  obtain ⟨fuel, hf⟩ := h
  rw [agg_cells] at hf
  obtain ⟨hl, n, hfl⟩ := openFieldS Tryd.underlying65 (by kernel_rfl) hf
  have hl : cs.toList.length = 3 := hl
  obtain ⟨y0, h0, g0⟩ := hfl 0 _ (by rw [hl]; decide) rfl rfl (by kernel_rfl)
  obtain ⟨y1, h1, g1⟩ := hfl 1 _ (by rw [hl]; decide) rfl rfl (by kernel_rfl)
  obtain ⟨y2, h2, g2⟩ := hfl 2 _ (by rw [hl]; decide) rfl rfl (by kernel_rfl)
  obtain ⟨A0, c0, l0, e0, r0, z0, w0⟩ := openBoolsF h0
  obtain ⟨A1, c1, l1, e1, r1, k1, n1, z1, w1⟩ := openRowS encS (fun y d => RowA W booc 1 y.1.1 y.2 ∧ (y.1.1 = none → y.1.2 = 0) ∧ ∀ R, (∀ n ∈ d.weights Tryd.prog 53, n ≤ R) → y.2.length ≤ R) Tryd.underlying63 (by kernel_rfl) (fun _ => rfl) (fun _ _ _ h => openTrowS h) h1
  obtain ⟨lo, e2, f2⟩ := openIntS h2
  rw [bytes62] at w1
  have v0 := w0 _ fun n hn => hz n (g0 n hn)
  have v1 := w1 _ fun n hn => hz n (g1 n hn)
  have k1' : ∀ y ∈ l1, RowA W booc 1 y.1.1 y.2 ∧ (y.1.1 = none → y.1.2 = 0) ∧ y.2.length ≤ 140737488351232 := fun y hy => by
    obtain ⟨d, ⟨q1, q2, q3⟩, q5⟩ := k1 y hy
    exact ⟨q1, q2, q3 _ fun n hn => hz n (g1 n (q5 n hn))⟩
  refine ⟨⟨l0, l1, lo⟩, (A0, c0), (A1, c1), ?_, r0, r1, fun p hp => (k1' p hp).1, z0, z1, fun p hp => (k1' p hp).2.1, v0, (by show l1.length ≤ _; omega), fun p hp => (k1' p hp).2.2, f2⟩
  congr 1
  apply Array.ext'
  apply List.ext_getElem (by rw [hl]; rfl)
  intro i hi1 hi2
  match i, hi2 with
  | 0, _ => exact (List.cons.inj e0).1
  | 1, _ => exact (List.cons.inj e1).1
  | 2, _ => exact (List.cons.inj e2).1.symm
end
end SC
end Go.Proofs.YtclihihdgodloaaDoor
end
section
/- A back part of a slice; numbers without a sign; a run from one of its states. -/
set_option linter.unusedVariables false
set_option linter.unusedSimpArgs false
namespace Go.Proofs.YtclihihdgodloaaDoor
namespace SC
open Go.Proofs
set_option maxRecDepth 100000
section
variable {n : Nat} {all : List Oper} {K : Env → Mm → Prop} {m : Md} {e : Env} {Γ : Mm} {d : Option Tmp} {ty t t' t0 : TypeId} {x y : Operand} {td : TypeDesc} {sz sz1 by_ by1 : Nat} {zv z1 : Value} {ag ag1 : Bool}
theorem p_sliceFrom {P : Program} {t0 : TypeId} (hu : P.underlying t = some (.slice t0)) (T : Ty P t0 td sz zv by_ ag) {A : Option Addr} {n c : Nat} {k : IntKind} {i : Nat} (h : ev e x = some (.slice A n c)) (h1 : ev e y = some (.int k (i : Int))) (h0 : i < n) (h2 : n ≤ c) :
    Pure P (.slice t x (some y) none none) ty e (.slice (A.map (·.add (i * sz))) (n - i) (c - i)) := by
  intro w ρ dst pos af g hρ
  have := run_sliceBound (P := P) (w := w) k (i : Int) n .sliceB (by omega) (by omega)
  have hc : c ≠ i := by omega
  cases A <;> simp [execOp, hρ _ _ h, hρ _ _ h1, Instr.sliceAt, Instr.slice, Instr.sliceBounds, run_underlying hu, T.size, this, hc]
end
theorem RowA.drop {α : Type} {w : World} {enc : α → List Value} {sz : Nat} {A : Option Addr} {l : List α} (h : RowA w enc sz A l) (i : Nat) : RowA w enc sz (A.map (·.add (i * sz))) (l.drop i) := fun k hk => by
  rw [List.length_drop] at hk
  obtain ⟨p, rfl, hp⟩ := h (i + k) (by omega)
  refine ⟨p.add (i * sz), rfl, fun j u hj => ?_⟩
  rw [List.getElem_drop] at hj
  have := hp j u hj
  rw [show ((i + k : Nat) : Int).toNat = i + k by omega, Nat.add_mul] at this
  rw [show (k : Int).toNat = k by omega, Addr.add_add p]
  exact this
theorem MomsIn.drop {w : World} {A : Option Addr} {ps : List (HMom × Mom)} (H : MomsIn w A ps) (i : Nat) : MomsIn w (A.map (·.add (i * 4))) (ps.drop i) :=
  ⟨H.row.drop i, fun p hp => H.st p (List.mem_of_mem_drop hp), fun p hp => H.bd p (List.mem_of_mem_drop hp), fun p hp => H.fr p (List.mem_of_mem_drop hp), by have := H.len; rw [List.length_drop]; omega, fun p hp => H.le p (List.mem_of_mem_drop hp)⟩
/-- The trace from a state on. -/
noncomputable def tail (c : Circ) (t : Trc) (i : Nat) : Trc := ⟨stM c t i, t.rows.drop i, -1⟩
end SC
end Go.Proofs.YtclihihdgodloaaDoor
end
section
/- trestleref03: Lit, Lits, Binary. -/
set_option linter.unusedVariables false
set_option linter.unusedSimpArgs false
namespace Go.Proofs.YtclihihdgodloaaDoor
namespace SC
open Go.Proofs
attribute [local irreducible] WC WL WX WS WO OX Does DoesU Enters CV Pure thenQ blockQ retQ Wants retQC GC GL GS GX RdB thenG blockG retG Rd At gt CVN CVM
set_option maxRecDepth 100000
end SC
end Go.Proofs.YtclihihdgodloaaDoor
end
section
/- The renumbering's map: what it gives to each variable of a right circuit. -/
set_option linter.unusedVariables false
set_option linter.unusedSimpArgs false
namespace Go.Proofs.YtclihihdgodloaaDoor
namespace SC
open Go.Proofs
section
variable {c : Circ} (R : Right c)
include R
end
end SC
end Go.Proofs.YtclihihdgodloaaDoor
end
section
/- Definitions that are apart pass; the renumbered circuit's definitions. -/
set_option linter.unusedVariables false
set_option linter.unusedSimpArgs false
namespace Go.Proofs.YtclihihdgodloaaDoor
namespace SC
open Go.Proofs
/-! ### the renumbered circuit -/
section
variable {c : Circ} (R : Right c)
/-- The circuit in the binary order; the map. -/
noncomputable abbrev renC (c : Circ) : Circ := renM c (ordM c)
noncomputable abbrev toM (c : Circ) : List Int := mapOf c.max (defsOf c (ordM c))
include R
end
end SC
end Go.Proofs.YtclihihdgodloaaDoor
end
section
/- The renumbered circuit is right. -/
set_option linter.unusedVariables false
set_option linter.unusedSimpArgs false
namespace Go.Proofs.YtclihihdgodloaaDoor
namespace SC
open Go.Proofs
section
variable {c : Circ} (R : Right c)
include R
end
end SC
end Go.Proofs.YtclihihdgodloaaDoor
end
section
/- The renumbered circuit's order; it looks right. -/
set_option linter.unusedVariables false
set_option linter.unusedSimpArgs false
namespace Go.Proofs.YtclihihdgodloaaDoor
namespace SC
open Go.Proofs
section
variable {c : Circ} (R : Right c)
include R
/-- A gate that another one uses was told before it. -/
theorem Right.low {k : Nat} (hk : k < (ordM c).length) {l : Int} (hl : l = (andAt c (ordM c)[k]).2.1 ∨ l = (andAt c (ordM c)[k]).2.2) {j : Nat} (hj : j < (ordM c).length) (e : l / 2 = (andAt c (ordM c)[j]).1 / 2) : j < k := by
  have ho := R.ord (List.getElem_mem hj)
  have hlt : (ordM c)[j].toNat < c.ands.length := by omega
  have h3 := (R.tab.gat _ hlt).2
  have ea : andAt c (ordM c)[j] = c.ands[(ordM c)[j].toNat] := by unfold andAt; simp [hlt]
  rw [← ea, ← e, show (((ordM c)[j].toNat : Nat) : Int) = (ordM c)[j] by omega] at h3
  have hsp : ordM c = (ordM c).take k ++ (ordM c)[k] :: (ordM c).drop (k + 1) := by
    have h1 := List.take_append_drop k (ordM c)
    rw [List.drop_eq_getElem_cons hk] at h1
    exact h1.symm
  have hlow := (R.all.told.split hsp).1.low
  have hb : (ordM c)[j] ∈ gateB (tabM c) c (ordM c)[k] := by
    show (ordM c)[j] ∈ belowL (tabM c) [(andAt c (ordM c)[k]).2.1, (andAt c (ordM c)[k]).2.2]
    rw [mem_belowL]
    exact ⟨l, by rcases hl with rfl | rfl <;> simp, kindAt_get h3, atOf_get h3⟩
  obtain ⟨k', hk', ek⟩ := List.mem_iff_getElem.1 (hlow _ hb)
  rw [List.length_take] at hk'
  rw [List.getElem_take] at ek
  have := nodup_ix R.all.told.nodup (a := k') (b := j) (by omega) hj ek
  omega
end
end SC
end Go.Proofs.YtclihihdgodloaaDoor
end
section
/- The renumbered circuit's values and runs. -/
set_option linter.unusedVariables false
set_option linter.unusedSimpArgs false
namespace Go.Proofs.YtclihihdgodloaaDoor
namespace SC
open Go.Proofs
section
variable {c : Circ}
end
section
variable {c : Circ} (R : Right c)
include R
end
end SC
end Go.Proofs.YtclihihdgodloaaDoor
end
section
/- Runs of the renumbered circuit. -/
set_option linter.unusedVariables false
set_option linter.unusedSimpArgs false
namespace Go.Proofs.YtclihihdgodloaaDoor
namespace SC
open Go.Proofs
section
variable {c : Circ} (R : Right c) (R' : Right (renC c))
include R R'
end
end SC
end Go.Proofs.YtclihihdgodloaaDoor
end
section
/- The binary order: a right circuit has it just if renumbering leaves it as it is. -/
set_option linter.unusedVariables false
set_option linter.unusedSimpArgs false
namespace Go.Proofs.YtclihihdgodloaaDoor
namespace SC
open Go.Proofs
section
variable {c : Circ} (R : Right c)
include R
end
end SC
end Go.Proofs.YtclihihdgodloaaDoor
end
section
/- shape: Renumber, by entries. -/
set_option linter.unusedVariables false
set_option linter.unusedSimpArgs false
namespace Go.Proofs.YtclihihdgodloaaDoor
namespace SC
open Go.Proofs
section
variable {c : Circ} (R : Right c)
include R
end
/-- A renumbered circuit of its own and its map, as one entry. -/
def renX (base : Nat) (c : Circ) (h js : Hd) (A : Option Addr) (k : Nat) : EntX where
  own := fun b => (∃ i, (cirRows (renC c) h js js (renC c).justice.length i).v.ownBlock = some b) ∨ (Value.slice A (toM c).length k).ownBlock = some b
  ok := fun w => CirOwn w base (renC c) h js ∧ w.ownsRow base 3 1 (.slice A (toM c).length k) (toM c).length ((toM c).flatMap icell)
  lt := fun w H b hb => by
    rcases hb with ⟨i, hi⟩ | hb
    · exact (Rows.lt H.1 hi).2
    · exact (World.ownsRow.lt H.2 b hb).2
  keep := fun w w' S H hc hn => ⟨Rows.chg H.1 hc fun i b hb => hn b (.inl ⟨i, hb⟩), own_chg H.2 hc fun b hb => hn b (.inr hb)⟩
attribute [local irreducible] WC WL WX WS WO OX Does DoesU Enters CV Pure thenQ blockQ retQ Wants retQC GC GL GS GX RdB thenG blockG retG Rd At gt CVN CVM
set_option maxRecDepth 100000
end SC
end Go.Proofs.YtclihihdgodloaaDoor
end
section
/- trestlelaw07: SimNumbers: the walk. -/
set_option linter.unusedVariables false
set_option linter.unusedSimpArgs false
namespace Go.Proofs.YtclihihdgodloaaDoor
namespace SC
open Go.Proofs
attribute [local irreducible] WC WL WX WS WO OX Does DoesU Enters CV Pure thenQ blockQ retQ Wants retQC GC GL GS GX RdB thenG blockG retG Rd At gt CVN CVM
attribute [local irreducible] fam bun renX
set_option maxRecDepth 100000
end SC
end Go.Proofs.YtclihihdgodloaaDoor
end
section
/- slices.Equal, slices.EqualFunc; shape's Same. -/
set_option linter.unusedVariables false
set_option linter.unusedSimpArgs false
namespace Go.Proofs.YtclihihdgodloaaDoor
namespace SC
open Go.Proofs
attribute [local irreducible] WC WL WX WS WO OX Does DoesU Enters CV Pure thenQ blockQ retQ Wants retQC
set_option maxRecDepth 100000
theorem equalInts_cv {w : World} {A B : Option Addr} {c d : Nat} {l m : List Int} (R : RowA w icell 1 A l) (R' : RowA w icell 1 B m) (hl : l.length ≤ 9223372036854775807) (hm : m.length ≤ 9223372036854775807) :
    CV Tryd.prog 53 [.slice A l.length c, .slice B m.length d] w fun v w' => v = .bool (decide (l = m)) ∧ Chg w w' none_ := by
  refine enter 26 [4] Tryd.func53 rfl rfl rfl (by decide) rfl ?_
  by_cases hlm : l.length = m.length
  · have e : (m.length : Int) = l.length := by omega
    repeat' (first
|(apply WC_seqK;intro K hK)
|(apply hK;clear hK)
|(apply WC_block)
|(apply WC_region)
|(apply WL_nil)
|(apply thenQ_normal)
|(apply WC_skip)
|(apply WC_if_false;eq_refl)
|(apply WL_on0;eq_refl)
|(apply X_pv;eq_refl;first|exact trivial|omega)
|(apply X_cmpF;eq_refl;eq_refl;omega)
|(apply X_len;eq_refl))
    refine WC_loop (fun i : Nat => [(0, .slice A l.length c), (1, .slice B m.length d), (12, nu l.length), (13, nu i)]) (fun i W => Chg w W none_ ∧ i ≤ l.length ∧ l.take i = m.take i) (fun i => l.length - i) 0 ⟨rfl, rfl, rfl, rfl, trivial⟩ ⟨Chg.refl _ _, Nat.zero_le _, by simp⟩ ?_
    rintro i w1 ⟨hC1, hi, heq⟩
    rcases Nat.lt_or_ge i l.length with hlt | hge
    · have hltm : i < m.length := by omega
      obtain ⟨p, hp, hpc⟩ := (R.chg hC1).one hlt (v := nu l[i]) rfl
      obtain ⟨q, hq, hqc⟩ := (R'.chg hC1).one hltm (v := nu m[i]) rfl
      have h1 := List.take_succ_eq_append_getElem hlt
      have h2 := List.take_succ_eq_append_getElem hltm
      rw [hp, hq]
      generalize hx : l[i] = x at *
      generalize hy : m[i] = y at *
      repeat' (first
|(apply WC_seqK;intro K hK)
|(apply hK;clear hK)
|(apply WC_block)
|(apply WC_region)
|(apply WL_nil)
|(apply thenQ_normal)
|(apply WC_skip)
|(apply WC_if_true;eq_refl)
|(apply WL_on0;eq_refl)
|(apply X_pv;eq_refl;first|exact trivial|omega)
|(apply X_cmpT;eq_refl;eq_refl;omega))
      refine WC_draws [(0, true), (1, true), (2, true), (3, true), (4, true), (5, true), (6, true), (7, true), (8, true)] (fun W => W.cell? (p.add ((i : Int).toNat * 1)) = some (nu x) ∧ W.cell? (q.add ((i : Int).toNat * 1)) = some (nu y)) mixed (by kernel_rfl) (by kernel_rfl) ?_
      have hS : w1.drew.cell? (p.add ((i : Int).toNat * 1)) = some (nu x) ∧ w1.drew.cell? (q.add ((i : Int).toNat * 1)) = some (nu y) := ⟨hpc, hqc⟩
      repeat' (first
|(apply WC_seqK;intro K hK)
|(apply hK;clear hK)
|(apply WC_region)
|(apply WL_nil)
|(apply thenQ_normal)
|(apply thenQ_ret)
|(apply blockQ_ret)
|(apply blockQ_normal)
|(apply WC_ret)
|(apply WC_skip)
|(apply WC_if_true;eq_refl)
|(apply WC_if_false;eq_refl)
|(apply ret1;eq_refl)
|(apply WS_nil)
|(apply WS_next;eq_refl)
|(apply WO_on0;eq_refl)
|(apply O_pv;eq_refl;(first|exact trivial|omega);(first|assumption|exact trivial))
|(apply O_loadC;eq_refl;(first|(intro _ h;exact h)|(intro _ h;exact h.1)|(intro _ h;exact h.2)|(intro _ h;exact h.2.1)|(intro _ h;exact h.2.2)|(intro _ h;exact h.2.2.1)|(intro _ h;exact h.2.2.2));(first|assumption|exact trivial))
|(apply O_cmp;eq_refl;eq_refl;(first|assumption|exact trivial);all_goals intro _)
|(apply O_indexP;eq_refl;eq_refl;omega;omega;(first|assumption|exact trivial))
|(apply WL_on0;eq_refl)
|(apply X_pv;eq_refl;first|exact trivial|omega))
      · have e2 : decide (l = m) = false := decide_eq_false fun h => by
          have hxy : x = y := by rw [← hx, ← hy]; simp only [h]
          contradiction
        rw [e2]
        exact ⟨rfl, hC1.dr⟩
      · refine ⟨i + 1, ⟨by first | rfl | (rw [hp]; rfl), by first | rfl | (rw [hq]; rfl), rfl, rfl, trivial⟩, ⟨hC1.dr, hlt, ?_⟩, by omega⟩
        have hxy : x = y := by first | assumption | omega
        rw [h1, h2, heq, hxy]
    · repeat' (first
|(apply WC_seqK;intro K hK)
|(apply hK;clear hK)
|(clear hK;apply hK;clear hK)
|(apply WC_region)
|(apply WL_nil)
|(apply thenQ_normal)
|(apply thenQ_exit)
|(apply blockQ_hit)
|(apply WC_ret)
|(apply WC_exit)
|(apply WC_if_false;eq_refl)
|(apply ret1;eq_refl)
|(apply WL_on0;eq_refl)
|(apply X_pv;eq_refl;first|exact trivial|omega)
|(apply X_cmpF;eq_refl;eq_refl;omega))
      rw [List.take_of_length_le (by omega), List.take_of_length_le (by omega)] at heq
      rw [heq]
      exact ⟨by simp, hC1⟩
  · have e : decide (l = m) = false := decide_eq_false fun h => hlm (by rw [h])
    rw [e]
    repeat' (first
|(apply WC_seqK;intro K hK)
|(apply hK;clear hK)
|(apply WC_region)
|(apply WL_nil)
|(apply thenQ_normal)
|(apply thenQ_ret)
|(apply WC_ret)
|(apply WC_if_true;eq_refl)
|(apply ret1;eq_refl)
|(apply WL_on0;eq_refl)
|(apply X_pv;eq_refl;first|exact trivial|omega)
|(apply X_cmpT;eq_refl;eq_refl;omega)
|(apply X_len;eq_refl))
    exact ⟨rfl, Chg.refl _ _⟩
end SC
end Go.Proofs.YtclihihdgodloaaDoor
end
section
/- slices.EqualFunc at lists of lists; shape's Same. -/
set_option linter.unusedVariables false
set_option linter.unusedSimpArgs false
namespace Go.Proofs.YtclihihdgodloaaDoor
namespace SC
open Go.Proofs
attribute [local irreducible] WC WL WX WS WO OX Does DoesU Enters CV Pure thenQ blockQ retQ Wants retQC
set_option maxRecDepth 100000
end SC
end Go.Proofs.YtclihihdgodloaaDoor
end
section
/- trestlebook: SpoilCircuit. -/
set_option linter.unusedVariables false
set_option linter.unusedSimpArgs false
namespace Go.Proofs.YtclihihdgodloaaDoor
namespace SC
open Go.Proofs
attribute [local irreducible] WC WL WX WS WO OX Does DoesU Enters CV Pure thenQ blockQ retQ Wants retQC
set_option maxRecDepth 100000
end SC
end Go.Proofs.YtclihihdgodloaaDoor
end
section
/- IsBinary, of the reference and of shape. -/
set_option linter.unusedVariables false
set_option linter.unusedSimpArgs false
namespace Go.Proofs.YtclihihdgodloaaDoor
namespace SC
open Go.Proofs
attribute [local irreducible] WC WL WX WS WO OX Does DoesU Enters CV Pure thenQ blockQ retQ Wants retQC GC GL GS GX RdB thenG blockG retG Rd At gt CVN CVM
attribute [local irreducible] renX
set_option maxRecDepth 100000
end SC
end Go.Proofs.YtclihihdgodloaaDoor
end
section
/- The renumbered circuit has the binary order. -/
set_option linter.unusedVariables false
set_option linter.unusedSimpArgs false
namespace Go.Proofs.YtclihihdgodloaaDoor
namespace SC
open Go.Proofs
section
variable {c : Circ} (R : Right c)
include R
end
end SC
end Go.Proofs.YtclihihdgodloaaDoor
end
section
/- trestlelaw03: ShapeSettles: the walk. -/
set_option linter.unusedVariables false
set_option linter.unusedSimpArgs false
namespace Go.Proofs.YtclihihdgodloaaDoor
namespace SC
open Go.Proofs
attribute [local irreducible] WC WL WX WS WO OX Does DoesU Enters CV Pure thenQ blockQ retQ Wants retQC GC GL GS GX RdB thenG blockG retG Rd At gt CVN CVM
attribute [local irreducible] renX
set_option maxRecDepth 100000
end SC
end Go.Proofs.YtclihihdgodloaaDoor
end
section
/- trestlebook: CopyCircuit by entries; trestleref03: Renumber. -/
set_option linter.unusedVariables false
set_option linter.unusedSimpArgs false
namespace Go.Proofs.YtclihihdgodloaaDoor
namespace SC
open Go.Proofs
end SC
end Go.Proofs.YtclihihdgodloaaDoor
end
section
/- General words: clauses in memory, families bound together, regions whose changes are kept apart. (Collected out of N1, N2, N9, N11, N37, N39, N40, N41 for seats without their functions.) -/
set_option linter.unusedVariables false
set_option linter.unusedSimpArgs false
namespace Go.Proofs.YtclihihdgodloaaDoor
namespace SC
open Go.Proofs
def rowJ (p : Hdl × List Int) : Mm := [.vec icell 1 3 p.1.1 p.1.2 p.2]
theorem Wk.one {E : Ent} {Γ : Mm} : Wk (E :: Γ) [E] := Wk.cons .here .nil
theorem Wk.there {Γ Γ' : Mm} (h : Wk Γ Γ') : Wk Γ ([] ++ Γ') := h
theorem Upd.left {Θ Θ' Γ : Mm} {E F : Ent} (h : Upd Θ E F Θ') : Upd (Θ ++ Γ) E F (Θ' ++ Γ) := by
  induction h with
  | here => exact .here
  | there _ ih => exact .there ih
section
variable {P : Program} {n : Nat} {all : List Oper} {K : Env → Mm → Prop} {A : List Fl} {Θ Θ' C : Mm} {r : List PStep} {e : Env} {Γ Γ' : Mm} {j : Nat} {d : Option Tmp} {ty t t0 : TypeId} {x y : Operand}
/-- What was kept apart comes back. -/
theorem GS_nilP (h : K e (Θ ++ Γ)) : GS P n all K [] Θ [] e Γ := by
  intro B a Q fuel listed w hB ha hs M hQ hp hns hsz hsh hF hok
  obtain rfl : B = [] := by simpa using hB
  simp only [planM, Bool.and_eq_true, List.isEmpty_iff] at hok
  obtain rfl := Nat.eq_of_beq_eq_true hok.2
  exact ⟨hok.1.2, hQ a w e (Θ ++ Γ) ha (show Mem w (Θ ++ Γ) from M) h⟩
/-- Entries kept apart: no quiet operation looks at them. -/
theorem GC_drawsP {id : Nat} {l : List Oper} {Q : PostG} (pl : List PStep) (hm : P.follows .mixedOrders = true) (hns : Region.noSelect l.toArray = true) (hok : planM l.toArray pl l.toArray.size (Array.replicate l.toArray.size false) [] = true) (hC : Rems Γ C Γ')
    (h : GS P n l (fun e Γ => Q .normal e Γ) [] C pl e Γ') : GC P n (.region id l.toArray true) Q e Γ := fun w M a ha =>
  wp_region_any hm (wpAny_of_M _ _ _ _ _ (h [] a _ _ _ _ rfl ha (fun _ _ h => (by cases h)) (show Mem w.drew (C ++ Γ') from Mem.takes hC M.drew) (fun a' w' e' Γ' ha' M' hK => ⟨e', ha', Γ', M', hK⟩) lift_panic hns (by simp) (Shut.init _ _ _) ⟨fun _ h => (by cases h), List.Pairwise.nil, List.Pairwise.nil⟩ hok))
end
def rowL (p : Hdl × List Int) : Ent := .vec icell 1 3 p.1.1 p.1.2 p.2
theorem flat_row : ∀ ps : List (Hdl × List Int), ps.flatMap rowJ = ps.map rowL
  | [] => rfl
  | a :: r => by rw [List.flatMap_cons, flat_row r]; rfl
theorem fam_perm (ps : List (Hdl × List Int)) : (ps.map rowL).Perm (fam rowJ ps) := by
  have : fam rowJ ps = (ps.map rowL).reverse := by
    unfold fam
    rw [← List.map_reverse]
    exact flat_row _
  rw [this]
  exact (List.reverse_perm _).symm
section
variable {P : Program} {n : Nat} {all : List Oper} {K : Env → Mm → Prop} {m : Md} {e : Env} {Γ Γ' Γ1 Γ2 Θ : Mm} {d : Option Tmp} {ty t t0 : TypeId} {x y : Operand} {c : Code} {Q : PostG} {td : TypeDesc} {sz by_ : Nat} {zv : Value} {ag : Bool}
theorem Wk.part {C D : Mm} (hR : Rems Γ C Γ1) (h : Wk C D) (h2 : Wk Γ1 Γ') : Wk Γ (D ++ Γ') := by
  refine ⟨fun w M => ?_, fun k hk => ?_⟩
  · have M1 := M.perm hR.perm
    exact (h.mem w M1.left).join (h2.mem w M1.right) fun k k1 k2 => M1.sep k (h.sub k k1) (h2.sub k k2)
  · rw [owns_perm hR.perm, owns_append]
    exact (owns_append.1 hk).imp (h.sub k) (h2.sub k)
theorem bun_in {D : Mm} : Wk D [.any (bun D)] := ⟨fun w M => Mem.one (E := .any (bun D)) M, fun k hk => (owns_cons.1 hk).elim id fun h => absurd h owns_nil⟩
theorem bun_out {D : Mm} : Wk [.any (bun D)] D := ⟨fun w M => M.head, fun k hk => owns_cons.2 (.inl hk)⟩
theorem fam_mid (a b : List (Hdl × List Int)) (x : Hdl × List Int) : (fam rowJ (a ++ x :: b)).Perm (rowL x :: fam rowJ (a ++ b)) := by
  refine (fam_perm _).symm.trans ?_
  rw [List.map_append, List.map_cons]
  refine List.perm_middle.trans ((List.Perm.cons _) ?_)
  rw [← List.map_append]
  exact fam_perm _
theorem row_in (a b : List (Hdl × List Int)) (x : Hdl × List Int) : Wk [rowL x, .any (bun (fam rowJ (a ++ b)))] [.any (bun (fam rowJ (a ++ x :: b)))] :=
  (Wk.cons .here bun_out).trans ((Wk.perm (fam_mid a b x).symm).trans bun_in)
end
theorem Wk.same {E F : Ent} (h1 : ∀ w, E.ok w → F.ok w) (h2 : ∀ k, F.own k → E.own k) : Wk [E] [F] := ⟨fun w M => Mem.one (h1 w M.head), fun k hk => owns_cons.2 ((owns_cons.1 hk).imp (h2 k) fun h => absurd h owns_nil)⟩
section
variable {P : Program} {e : Env} {w : World} {t : TypeId} {td : TypeDesc} {sz by_ : Nat} {zv : Value}
end
end SC
end Go.Proofs.YtclihihdgodloaaDoor
end
