/- Texts of this seat, one behind the other: V4 V5 S1 I1 J3 B1 J4 J5 J6 K1 K2 K3 K4 K5 L1 L2 G3 G4 G5 G6 G7 H1 L3 L4. -/
import Derived.Test.YtclihihdgodloaaDoorU2
import Derived.ProofKit
import Derived.ChangeOld
import Derived.Below
import Derived.Deep.Slices
import Derived.Deep.Fields
import Derived.Lib.SmallJoins
import Derived.Maps.OwnOps
import Derived.Maps.Views
import Derived.DeepKeys4
import Derived.OwnWalk
import Derived.SizedLaws
section
/- What single operations do to memory as a list of entries. -/
set_option linter.unusedVariables false
set_option linter.unusedSimpArgs false
namespace Go.Proofs.YtclihihdgodloaaDoor
namespace SC
open Go.Proofs
/-! ### entries, and what can be read -/
inductive In : Mm → Ent → Prop
  | here {E : Ent} {Γ : Mm} : In (E :: Γ) E
  | there {E D : Ent} {Γ : Mm} : In Γ E → In (D :: Γ) E
theorem In.mem {Γ : Mm} {E : Ent} (h : In Γ E) : E ∈ Γ := by
  induction h with
  | here => simp
  | there _ ih => simp [ih]
theorem In.ok {Γ : Mm} {E : Ent} {w : World} (h : In Γ E) (M : Mem w Γ) : E.ok w := M.ok E h.mem
/-- In every world of Γ the row can be read. -/
def Rd {α : Type} (Γ : Mm) (enc : α → List Value) (sz : Nat) (A : Option Addr) (l : List α) : Prop := ∀ w, Mem w Γ → RowA w enc sz A l
class Enc {α : Type} (enc : α → List Value) (sz : outParam Nat) : Prop where
  len : ∀ a, (enc a).length = sz
  one : ∀ a, ∀ u ∈ enc a, u.oneCell' = true
  pos : 0 < sz
def booc (b : Bool) : List Value := [.bool b]
instance : Enc icell 1 := ⟨fun _ => rfl, fun a u h => by simp [icell] at h; subst h; rfl, by decide⟩
instance : Enc booc 1 := ⟨fun _ => rfl, fun a u h => by simp [booc] at h; subst h; rfl, by decide⟩
instance : Enc tcells 3 := ⟨fun _ => rfl, fun a u h => by simp [tcells] at h; rcases h with rfl | rfl | rfl <;> rfl, by decide⟩
instance : Enc scells 3 := ⟨fun _ => rfl, fun a u h => by simp [scells] at h; rcases h with rfl | rfl | rfl <;> rfl, by decide⟩
instance : Enc bcell 1 := ⟨fun _ => rfl, fun a u h => by simp [bcell] at h; subst h; rfl, by decide⟩
theorem Rd.own {α : Type} {Γ : Mm} {enc : α → List Value} {sz : Nat} {t : TypeId} {A : Option Addr} {c : Nat} {l : List α} (h : In Γ (.vec enc sz t A c l)) (H : Enc enc sz) : Rd Γ enc sz A l := fun w M => RowA.own H.len (h.ok M)
theorem Rd.old {α : Type} {Γ : Mm} {enc : α → List Value} {sz : Nat} {A : Option Addr} {l : List α} {w0 : World} (h : In Γ (.old w0 none_)) (h0 : RowA w0 enc sz A l) : Rd Γ enc sz A l := fun w M => h0.chg (h.ok M)
theorem Rd.at {α : Type} {Γ : Mm} {enc : α → List Value} {sz : Nat} {A : Option Addr} {l : List α} {w : World} (h : Rd Γ enc sz A l) (M : Mem w Γ) : RowA w enc sz A l := h w M
/-- The i-th of a list. -/
def gt {α : Type} [Inhabited α] (l : List α) (i : Int) : α := l.getD i.toNat default
theorem gt_nat {α : Type} [Inhabited α] {l : List α} {i : Nat} (h : i < l.length) : gt l (i : Int) = l[i] := by unfold gt; simp [h]
theorem gt_get {α : Type} [Inhabited α] {l : List α} {i : Int} (h0 : 0 ≤ i) (h : i < l.length) : ∃ hl : i.toNat < l.length, gt l i = l[i.toNat] := ⟨by omega, by unfold gt; simp [show i.toNat < l.length by omega]⟩
theorem gt_mem {α : Type} [Inhabited α] {l : List α} {i : Int} (h0 : 0 ≤ i) (h : i < l.length) : gt l i ∈ l := by obtain ⟨h1, h2⟩ := gt_get h0 h; rw [h2]; exact List.getElem_mem h1
/-- An element's address. -/
def At (A : Option Addr) (k : Nat) : Addr := (A.getD ⟨0, 0, none⟩).add k
theorem RowA.at {α : Type} [Inhabited α] {w : World} {enc : α → List Value} {sz : Nat} {A : Option Addr} {l : List α} (h : RowA w enc sz A l) {i : Int} (h0 : 0 ≤ i) (h1 : i < l.length) {j : Nat} {u : Value} (hj : (enc (gt l i))[j]? = some u) : w.cell? ((At A (i.toNat * sz)).add j) = some u := by
  obtain ⟨hl, e⟩ := gt_get h0 h1
  obtain ⟨p, rfl, hp⟩ := h i.toNat hl
  rw [e] at hj
  have := hp j u hj
  rw [Int.toNat_natCast] at this
  exact this
theorem add_zero (p : Addr) : p.add 0 = p := by
  cases p with
  | mk b o s => unfold Addr.add; split <;> simp_all
section
variable {P : Program} {n : Nat} {all : List Oper} {K : Env → Mm → Prop} {m : Md} {e : Env} {Γ Γ' : Mm} {d : Option Tmp} {op : Op} {ty t t' t0 : TypeId} {v u : Value} {x y z : Operand} {td : TypeDesc} {sz sz1 by_ by1 : Nat} {zv z1 : Value} {ag ag1 : Bool}
/-! ### what looks at no memory -/
theorem G_pv {C : Prop} (h : pv op e = some (v, C)) (hc : C) (hr : GN P n all K m (push d v e) Γ) : GX P n all K m d op ty e Γ := GX_pure (pv_pure h hc) hr
theorem G_cmpT {E C : Prop} (h : cv op e = some (E, C)) (hE : E) (hc : C) (hr : GN P n all K m (push d (.bool true) e) Γ) : GX P n all K m d op ty e Γ := GX_pure ((cv_pure h hE).1 hc) hr
theorem G_cmpF {E C : Prop} (h : cv op e = some (E, C)) (hE : E) (hc : ¬ C) (hr : GN P n all K m (push d (.bool false) e) Γ) : GX P n all K m d op ty e Γ := GX_pure ((cv_pure h hE).2 hc) hr
/-- The test as a value. -/
theorem G_cmpD {E C : Prop} (h : cv op e = some (E, C)) (hE : E) (hd : Decidable C) (hr : GN P n all K m (push d (.bool (decide C)) e) Γ) : GX P n all K m d op ty e Γ := by
  by_cases hc : C
  · rw [decide_eq_true hc] at hr; exact G_cmpT h hE hc hr
  · rw [decide_eq_false hc] at hr; exact G_cmpF h hE hc hr
theorem G_field {i off : Nat} [F : Fld P t i off] {b o : Nat} (h : ev e x = some (.pointer (some ⟨b, o, none⟩))) (hr : GN P n all K m (push d (.pointer (some ⟨b, o + off, none⟩)) e) Γ) : GX P n all K m d (.fieldAddr t x i) ty e Γ := GX_pure (p_field h) hr
theorem G_fieldP {i off : Nat} [F : Fld P t i off] {p : Addr} (h : ev e x = some (.pointer (some p))) (hr : GN P n all K m (push d (.pointer (some (p.add off))) e) Γ) : GX P n all K m d (.fieldAddr t x i) ty e Γ := GX_pure (p_fieldP h) hr
theorem G_len {A : Option Addr} {k c : Nat} [T : Ty P t (.slice t0) sz zv by_ ag] (h : ev e x = some (.slice A k c)) (hr : GN P n all K m (push d (.int .i64 (k : Int)) e) Γ) : GX P n all K m d (.call { callee := .builtin .len, args := #[x], argTypes := #[t] }) ty e Γ := GX_pure (p_len T.und h) hr
theorem G_min {a b : Int} (h : ev e x = some (.int .i64 a)) (h1 : ev e y = some (.int .i64 b)) (hr : GN P n all K m (push d (.int .i64 (min a b)) e) Γ) : GX P n all K m d (.call { callee := .builtin .min, args := #[x, y], argTypes := #[t, t'] }) ty e Γ := GX_pure (p_min h h1) hr
/-! ### an element's address -/
theorem does_ix {w : World} [U : Ty P t (.slice t0) sz1 z1 by1 ag1] [T : Ty P t0 td sz zv by_ ag] {A : Option Addr} {k c : Nat} {i : Int} {ik : IntKind} (h : ev e x = some (.slice A k c)) (h1 : ev e y = some (.int ik i)) (h0 : 0 ≤ i) (h2 : i < k) (hA : A ≠ none) : Does P (.indexAddr t x y) ty e w (.pointer (some (At A (i.toNat * sz)))) w := by
  cases A with
  | none => exact absurd rfl hA
  | some p => exact does_indexP U.und h h1 h0 h2
theorem G_ix {α : Type} {enc : α → List Value} [U : Ty P t (.slice t0) sz1 z1 by1 ag1] [T : Ty P t0 td sz zv by_ ag] {A : Option Addr} {k c : Nat} {i : Int} {ik : IntKind} {l : List α} (h : ev e x = some (.slice A k c)) (h1 : ev e y = some (.int ik i)) (hR : Rd Γ enc sz A l) (hk : k = l.length) (h0 : 0 ≤ i) (h2 : i < k)
    (hr : GN P n all K m (push d (.pointer (some (At A (i.toNat * sz)))) e) Γ) : GX P n all K m d (.indexAddr t x y) ty e Γ :=
  GX_def (fun w M => does_ix h h1 h0 h2 (by obtain ⟨p, hp, _⟩ := hR w M i.toNat (by omega); rw [hp]; simp)) hr
/-! ### loads -/
theorem G_ld {b o : Nat} {t1 : TypeId} {cs : List Value} [T : Ty P t td sz zv by_ false] (h : ev e x = some (.pointer (some ⟨b, o, none⟩))) (hi : In Γ (.box b t1 cs)) (hv : cs[o]? = some v) (hr : GN P n all K m (push d v e) Γ) : GX P n all K m d (.load t x) ty e Γ :=
  GX_def (fun w M => does_load1 h (hi.ok M) hv) hr
theorem G_ldW {b : Nat} {t1 : TypeId} {cs : List Value} [T : Ty P t td sz zv by_ true] (h : ev e x = some (.pointer (some ⟨b, 0, none⟩))) (hi : In Γ (.box b t1 cs)) (hl : cs.length = sz) (hr : GN P n all K m (push d (.agg cs.toArray) e) Γ) : GX P n all K m d (.load t x) ty e Γ :=
  GX_def (fun w M => does_loadB h (hi.ok M) hl) hr
theorem G_ldO {b o : Nat} {t1 : TypeId} {cs : List Value} {w0 : World} [T : Ty P t td sz zv by_ false] (h : ev e x = some (.pointer (some ⟨b, o, none⟩))) (hi : In Γ (.old w0 none_)) (hb : Blk w0 b t1 cs) (hv : cs[o]? = some v) (hr : GN P n all K m (push d v e) Γ) : GX P n all K m d (.load t x) ty e Γ :=
  GX_def (fun w M => does_load1 h (hb.chg (hi.ok M) id) hv) hr
theorem G_ldC {p : Addr} {w0 : World} [T : Ty P t td sz zv by_ false] (h : ev e x = some (.pointer (some p))) (hi : In Γ (.old w0 none_)) (hv : w0.cell? p = some v) (hr : GN P n all K m (push d v e) Γ) : GX P n all K m d (.load t x) ty e Γ :=
  GX_def (fun w M => does_loadC h (cel_chg hv (hi.ok M) id)) hr
theorem G_rd {α : Type} {enc : α → List Value} {A : Option Addr} {i : Int} {l : List α} [T : Ty P t td sz1 zv by_ false] (h : ev e x = some (.pointer (some (At A (i.toNat * sz))))) (hR : Rd Γ enc sz A l) (ih : Inhabited α) (h0 : 0 ≤ i) (h1 : i < l.length) (hv : (enc (gt l i))[0]? = some v) (hr : GN P n all K m (push d v e) Γ) : GX P n all K m d (.load t x) ty e Γ :=
  GX_def (fun w M => does_loadC h (by have := (hR w M).at h0 h1 hv; rwa [add_zero] at this)) hr
theorem G_rdF {α : Type} {enc : α → List Value} {A : Option Addr} {j : Nat} {i : Int} {l : List α} [T : Ty P t td sz1 zv by_ false] (h : ev e x = some (.pointer (some ((At A (i.toNat * sz)).add j)))) (hR : Rd Γ enc sz A l) (ih : Inhabited α) (h0 : 0 ≤ i) (h1 : i < l.length) (hv : (enc (gt l i))[j]? = some v) (hr : GN P n all K m (push d v e) Γ) : GX P n all K m d (.load t x) ty e Γ :=
  GX_def (fun w M => does_loadC h ((hR w M).at h0 h1 hv)) hr
theorem G_rdW {α : Type} {enc : α → List Value} {A : Option Addr} {i : Int} {l : List α} [T : Ty P t td sz zv by_ true] (h : ev e x = some (.pointer (some (At A (i.toNat * sz))))) (hR : Rd Γ enc sz A l) (N : Enc enc sz) (ih : Inhabited α) (h0 : 0 ≤ i) (h1 : i < l.length) (hr : GN P n all K m (push d (.agg (enc (gt l i)).toArray) e) Γ) : GX P n all K m d (.load t x) ty e Γ :=
  GX_def (fun w M => does_loadRP _ h (N.len _) fun j u hj => (hR w M).at h0 h1 hj) hr
/-! ### stores -/
theorem G_stA {b o : Nat} {t1 : TypeId} {cs vs : List Value} [T : Ty P t td sz zv by_ ag] (hm : wrOk all m = true) (h : ev e x = some (.pointer (some ⟨b, o, none⟩))) (h1 : ev e y = some (.agg vs.toArray)) (hl : vs.length = sz) (h2 : ∀ v ∈ vs, v.oneCell' = true) (hU : Upd Γ (.box b t1 cs) (.box b t1 (splice cs o vs)) Γ') (hlt : o + vs.length ≤ cs.length)
    (hr : GN P n all K m (push d undef e) Γ') : GX P n all K m d (.store t x y) ty e Γ :=
  GX_acts (R := fun v Γ1 => v = undef ∧ Γ1 = Γ') hm (fun Δ w M => by
    have hb : Blk w b t1 cs := by obtain ⟨R, p, _⟩ := hU.perm; exact M.right.ok (.box b t1 cs) (p.mem_iff.2 (by simp))
    refine .inr (.inr ⟨_, does_storeA h h1 hb hl hlt h2, Γ', ?_, rfl, rfl⟩)
    exact Mem.upd hU M (Chg.setRow w b _ (S := fun k => k = b) rfl) (fun k _ h => h) (hb.set _) fun k hk => .inl hk) fun v Γ1 ⟨e1, e2⟩ => by rw [e1, e2]; exact hr
/-- A whole struct is stored into its box. -/
theorem G_stW {b : Nat} {t1 : TypeId} {cs vs : List Value} [T : Ty P t td sz zv by_ ag] (hm : wrOk all m = true) (h : ev e x = some (.pointer (some ⟨b, 0, none⟩))) (h1 : ev e y = some (.agg vs.toArray)) (hl : vs.length = sz) (h2 : vs.all Value.oneCell' = true) (hU : Upd Γ (.box b t1 cs) (.box b t1 vs) Γ') (hlt : cs.length = sz)
    (hr : GN P n all K m (push d undef e) Γ') : GX P n all K m d (.store t x y) ty e Γ := by
  have e1 : splice cs 0 vs = vs := by unfold splice; simp; omega
  rw [← e1] at hU
  exact G_stA hm h h1 hl (fun v hv => List.all_eq_true.1 h2 v hv) hU (by omega) hr
/-- The j-th cell of the i-th element is stored. -/
theorem vec_set {α : Type} {enc : α → List Value} {sz j : Nat} (hsz : ∀ a, (enc a).length = sz) : ∀ (l : List α) (k : Nat) (a : α) (v : Value) (hk : k < l.length), enc a = (enc l[k]).set j v → j < sz → (l.flatMap enc).set (k * sz + j) v = (l.set k a).flatMap enc
  | [], k, a, v, hk, _, _ => by simp at hk
  | x :: r, 0, a, v, hk, h, hj => by
    simp only [List.flatMap_cons, List.set_cons_zero, Nat.zero_mul, Nat.zero_add]
    rw [List.set_append_left _ _ (by rw [hsz]; exact hj)]
    rw [h]
    rfl
  | x :: r, k + 1, a, v, hk, h, hj => by
    simp only [List.flatMap_cons, List.set_cons_succ]
    rw [List.set_append_right _ _ (by rw [hsz, Nat.succ_mul]; omega), hsz]
    have e1 : (k + 1) * sz + j - sz = k * sz + j := by rw [Nat.succ_mul]; omega
    rw [e1, vec_set hsz r k a v (by simpa using hk) (by simpa using h) hj]
theorem vec_store {α : Type} {enc : α → List Value} [N : Enc enc sz] {w : World} {A : Option Addr} {c : Nat} {l : List α} (h : w.ownsRow 0 t0 sz (.slice A l.length c) l.length (l.flatMap enc)) {k j : Nat} (hk : k < l.length) (hj : j < sz) (a : α) (v : Value) (ha : enc a = (enc l[k]).set j v) :
    ∃ (g : Nat) (cur : List Value), A = some ⟨g, 0, none⟩ ∧ Blk w g t0 cur ∧ k * sz + j < cur.length ∧ (w.setRow g (cur.set (k * sz + j) v).toArray).ownsRow 0 t0 sz (.slice A l.length c) l.length ((l.set k a).flatMap enc) := by
  rcases h.2 with ⟨hv, hn⟩ | ⟨g, cap, cur, hv, h0, hcur, hcap, hm, hs, ht⟩
  · omega
  · cases hv
    have hlt : k * sz + j < l.length * sz := by
      have : (k + 1) * sz ≤ l.length * sz := Nat.mul_le_mul_right sz hk
      rw [Nat.succ_mul] at this
      omega
    have hle : l.length * sz ≤ c * sz := Nat.mul_le_mul_right sz hcap
    refine ⟨g, cur.toList, rfl, by simpa [Blk] using hcur, by rw [Array.length_toList, hs]; omega, ?_, .inr ⟨g, c, (cur.toList.set (k * sz + j) v).toArray, rfl, Nat.zero_le _, setRow_heap w g cur _ t0 (0, 0) hcur, hcap, hm, by simp [hs], ?_⟩⟩
    · have := h.1
      rw [← vec_set N.len l k a v hk ha hj, List.length_set]
      exact this
    · simp only [List.toList_toArray]
      rw [List.take_set, ht, vec_set N.len l k a v hk ha hj]
theorem G_stV' {α : Type} [Inhabited α] {enc : α → List Value} [N : Enc enc sz] {A : Option Addr} {c j : Nat} {p : Addr} {i : Int} {l : List α} [T : Ty P t td 1 zv by_ ag] (a : α) (hm : wrOk all m = true) (h : ev e x = some (.pointer (some p))) (hp : p = (At A (i.toNat * sz)).add j) (h1 : ev e y = some v) (hv : v.cells = #[v]) (h2 : v.oneCell' = true)
    (hU : Upd Γ (.vec enc sz t0 A c l) (.vec enc sz t0 A c (l.set i.toNat a)) Γ') (h0 : 0 ≤ i) (hlt : i < l.length) (hj : j < sz) (ha : enc a = (enc (gt l i)).set j v)
    (hr : GN P n all K m (push d undef e) Γ') : GX P n all K m d (.store t x y) ty e Γ :=
  GX_acts (R := fun v Γ1 => v = undef ∧ Γ1 = Γ') hm (fun Δ w M => by
    have hb : (Ent.vec enc sz t0 A c l).ok w := by obtain ⟨R, p, _⟩ := hU.perm; exact M.right.ok _ (p.mem_iff.2 (by simp))
    obtain ⟨hl, e1⟩ := gt_get h0 hlt
    rw [e1] at ha
    obtain ⟨g, cur, rfl, hB, hlt2, hown⟩ := vec_store hb hl hj a v ha
    have e2 : p = ⟨g, i.toNat * sz + j, none⟩ := by rw [hp]; unfold At; simp [add_at]
    rw [e2] at h
    refine .inr (.inr ⟨_, does_store1 h h1 hB hlt2 hv h2, Γ', ?_, rfl, rfl⟩)
    have hown' : (Ent.vec enc sz t0 (some ⟨g, 0, none⟩) c (l.set i.toNat a)).ok (w.setRow g (cur.set (i.toNat * sz + j) v).toArray) := by
      show World.ownsRow _ _ _ _ _ _ _
      rw [List.length_set]
      exact hown
    exact Mem.upd hU M (Chg.setRow w g _ (S := fun k => k = g) rfl) (fun k _ h => by subst h; rfl) hown' fun k hk => .inl hk) fun v Γ1 ⟨e1, e2⟩ => by rw [e1, e2]; exact hr
theorem G_stV {α : Type} {enc : α → List Value} {A : Option Addr} {c : Nat} {i : Int} {l : List α} {a : α} [T : Ty P t td 1 zv by_ ag] (hm : wrOk all m = true) (h : ev e x = some (.pointer (some (At A (i.toNat * 1))))) (h1 : ev e y = some v) (hv : v.cells = #[v]) (h2 : v.oneCell' = true)
    (hU : Upd Γ (.vec enc 1 t0 A c l) (.vec enc 1 t0 A c (l.set i.toNat a)) Γ') (N : Enc enc 1) (ih : Inhabited α) (ha : enc a = [v]) (h0 : 0 ≤ i) (hlt : i < l.length)
    (hr : GN P n all K m (push d undef e) Γ') : GX P n all K m d (.store t x y) ty e Γ :=
  G_stV' (j := 0) a hm h (add_zero _).symm h1 hv h2 hU h0 hlt (by decide) (by
    have := N.len (gt l i)
    rcases hh : enc (gt l i) with _ | ⟨u, _ | ⟨u', r⟩⟩
    · rw [hh] at this; simp at this
    · rw [ha]; rfl
    · rw [hh] at this; simp at this) hr
/-! ### new memory -/
theorem acts_new {R : Value → Mm → Prop} (val : Nat → Value) (cs : Array Value) (h : ∀ w, Does P op ty e w (val w.heap.size) (w.alloc (.cells cs t0))) : Acts P op ty e Γ fun v Γ1 => ∃ N, Γ1 = N ++ Γ ∧ ∃ b, v = val b ∧ N = [.box b t0 cs.toList] := fun Δ w M =>
  .inl ⟨_, _, h w, .box w.heap.size t0 cs.toList :: Γ, ((M.new cs t0).perm List.perm_middle.symm), [_], rfl, _, rfl, rfl⟩
theorem G_new (val : Nat → Value) (cs : Array Value) (hm : addOk m = true) (h : ∀ w, Does P op ty e w (val w.heap.size) (w.alloc (.cells cs t0))) (hr : ∀ b, GN P n all K m (push d (val b) e) (.box b t0 cs.toList :: Γ)) : GX P n all K m d op ty e Γ :=
  GX_adds (R := fun v N => ∃ b, v = val b ∧ N = [.box b t0 cs.toList]) hm (acts_new (R := fun _ _ => True) val cs h) fun v N ⟨b, e1, e2⟩ => by rw [e1, e2]; exact hr b
theorem G_alloc [T : Ty P t td sz zv by_ ag] (hm : addOk m = true) (hr : ∀ b, GN P n all K m (push d (.pointer (some ⟨b, 0, none⟩)) e) (.box b t zv.cells.toList :: Γ)) : GX P n all K m d (.alloc t) ty e Γ :=
  G_new (fun b => .pointer (some ⟨b, 0, none⟩)) zv.cells hm (fun w => does_alloc) hr
theorem G_box (hm : addOk m = true) (h : ev e x = some v) (hr : ∀ b, GN P n all K m (push d (.pointer (some ⟨b, 0, none⟩)) e) (.box b t v.cells.toList :: Γ)) : GX P n all K m d (.box t x) ty e Γ :=
  G_new (fun b => .pointer (some ⟨b, 0, none⟩)) v.cells hm (fun w => does_box h) hr
/-- A box is a vector. -/
theorem box_vec {α : Type} {enc : α → List Value} [N : Enc enc sz] {w : World} {b : Nat} {l : List α} (hb : Blk w b t0 (l.flatMap enc)) (hl : l.length ≤ maxLen) : (Ent.vec enc sz t0 (some ⟨b, 0, none⟩) l.length l).ok w := by
  have hlen : (l.flatMap enc).length = l.length * sz := by
    clear hb hl
    induction l with
    | nil => simp
    | cons a r ih => rw [List.flatMap_cons, List.length_append, ih, N.len, List.length_cons, Nat.succ_mul, Nat.add_comm]
  exact ⟨hlen, .inr ⟨b, l.length, (l.flatMap enc).toArray, rfl, Nat.zero_le _, hb, Nat.le_refl _, hl, by simp [hlen], by rw [← hlen, List.toList_toArray, List.take_length]⟩⟩
theorem Wk.vec {α : Type} {enc : α → List Value} [N : Enc enc sz] {b : Nat} {l : List α} {cs : List Value} {Γ1 : Mm} (hcs : cs = l.flatMap enc) (hl : l.length ≤ maxLen) : Wk (.box b t0 cs :: Γ1) (.vec enc sz t0 (some ⟨b, 0, none⟩) l.length l :: Γ1) := by
  subst hcs
  refine ⟨fun w M => M.tail.cons (box_vec M.head hl) fun k hk ho => ?_, fun k hk => ?_⟩
  · obtain ⟨E, hE, h2⟩ := ho
    simp only [Ent.own, Value.ownBlock, Option.some.injEq] at hk
    exact (List.pairwise_cons.1 M.ap).1 E hE k hk.symm h2
  · rw [owns_cons] at hk ⊢
    refine hk.imp (fun h => ?_) id
    simp only [Ent.own, Value.ownBlock, Option.some.injEq] at h ⊢
    exact h.symm
end
/-! ### vectors made and grown -/
section
variable {P : Program} {n : Nat} {all : List Oper} {K : Env → Mm → Prop} {m : Md} {e : Env} {Γ Γ' : Mm} {d : Option Tmp} {op : Op} {ty t t' t0 : TypeId} {v u : Value} {x y z : Operand} {td : TypeDesc} {sz sz1 by_ by1 : Nat} {zv z1 : Value} {ag ag1 : Bool}
theorem acts_newV {α : Type} {enc : α → List Value} [N : Enc enc sz] (val : Nat → Value) (l : List α) (cs : Array Value) (hcs : cs.toList = l.flatMap enc) (hl : l.length ≤ maxLen) (h : ∀ w, Does P op ty e w (val w.heap.size) (w.alloc (.cells cs t0))) :
    Acts P op ty e Γ fun v Γ1 => ∃ N, Γ1 = N ++ Γ ∧ ∃ b, v = val b ∧ N = [.vec enc sz t0 (some ⟨b, 0, none⟩) l.length l] := fun Δ w M => by
  refine .inl ⟨_, _, h w, .vec enc sz t0 (some ⟨w.heap.size, 0, none⟩) l.length l :: Γ, ?_, [_], rfl, _, rfl, rfl⟩
  have M1 := M.new cs t0
  rw [hcs] at M1
  exact ((Wk.vec rfl hl).mem _ M1).perm List.perm_middle.symm
theorem G_make {α : Type} (enc : α → List Value) [N : Enc enc sz] {a : α} {k : Nat} {ik : IntKind} [U : Ty P t (.slice t0) sz1 z1 by1 ag1] [T : Ty P t0 td sz zv by_ ag] (hm : addOk m = true) (h : ev e x = some (.int ik (k : Int))) (ha : enc a = zv.cells.toList) (hn : by_ * k ≤ 281474976710656) (h1 : 1 ≤ by_)
    (hr : ∀ b, GN P n all K m (push d (.slice (some ⟨b, 0, none⟩) k k) e) (.vec enc sz t0 (some ⟨b, 0, none⟩) k (List.replicate k a) :: Γ)) : GX P n all K m d (.makeSlice t x x) ty e Γ := by
  have hk1 : k ≤ by_ * k := Nat.le_mul_of_pos_left _ h1
  have hcs : (madeCells zv.cells (k * sz)).toList = (List.replicate k a).flatMap enc := by
    have hz : zv.cells.size = sz := by rw [← Array.length_toList, ← ha, N.len]
    apply List.ext_getElem?
    intro j
    have hpos := N.pos
    have hlen : ∀ k : Nat, ((List.replicate k a).flatMap enc).length = k * sz := fun k => by
      induction k with
      | zero => simp
      | succ k ih => rw [List.replicate_succ, List.flatMap_cons, List.length_append, ih, N.len, Nat.succ_mul, Nat.add_comm]
    by_cases hj : j < k * sz
    · have h1 : (madeCells zv.cells (k * sz)).toList[j]? = zv.cells[j % sz]? := by
        simp only [madeCells]
        simp [hj, hz, Nat.mod_lt _ hpos]
      rw [h1]
      have h2 := flatMap_get enc sz N.len (List.replicate k a) (j / sz) (by rw [List.length_replicate]; exact Nat.div_lt_of_lt_mul (by rw [Nat.mul_comm]; exact hj)) (j % sz) (Nat.mod_lt _ hpos)
      rw [show j / sz * sz + j % sz = j by rw [Nat.mul_comm]; exact Nat.div_add_mod j sz] at h2
      rw [h2, List.getElem_replicate, ha]
      simp
    · rw [List.getElem?_eq_none (by simp [madeCells]; omega), List.getElem?_eq_none (by rw [hlen]; omega)]
  have e1 : (List.replicate k a).length = k := List.length_replicate
  refine GX_adds (R := fun v N => ∃ b, v = .slice (some ⟨b, 0, none⟩) k k ∧ N = [.vec enc sz t0 (some ⟨b, 0, none⟩) (List.replicate k a).length (List.replicate k a)]) hm (acts_newV (fun b => .slice (some ⟨b, 0, none⟩) k k) (List.replicate k a) _ hcs (by rw [e1]; unfold maxLen; omega) fun w => does_makeSlice U.und T h (by rw [← Int.natCast_mul]; exact Int.ofNat_le.2 hn) (by omega)) ?_
  intro v N ⟨b, e2, e3⟩
  rw [e2, e3, e1]
  exact hr b
theorem G_makeI {α : Type} (enc : α → List Value) [N : Enc enc sz] {a : α} {i : Int} {ik : IntKind} [U : Ty P t (.slice t0) sz1 z1 by1 ag1] [T : Ty P t0 td sz zv by_ ag] (hm : addOk m = true) (h : ev e x = some (.int ik i)) (h0 : 0 ≤ i) (ha : enc a = zv.cells.toList) (hn : by_ * i.toNat ≤ 281474976710656) (h1 : 1 ≤ by_)
    (hr : ∀ b, GN P n all K m (push d (.slice (some ⟨b, 0, none⟩) i.toNat i.toNat) e) (.vec enc sz t0 (some ⟨b, 0, none⟩) i.toNat (List.replicate i.toNat a) :: Γ)) : GX P n all K m d (.makeSlice t x x) ty e Γ :=
  G_make enc hm (k := i.toNat) (by rw [h]; congr 2; omega) ha hn h1 hr
/-- A nil slice is an empty vector. -/
theorem vec_nil {α : Type} {enc : α → List Value} {w : World} : (Ent.vec enc sz t0 none 0 ([] : List α)).ok w := ⟨by simp, .inl ⟨rfl, rfl⟩⟩
theorem Wk.nilv {α : Type} {enc : α → List Value} {Γ' : Mm} (h : Wk Γ Γ') : Wk Γ (.vec enc sz t0 none 0 ([] : List α) :: Γ') :=
  ⟨fun w M => (h.mem w M).cons vec_nil fun k hk => by simp [Ent.own, Value.ownBlock] at hk, fun k hk => by
    rw [owns_cons] at hk
    rcases hk with hk | hk
    · simp [Ent.own, Value.ownBlock] at hk
    · exact h.sub k hk⟩
/-! ### entries that are kept apart -/
/-! ### calls -/
theorem G_call {f : FuncId} [F : Go.Proofs.YtclihihdgodloaaDoor.SC.Fn P f] {args : Array Operand} {ats : Array TypeId} {vs : List Value} {R : Value → Mm → Prop} (hm : addOk m = true) (h : evs e args.toList = some vs) (hc : ∀ w, Mem w Γ → CVN P f vs w R) (hr : ∀ v N, R v N → GN P n all K m (push d v e) (N ++ Γ)) :
    GX P n all K m d (.call { callee := .value (.func f), args := args, argTypes := ats }) ty e Γ :=
  GX_adds (R := R) hm (fun Δ w M => .inr (.inl ⟨f, vs, enters (evs_map h), CV.mono (hc w M.right) fun v w' ⟨N, M', hR⟩ => ⟨N ++ Γ, by
    have := M.add M'
    rw [← List.append_assoc] at this ⊢
    exact this.perm ((List.perm_append_comm).append_right _), N, rfl, hR⟩⟩)) hr
theorem G_callM {f : FuncId} [F : Go.Proofs.YtclihihdgodloaaDoor.SC.Fn P f] {args : Array Operand} {ats : Array TypeId} {vs : List Value} {C : Mm} {R : Value → Mm → Prop} (hm : wrOk all m = true) (h : evs e args.toList = some vs) (hC : Rems Γ C Γ') (hc : ∀ w, Mem w Γ → CVM P f vs w C R) (hr : ∀ v N, R v N → GN P n all K m (push d v e) (N ++ Γ')) :
    GX P n all K m d (.call { callee := .value (.func f), args := args, argTypes := ats }) ty e Γ :=
  GX_acts (R := fun v Γ1 => ∃ N, Γ1 = N ++ Γ' ∧ R v N) hm (fun Δ w M => .inr (.inl ⟨f, vs, enters (evs_map h), CV.mono (hc w M.right) fun v w' ⟨N, M', hR⟩ => ⟨N ++ Γ', by
    have := (Mem.take hC M).addS M'
    rw [← List.append_assoc] at this ⊢
    exact this.perm ((List.perm_append_comm).append_right _), N, rfl, hR⟩⟩)) fun v Γ1 ⟨N, e1, h2⟩ => by rw [e1]; exact hr v N h2
/-- A call of a closure that changes nothing. -/
theorem G_callF {f : FuncId} {args : Array Operand} {ats : Array TypeId} {vs : List Value} {cap : Array Value} {R : Value → Mm → Prop} (hm : addOk m = true) (hx : ev e x = some (.func (.func f) #[] cap)) (F : Go.Proofs.YtclihihdgodloaaDoor.SC.Fn P f) (h : evs e args.toList = some vs) (hc : ∀ w, Mem w Γ → CVN P f (vs ++ cap.toList) w R) (hr : ∀ v N, R v N → GN P n all K m (push d v e) (N ++ Γ)) :
    GX P n all K m d (.call { callee := .value x, args := args, argTypes := ats }) ty e Γ :=
  GX_adds (R := R) hm (fun Δ w M => .inr (.inl ⟨f, vs ++ cap.toList, entersC hx (evs_map h), CV.mono (hc w M.right) fun v w' ⟨N, M', hR⟩ => ⟨N ++ Γ, by
    have := M.add M'
    rw [← List.append_assoc] at this ⊢
    exact this.perm ((List.perm_append_comm).append_right _), N, rfl, hR⟩⟩)) hr
theorem G_fun {fn : Go.Fn} {cap : Array Operand} {vs : List Value} (h : evs e cap.toList = some vs) (hr : GN P n all K m (push d (.func fn #[] vs.toArray) e) Γ) : GX P n all K m d (.makeFunc fn #[] cap) ty e Γ :=
  GX_def (fun w _ => does_makeFunc (evs_map h)) hr
end
end SC
end Go.Proofs.YtclihihdgodloaaDoor
end
section
/- Results in a cell; families of entries. -/
set_option linter.unusedVariables false
set_option linter.unusedSimpArgs false
namespace Go.Proofs.YtclihihdgodloaaDoor
namespace SC
open Go.Proofs
def retGC (a sz : Nat) (rs : List Nat) (R : Value → Mm → Prop) : PostG
  | .ret, e, Γ => ∃ b t cs vs, look e a = some (.pointer (some ⟨b, 0, none⟩)) ∧ In Γ (.box b t cs) ∧ cs.length = sz ∧ rs.map (look e) = vs.map some ∧ R (retVal (.agg cs.toArray :: vs)) Γ
  | .normal, e, Γ => ∃ b t cs vs, look e a = some (.pointer (some ⟨b, 0, none⟩)) ∧ In Γ (.box b t cs) ∧ cs.length = sz ∧ rs.map (look e) = vs.map some ∧ R (retVal (.agg cs.toArray :: vs)) Γ
  | _, _, _ => False
section
variable {P : Program} {f : FuncId} {args : List Value} {w : World} {R : Value → Mm → Prop} {C : Mm} {t : TypeId} {td : TypeDesc} {sz by_ : Nat} {zv : Value}
theorem CVN.enterC {fn : Func} {c : Code} (n a : Nat) (rs : List Nat) [T : Ty P t td sz zv by_ true] (hf : P.funcs[f]? = some fn) (hb : fn.body = some c)
    (hn : fn.ntmps = n) (hr : fn.results = (.cell a t :: rs.map ResultVar.tmp).toArray) (hl : rs.length = 0 ∨ rs.length = 2) (hs : Nat.ble args.length n = true) (h : GC P n c (retGC a sz rs fun v Γ => ∃ N, Wk Γ (N ++ [.old w none_]) ∧ R v N) (argEnv args 0) [.old w none_]) : CVN P f args w R := by
  refine SC.enterC (T := T) n a rs hf hb hn hr hl hs ((h w (Mem.start w)).mono ?_)
  intro s e w' ⟨Γ, M, hq⟩
  cases s with
  | normal => obtain ⟨b, t1, cs, vs, h0, hi, hs, h1, N, h2, h3⟩ := hq; exact ⟨⟨b, 0, none⟩, cs, vs, h0, fun j u hj => by rw [add_at, Nat.zero_add, (show Blk w' b t1 cs from hi.ok M).cell]; exact hj, hs, h1, N, h2.mem w' M, h3⟩
  | ret => obtain ⟨b, t1, cs, vs, h0, hi, hs, h1, N, h2, h3⟩ := hq; exact ⟨⟨b, 0, none⟩, cs, vs, h0, fun j u hj => by rw [add_at, Nat.zero_add, (show Blk w' b t1 cs from hi.ok M).cell]; exact hj, hs, h1, N, h2.mem w' M, h3⟩
  | exit i => exact hq
  | goto l => exact hq
  | panic c => exact hq
  | outgrown => exact hq
end
section rets
variable {R : Value → Mm → Prop} {e : Env} {Γ : Mm} {a a1 a2 sz b : Nat} {u v : Value} {t : TypeId} {cs : List Value}
end rets
/-! ### families -/
theorem In.skip {Δ Γ : Mm} {E : Ent} (h : In Γ E) : In (Δ ++ Γ) E := by
  induction Δ with
  | nil => exact h
  | cons D r ih => exact .there ih
theorem In.left {Δ Γ : Mm} {E : Ent} (h : In Δ E) : In (Δ ++ Γ) E := by
  induction h with
  | here => exact .here
  | there _ ih => exact .there ih
theorem In.of {Γ : Mm} {E : Ent} (h : E ∈ Γ) : In Γ E := by
  induction Γ with
  | nil => cases h
  | cons D r ih =>
    rcases List.mem_cons.1 h with rfl | h
    · exact .here
    · exact .there (ih h)
theorem Upd.skip {Δ Γ Γ' : Mm} {E F : Ent} (h : Upd Γ E F Γ') : Upd (Δ ++ Γ) E F (Δ ++ Γ') := by
  induction Δ with
  | nil => exact h
  | cons D r ih => exact .there ih
theorem Rem.skip {Δ Γ Γ' : Mm} {E : Ent} (h : Rem Γ E Γ') : Rem (Δ ++ Γ) E (Δ ++ Γ') := by
  induction Δ with
  | nil => exact h
  | cons D r ih => exact .there ih
theorem Wk.perm {Γ Γ' : Mm} (h : Γ.Perm Γ') : Wk Γ Γ' := ⟨fun w M => M.perm h, fun k hk => (owns_perm h).2 hk⟩
theorem Wk.drop {D : Ent} {Γ Γ' : Mm} (h : Wk Γ Γ') : Wk (D :: Γ) Γ' := ⟨fun w M => h.mem w M.tail, fun k hk => owns_cons.2 (.inr (h.sub k hk))⟩
theorem Wk.last {Γ Δ : Mm} {E : Ent} (h : Wk Γ (E :: Δ)) : Wk Γ (Δ ++ [E]) := h.trans (.perm (List.perm_append_comm (l₁ := [E])))
def fam {α : Type} (f : α → Mm) (l : List α) : Mm := l.reverse.flatMap f
/-! ### what a call that changes something may still read -/
theorem In.one {Γ : Mm} {E : Ent} {w : World} (h : In Γ E) (M : Mem w Γ) : Mem w [E] := .one (h.ok M)
theorem Rd.oldR {α : Type} {Γ : Mm} {enc : α → List Value} {sz : Nat} {A : Option Addr} {l : List α} {w0 : World} {S : Nat → Prop} (h : In Γ (.old w0 S)) (h0 : Rd [.old w0 S] enc sz A l) : Rd Γ enc sz A l := fun w M => h0 w (h.one M)
theorem Rd.frame {α : Type} {C Γ : Mm} {enc : α → List Value} {sz : Nat} {A : Option Addr} {l : List α} {w : World} (M : Mem w (C ++ Γ)) (h : Rd Γ enc sz A l) : Rd [.old w (owns C)] enc sz A l :=
  fun w2 M2 => h w2 (M.right.chg (S := owns C) (M2.ok (.old w (owns C)) (by simp)) fun k hk hs => M.sep k hs hk)
/-- In every world of Γ the block has these cells. -/
def RdB (Γ : Mm) (b : Nat) (t : TypeId) (cs : List Value) : Prop := ∀ w, Mem w Γ → Blk w b t cs
theorem RdB.own {Γ : Mm} {b : Nat} {t : TypeId} {cs : List Value} (h : In Γ (.box b t cs)) : RdB Γ b t cs := fun w M => h.ok M
theorem RdB.old {Γ : Mm} {b : Nat} {t : TypeId} {cs : List Value} {w0 : World} (h : In Γ (.old w0 none_)) (h0 : Blk w0 b t cs) : RdB Γ b t cs := fun w M => h0.chg (h.ok M) id
theorem RdB.oldR {Γ : Mm} {b : Nat} {t : TypeId} {cs : List Value} {w0 : World} {S : Nat → Prop} (h : In Γ (.old w0 S)) (h0 : RdB [.old w0 S] b t cs) : RdB Γ b t cs := fun w M => h0 w (h.one M)
theorem RdB.frame {C Γ : Mm} {b : Nat} {t : TypeId} {cs : List Value} {w : World} (M : Mem w (C ++ Γ)) (h : RdB Γ b t cs) : RdB [.old w (owns C)] b t cs :=
  fun w2 M2 => h w2 (M.right.chg (S := owns C) (M2.ok (.old w (owns C)) (by simp)) fun k hk hs => M.sep k hs hk)
theorem Mem.takes {C Γ Γ' : Mm} {w : World} (h : Rems Γ C Γ') (M : Mem w Γ) : Mem w (C ++ Γ') := M.perm h.perm
/-- A slice of slices: each with its handle. -/
def encS {β : Type} (p : (Option Addr × Nat) × List β) : List Value := [.slice p.1.1 p.2.length p.1.2]
instance {β : Type} : Enc (encS (β := β)) 1 := ⟨fun _ => rfl, fun a u h => by simp [encS] at h; subst h; rfl, by decide⟩
theorem Rd.nil {α : Type} {Γ : Mm} {enc : α → List Value} {sz : Nat} {A : Option Addr} : Rd Γ enc sz A ([] : List α) := fun _ _ k hk => absurd hk (Nat.not_lt_zero _)
end SC
end Go.Proofs.YtclihihdgodloaaDoor
end
section
/- trestleref07: Lit, All, Next0. -/
set_option linter.unusedVariables false
set_option linter.unusedSimpArgs false
namespace Go.Proofs.YtclihihdgodloaaDoor
namespace SC
open Go.Proofs
/-- A literal's value. -/
def lv (v : List Bool) (l : Int) : Bool := gt v (l / 2) != decide (l % 2 = 1)
/-- The values have a literal. -/
def hasL (v : List Bool) (l : Int) : Prop := 0 ≤ l ∧ l / 2 < v.length ∧ l ≤ 9223372036854775807
attribute [local irreducible] WC WL WX WS WO OX Does DoesU Enters CV Pure thenQ blockQ retQ Wants retQC GC GL GS GX RdB thenG blockG retG Rd At gt CVN CVM
set_option maxRecDepth 100000
end SC
end Go.Proofs.YtclihihdgodloaaDoor
end
section
/- A circuit that comes in: what it reads as lies in memory as the plain word says. -/
set_option linter.unusedVariables false
set_option linter.unusedSimpArgs false
namespace Go.Proofs.YtclihihdgodloaaDoor
namespace SC
open Go.Proofs
set_option maxRecDepth 100000
theorem listOf {α : Type} : ∀ {n : Nat} {Q : Nat → α → Prop}, (∀ i, i < n → ∃ x, Q i x) → ∃ l : List α, l.length = n ∧ ∀ i (hi : i < l.length), Q i l[i]
  | 0, _, _ => ⟨[], rfl, fun i hi => absurd hi (Nat.not_lt_zero _)⟩
  | n + 1, Q, h => by
    obtain ⟨l, hl, hq⟩ := listOf (n := n) (Q := Q) fun i hi => h i (by omega)
    obtain ⟨x, hx⟩ := h n (by omega)
    refine ⟨l ++ [x], by simp [hl], fun i hi => ?_⟩
    rcases Nat.lt_or_ge i n with hlt | hge
    · rw [List.getElem_append_left (by omega)]
      exact hq i (by omega)
    · have e : i = n := by simp [hl] at hi; omega
      subst e
      rw [List.getElem_append_right (by omega)]
      simpa [hl] using hx
section
variable {H : Type} {enc : TypeId × Value → H} {W : World} {base : Nat} {spare : Nat → Bool} {held : Bool}
/-- A field of a struct whose fields have one cell each. -/
theorem openField {t : TypeId} {fs : Array Field} {fuel : Nat} {cs : List Value} {x : DataW H × List MemPlace} (ht : Tryd.prog.underlying t = some (.struct fs)) (hc : Tryd.prog.cellsOf t = fs.size) (h : DataW.trod enc Tryd.prog W base spare held fuel t cs = some x) :
    cs.length = fs.size ∧ ∃ n, ∀ (i : Nat) (f : Field) (hi : i < cs.length), fs[i]? = some f → f.offset = i → Tryd.prog.cellsOf f.type = 1 → ∃ y, DataW.trod enc Tryd.prog W base spare held n f.type [cs[i]] = some y := by
  obtain ⟨xs, n, _, _, hcl, hxl, hf⟩ := DataW.trod_struct ht h
  refine ⟨hcl.trans hc, n, fun i f hi hfi ho h1 => ?_⟩
  have := hf i f hfi
  have hx : i < xs.length := by rw [hxl, ← hc, ← hcl]; exact hi
  rw [ho, h1, List.drop_eq_getElem_cons hi, List.getElem?_eq_getElem hx] at this
  exact ⟨_, this⟩
theorem bounds8 {n : Int} (h : (Lit.int .u8 n).wf = true) : 0 ≤ n ∧ n ≤ 255 := by simp [Lit.wf, IntKind.min, IntKind.max, IntKind.signed, IntKind.bits] at h; omega
theorem openSym {fuel : Nat} {cs : List Value} {x : DataW H × List MemPlace} (h : DataW.trod enc Tryd.prog W base spare held fuel 130 cs = some x) :
    ∃ s, scells s = cs ∧ ((0 ≤ s.kind ∧ s.kind ≤ 255) ∧ (-9223372036854775808 ≤ s.at_ ∧ s.at_ ≤ 9223372036854775807) ∧ s.name.size ≤ maxLen) := by
  obtain ⟨hl, n, hfl⟩ := openField Tryd.underlying130 (by kernel_rfl) h
  have hl : cs.length = 3 := hl
  obtain ⟨y0, h0⟩ := hfl 0 _ (by omega) rfl rfl (by kernel_rfl)
  obtain ⟨y1, h1⟩ := hfl 1 _ (by omega) rfl rfl (by kernel_rfl)
  obtain ⟨y2, h2⟩ := hfl 2 _ (by omega) rfl rfl (by kernel_rfl)
  obtain ⟨p, e0, _, w0⟩ := DataW.trod_int Tryd.underlying5 h0
  obtain ⟨q, e1, _, w1⟩ := DataW.trod_int Tryd.underlying3 h1
  obtain ⟨r, e2, _, w2⟩ := DataW.trod_string Tryd.underlying9 h2
  refine ⟨⟨p, q, r⟩, ?_, bounds8 w0, ?_, w2⟩
  · apply List.ext_getElem (by rw [hl]; rfl)
    intro i hi1 hi2
    match i, hi2 with
    | 0, _ => exact (List.cons.inj e0).1.symm
    | 1, _ => exact (List.cons.inj e1).1.symm
    | 2, _ => exact (List.cons.inj e2).1.symm
  · simp [Lit.wf, IntKind.min, IntKind.max, IntKind.signed, IntKind.bits] at w1; simp only; omega
theorem openTxt {fuel : Nat} {cs : List Value} {x : DataW H × List MemPlace} (h : DataW.trod enc Tryd.prog W base spare held fuel 9 cs = some x) : ∃ s, bcell s = cs ∧ s.size ≤ maxLen := by
  obtain ⟨r, rfl, _, w⟩ := DataW.trod_string Tryd.underlying9 h
  exact ⟨r, rfl, w⟩
/-- A list within a list: where it lies, and what it holds. -/
structure Lst where
  A : Option Addr
  cp : Nat
  l : List Int
def lcell (x : Lst) : List Value := [.slice x.A x.l.length x.cp]
end
end SC
end Go.Proofs.YtclihihdgodloaaDoor
end
section
/- trestlebook: CopyLists, SameInts, KeptInts, SpoilInts. -/
set_option linter.unusedVariables false
set_option linter.unusedSimpArgs false
namespace Go.Proofs.YtclihihdgodloaaDoor
namespace SC
open Go.Proofs
theorem own_ne {w : World} {b1 b2 s1 s2 n1 n2 : Nat} {t1 t2 : TypeId} {v1 v2 : Value} {x1 x2 : List Value} (h1 : w.ownsRow b1 t1 s1 v1 n1 x1) (h2 : w.ownsRow b2 t2 s2 v2 n2 x2) (ht : t1 ≠ t2) {k : Nat} (hk : v1.ownBlock = some k) : v2.ownBlock ≠ some k := by
  rcases h1.2 with ⟨rfl, _⟩ | ⟨g, _, _, rfl, _, hg, _⟩
  · cases hk
  · rcases h2.2 with ⟨rfl, _⟩ | ⟨g', _, _, rfl, _, hg', _⟩
    · intro hh; cases hh
    · intro hh
      simp only [Value.ownBlock, Option.some.injEq] at hk hh
      subst hk; subst hh
      rw [hg] at hg'
      simp at hg'
      exact ht hg'.2
attribute [local irreducible] WC WL WX WS WO OX Does DoesU Enters CV Pure thenQ blockQ retQ Wants retQC
set_option maxRecDepth 100000
theorem copyLists_cv {w : World} {A : Option Addr} {c : Nat} {ls : List (List Int)} {js : Hd} (hj : JusAt w A ls js) (he : ∀ k (hk : k < ls.length), RowA w icell 1 (js k).1 ls[k]) (hnl : ∀ k, (js k).1 = none → (js k).2 = 0) (hb : ls.length * 24 ≤ 140737488355328) (hbe : ∀ l ∈ ls, l.length * 8 ≤ 140737488355328) :
    CV Tryd.prog 68 [.slice A ls.length c] w fun v w' => ∃ (A' : Option Addr) (c' : Nat) (js' : Hd), v = .slice A' ls.length c' ∧ w'.ownsRow w.heap.size 22 1 v ls.length ((List.range ls.length).map fun k => slc js' k (ls.getD k []).length) ∧
      (∀ k, k < ls.length → w'.ownsRow w.heap.size 3 1 (slc js' k (ls.getD k []).length) (ls.getD k []).length ((ls.getD k []).flatMap icell)) ∧ Chg w w' none_ := by
  refine enter 20 [2] Tryd.func68 rfl rfl rfl (by decide) rfl ?_
  repeat' (first
|(apply WC_seqK;intro K hK)
|(apply hK;clear hK)
|(apply WC_block)
|(apply WC_region)
|(apply WL_nil)
|(apply thenQ_normal)
|(apply WL_on0;eq_refl)
|(apply X_pv;eq_refl;first|exact trivial|omega))
  refine WC_loop (fun s : Nat × Value × Hd => [(0, .slice A ls.length c), (3, s.2.1), (4, nu s.1)])
    (fun s W => Chg w W none_ ∧ W.ownsRow w.heap.size 22 1 s.2.1 s.1 ((List.range s.1).map fun k => slc s.2.2 k (ls.getD k []).length) ∧ (∀ k, k < s.1 → W.ownsRow w.heap.size 3 1 (slc s.2.2 k (ls.getD k []).length) (ls.getD k []).length ((ls.getD k []).flatMap icell)) ∧ s.1 ≤ ls.length)
    (fun s => ls.length - s.1) (0, .slice none 0 0, js) ⟨rfl, rfl, rfl, trivial⟩ ⟨Chg.refl _ _, World.ownsRow_nil _ _ _ _, fun k hk => absurd hk (Nat.not_lt_zero _), Nat.zero_le _⟩ ?_
  rintro ⟨i, v, jn⟩ w1 ⟨hC1, hr1, hi1, hi⟩
  simp only at hr1 hi1 hi
  rcases Nat.lt_or_ge i ls.length with hlt | hge
  · obtain ⟨p, hp, hpc⟩ := hj i hlt
    have hpc1 := cel_chg hpc hC1 id
    have hgd : ls.getD i [] = ls[i] := by simp [hlt]
    have hci := copyInts_cv (c := (js i).2) ((he i hlt).chg hC1) (hnl i) (hbe _ (List.getElem_mem hlt))
    rw [hp]
    repeat' (first
|(apply X_fn;eq_refl;exact hci;rintro v2 w2 ⟨hr2, hC2⟩;obtain ⟨A2, c2, rfl⟩ := row_form' hr2)
|(apply WC_seqK;intro K hK)
|(apply hK;clear hK)
|(apply WC_block)
|(apply WC_region)
|(apply WL_nil)
|(apply thenQ_normal)
|(apply WC_skip)
|(apply WC_if_true;eq_refl)
|(apply WL_on0;eq_refl)
|(apply X_pv;eq_refl;first|exact trivial|omega)
|(apply X_loadC;eq_refl;(first|assumption|(apply cel;first|assumption|(apply cel;assumption))))
|(apply X_cmpT;eq_refl;eq_refl;omega)
|(apply X_len;eq_refl)
|(apply X_indexP;eq_refl;eq_refl;omega;omega)
|(apply X_does;apply buildS24_1 <;> eq_refl))
    have hr1' := own_chg hr1 hC2 fun _ _ => id
    refine X_append w.heap.size (by eq_refl) (by eq_refl) (hr1'.alloc _) (Blk.newA w2 _ _) rfl rfl (by decide) (by simp [Value.oneCell']) (by omega) (by decide) (by have := hC1.size; have := hC2.size; simp; omega) ?_
    intro v3 w3 hr3 hC3 hown3 _
    have hw1 := hC1.size
    have hr2' := hr2.alloc (.cells #[.slice A2 ls[i].length c2] 22)
    have hr2'' := own_mono (own_chg hr2' hC3 fun k hk hh => own_ne (hr1'.alloc (.cells #[.slice A2 ls[i].length c2] 22)) hr2' (by decide) hh hk) hw1
    have hi3 : ∀ k, k < i → w3.ownsRow w.heap.size 3 1 (slc jn k (ls.getD k []).length) (ls.getD k []).length ((ls.getD k []).flatMap icell) := fun k hk => by
      have h0 := (own_chg (hi1 k hk) hC2 fun _ _ => id).alloc (.cells #[.slice A2 ls[i].length c2] 22)
      exact own_chg h0 hC3 fun j hj hh => own_ne (hr1'.alloc (.cells #[.slice A2 ls[i].length c2] 22)) h0 (by decide) hh hj
    have hC3' : Chg w w3 none_ := ((hC1.trans hC2 fun _ _ h => h).al _).trans hC3 fun k hk hh => by have := (hr1.lt k hh).1; omega
    repeat' (first
|(apply hK;clear hK)
|(apply WC_region)
|(apply WL_nil)
|(apply thenQ_normal)
|(apply blockQ_normal)
|(apply WL_on0;eq_refl)
|(apply X_pv;eq_refl;first|exact trivial|omega))
    refine ⟨(i + 1, v3, setHd jn i (A2, c2)), ⟨by first | rfl | (rw [hp]; rfl), rfl, rfl, trivial⟩, ⟨hC3', ?_, fun k hk => ?_, hlt⟩, by simp only; omega⟩
    · have e : ((List.range (i + 1)).map fun k => slc (setHd jn i (A2, c2)) k (ls.getD k []).length) = ((List.range i).map fun k => slc jn k (ls.getD k []).length) ++ [.slice A2 ls[i].length c2] := by
        rw [List.range_succ, List.map_append]
        congr 1
        · apply List.map_congr_left
          intro k hk
          have := List.mem_range.1 hk
          simp [slc, setHd, Nat.ne_of_lt this]
        · simp [slc, setHd, hlt]
      simp only [e]
      exact hr3
    · simp only
      by_cases hki : k = i
      · subst hki
        simp only [slc, setHd, if_pos, hgd]
        exact hr2''
      · have := hi3 k (by simp only at hk; omega)
        simp only [slc, setHd, if_neg hki]
        exact this
  · obtain rfl : i = ls.length := by omega
    obtain ⟨A', c', rfl⟩ := row_form' hr1
    repeat' (first
|(apply WC_seqK;intro K hK)
|(apply hK;clear hK)
|(clear hK;apply hK;clear hK)
|(apply WC_region)
|(apply WL_nil)
|(apply thenQ_normal)
|(apply thenQ_exit)
|(apply blockQ_hit)
|(apply WC_ret)
|(apply WC_exit)
|(apply WC_if_false;eq_refl)
|(apply ret1;eq_refl)
|(apply WL_on0;eq_refl)
|(apply X_pv;eq_refl;first|exact trivial|omega)
|(apply X_cmpF;eq_refl;eq_refl;omega)
|(apply X_len;eq_refl))
    exact ⟨A', c', jn, rfl, hr1, hi1, hC1⟩
/-- Are these the same numbers? -/
theorem sameInts_cv {w : World} {A B : Option Addr} {c d : Nat} {l m : List Int} (R : RowA w icell 1 A l) (R' : RowA w icell 1 B m) (hl : l.length ≤ 9223372036854775807) (hm : m.length ≤ 9223372036854775807) :
    CV Tryd.prog 14 [.slice A l.length c, .slice B m.length d] w fun v w' => v = .bool (decide (l = m)) ∧ Chg w w' none_ := by
  refine enter 26 [4] Tryd.func14 rfl rfl rfl (by decide) rfl ?_
  by_cases hlm : l.length = m.length
  · have e : (m.length : Int) = l.length := by omega
    repeat' (first
|(apply WC_seqK;intro K hK)
|(apply hK;clear hK)
|(apply WC_block)
|(apply WC_region)
|(apply WL_nil)
|(apply thenQ_normal)
|(apply WC_skip)
|(apply WC_if_false;eq_refl)
|(apply WL_on0;eq_refl)
|(apply X_pv;eq_refl;first|exact trivial|omega)
|(apply X_cmpF;eq_refl;eq_refl;omega)
|(apply X_len;eq_refl))
    refine WC_loop (fun i : Nat => [(0, .slice A l.length c), (1, .slice B m.length d), (5, nu i)]) (fun i W => Chg w W none_ ∧ i ≤ l.length ∧ l.take i = m.take i) (fun i => l.length - i) 0 ⟨rfl, rfl, rfl, trivial⟩ ⟨Chg.refl _ _, Nat.zero_le _, by simp⟩ ?_
    rintro i w1 ⟨hC1, hi, heq⟩
    rcases Nat.lt_or_ge i l.length with hlt | hge
    · have hltm : i < m.length := by omega
      obtain ⟨p, hp, hpc⟩ := (R.chg hC1).one hlt (v := nu l[i]) rfl
      obtain ⟨q, hq, hqc⟩ := (R'.chg hC1).one hltm (v := nu m[i]) rfl
      have h1 := List.take_succ_eq_append_getElem hlt
      have h2 := List.take_succ_eq_append_getElem hltm
      rw [hp, hq]
      generalize hx : l[i] = x at *
      generalize hy : m[i] = y at *
      repeat' (first
|(apply WC_seqK;intro K hK)
|(apply hK;clear hK)
|(apply WC_block)
|(apply WC_region)
|(apply WL_nil)
|(apply thenQ_normal)
|(apply WC_skip)
|(apply WC_if_true;eq_refl)
|(apply WL_on0;eq_refl)
|(apply X_pv;eq_refl;first|exact trivial|omega)
|(apply X_cmpT;eq_refl;eq_refl;omega)
|(apply X_len;eq_refl))
      refine WC_draws [(0, true), (1, true), (2, true), (3, true), (4, true), (5, true), (6, true), (7, true), (8, true)] (fun W => W.cell? (p.add ((i : Int).toNat * 1)) = some (nu x) ∧ W.cell? (q.add ((i : Int).toNat * 1)) = some (nu y)) mixed (by kernel_rfl) (by kernel_rfl) ?_
      have hS : w1.drew.cell? (p.add ((i : Int).toNat * 1)) = some (nu x) ∧ w1.drew.cell? (q.add ((i : Int).toNat * 1)) = some (nu y) := ⟨hpc, hqc⟩
      repeat' (first
|(apply WC_seqK;intro K hK)
|(apply hK;clear hK)
|(apply WC_region)
|(apply WL_nil)
|(apply thenQ_normal)
|(apply thenQ_ret)
|(apply blockQ_ret)
|(apply blockQ_normal)
|(apply WC_ret)
|(apply WC_skip)
|(apply WC_if_true;eq_refl)
|(apply WC_if_false;eq_refl)
|(apply ret1;eq_refl)
|(apply WS_nil)
|(apply WS_next;eq_refl)
|(apply WO_on0;eq_refl)
|(apply O_pv;eq_refl;(first|exact trivial|omega);(first|assumption|exact trivial))
|(apply O_loadC;eq_refl;(first|(intro _ h;exact h)|(intro _ h;exact h.1)|(intro _ h;exact h.2)|(intro _ h;exact h.2.1)|(intro _ h;exact h.2.2)|(intro _ h;exact h.2.2.1)|(intro _ h;exact h.2.2.2));(first|assumption|exact trivial))
|(apply O_cmp;eq_refl;eq_refl;(first|assumption|exact trivial);all_goals intro _)
|(apply O_indexP;eq_refl;eq_refl;omega;omega;(first|assumption|exact trivial))
|(apply WL_on0;eq_refl)
|(apply X_pv;eq_refl;first|exact trivial|omega))
      · have e2 : decide (l = m) = false := decide_eq_false fun h => by
          have hxy : x = y := by rw [← hx, ← hy]; simp only [h]
          contradiction
        rw [e2]
        exact ⟨rfl, hC1.dr⟩
      · refine ⟨i + 1, ⟨by first | rfl | (rw [hp]; rfl), by first | rfl | (rw [hq]; rfl), rfl, trivial⟩, ⟨hC1.dr, hlt, ?_⟩, by omega⟩
        have hxy : x = y := by first | assumption | omega
        rw [h1, h2, heq, hxy]
    · repeat' (first
|(apply WC_seqK;intro K hK)
|(apply hK;clear hK)
|(clear hK;apply hK;clear hK)
|(apply WC_region)
|(apply WL_nil)
|(apply thenQ_normal)
|(apply thenQ_exit)
|(apply blockQ_hit)
|(apply WC_ret)
|(apply WC_exit)
|(apply WC_if_false;eq_refl)
|(apply ret1;eq_refl)
|(apply WL_on0;eq_refl)
|(apply X_pv;eq_refl;first|exact trivial|omega)
|(apply X_cmpF;eq_refl;eq_refl;omega)
|(apply X_len;eq_refl))
      rw [List.take_of_length_le (by omega), List.take_of_length_le (by omega)] at heq
      rw [heq]
      exact ⟨by simp, hC1⟩
  · have e : decide (l = m) = false := decide_eq_false fun h => hlm (by rw [h])
    rw [e]
    repeat' (first
|(apply WC_seqK;intro K hK)
|(apply hK;clear hK)
|(apply WC_region)
|(apply WL_nil)
|(apply thenQ_normal)
|(apply thenQ_ret)
|(apply WC_ret)
|(apply WC_if_true;eq_refl)
|(apply ret1;eq_refl)
|(apply WL_on0;eq_refl)
|(apply X_pv;eq_refl;first|exact trivial|omega)
|(apply X_cmpT;eq_refl;eq_refl;omega)
|(apply X_len;eq_refl))
    exact ⟨rfl, Chg.refl _ _⟩
end SC
end Go.Proofs.YtclihihdgodloaaDoor
end
section
/- The builders of hash: plain words and their laws; what is known of their memory. -/
set_option linter.unusedVariables false
set_option linter.unusedSimpArgs false
namespace Go.Proofs.YtclihihdgodloaaDoor
namespace SC
open Go.Proofs Go.Maps

/-! ### plain words -/
abbrev Gate := Int × Int × Int
def outOf : List Gate → Int → Int → Int
  | [], _, _ => 0
  | g :: r, p, q => if g.2.1 = p ∧ g.2.2 = q then g.1 else outOf r p q
structure Inv (n : Int) (gs : List Gate) : Prop where
  nn : 0 ≤ n
  top : n + gs.length ≤ 16384
  outs : ∀ g ∈ gs, 2 ≤ g.1 ∧ g.1 ≤ 2 * (n + gs.length)
  fit : ∀ g ∈ gs, 0 ≤ g.2.1 ∧ g.2.1 ≤ 40000 ∧ 0 ≤ g.2.2 ∧ g.2.2 ≤ 40000
section
variable {n : Int} {gs : List Gate} {p q : Int}
end
def okM (n : Int) (gs : List Gate) (x : Int) : Prop := 0 ≤ x ∧ x ≤ 2 * (n + gs.length) + 1
instance (n : Int) (gs : List Gate) (x : Int) : Decidable (okM n gs x) := by unfold okM; infer_instance
theorem outOf_mem : ∀ (gs : List Gate) (p q : Int), outOf gs p q = 0 ∨ ∃ g ∈ gs, outOf gs p q = g.1
  | [], _, _ => .inl rfl
  | g :: r, p, q => by
    unfold outOf
    split
    · exact .inr ⟨g, by simp, rfl⟩
    · rcases outOf_mem r p q with h | ⟨g', hg, h⟩
      · exact .inl h
      · exact .inr ⟨g', by simp [hg], h⟩
theorem Inv.out {n : Int} {gs : List Gate} (h : Inv n gs) (p q : Int) : 0 ≤ outOf gs p q ∧ outOf gs p q ≤ 2 * (n + gs.length) := by
  rcases outOf_mem gs p q with h1 | ⟨g, hg, h1⟩
  · have := h.nn; omega
  · have := h.outs g hg; omega
/-- What 'andM' answers. -/
structure Good (n : Int) (gs : List Gate) (r : Int × Int × List Gate) : Prop where
  inv : Inv n r.2.2
  ok : okM n r.2.2 r.1
  more : gs.length ≤ r.2.2.length
/-! ### the map of gates -/
theorem laidOut : laidOutB Tryd.prog = true := by kernel_rfl
def fits (a : Int) : Prop := -9223372036854775808 ≤ a ∧ a ≤ 9223372036854775807
theorem wf_of_fits {a : Int} (h : fits a) : (Lit.int .i64 a).wf = true := by
  unfold fits at h
  simp [Lit.wf, IntKind.min, IntKind.max, IntKind.signed, IntKind.bits]
  omega
theorem wide43 : (match Tryd.prog.underlying 61 with | some (.array _ _) | some (.struct _) => true | _ => false) = true := by rw [Tryd.underlying61]
theorem formed43 {a b c : Value} : (Value.agg #[a, b, c]).formed Tryd.prog 61 = true := by
  have : Tryd.prog.cellsOf 61 = 3 := by kernel_rfl
  simp [Value.formed, Tryd.underlying61, this]
theorem key43 {a b c : Int} (ha : fits a) (hb : fits b) (hc : fits c) : keyOf Tryd.prog 61 (.agg #[.int .i64 a, .int .i64 b, .int .i64 c]) = some (.string (keyBytes [.int .i64 a, .int .i64 b, .int .i64 c])) := by
  have h1 : Tryd.prog.keyType 61 = true := by kernel_rfl
  have h2 : Tryd.prog.cellsOf 61 = 3 := by kernel_rfl
  have h3 : Tryd.prog.cellsOf 3 = 1 := by kernel_rfl
  have h4 : ∃ k, Tryd.prog.types.size = k + 1 := ⟨Tryd.prog.types.size - 1, by have : 0 < Tryd.prog.types.size := of_decide_eq_true (by kernel_rfl); omega⟩
  obtain ⟨k, hk⟩ := h4
  unfold keyOf
  rw [Tryd.underlying61]
  simp only [h1, formed43, Bool.and_self, if_true]
  rw [hk]
  simp [Program.keyLits, Tryd.underlying61, Tryd.underlying3, h2, h3, Value.cells, wf_of_fits ha, wf_of_fits hb, wf_of_fits hc]
end SC
end Go.Proofs.YtclihihdgodloaaDoor
end
section
/- trestlebook: are two lists of things the same? -/
set_option linter.unusedVariables false
set_option linter.unusedSimpArgs false
namespace Go.Proofs.YtclihihdgodloaaDoor
namespace SC
open Go.Proofs Go.Maps
set_option maxRecDepth 100000
theorem row43 : (61 : TypeId) < Tryd.prog.types.size := of_decide_eq_true (by kernel_rfl)
theorem keyed43 : Keyed Tryd.prog 61 := Keyed.of_law (deep_law_laid laidOut (m := 2) (by omega) row43 (by kernel_rfl) wide43)
theorem row70 : (59 : TypeId) < Tryd.prog.types.size := of_decide_eq_true (by kernel_rfl)
theorem wide70 : (match Tryd.prog.underlying 59 with | some (.array _ _) | some (.struct _) => true | _ => false) = true := by rw [Tryd.underlying59]
theorem keyed70 : Keyed Tryd.prog 59 := Keyed.of_law (deep_law_laid laidOut (m := 2) (by omega) row70 (by kernel_rfl) wide70)
theorem formed70 {a b c : Value} : (Value.agg #[a, b, c]).formed Tryd.prog 59 = true := by
  have : Tryd.prog.cellsOf 59 = 3 := by kernel_rfl
  simp [Value.formed, Tryd.underlying59, this]
theorem key70 {a b c : Int} (ha : fits a) (hb : fits b) (hc : fits c) : keyOf Tryd.prog 59 (.agg #[.int .i64 a, .int .i64 b, .int .i64 c]) = some (.string (keyBytes [.int .i64 a, .int .i64 b, .int .i64 c])) := by
  have h1 : Tryd.prog.keyType 59 = true := by kernel_rfl
  have h2 : Tryd.prog.cellsOf 59 = 3 := by kernel_rfl
  have h3 : Tryd.prog.cellsOf 3 = 1 := by kernel_rfl
  have h4 : ∃ k, Tryd.prog.types.size = k + 1 := ⟨Tryd.prog.types.size - 1, by have : 0 < Tryd.prog.types.size := of_decide_eq_true (by kernel_rfl); omega⟩
  obtain ⟨k, hk⟩ := h4
  unfold keyOf
  rw [Tryd.underlying59]
  simp only [h1, formed70, Bool.and_self, if_true]
  rw [hk]
  simp [Program.keyLits, Tryd.underlying59, Tryd.underlying3, h2, h3, Value.cells, wf_of_fits ha, wf_of_fits hb, wf_of_fits hc]
def TriFits (x : Tri) : Prop := fits x.1 ∧ fits x.2.1 ∧ fits x.2.2
theorem run_neq43 {x y : Tri} (hx : TriFits x) (hy : TriFits y) (w : World) : ∃ r, (Op.equal 61 (.agg (tcells x).toArray) (.agg (tcells y).toArray)).run Tryd.prog w = .ok r w ∧ (r = true ↔ x = y) := by
  obtain ⟨r, h2, h3⟩ := run_equal_deep (P := Tryd.prog) w (m := 2) (by decide) (k := 61) (by kernel_rfl) wide43 (key43 hx.1 hx.2.1 hx.2.2) (key43 hy.1 hy.2.1 hy.2.2)
  refine ⟨r, h2, h3.trans ⟨fun h => ?_, fun h => by rw [h]⟩⟩
  have := keyed43.inj (key43 hx.1 hx.2.1 hx.2.2) (by rw [h]; exact key43 hy.1 hy.2.1 hy.2.2)
  simp at this
  exact Prod.ext this.1 (Prod.ext this.2.1 this.2.2)
theorem run_neq70 {x y : Tri} (hx : TriFits x) (hy : TriFits y) (w : World) : ∃ r, (Op.equal 59 (.agg (tcells x).toArray) (.agg (tcells y).toArray)).run Tryd.prog w = .ok r w ∧ (r = true ↔ x = y) := by
  obtain ⟨r, h2, h3⟩ := run_equal_deep (P := Tryd.prog) w (m := 2) (by decide) (k := 59) (by kernel_rfl) wide70 (key70 hx.1 hx.2.1 hx.2.2) (key70 hy.1 hy.2.1 hy.2.2)
  refine ⟨r, h2, h3.trans ⟨fun h => ?_, fun h => by rw [h]⟩⟩
  have := keyed70.inj (key70 hx.1 hx.2.1 hx.2.2) (by rw [h]; exact key70 hy.1 hy.2.1 hy.2.2)
  simp at this
  exact Prod.ext this.1 (Prod.ext this.2.1 this.2.2)
section
variable {e : Env} {x y : Operand} {ty t : TypeId}
theorem p_neqV {a b : Array Value} {C : Prop} (hgd : Tryd.prog.eqGuardType Tryd.prog.depth t = false) (hr : ∀ w, ∃ r, (Op.equal t (.agg a) (.agg b)).run Tryd.prog w = .ok r w ∧ (r = true ↔ C)) (h : ev e x = some (.agg a)) (h1 : ev e y = some (.agg b)) : (¬ C → Pure Tryd.prog (.binOp .neq t x y t) ty e (.bool true)) ∧ (C → Pure Tryd.prog (.binOp .neq t x y t) ty e (.bool false)) := by
  refine ⟨fun hc => ?_, fun hc => ?_⟩ <;> (unfold Pure Does; intro w ρ dst pos af g hρ; obtain ⟨r, h2, h3⟩ := hr w)
  · have : r = false := by cases r; rfl; exact absurd (h3.1 rfl) hc
    subst this
    simp [execOp, hρ _ _ h, hρ _ _ h1, eqGuard, binOp, h2, hgd]
  · have : r = true := h3.2 hc
    subst this
    simp [execOp, hρ _ _ h, hρ _ _ h1, eqGuard, binOp, h2, hgd]
theorem p_eqV {a b : Array Value} {C : Prop} (hgd : Tryd.prog.eqGuardType Tryd.prog.depth t = false) (hr : ∀ w, ∃ r, (Op.equal t (.agg a) (.agg b)).run Tryd.prog w = .ok r w ∧ (r = true ↔ C)) (h : ev e x = some (.agg a)) (h1 : ev e y = some (.agg b)) : (¬ C → Pure Tryd.prog (.binOp .eql t x y t) ty e (.bool false)) ∧ (C → Pure Tryd.prog (.binOp .eql t x y t) ty e (.bool true)) := by
  refine ⟨fun hc => ?_, fun hc => ?_⟩ <;> (unfold Pure Does; intro w ρ dst pos af g hρ; obtain ⟨r, h2, h3⟩ := hr w)
  · have : r = false := by cases r; rfl; exact absurd (h3.1 rfl) hc
    subst this
    simp [execOp, hρ _ _ h, hρ _ _ h1, eqGuard, binOp, h2, hgd]
  · have : r = true := h3.2 hc
    subst this
    simp [execOp, hρ _ _ h, hρ _ _ h1, eqGuard, binOp, h2, hgd]
theorem O_neqV {n : Nat} {all : List Oper} {K : Env → World → Prop} {S : World → Prop} {r : List (Nat × Bool)} {i : Nat} {w : World} {d : Option Tmp} {a b : Array Value} {C : Prop} (hgd : Tryd.prog.eqGuardType Tryd.prog.depth t = false) (hr : ∀ w, ∃ r, (Op.equal t (.agg a) (.agg b)).run Tryd.prog w = .ok r w ∧ (r = true ↔ C)) (h : ev e x = some (.agg a)) (h1 : ev e y = some (.agg b)) (hS : S w)
    (ht : ¬ C → WS Tryd.prog n all S K r (push d (.bool true) e) w) (hf : C → WS Tryd.prog n all S K r (push d (.bool false) e) w) : OX Tryd.prog n all S K i true r d (.binOp .neq t x y t) ty e w := by
  by_cases hc : C
  · exact O_pure ((p_neqV hgd hr h h1).2 hc) hS (hf hc)
  · exact O_pure ((p_neqV hgd hr h h1).1 hc) hS (ht hc)
end
theorem guard43 : Tryd.prog.eqGuardType Tryd.prog.depth 61 = false := by kernel_rfl
theorem guard70 : Tryd.prog.eqGuardType Tryd.prog.depth 59 = false := by kernel_rfl
attribute [local irreducible] WC WL WX WS WO OX Does DoesU Enters CV Pure thenQ blockQ retQ Wants retQC
theorem sameLatches_cv {w : World} {A B : Option Addr} {c d : Nat} {l m : List Tri} (R : RowA w tcells 3 A l) (R' : RowA w tcells 3 B m) (hl : l.length ≤ 9223372036854775807) (hm : m.length ≤ 9223372036854775807) (hf : ∀ x ∈ l, TriFits x) (hf' : ∀ x ∈ m, TriFits x) :
    CV Tryd.prog 70 [.slice A l.length c, .slice B m.length d] w fun v w' => v = .bool (decide (l = m)) ∧ Chg w w' none_ := by
  refine enter 26 [4] Tryd.func70 rfl rfl rfl (by decide) rfl ?_
  by_cases hlm : l.length = m.length
  · have e : (m.length : Int) = l.length := by omega
    repeat' (first
|(apply WC_seqK;intro K hK)
|(apply hK;clear hK)
|(apply WC_block)
|(apply WC_region)
|(apply WL_nil)
|(apply thenQ_normal)
|(apply WC_skip)
|(apply WC_if_false;eq_refl)
|(apply WL_on0;eq_refl)
|(apply X_pv;eq_refl;first|exact trivial|omega)
|(apply X_cmpF;eq_refl;eq_refl;omega)
|(apply X_len;eq_refl))
    refine WC_loop (fun i : Nat => [(0, .slice A l.length c), (1, .slice B m.length d), (5, nu i)]) (fun i W => Chg w W none_ ∧ i ≤ l.length ∧ l.take i = m.take i) (fun i => l.length - i) 0 ⟨rfl, rfl, rfl, trivial⟩ ⟨Chg.refl _ _, Nat.zero_le _, by simp⟩ ?_
    rintro i w1 ⟨hC1, hi, heq⟩
    rcases Nat.lt_or_ge i l.length with hlt | hge
    · have hltm : i < m.length := by omega
      obtain ⟨p, hp, hpc⟩ := (R.chg hC1) i hlt
      obtain ⟨q, hq, hqc⟩ := (R'.chg hC1) i hltm
      have h1 := List.take_succ_eq_append_getElem hlt
      have h2 := List.take_succ_eq_append_getElem hltm
      have hfx := hf _ (List.getElem_mem hlt)
      have hfy := hf' _ (List.getElem_mem hltm)
      rw [hp, hq]
      generalize hx : l[i] = x at *
      generalize hy : m[i] = y at *
      have hne := run_neq70 hfx hfy
      repeat' (first
|(apply WC_seqK;intro K hK)
|(apply hK;clear hK)
|(apply WC_block)
|(apply WC_region)
|(apply WL_nil)
|(apply thenQ_normal)
|(apply WC_skip)
|(apply WC_if_true;eq_refl)
|(apply WL_on0;eq_refl)
|(apply X_pv;eq_refl;first|exact trivial|omega)
|(apply X_cmpT;eq_refl;eq_refl;omega)
|(apply X_len;eq_refl))
      refine WC_draws [(0, true), (1, true), (2, true), (3, true), (4, true), (5, true), (6, true), (7, true), (8, true)] (fun W => (∀ j u, (tcells x)[j]? = some u → W.cell? ((p.add ((i : Int).toNat * 3)).add j) = some u) ∧ (∀ j u, (tcells y)[j]? = some u → W.cell? ((q.add ((i : Int).toNat * 3)).add j) = some u)) mixed (by kernel_rfl) (by kernel_rfl) ?_
      have hS : (∀ j u, (tcells x)[j]? = some u → w1.drew.cell? ((p.add ((i : Int).toNat * 3)).add j) = some u) ∧ (∀ j u, (tcells y)[j]? = some u → w1.drew.cell? ((q.add ((i : Int).toNat * 3)).add j) = some u) := ⟨hpc, hqc⟩
      repeat' (first
|(apply O_loadAP (tcells x);eq_refl;eq_refl;(intro _ h;exact h.1);assumption)
|(apply O_loadAP (tcells y);eq_refl;eq_refl;(intro _ h;exact h.2);assumption)
|(apply O_neqV guard70 hne;eq_refl;eq_refl;assumption;all_goals intro _)
|(apply WC_seqK;intro K hK)
|(apply hK;clear hK)
|(apply WC_region)
|(apply WL_nil)
|(apply thenQ_normal)
|(apply thenQ_ret)
|(apply blockQ_ret)
|(apply blockQ_normal)
|(apply WC_ret)
|(apply WC_skip)
|(apply WC_if_true;eq_refl)
|(apply WC_if_false;eq_refl)
|(apply ret1;eq_refl)
|(apply WS_nil)
|(apply WS_next;eq_refl)
|(apply WO_on0;eq_refl)
|(apply O_pv;eq_refl;(first|exact trivial|omega);(first|assumption|exact trivial))
|(apply O_indexP;eq_refl;eq_refl;omega;omega;(first|assumption|exact trivial))
|(apply WL_on0;eq_refl)
|(apply X_pv;eq_refl;first|exact trivial|omega))
      · have e2 : decide (l = m) = false := decide_eq_false fun h => by
          have hxy : x = y := by rw [← hx, ← hy]; simp only [h]
          contradiction
        rw [e2]
        exact ⟨rfl, hC1.dr⟩
      · refine ⟨i + 1, ⟨by first | rfl | (rw [hp]; rfl), by first | rfl | (rw [hq]; rfl), rfl, trivial⟩, ⟨hC1.dr, hlt, ?_⟩, by omega⟩
        have hxy : x = y := by assumption
        rw [h1, h2, heq, hxy]
    · repeat' (first
|(apply WC_seqK;intro K hK)
|(apply hK;clear hK)
|(clear hK;apply hK;clear hK)
|(apply WC_region)
|(apply WL_nil)
|(apply thenQ_normal)
|(apply thenQ_exit)
|(apply blockQ_hit)
|(apply WC_ret)
|(apply WC_exit)
|(apply WC_if_false;eq_refl)
|(apply ret1;eq_refl)
|(apply WL_on0;eq_refl)
|(apply X_pv;eq_refl;first|exact trivial|omega)
|(apply X_cmpF;eq_refl;eq_refl;omega)
|(apply X_len;eq_refl))
      rw [List.take_of_length_le (by omega), List.take_of_length_le (by omega)] at heq
      rw [heq]
      exact ⟨by simp, hC1⟩
  · have e : decide (l = m) = false := decide_eq_false fun h => hlm (by rw [h])
    rw [e]
    repeat' (first
|(apply WC_seqK;intro K hK)
|(apply hK;clear hK)
|(apply WC_region)
|(apply WL_nil)
|(apply thenQ_normal)
|(apply thenQ_ret)
|(apply WC_ret)
|(apply WC_if_true;eq_refl)
|(apply ret1;eq_refl)
|(apply WL_on0;eq_refl)
|(apply X_pv;eq_refl;first|exact trivial|omega)
|(apply X_cmpT;eq_refl;eq_refl;omega)
|(apply X_len;eq_refl))
    exact ⟨rfl, Chg.refl _ _⟩
theorem sameAnds_cv {w : World} {A B : Option Addr} {c d : Nat} {l m : List Tri} (R : RowA w tcells 3 A l) (R' : RowA w tcells 3 B m) (hl : l.length ≤ 9223372036854775807) (hm : m.length ≤ 9223372036854775807) (hf : ∀ x ∈ l, TriFits x) (hf' : ∀ x ∈ m, TriFits x) :
    CV Tryd.prog 72 [.slice A l.length c, .slice B m.length d] w fun v w' => v = .bool (decide (l = m)) ∧ Chg w w' none_ := by
  refine enter 26 [4] Tryd.func72 rfl rfl rfl (by decide) rfl ?_
  by_cases hlm : l.length = m.length
  · have e : (m.length : Int) = l.length := by omega
    repeat' (first
|(apply WC_seqK;intro K hK)
|(apply hK;clear hK)
|(apply WC_block)
|(apply WC_region)
|(apply WL_nil)
|(apply thenQ_normal)
|(apply WC_skip)
|(apply WC_if_false;eq_refl)
|(apply WL_on0;eq_refl)
|(apply X_pv;eq_refl;first|exact trivial|omega)
|(apply X_cmpF;eq_refl;eq_refl;omega)
|(apply X_len;eq_refl))
    refine WC_loop (fun i : Nat => [(0, .slice A l.length c), (1, .slice B m.length d), (5, nu i)]) (fun i W => Chg w W none_ ∧ i ≤ l.length ∧ l.take i = m.take i) (fun i => l.length - i) 0 ⟨rfl, rfl, rfl, trivial⟩ ⟨Chg.refl _ _, Nat.zero_le _, by simp⟩ ?_
    rintro i w1 ⟨hC1, hi, heq⟩
    rcases Nat.lt_or_ge i l.length with hlt | hge
    · have hltm : i < m.length := by omega
      obtain ⟨p, hp, hpc⟩ := (R.chg hC1) i hlt
      obtain ⟨q, hq, hqc⟩ := (R'.chg hC1) i hltm
      have h1 := List.take_succ_eq_append_getElem hlt
      have h2 := List.take_succ_eq_append_getElem hltm
      have hfx := hf _ (List.getElem_mem hlt)
      have hfy := hf' _ (List.getElem_mem hltm)
      rw [hp, hq]
      generalize hx : l[i] = x at *
      generalize hy : m[i] = y at *
      have hne := run_neq43 hfx hfy
      repeat' (first
|(apply WC_seqK;intro K hK)
|(apply hK;clear hK)
|(apply WC_block)
|(apply WC_region)
|(apply WL_nil)
|(apply thenQ_normal)
|(apply WC_skip)
|(apply WC_if_true;eq_refl)
|(apply WL_on0;eq_refl)
|(apply X_pv;eq_refl;first|exact trivial|omega)
|(apply X_cmpT;eq_refl;eq_refl;omega)
|(apply X_len;eq_refl))
      refine WC_draws [(0, true), (1, true), (2, true), (3, true), (4, true), (5, true), (6, true), (7, true), (8, true)] (fun W => (∀ j u, (tcells x)[j]? = some u → W.cell? ((p.add ((i : Int).toNat * 3)).add j) = some u) ∧ (∀ j u, (tcells y)[j]? = some u → W.cell? ((q.add ((i : Int).toNat * 3)).add j) = some u)) mixed (by kernel_rfl) (by kernel_rfl) ?_
      have hS : (∀ j u, (tcells x)[j]? = some u → w1.drew.cell? ((p.add ((i : Int).toNat * 3)).add j) = some u) ∧ (∀ j u, (tcells y)[j]? = some u → w1.drew.cell? ((q.add ((i : Int).toNat * 3)).add j) = some u) := ⟨hpc, hqc⟩
      repeat' (first
|(apply O_loadAP (tcells x);eq_refl;eq_refl;(intro _ h;exact h.1);assumption)
|(apply O_loadAP (tcells y);eq_refl;eq_refl;(intro _ h;exact h.2);assumption)
|(apply O_neqV guard43 hne;eq_refl;eq_refl;assumption;all_goals intro _)
|(apply WC_seqK;intro K hK)
|(apply hK;clear hK)
|(apply WC_region)
|(apply WL_nil)
|(apply thenQ_normal)
|(apply thenQ_ret)
|(apply blockQ_ret)
|(apply blockQ_normal)
|(apply WC_ret)
|(apply WC_skip)
|(apply WC_if_true;eq_refl)
|(apply WC_if_false;eq_refl)
|(apply ret1;eq_refl)
|(apply WS_nil)
|(apply WS_next;eq_refl)
|(apply WO_on0;eq_refl)
|(apply O_pv;eq_refl;(first|exact trivial|omega);(first|assumption|exact trivial))
|(apply O_indexP;eq_refl;eq_refl;omega;omega;(first|assumption|exact trivial))
|(apply WL_on0;eq_refl)
|(apply X_pv;eq_refl;first|exact trivial|omega))
      · have e2 : decide (l = m) = false := decide_eq_false fun h => by
          have hxy : x = y := by rw [← hx, ← hy]; simp only [h]
          contradiction
        rw [e2]
        exact ⟨rfl, hC1.dr⟩
      · refine ⟨i + 1, ⟨by first | rfl | (rw [hp]; rfl), by first | rfl | (rw [hq]; rfl), rfl, trivial⟩, ⟨hC1.dr, hlt, ?_⟩, by omega⟩
        have hxy : x = y := by assumption
        rw [h1, h2, heq, hxy]
    · repeat' (first
|(apply WC_seqK;intro K hK)
|(apply hK;clear hK)
|(clear hK;apply hK;clear hK)
|(apply WC_region)
|(apply WL_nil)
|(apply thenQ_normal)
|(apply thenQ_exit)
|(apply blockQ_hit)
|(apply WC_ret)
|(apply WC_exit)
|(apply WC_if_false;eq_refl)
|(apply ret1;eq_refl)
|(apply WL_on0;eq_refl)
|(apply X_pv;eq_refl;first|exact trivial|omega)
|(apply X_cmpF;eq_refl;eq_refl;omega)
|(apply X_len;eq_refl))
      rw [List.take_of_length_le (by omega), List.take_of_length_le (by omega)] at heq
      rw [heq]
      exact ⟨by simp, hC1⟩
  · have e : decide (l = m) = false := decide_eq_false fun h => hlm (by rw [h])
    rw [e]
    repeat' (first
|(apply WC_seqK;intro K hK)
|(apply hK;clear hK)
|(apply WC_region)
|(apply WL_nil)
|(apply thenQ_normal)
|(apply thenQ_ret)
|(apply WC_ret)
|(apply WC_if_true;eq_refl)
|(apply ret1;eq_refl)
|(apply WL_on0;eq_refl)
|(apply X_pv;eq_refl;first|exact trivial|omega)
|(apply X_cmpT;eq_refl;eq_refl;omega)
|(apply X_len;eq_refl))
    exact ⟨rfl, Chg.refl _ _⟩
end SC
end Go.Proofs.YtclihihdgodloaaDoor
end
section
/- trestlebook: symbols, texts, lists: the same? -/
set_option linter.unusedVariables false
set_option linter.unusedSimpArgs false
namespace Go.Proofs.YtclihihdgodloaaDoor
namespace SC
open Go.Proofs Go.Maps
set_option maxRecDepth 100000
theorem row117 : (130 : TypeId) < Tryd.prog.types.size := of_decide_eq_true (by kernel_rfl)
theorem wide117 : (match Tryd.prog.underlying 130 with | some (.array _ _) | some (.struct _) => true | _ => false) = true := by rw [Tryd.underlying130]
theorem keyed117 : Keyed Tryd.prog 130 := Keyed.of_law (deep_law_laid laidOut (m := 2) (by omega) row117 (by kernel_rfl) wide117)
theorem formed117 {a b c : Value} : (Value.agg #[a, b, c]).formed Tryd.prog 130 = true := by
  have : Tryd.prog.cellsOf 130 = 3 := by kernel_rfl
  simp [Value.formed, Tryd.underlying130, this]
def SymFits (s : Sym) : Prop := fit8 s.kind ∧ fit64 s.at_ ∧ s.name.size ≤ 9223372036854775807
theorem key117 {s : Sym} (h : SymFits s) : ∃ l, keyOf Tryd.prog 130 (.agg (scells s).toArray) = some l := by
  have h1 : Tryd.prog.keyType 130 = true := by kernel_rfl
  have h2 : Tryd.prog.cellsOf 130 = 3 := by kernel_rfl
  have h3 : Tryd.prog.cellsOf 3 = 1 := by kernel_rfl
  have h5 : Tryd.prog.cellsOf 5 = 1 := by kernel_rfl
  have h9 : Tryd.prog.cellsOf 9 = 1 := by kernel_rfl
  have h4 : ∃ k, Tryd.prog.types.size = k + 1 := ⟨Tryd.prog.types.size - 1, by have : 0 < Tryd.prog.types.size := of_decide_eq_true (by kernel_rfl); omega⟩
  obtain ⟨k, hk⟩ := h4
  obtain ⟨g1, g2, g3⟩ := h
  unfold keyOf
  rw [Tryd.underlying130]
  simp only [h1, scells, formed117, Bool.and_self, if_true]
  rw [hk]
  have g3' : s.name.size ≤ maxLen := by simp only [maxLen]; omega
  simp [Program.keyLits, Tryd.underlying130, Tryd.underlying3, Tryd.underlying5, Tryd.underlying9, h2, h3, h5, h9, Value.cells, wf8 g1, wf64 g2, g3, g3']
theorem run_neq117 {x y : Sym} (hx : SymFits x) (hy : SymFits y) (w : World) : ∃ r, (Op.equal 130 (.agg (scells x).toArray) (.agg (scells y).toArray)).run Tryd.prog w = .ok r w ∧ (r = true ↔ x = y) := by
  obtain ⟨lx, kx⟩ := key117 hx
  obtain ⟨ly, ky⟩ := key117 hy
  obtain ⟨r, h2, h3⟩ := run_equal_deep (P := Tryd.prog) w (m := 2) (by decide) (k := 130) (by kernel_rfl) wide117 kx ky
  refine ⟨r, h2, h3.trans ⟨fun h => ?_, fun h => ?_⟩⟩
  · have := keyed117.inj kx (by rw [h]; exact ky)
    simp [scells] at this
    cases x; cases y
    simp at this
    simp [this]
  · subst h
    rw [kx] at ky
    exact Option.some.inj ky
theorem guard117 : Tryd.prog.eqGuardType Tryd.prog.depth 130 = false := by kernel_rfl
section
variable {P : Program} {n : Nat} {all rest : List Oper} {K : Env → World → Prop} {S : World → Prop} {r : List (Nat × Bool)} {i : Nat} {e : Env} {w : World} {d : Option Tmp} {ty : TypeId} {x y : Operand} {t t' : TypeId}
theorem O_neqS {a b : ByteArray} (h : ev e x = some (.string a)) (h1 : ev e y = some (.string b)) (hS : S w) (ht : ¬ a = b → WS P n all S K r (push d (.bool true) e) w) (hf : a = b → WS P n all S K r (push d (.bool false) e) w) : OX P n all S K i true r d (.binOp .neq t x y t') ty e w := by
  by_cases hc : a = b
  · exact O_pure (p_neqS h h1 false (by subst hc; simp)) hS (hf hc)
  · refine O_pure (p_neqS h h1 true ?_) hS (ht hc)
    rw [Bool.not_eq_true', beq_eq_false_iff_ne]
    intro hh
    exact hc (by rw [ByteArray.toList_eq, ByteArray.toList_eq] at hh; exact ByteArray.ext (Array.ext' hh))
end
attribute [local irreducible] WC WL WX WS WO OX Does DoesU Enters CV Pure thenQ blockQ retQ Wants retQC
theorem sameSymbols_cv {w : World} {A B : Option Addr} {c d : Nat} {l m : List Sym} (R : RowA w scells 3 A l) (R' : RowA w scells 3 B m) (hl : l.length ≤ 9223372036854775807) (hm : m.length ≤ 9223372036854775807) (hf : ∀ x ∈ l, SymFits x) (hf' : ∀ x ∈ m, SymFits x) :
    CV Tryd.prog 73 [.slice A l.length c, .slice B m.length d] w fun v w' => ∃ b, v = .bool b ∧ (b = true ↔ l = m) ∧ Chg w w' none_ := by
  refine enter 26 [4] Tryd.func73 rfl rfl rfl (by decide) rfl ?_
  by_cases hlm : l.length = m.length
  · have e : (m.length : Int) = l.length := by omega
    repeat' (first
|(apply WC_seqK;intro K hK)
|(apply hK;clear hK)
|(apply WC_block)
|(apply WC_region)
|(apply WL_nil)
|(apply thenQ_normal)
|(apply WC_skip)
|(apply WC_if_false;eq_refl)
|(apply WL_on0;eq_refl)
|(apply X_pv;eq_refl;first|exact trivial|omega)
|(apply X_cmpF;eq_refl;eq_refl;omega)
|(apply X_len;eq_refl))
    refine WC_loop (fun i : Nat => [(0, .slice A l.length c), (1, .slice B m.length d), (5, nu i)]) (fun i W => Chg w W none_ ∧ i ≤ l.length ∧ l.take i = m.take i) (fun i => l.length - i) 0 ⟨rfl, rfl, rfl, trivial⟩ ⟨Chg.refl _ _, Nat.zero_le _, by simp⟩ ?_
    rintro i w1 ⟨hC1, hi, heq⟩
    rcases Nat.lt_or_ge i l.length with hlt | hge
    · have hltm : i < m.length := by omega
      obtain ⟨p, hp, hpc⟩ := (R.chg hC1) i hlt
      obtain ⟨q, hq, hqc⟩ := (R'.chg hC1) i hltm
      have h1 := List.take_succ_eq_append_getElem hlt
      have h2 := List.take_succ_eq_append_getElem hltm
      have hfx := hf _ (List.getElem_mem hlt)
      have hfy := hf' _ (List.getElem_mem hltm)
      rw [hp, hq]
      generalize hx : l[i] = x at *
      generalize hy : m[i] = y at *
      repeat' (first
|(apply WC_seqK;intro K hK)
|(apply hK;clear hK)
|(apply WC_block)
|(apply WC_region)
|(apply WL_nil)
|(apply thenQ_normal)
|(apply WC_skip)
|(apply WC_if_true;eq_refl)
|(apply WL_on0;eq_refl)
|(apply X_pv;eq_refl;first|exact trivial|omega)
|(apply X_cmpT;eq_refl;eq_refl;omega)
|(apply X_len;eq_refl))
      refine WC_draws [(0, true), (1, true), (2, true), (3, true), (4, true), (5, true), (6, true), (7, true), (8, true)] (fun W => (∀ j u, (scells x)[j]? = some u → W.cell? ((p.add ((i : Int).toNat * 3)).add j) = some u) ∧ (∀ j u, (scells y)[j]? = some u → W.cell? ((q.add ((i : Int).toNat * 3)).add j) = some u)) mixed (by kernel_rfl) (by kernel_rfl) ?_
      have hS : (∀ j u, (scells x)[j]? = some u → w1.drew.cell? ((p.add ((i : Int).toNat * 3)).add j) = some u) ∧ (∀ j u, (scells y)[j]? = some u → w1.drew.cell? ((q.add ((i : Int).toNat * 3)).add j) = some u) := ⟨hpc, hqc⟩
      repeat' (first
|(apply O_loadAP (scells x);eq_refl;eq_refl;(intro _ h;exact h.1);assumption)
|(apply O_loadAP (scells y);eq_refl;eq_refl;(intro _ h;exact h.2);assumption)
|(apply O_neqV guard117 (run_neq117 hfx hfy);eq_refl;eq_refl;assumption;all_goals intro _)
|(apply WC_seqK;intro K hK)
|(apply hK;clear hK)
|(apply WC_region)
|(apply WL_nil)
|(apply thenQ_normal)
|(apply thenQ_ret)
|(apply blockQ_ret)
|(apply blockQ_normal)
|(apply WC_ret)
|(apply WC_skip)
|(apply WC_if_true;eq_refl)
|(apply WC_if_false;eq_refl)
|(apply ret1;eq_refl)
|(apply WS_nil)
|(apply WS_next;eq_refl)
|(apply WO_on0;eq_refl)
|(apply O_pv;eq_refl;(first|exact trivial|omega);(first|assumption|exact trivial))
|(apply O_indexP;eq_refl;eq_refl;omega;omega;(first|assumption|exact trivial))
|(apply WL_on0;eq_refl)
|(apply X_pv;eq_refl;first|exact trivial|omega))
      · refine ⟨false, rfl, ?_, hC1.dr⟩
        constructor
        · intro h; cases h
        · intro h
          have hxy : x = y := by rw [← hx, ← hy]; simp only [h]
          contradiction
      · refine ⟨i + 1, ⟨by first | rfl | (rw [hp]; rfl), by first | rfl | (rw [hq]; rfl), rfl, trivial⟩, ⟨hC1.dr, hlt, ?_⟩, by omega⟩
        have hxy : x = y := by assumption
        rw [h1, h2, heq, hxy]
    · repeat' (first
|(apply WC_seqK;intro K hK)
|(apply hK;clear hK)
|(clear hK;apply hK;clear hK)
|(apply WC_region)
|(apply WL_nil)
|(apply thenQ_normal)
|(apply thenQ_exit)
|(apply blockQ_hit)
|(apply WC_ret)
|(apply WC_exit)
|(apply WC_if_false;eq_refl)
|(apply ret1;eq_refl)
|(apply WL_on0;eq_refl)
|(apply X_pv;eq_refl;first|exact trivial|omega)
|(apply X_cmpF;eq_refl;eq_refl;omega)
|(apply X_len;eq_refl))
      rw [List.take_of_length_le (by omega), List.take_of_length_le (by omega)] at heq
      exact ⟨true, rfl, ⟨fun _ => heq, fun _ => rfl⟩, hC1⟩
  · repeat' (first
|(apply WC_seqK;intro K hK)
|(apply hK;clear hK)
|(apply WC_region)
|(apply WL_nil)
|(apply thenQ_normal)
|(apply thenQ_ret)
|(apply WC_ret)
|(apply WC_if_true;eq_refl)
|(apply ret1;eq_refl)
|(apply WL_on0;eq_refl)
|(apply X_pv;eq_refl;first|exact trivial|omega)
|(apply X_cmpT;eq_refl;eq_refl;omega)
|(apply X_len;eq_refl))
    refine ⟨false, rfl, ⟨fun h => (by cases h), fun h => absurd (by rw [h]) hlm⟩, Chg.refl _ _⟩
theorem sameTexts_cv {w : World} {A B : Option Addr} {c d : Nat} {l m : List ByteArray} (R : RowA w bcell 1 A l) (R' : RowA w bcell 1 B m) (hl : l.length ≤ 9223372036854775807) (hm : m.length ≤ 9223372036854775807) :
    CV Tryd.prog 74 [.slice A l.length c, .slice B m.length d] w fun v w' => ∃ b, v = .bool b ∧ (b = true ↔ l = m) ∧ Chg w w' none_ := by
  refine enter 26 [4] Tryd.func74 rfl rfl rfl (by decide) rfl ?_
  by_cases hlm : l.length = m.length
  · have e : (m.length : Int) = l.length := by omega
    repeat' (first
|(apply WC_seqK;intro K hK)
|(apply hK;clear hK)
|(apply WC_block)
|(apply WC_region)
|(apply WL_nil)
|(apply thenQ_normal)
|(apply WC_skip)
|(apply WC_if_false;eq_refl)
|(apply WL_on0;eq_refl)
|(apply X_pv;eq_refl;first|exact trivial|omega)
|(apply X_cmpF;eq_refl;eq_refl;omega)
|(apply X_len;eq_refl))
    refine WC_loop (fun i : Nat => [(0, .slice A l.length c), (1, .slice B m.length d), (5, nu i)]) (fun i W => Chg w W none_ ∧ i ≤ l.length ∧ l.take i = m.take i) (fun i => l.length - i) 0 ⟨rfl, rfl, rfl, trivial⟩ ⟨Chg.refl _ _, Nat.zero_le _, by simp⟩ ?_
    rintro i w1 ⟨hC1, hi, heq⟩
    rcases Nat.lt_or_ge i l.length with hlt | hge
    · have hltm : i < m.length := by omega
      obtain ⟨p, hp, hpc⟩ := (R.chg hC1) i hlt
      obtain ⟨q, hq, hqc⟩ := (R'.chg hC1) i hltm
      have h1 := List.take_succ_eq_append_getElem hlt
      have h2 := List.take_succ_eq_append_getElem hltm
      rw [hp, hq]
      generalize hx : l[i] = x at *
      generalize hy : m[i] = y at *
      repeat' (first
|(apply WC_seqK;intro K hK)
|(apply hK;clear hK)
|(apply WC_block)
|(apply WC_region)
|(apply WL_nil)
|(apply thenQ_normal)
|(apply WC_skip)
|(apply WC_if_true;eq_refl)
|(apply WL_on0;eq_refl)
|(apply X_pv;eq_refl;first|exact trivial|omega)
|(apply X_cmpT;eq_refl;eq_refl;omega)
|(apply X_len;eq_refl))
      refine WC_draws [(0, true), (1, true), (2, true), (3, true), (4, true), (5, true), (6, true), (7, true), (8, true)] (fun W => W.cell? (p.add ((i : Int).toNat * 1)) = some (.string x) ∧ W.cell? (q.add ((i : Int).toNat * 1)) = some (.string y)) mixed (by kernel_rfl) (by kernel_rfl) ?_
      have hS : w1.drew.cell? (p.add ((i : Int).toNat * 1)) = some (.string x) ∧ w1.drew.cell? (q.add ((i : Int).toNat * 1)) = some (.string y) := ⟨hpc 0 (.string x) rfl, hqc 0 (.string y) rfl⟩
      repeat' (first
|(apply O_neqS;eq_refl;eq_refl;assumption;all_goals intro _)
|(apply WC_seqK;intro K hK)
|(apply hK;clear hK)
|(apply WC_region)
|(apply WL_nil)
|(apply thenQ_normal)
|(apply thenQ_ret)
|(apply blockQ_ret)
|(apply blockQ_normal)
|(apply WC_ret)
|(apply WC_skip)
|(apply WC_if_true;eq_refl)
|(apply WC_if_false;eq_refl)
|(apply ret1;eq_refl)
|(apply WS_nil)
|(apply WS_next;eq_refl)
|(apply WO_on0;eq_refl)
|(apply O_pv;eq_refl;(first|exact trivial|omega);(first|assumption|exact trivial))
|(apply O_loadC;eq_refl;(first|(intro _ h;exact h)|(intro _ h;exact h.1)|(intro _ h;exact h.2)|(intro _ h;exact h.2.1)|(intro _ h;exact h.2.2)|(intro _ h;exact h.2.2.1)|(intro _ h;exact h.2.2.2));(first|assumption|exact trivial))
|(apply O_indexP;eq_refl;eq_refl;omega;omega;(first|assumption|exact trivial))
|(apply WL_on0;eq_refl)
|(apply X_pv;eq_refl;first|exact trivial|omega))
      · refine ⟨false, rfl, ?_, hC1.dr⟩
        constructor
        · intro h; cases h
        · intro h
          have hxy : x = y := by rw [← hx, ← hy]; simp only [h]
          contradiction
      · refine ⟨i + 1, ⟨by first | rfl | (rw [hp]; rfl), by first | rfl | (rw [hq]; rfl), rfl, trivial⟩, ⟨hC1.dr, hlt, ?_⟩, by omega⟩
        have hxy : x = y := by assumption
        rw [h1, h2, heq, hxy]
    · repeat' (first
|(apply WC_seqK;intro K hK)
|(apply hK;clear hK)
|(clear hK;apply hK;clear hK)
|(apply WC_region)
|(apply WL_nil)
|(apply thenQ_normal)
|(apply thenQ_exit)
|(apply blockQ_hit)
|(apply WC_ret)
|(apply WC_exit)
|(apply WC_if_false;eq_refl)
|(apply ret1;eq_refl)
|(apply WL_on0;eq_refl)
|(apply X_pv;eq_refl;first|exact trivial|omega)
|(apply X_cmpF;eq_refl;eq_refl;omega)
|(apply X_len;eq_refl))
      rw [List.take_of_length_le (by omega), List.take_of_length_le (by omega)] at heq
      exact ⟨true, rfl, ⟨fun _ => heq, fun _ => rfl⟩, hC1⟩
  · repeat' (first
|(apply WC_seqK;intro K hK)
|(apply hK;clear hK)
|(apply WC_region)
|(apply WL_nil)
|(apply thenQ_normal)
|(apply thenQ_ret)
|(apply WC_ret)
|(apply WC_if_true;eq_refl)
|(apply ret1;eq_refl)
|(apply WL_on0;eq_refl)
|(apply X_pv;eq_refl;first|exact trivial|omega)
|(apply X_cmpT;eq_refl;eq_refl;omega)
|(apply X_len;eq_refl))
    refine ⟨false, rfl, ⟨fun h => (by cases h), fun h => absurd (by rw [h]) hlm⟩, Chg.refl _ _⟩
end SC
end Go.Proofs.YtclihihdgodloaaDoor
end
section
/- trestlebook: SameLists, SameCircuit. -/
set_option linter.unusedVariables false
set_option linter.unusedSimpArgs false
namespace Go.Proofs.YtclihihdgodloaaDoor
namespace SC
open Go.Proofs
attribute [local irreducible] WC WL WX WS WO OX Does DoesU Enters CV Pure thenQ blockQ retQ Wants retQC
set_option maxRecDepth 100000
theorem sameLists_cv {w : World} {A B : Option Addr} {c d : Nat} {l m : List (List Int)} {js ks : Hd} (R : JusAt w A l js) (R' : JusAt w B m ks) (hl : l.length ≤ 9223372036854775807) (hm : m.length ≤ 9223372036854775807)
    (he : ∀ k (hk : k < l.length), RowA w icell 1 (js k).1 l[k]) (he' : ∀ k (hk : k < m.length), RowA w icell 1 (ks k).1 m[k]) (hb : ∀ x ∈ l, x.length ≤ 9223372036854775807) (hb' : ∀ x ∈ m, x.length ≤ 9223372036854775807) :
    CV Tryd.prog 71 [.slice A l.length c, .slice B m.length d] w fun v w' => ∃ b, v = .bool b ∧ (b = true ↔ l = m) ∧ Chg w w' none_ := by
  refine enter 27 [4] Tryd.func71 rfl rfl rfl (by decide) rfl ?_
  by_cases hlm : l.length = m.length
  · have e : (m.length : Int) = l.length := by omega
    repeat' (first
|(apply WC_seqK;intro K hK)
|(apply hK;clear hK)
|(apply WC_block)
|(apply WC_region)
|(apply WL_nil)
|(apply thenQ_normal)
|(apply WC_skip)
|(apply WC_if_false;eq_refl)
|(apply WL_on0;eq_refl)
|(apply X_pv;eq_refl;first|exact trivial|omega)
|(apply X_cmpF;eq_refl;eq_refl;omega)
|(apply X_len;eq_refl))
    refine WC_loop (fun i : Nat => [(0, .slice A l.length c), (1, .slice B m.length d), (5, nu i)]) (fun i W => Chg w W none_ ∧ i ≤ l.length ∧ l.take i = m.take i) (fun i => l.length - i) 0 ⟨rfl, rfl, rfl, trivial⟩ ⟨Chg.refl _ _, Nat.zero_le _, by simp⟩ ?_
    rintro i w1 ⟨hC1, hi, heq⟩
    rcases Nat.lt_or_ge i l.length with hlt | hge
    · have hltm : i < m.length := by omega
      obtain ⟨p, hp, hpc⟩ := R i hlt
      obtain ⟨q, hq, hqc⟩ := R' i hltm
      have h1 := List.take_succ_eq_append_getElem hlt
      have h2 := List.take_succ_eq_append_getElem hltm
      have hsi := sameInts_cv (c := (js i).2) (d := (ks i).2) ((he i hlt).chg hC1.dr) ((he' i hltm).chg hC1.dr) (hb _ (List.getElem_mem hlt)) (hb' _ (List.getElem_mem hltm))
      rw [hp, hq]
      generalize hx : l[i] = x at *
      generalize hy : m[i] = y at *
      repeat' (first
|(apply WC_seqK;intro K hK)
|(apply hK;clear hK)
|(apply WC_block)
|(apply WC_region)
|(apply WL_nil)
|(apply thenQ_normal)
|(apply WC_skip)
|(apply WC_if_true;eq_refl)
|(apply WL_on0;eq_refl)
|(apply X_pv;eq_refl;first|exact trivial|omega)
|(apply X_cmpT;eq_refl;eq_refl;omega)
|(apply X_len;eq_refl))
      refine WC_draws [(0, true), (1, true), (2, true), (3, true), (4, true), (5, true), (6, true), (7, true), (8, false), (9, true)] (fun W => W.cell? (p.add ((i : Int).toNat * 1)) = some (.slice (js i).1 x.length (js i).2) ∧ W.cell? (q.add ((i : Int).toNat * 1)) = some (.slice (ks i).1 y.length (ks i).2)) mixed (by kernel_rfl) (by kernel_rfl) ?_
      have hS : w1.drew.cell? (p.add ((i : Int).toNat * 1)) = some (.slice (js i).1 x.length (js i).2) ∧ w1.drew.cell? (q.add ((i : Int).toNat * 1)) = some (.slice (ks i).1 y.length (ks i).2) := ⟨cel_chg hpc hC1.dr id, cel_chg hqc hC1.dr id⟩
      repeat' (first
|(apply O_fn;eq_refl;exact hsi;rintro _ w3 ⟨rfl, hC3⟩;have hS3 : w3.cell? (p.add ((i : Int).toNat * 1)) = some (.slice (js i).1 x.length (js i).2) ∧ w3.cell? (q.add ((i : Int).toNat * 1)) = some (.slice (ks i).1 y.length (ks i).2) := ⟨cel_chg hS.1 hC3 id, cel_chg hS.2 hC3 id⟩;refine ⟨fun _ => hS3, ?_⟩)
|(apply hK;clear hK)
|(apply thenQ_normal)
|(apply WS_nil)
|(apply WS_next;eq_refl)
|(apply WO_on0;eq_refl)
|(apply O_pv;eq_refl;(first|exact trivial|omega);(first|assumption|exact trivial))
|(apply O_loadC;eq_refl;(first|(intro _ h;exact h)|(intro _ h;exact h.1)|(intro _ h;exact h.2)|(intro _ h;exact h.2.1)|(intro _ h;exact h.2.2)|(intro _ h;exact h.2.2.1)|(intro _ h;exact h.2.2.2));(first|assumption|exact trivial))
|(apply O_indexP;eq_refl;eq_refl;omega;omega;(first|assumption|exact trivial)))
      have hC4 : Chg w w3 none_ := hC1.dr.trans hC3 fun _ _ h => h
      by_cases hxy : x = y
      · rw [decide_eq_true hxy]
        repeat' (first
|(apply hK;clear hK)
|(apply WC_region)
|(apply WL_nil)
|(apply thenQ_normal)
|(apply blockQ_normal)
|(apply WC_skip)
|(apply WC_if_false;eq_refl)
|(apply WL_on0;eq_refl)
|(apply X_pv;eq_refl;first|exact trivial|omega))
        exact ⟨i + 1, ⟨by first | rfl | (rw [hp]; rfl), by first | rfl | (rw [hq]; rfl), rfl, trivial⟩, ⟨hC4, hlt, by rw [h1, h2, heq, hxy]⟩, by omega⟩
      · rw [decide_eq_false hxy]
        repeat' (first
|(apply WC_seqK;intro K hK)
|(apply hK;clear hK)
|(apply WC_region)
|(apply WL_nil)
|(apply thenQ_normal)
|(apply thenQ_ret)
|(apply blockQ_ret)
|(apply WC_ret)
|(apply WC_if_true;eq_refl)
|(apply ret1;eq_refl)
|(apply WL_on0;eq_refl)
|(apply X_pv;eq_refl;first|exact trivial|omega))
        refine ⟨false, rfl, ⟨fun h => (by cases h), fun h => absurd ?_ hxy⟩, hC4⟩
        rw [← hx, ← hy]; simp only [h]
    · repeat' (first
|(apply WC_seqK;intro K hK)
|(apply hK;clear hK)
|(clear hK;apply hK;clear hK)
|(apply WC_region)
|(apply WL_nil)
|(apply thenQ_normal)
|(apply thenQ_exit)
|(apply blockQ_hit)
|(apply WC_ret)
|(apply WC_exit)
|(apply WC_if_false;eq_refl)
|(apply ret1;eq_refl)
|(apply WL_on0;eq_refl)
|(apply X_pv;eq_refl;first|exact trivial|omega)
|(apply X_cmpF;eq_refl;eq_refl;omega)
|(apply X_len;eq_refl))
      rw [List.take_of_length_le (by omega), List.take_of_length_le (by omega)] at heq
      exact ⟨true, rfl, ⟨fun _ => heq, fun _ => rfl⟩, hC1⟩
  · repeat' (first
|(apply WC_seqK;intro K hK)
|(apply hK;clear hK)
|(apply WC_region)
|(apply WL_nil)
|(apply thenQ_normal)
|(apply thenQ_ret)
|(apply WC_ret)
|(apply WC_if_true;eq_refl)
|(apply ret1;eq_refl)
|(apply WL_on0;eq_refl)
|(apply X_pv;eq_refl;first|exact trivial|omega)
|(apply X_cmpT;eq_refl;eq_refl;omega)
|(apply X_len;eq_refl))
    refine ⟨false, rfl, ⟨fun h => (by cases h), fun h => absurd (by rw [h]) hlm⟩, Chg.refl _ _⟩
/-- The numbers and texts of a circuit fit. -/
structure Circ.Okay (c : Circ) : Prop where
  lens : ∀ n ∈ c.lens, n ≤ 9223372036854775807
  just : ∀ l ∈ c.justice, l.length ≤ 9223372036854775807
  latches : ∀ x ∈ c.latches, TriFits x
  ands : ∀ x ∈ c.ands, TriFits x
  symbols : ∀ x ∈ c.symbols, SymFits x
theorem Circ.same {c d : Circ} (h0 : c.max = d.max) (h1 : c.inputs = d.inputs) (h2 : c.latches = d.latches) (h3 : c.outputs = d.outputs) (h4 : c.bads = d.bads) (h5 : c.constraints = d.constraints) (h6 : c.justice = d.justice) (h7 : c.fairness = d.fairness) (h8 : c.ands = d.ands) (h9 : c.symbols = d.symbols) (h10 : c.comments = d.comments) : c = d := by
  cases c; cases d
  simp at h0 h1 h2 h3 h4 h5 h6 h7 h8 h9 h10
  simp [h0, h1, h2, h3, h4, h5, h6, h7, h8, h9, h10]
theorem CV.boolI {f : FuncId} {args : List Value} {w : World} {α : Type} {l m : α} [Decidable (l = m)] (h : CV Tryd.prog f args w fun v w' => v = .bool (decide (l = m)) ∧ Chg w w' none_) : CV Tryd.prog f args w fun v w' => ∃ b, v = .bool b ∧ (b = true ↔ l = m) ∧ Chg w w' none_ :=
  h.mono fun v w' hv => ⟨_, hv.1, by simp, hv.2⟩
theorem sameCircuit_cv {w : World} {c d : Circ} {h k js ks : Hd} (H : CirAt w c h js) (H' : CirAt w d k ks) (hc : c.Okay) (hd : d.Okay) : CV Tryd.prog 47 [.agg (ccells c h).toArray, .agg (ccells d k).toArray] w fun v w' => ∃ b, v = .bool b ∧ (b = true ↔ c = d) ∧ Chg w w' none_ := by
  have hC0 : Chg w ((w.alloc (.cells (ccells c h).toArray 29)).alloc (.cells (ccells d k).toArray 29)) none_ := (Chg.alloc w _ none_).al _
  have hA : ∀ W, Chg ((w.alloc (.cells (ccells c h).toArray 29)).alloc (.cells (ccells d k).toArray 29)) W none_ → Blk W w.heap.size 29 (ccells c h) := fun W hW => (Blk.alloc _ (Blk.new w _ _)).chg hW id
  have hB : ∀ W, Chg ((w.alloc (.cells (ccells c h).toArray 29)).alloc (.cells (ccells d k).toArray 29)) W none_ → Blk W (w.alloc (.cells (ccells c h).toArray 29)).heap.size 29 (ccells d k) := fun W hW => (Blk.new (w.alloc (.cells (ccells c h).toArray 29)) (ccells d k) 29).chg hW id
  have hr := Chg.refl ((w.alloc (.cells (ccells c h).toArray 29)).alloc (.cells (ccells d k).toArray 29)) none_
  have lc : ∀ n : Nat, (n : Int) ∈ c.lens → n ≤ 9223372036854775807 := fun n hn => by have := hc.lens _ hn; omega
  have ld : ∀ n : Nat, (n : Int) ∈ d.lens → n ≤ 9223372036854775807 := fun n hn => by have := hd.lens _ hn; omega
  have s1 : ∀ W, Chg ((w.alloc (.cells (ccells c h).toArray 29)).alloc (.cells (ccells d k).toArray 29)) W none_ → CV Tryd.prog 14 [.slice (h 1).1 c.inputs.length (h 1).2, .slice (k 1).1 d.inputs.length (k 1).2] W fun v w' => ∃ b, v = .bool b ∧ (b = true ↔ c.inputs = d.inputs) ∧ Chg W w' none_ := fun W hW =>
    (sameInts_cv ((H.chg hC0).chg hW).inputs ((H'.chg hC0).chg hW).inputs (lc _ (by simp [Circ.lens])) (ld _ (by simp [Circ.lens]))).boolI
  have s2 : ∀ W, Chg ((w.alloc (.cells (ccells c h).toArray 29)).alloc (.cells (ccells d k).toArray 29)) W none_ → CV Tryd.prog 70 [.slice (h 2).1 c.latches.length (h 2).2, .slice (k 2).1 d.latches.length (k 2).2] W fun v w' => ∃ b, v = .bool b ∧ (b = true ↔ c.latches = d.latches) ∧ Chg W w' none_ := fun W hW =>
    (sameLatches_cv ((H.chg hC0).chg hW).latches ((H'.chg hC0).chg hW).latches (lc _ (by simp [Circ.lens])) (ld _ (by simp [Circ.lens])) hc.latches hd.latches).boolI
  have s3 : ∀ W, Chg ((w.alloc (.cells (ccells c h).toArray 29)).alloc (.cells (ccells d k).toArray 29)) W none_ → CV Tryd.prog 14 [.slice (h 3).1 c.outputs.length (h 3).2, .slice (k 3).1 d.outputs.length (k 3).2] W fun v w' => ∃ b, v = .bool b ∧ (b = true ↔ c.outputs = d.outputs) ∧ Chg W w' none_ := fun W hW =>
    (sameInts_cv ((H.chg hC0).chg hW).outputs ((H'.chg hC0).chg hW).outputs (lc _ (by simp [Circ.lens])) (ld _ (by simp [Circ.lens]))).boolI
  have s4 : ∀ W, Chg ((w.alloc (.cells (ccells c h).toArray 29)).alloc (.cells (ccells d k).toArray 29)) W none_ → CV Tryd.prog 14 [.slice (h 4).1 c.bads.length (h 4).2, .slice (k 4).1 d.bads.length (k 4).2] W fun v w' => ∃ b, v = .bool b ∧ (b = true ↔ c.bads = d.bads) ∧ Chg W w' none_ := fun W hW =>
    (sameInts_cv ((H.chg hC0).chg hW).bads ((H'.chg hC0).chg hW).bads (lc _ (by simp [Circ.lens])) (ld _ (by simp [Circ.lens]))).boolI
  have s5 : ∀ W, Chg ((w.alloc (.cells (ccells c h).toArray 29)).alloc (.cells (ccells d k).toArray 29)) W none_ → CV Tryd.prog 14 [.slice (h 5).1 c.constraints.length (h 5).2, .slice (k 5).1 d.constraints.length (k 5).2] W fun v w' => ∃ b, v = .bool b ∧ (b = true ↔ c.constraints = d.constraints) ∧ Chg W w' none_ := fun W hW =>
    (sameInts_cv ((H.chg hC0).chg hW).constraints ((H'.chg hC0).chg hW).constraints (lc _ (by simp [Circ.lens])) (ld _ (by simp [Circ.lens]))).boolI
  have s6 : ∀ W, Chg ((w.alloc (.cells (ccells c h).toArray 29)).alloc (.cells (ccells d k).toArray 29)) W none_ → CV Tryd.prog 71 [.slice (h 6).1 c.justice.length (h 6).2, .slice (k 6).1 d.justice.length (k 6).2] W fun v w' => ∃ b, v = .bool b ∧ (b = true ↔ c.justice = d.justice) ∧ Chg W w' none_ := fun W hW =>
    sameLists_cv ((H.chg hC0).chg hW).justice ((H'.chg hC0).chg hW).justice (lc _ (by simp [Circ.lens])) (ld _ (by simp [Circ.lens])) ((H.chg hC0).chg hW).each ((H'.chg hC0).chg hW).each hc.just hd.just
  have s7 : ∀ W, Chg ((w.alloc (.cells (ccells c h).toArray 29)).alloc (.cells (ccells d k).toArray 29)) W none_ → CV Tryd.prog 14 [.slice (h 7).1 c.fairness.length (h 7).2, .slice (k 7).1 d.fairness.length (k 7).2] W fun v w' => ∃ b, v = .bool b ∧ (b = true ↔ c.fairness = d.fairness) ∧ Chg W w' none_ := fun W hW =>
    (sameInts_cv ((H.chg hC0).chg hW).fairness ((H'.chg hC0).chg hW).fairness (lc _ (by simp [Circ.lens])) (ld _ (by simp [Circ.lens]))).boolI
  have s8 : ∀ W, Chg ((w.alloc (.cells (ccells c h).toArray 29)).alloc (.cells (ccells d k).toArray 29)) W none_ → CV Tryd.prog 72 [.slice (h 8).1 c.ands.length (h 8).2, .slice (k 8).1 d.ands.length (k 8).2] W fun v w' => ∃ b, v = .bool b ∧ (b = true ↔ c.ands = d.ands) ∧ Chg W w' none_ := fun W hW =>
    (sameAnds_cv ((H.chg hC0).chg hW).ands ((H'.chg hC0).chg hW).ands (lc _ (by simp [Circ.lens])) (ld _ (by simp [Circ.lens])) hc.ands hd.ands).boolI
  have s9 : ∀ W, Chg ((w.alloc (.cells (ccells c h).toArray 29)).alloc (.cells (ccells d k).toArray 29)) W none_ → CV Tryd.prog 73 [.slice (h 9).1 c.symbols.length (h 9).2, .slice (k 9).1 d.symbols.length (k 9).2] W fun v w' => ∃ b, v = .bool b ∧ (b = true ↔ c.symbols = d.symbols) ∧ Chg W w' none_ := fun W hW =>
    sameSymbols_cv ((H.chg hC0).chg hW).symbols ((H'.chg hC0).chg hW).symbols (lc _ (by simp [Circ.lens])) (ld _ (by simp [Circ.lens])) hc.symbols hd.symbols
  have s10 : ∀ W, Chg ((w.alloc (.cells (ccells c h).toArray 29)).alloc (.cells (ccells d k).toArray 29)) W none_ → CV Tryd.prog 74 [.slice (h 10).1 c.comments.length (h 10).2, .slice (k 10).1 d.comments.length (k 10).2] W fun v w' => ∃ b, v = .bool b ∧ (b = true ↔ c.comments = d.comments) ∧ Chg W w' none_ := fun W hW =>
    sameTexts_cv ((H.chg hC0).chg hW).comments ((H'.chg hC0).chg hW).comments (lc _ (by simp [Circ.lens])) (ld _ (by simp [Circ.lens]))
  refine enter 84 [4] Tryd.func47 rfl rfl rfl (by decide) rfl ?_
  repeat' (first
|(apply X_loadR;eq_refl;(apply hA;assumption);eq_refl)
|(apply X_loadR;eq_refl;(apply hB;assumption);eq_refl)
|(apply X_fn;eq_refl;(first|(apply s1;assumption)|(apply s2;assumption)|(apply s3;assumption)|(apply s4;assumption)|(apply s5;assumption)|(apply s6;assumption)|(apply s7;assumption)|(apply s8;assumption)|(apply s9;assumption)|(apply s10;assumption));rintro _ W ⟨b, rfl, hb, hE⟩;have hD := Chg.trans (by assumption) hE (fun _ _ h => h);cases b)
|(apply WC_seqK;intro K hK)
|(apply hK;clear hK)
|(apply WC_region)
|(apply WL_nil)
|(apply thenQ_normal)
|(apply WC_ret)
|(apply ret1;eq_refl)
|(apply WL_on0;eq_refl)
|(apply WL_onG;eq_refl;eq_refl;eq_refl;eq_refl)
|(apply WL_noG;eq_refl;eq_refl;eq_refl;eq_refl)
|(apply X_pv;eq_refl;first|exact trivial|omega)
|(apply X_field;eq_refl)
|(apply X_cmp;eq_refl;eq_refl;all_goals intro _)
|(apply X_box;eq_refl))
  all_goals
    first
    | exact ⟨true, rfl, ⟨fun _ => Circ.same (by assumption) ((by assumption : true = true ↔ c.inputs = d.inputs).1 rfl) ((by assumption : true = true ↔ c.latches = d.latches).1 rfl) ((by assumption : true = true ↔ c.outputs = d.outputs).1 rfl) ((by assumption : true = true ↔ c.bads = d.bads).1 rfl) ((by assumption : true = true ↔ c.constraints = d.constraints).1 rfl) ((by assumption : true = true ↔ c.justice = d.justice).1 rfl) ((by assumption : true = true ↔ c.fairness = d.fairness).1 rfl) ((by assumption : true = true ↔ c.ands = d.ands).1 rfl) ((by assumption : true = true ↔ c.symbols = d.symbols).1 rfl) ((by assumption : true = true ↔ c.comments = d.comments).1 rfl), fun _ => rfl⟩, hC0.trans (by assumption) fun _ _ h => h⟩
    | refine ⟨false, rfl, ⟨fun h => (by cases h), fun hcd => ?_⟩, hC0.trans (by assumption) fun _ _ h => h⟩
      first
      | exact absurd (congrArg Circ.max hcd) (by assumption)
      | exact absurd ((by assumption : false = true ↔ c.inputs = d.inputs).2 (congrArg Circ.inputs hcd)) (by decide)
      | exact absurd ((by assumption : false = true ↔ c.latches = d.latches).2 (congrArg Circ.latches hcd)) (by decide)
      | exact absurd ((by assumption : false = true ↔ c.outputs = d.outputs).2 (congrArg Circ.outputs hcd)) (by decide)
      | exact absurd ((by assumption : false = true ↔ c.bads = d.bads).2 (congrArg Circ.bads hcd)) (by decide)
      | exact absurd ((by assumption : false = true ↔ c.constraints = d.constraints).2 (congrArg Circ.constraints hcd)) (by decide)
      | exact absurd ((by assumption : false = true ↔ c.justice = d.justice).2 (congrArg Circ.justice hcd)) (by decide)
      | exact absurd ((by assumption : false = true ↔ c.fairness = d.fairness).2 (congrArg Circ.fairness hcd)) (by decide)
      | exact absurd ((by assumption : false = true ↔ c.ands = d.ands).2 (congrArg Circ.ands hcd)) (by decide)
      | exact absurd ((by assumption : false = true ↔ c.symbols = d.symbols).2 (congrArg Circ.symbols hcd)) (by decide)
      | exact absurd ((by assumption : false = true ↔ c.comments = d.comments).2 (congrArg Circ.comments hcd)) (by decide)
end SC
end Go.Proofs.YtclihihdgodloaaDoor
end
section
/- trestlebook: KeptInts, SpoilInts; names. -/
set_option linter.unusedVariables false
set_option linter.unusedSimpArgs false
namespace Go.Proofs.YtclihihdgodloaaDoor
namespace SC
open Go.Proofs
attribute [local irreducible] WC WL WX WS WO OX Does DoesU Enters CV Pure thenQ blockQ retQ Wants retQC
set_option maxRecDepth 100000
theorem RowA.left {α : Type} {w : World} {enc : α → List Value} {sz : Nat} {A : Option Addr} {l m : List α} (h : RowA w enc sz A (l ++ m)) : RowA w enc sz A l := fun k hk => by
  obtain ⟨p, h1, h2⟩ := h k (by simp; omega)
  refine ⟨p, h1, fun j u hj => h2 j u ?_⟩
  rwa [List.getElem_append_left hk]
theorem keptInts_cv {w : World} {A B : Option Addr} {c d : Nat} {l : List Int} (R : RowA w icell 1 A (l ++ [-77])) (hc : l.length + 1 ≤ c) (R' : RowA w icell 1 B l) (hl : l.length + 1 ≤ 9223372036854775807) :
    CV Tryd.prog 17 [.slice A l.length c, .slice B l.length d] w fun v w' => v = .bool true ∧ Chg w w' none_ := by
  have hsi := sameInts_cv (c := c) (d := d) R.left R' (by omega) (by omega)
  rw [decide_eq_true rfl] at hsi
  refine enter 20 [4] Tryd.func17 rfl rfl rfl (by decide) rfl ?_
  obtain ⟨p, hp, hpc⟩ := R.one (k := l.length) (by simp) (v := nu (-77)) (by simp [icell])
  rw [hp] at hsi ⊢
  repeat' (first
|(apply X_fn;eq_refl;exact hsi;rintro _ w1 ⟨rfl, hC1⟩;have hpc1 := cel_chg hpc hC1 id)
|(apply X_sliceTo;eq_refl;eq_refl;omega;omega)
|(apply WC_seqK;intro K hK)
|(apply hK;clear hK)
|(apply WC_region)
|(apply WL_nil)
|(apply thenQ_normal)
|(apply WC_ret)
|(apply ret1;eq_refl)
|(apply WL_on0;eq_refl)
|(apply WL_onG;eq_refl;eq_refl;eq_refl;eq_refl)
|(apply X_pv;eq_refl;first|exact trivial|omega)
|(apply X_loadC;eq_refl;(first|assumption|(apply cel;first|assumption|(apply cel;assumption))))
|(apply X_cmpT;eq_refl;eq_refl;omega)
|(apply X_len;eq_refl)
|(apply X_indexP;eq_refl;eq_refl;omega;omega))
  exact ⟨rfl, hC1⟩
theorem spoilInts_cv {w : World} {g n c : Nat} {cur : List Value} {mark : Int} (hB : Blk w g 3 cur) (hn : n ≤ c) (hc : c = cur.length) (hm : c ≤ 9223372036854775807) :
    CV Tryd.prog 15 [.slice (some ⟨g, 0, none⟩) n c, nu mark] w fun v w' => Chg w w' (fun k => k = g) := by
  refine enter 29 [] Tryd.func15 rfl rfl rfl (by decide) rfl ?_
  repeat' (first
|(apply WC_seqK;intro K hK)
|(apply hK;clear hK)
|(apply WC_block)
|(apply WC_region)
|(apply WL_nil)
|(apply thenQ_normal)
|(apply WL_on0;eq_refl)
|(apply X_pv;eq_refl;first|exact trivial|omega))
  refine WC_loop (fun s : Nat × List Value => [(0, .slice (some ⟨g, 0, none⟩) n c), (1, nu mark), (4, nu s.1)]) (fun s W => Chg w W (fun k => k = g) ∧ s.1 ≤ n ∧ Blk W g 3 s.2 ∧ s.2.length = c) (fun s => n - s.1) (0, cur) ⟨rfl, rfl, rfl, trivial⟩ ⟨Chg.refl _ _, Nat.zero_le _, hB, hc.symm⟩ ?_
  rintro ⟨i, cu⟩ w1 ⟨hC1, hi, hB1, hl1⟩
  simp only at hi hB1 hl1
  rcases Nat.lt_or_ge i n with hlt | hge
  · repeat' (first
|(apply WC_seqK;intro K hK)
|(apply hK;clear hK)
|(apply WC_block)
|(apply WC_region)
|(apply WL_nil)
|(apply thenQ_normal)
|(apply WC_skip)
|(apply WC_if_true;eq_refl)
|(apply WL_on0;eq_refl)
|(apply X_pv;eq_refl;first|exact trivial|omega)
|(apply X_cmpT;eq_refl;eq_refl;omega)
|(apply X_len;eq_refl)
|(apply X_index;eq_refl;eq_refl;omega;omega))
    refine X_doesU (does_store1 (t1 := 3) (b := g) (o := 0 + (i : Int).toNat * 1) (v := nu mark) (by eq_refl) (by eq_refl) hB1 (by omega) rfl rfl) ?_
    have hc2 : Chg w1 (w1.setRow g (cu.set (0 + (i : Int).toNat * 1) (nu mark)).toArray) (fun k => k = g) := Chg.setRow _ _ _ rfl
    have hr2 := hB1.set (cu.set (0 + (i : Int).toNat * 1) (nu mark))
    repeat' (first
|(apply hK;clear hK)
|(apply WC_region)
|(apply WL_nil)
|(apply thenQ_normal)
|(apply blockQ_normal)
|(apply WL_on0;eq_refl)
|(apply X_pv;eq_refl;first|exact trivial|omega))
    exact ⟨(i + 1, cu.set (0 + (i : Int).toNat * 1) (nu mark)), ⟨rfl, rfl, rfl, trivial⟩, ⟨hC1.trans hc2 fun _ _ h => h, hlt, hr2, by simpa using hl1⟩, by simp only; omega⟩
  · rcases Nat.lt_or_ge n c with hnc | hnc
    · repeat' (first
|(apply X_sliceTo;eq_refl;eq_refl;omega;omega)
|(apply WC_seqK;intro K hK)
|(apply hK;clear hK)
|(clear hK;apply hK;clear hK)
|(apply WC_region)
|(apply WL_nil)
|(apply thenQ_normal)
|(apply thenQ_exit)
|(apply blockQ_hit)
|(apply WC_exit)
|(apply WC_if_true;eq_refl)
|(apply WC_if_false;eq_refl)
|(apply WL_on0;eq_refl)
|(apply X_pv;eq_refl;first|exact trivial|omega)
|(apply X_cmpT;eq_refl;eq_refl;omega)
|(apply X_cmpF;eq_refl;eq_refl;omega)
|(apply X_len;eq_refl)
|(apply X_index;eq_refl;eq_refl;omega;omega)
|(apply X_cap;eq_refl))
      refine X_doesU (does_store1 (t1 := 3) (b := g) (o := 0 + (n : Int).toNat * 1) (v := nu mark) (by eq_refl) (by eq_refl) hB1 (by omega) rfl rfl) ?_
      have hc2 : Chg w1 (w1.setRow g (cu.set (0 + (n : Int).toNat * 1) (nu mark)).toArray) (fun k => k = g) := Chg.setRow _ _ _ rfl
      repeat' (first
|(apply WL_nil)
|(apply ret0n))
      exact hC1.trans hc2 fun _ _ h => h
    · repeat' (first
|(apply WC_seqK;intro K hK)
|(apply hK;clear hK)
|(clear hK;apply hK;clear hK)
|(apply WC_region)
|(apply WL_nil)
|(apply thenQ_normal)
|(apply thenQ_exit)
|(apply blockQ_hit)
|(apply WC_exit)
|(apply WC_skip)
|(apply WC_if_false;eq_refl)
|(apply ret0n)
|(apply WL_on0;eq_refl)
|(apply X_pv;eq_refl;first|exact trivial|omega)
|(apply X_cmpF;eq_refl;eq_refl;omega)
|(apply X_len;eq_refl)
|(apply X_cap;eq_refl))
      exact hC1
theorem spoilNil_cv {w : World} {mark : Int} :
    CV Tryd.prog 15 [.slice none 0 0, nu mark] w fun v w' => Chg w w' none_ := by
  refine enter 29 [] Tryd.func15 rfl rfl rfl (by decide) rfl ?_
  repeat' (first
|(apply WC_seqK;intro K hK)
|(apply hK;clear hK)
|(apply WC_block)
|(apply WC_region)
|(apply WL_nil)
|(apply thenQ_normal)
|(apply WL_on0;eq_refl)
|(apply X_pv;eq_refl;first|exact trivial|omega))
  refine WC_loop (fun s : Nat => [(0, .slice none 0 0), (1, nu mark), (4, nu s)]) (fun s W => Chg w W none_ ∧ s = 0) (fun s => s) 0 ⟨rfl, rfl, rfl, trivial⟩ ⟨Chg.refl _ _, rfl⟩ ?_
  rintro i w1 ⟨hC1, rfl⟩
  repeat' (first
|(apply WC_seqK;intro K hK)
|(apply hK;clear hK)
|(clear hK;apply hK;clear hK)
|(apply WC_region)
|(apply WL_nil)
|(apply thenQ_normal)
|(apply thenQ_exit)
|(apply blockQ_hit)
|(apply WC_exit)
|(apply WC_skip)
|(apply WC_if_false;eq_refl)
|(apply ret0n)
|(apply WL_on0;eq_refl)
|(apply X_pv;eq_refl;first|exact trivial|omega)
|(apply X_cmpF;eq_refl;eq_refl;omega)
|(apply X_len;eq_refl)
|(apply X_cap;eq_refl))
  exact hC1
theorem spoil_cv {w : World} {base n : Nat} {v : Value} {xs : List Value} {mark : Int} (h : w.ownsRow base 3 1 v n xs) : CV Tryd.prog 15 [v, nu mark] w fun u w' => Chg w w' (fun k => v.ownBlock = some k) := by
  rcases h.2 with ⟨rfl, rfl⟩ | ⟨g, cap, cur, rfl, hb, hg, hc, hm, hs, ht⟩
  · exact spoilNil_cv.mono fun _ _ h => h.mono fun _ h => h.elim
  · have hB : Blk w g 3 cur.toList := by simpa [Blk] using hg
    refine (spoilInts_cv (mark := mark) hB hc (by simp [hs]) (by simpa [maxLen] using hm)).mono fun _ _ h => h.mono fun k h => ?_
    subst h; rfl
end SC
end Go.Proofs.YtclihihdgodloaaDoor
end
section
/- trestlebook: CopyCircuit. -/
set_option linter.unusedVariables false
set_option linter.unusedSimpArgs false
namespace Go.Proofs.YtclihihdgodloaaDoor
namespace SC
open Go.Proofs
section
variable {P : Program} {d : Option Tmp} {op : Op} {ty : TypeId} {pos : String} {af : Array Edge} {g : Option (Nat × Bool)} {e : Env} {w : World} {R : Value → World → Prop}
theorem Ex.pure {v : Value} (h : Pure P op ty e v) (hr : R v w) : Ex P ⟨d, op, ty, pos, af, g⟩ e w R := .inl ⟨v, w, h w, hr⟩
theorem Ex.does {v : Value} {w' : World} (h : Does P op ty e w v w') (hr : R v w') : Ex P ⟨d, op, ty, pos, af, g⟩ e w R := .inl ⟨v, w', h, hr⟩
theorem Ex.doesU {w' : World} (h : DoesU P op ty e w w') (hr : R undef w') : Ex P ⟨d, op, ty, pos, af, g⟩ e w R := .inr (.inr ⟨w', h, hr⟩)
theorem Ex.fn {f : FuncId} [F : Go.Proofs.YtclihihdgodloaaDoor.SC.Fn P f] {args : Array Operand} {ats : Array TypeId} {vs : List Value} {R' : Value → World → Prop} (h : evs e args.toList = some vs) (hc : CV P f vs w R') (hr : ∀ v w', R' v w' → R v w') :
    Ex P ⟨d, .call { callee := .value (.func f), args := args, argTypes := ats }, ty, pos, af, g⟩ e w R := .inr (.inl ⟨f, vs, enters (evs_map h), hc.mono hr⟩)
theorem evv {x : Operand} {v u : Value} (h : ev e x = some v) (hv : v = u) : ev e x = some u := hv ▸ h
theorem evv1 {x : Operand} {v u : Value} (h : evs e [x] = some [v]) (hv : v = u) : evs e [x] = some [u] := hv ▸ h
theorem Ex.appendE {x y : Operand} {t t0 : TypeId} {td : TypeDesc} {sz by_ : Nat} {zv : Value} {ag : Bool} {b cp n : Nat} {A : Option Addr} {news : List Value} {base : Nat} {vx vy : Value} [U : Ty P t (.slice t0) 1 (.slice none 0 0) 24 false] [T : Ty P t0 td sz zv by_ ag]
    (hx : ev e x = some vx) (hy : ev e y = some vy) (h : vx = .slice (some ⟨b, 0, none⟩) 0 0) (h1 : vy = .slice A n cp) (hb : Blk w b t0 []) (hbb : base ≤ b)
    (hzs : zv.cells.size = sz) (hsz : 0 < sz) (hl : news.length = n * sz) (hA : A = none → n = 0 ∧ cp = 0) (hc : ∀ p, A = some p → ∀ j u, news[j]? = some u → w.cell? (p.add j) = some u) (hby : n * by_ ≤ 140737488355328) (hby1 : 1 ≤ by_) (hr : ∀ v' w', w'.ownsRow base t0 sz v' n news → Chg w w' none_ → R v' w') :
    Ex P ⟨d, .call { callee := .builtin .append, args := #[x, y], argTypes := #[t, t] }, ty, pos, af, g⟩ e w R := by
  obtain ⟨v', w', hd, h2, h3⟩ := does_appendE (P := P) (ty := ty) (t := t) (sz := sz) (zv := zv) (by_ := by_) (evv hx h) (evv hy h1) hb hbb hzs hsz hl hA hc hby hby1
  exact .inl ⟨v', w', hd, hr _ _ h2 h3⟩
end
/-- Where there is no row there is no room. -/
def Nils (h js : Hd) : Prop := (∀ i, (h i).1 = none → (h i).2 = 0) ∧ ∀ i, (js i).1 = none → (js i).2 = 0
/-- A circuit of own rows, not told to be apart. -/
def CirHas (w : World) (base : Nat) (c : Circ) (h js : Hd) : Prop := ∀ i, (cirRows c h js js c.justice.length i).own w base
theorem CirHas.chg {w w' : World} {base : Nat} {c : Circ} {h js : Hd} (H : CirHas w base c h js) (hc : Chg w w' none_) : CirHas w' base c h js := fun i => own_chg (H i) hc fun _ _ => id

def cpDs : Nat → List Nat
  | 1 => [0]
  | 3 => [2]
  | 4 => [3]
  | 7 => [6]
  | 8 => [5, 7]
  | 10 => [9]
  | 11 => [10]
  | 13 => [12]
  | 14 => [13]
  | 16 => [15]
  | 17 => [16]
  | 19 => [18]
  | 20 => [19]
  | 22 => [21]
  | 23 => [22]
  | 26 => [25]
  | 27 => [24, 26]
  | 30 => [29]
  | 31 => [28, 30]
  | 34 => [33]
  | 35 => [32, 34]
  | 36 => [1, 4, 8, 11, 14, 17, 20, 23, 27, 31, 35]
  | 37 => [36]
  | _ => []
def cpPhi (B b1 : Nat) (c : Circ) (h : Hd) : Nat → Value → World → Prop
  | 0 => fun v W => v = .pointer (some ⟨b1, 0, none⟩)
  | 1 => fun v W => v = nu c.max
  | 2 => fun v W => v = .pointer (some ⟨b1, 1, none⟩)
  | 3 => fun v W => v = slc h 1 c.inputs.length
  | 4 => fun v W => W.ownsRow B 3 1 v c.inputs.length (c.inputs.flatMap icell)
  | 5 => fun v W => ∃ b, v = .slice (some ⟨b, 0, none⟩) 0 0 ∧ Blk W b 59 [] ∧ B ≤ b
  | 6 => fun v W => v = .pointer (some ⟨b1, 2, none⟩)
  | 7 => fun v W => v = slc h 2 c.latches.length
  | 8 => fun v W => W.ownsRow B 59 3 v c.latches.length (c.latches.flatMap tcells)
  | 9 => fun v W => v = .pointer (some ⟨b1, 3, none⟩)
  | 10 => fun v W => v = slc h 3 c.outputs.length
  | 11 => fun v W => W.ownsRow B 3 1 v c.outputs.length (c.outputs.flatMap icell)
  | 12 => fun v W => v = .pointer (some ⟨b1, 4, none⟩)
  | 13 => fun v W => v = slc h 4 c.bads.length
  | 14 => fun v W => W.ownsRow B 3 1 v c.bads.length (c.bads.flatMap icell)
  | 15 => fun v W => v = .pointer (some ⟨b1, 5, none⟩)
  | 16 => fun v W => v = slc h 5 c.constraints.length
  | 17 => fun v W => W.ownsRow B 3 1 v c.constraints.length (c.constraints.flatMap icell)
  | 18 => fun v W => v = .pointer (some ⟨b1, 6, none⟩)
  | 19 => fun v W => v = slc h 6 c.justice.length
  | 20 => fun v W => ∃ (A : Option Addr) (cp : Nat) (js : Hd), v = .slice A c.justice.length cp ∧ W.ownsRow B 22 1 v c.justice.length (jcells c js) ∧ ∀ k, k < c.justice.length → W.ownsRow B 3 1 (slc js k (c.justice.getD k []).length) (c.justice.getD k []).length ((c.justice.getD k []).flatMap icell)
  | 21 => fun v W => v = .pointer (some ⟨b1, 7, none⟩)
  | 22 => fun v W => v = slc h 7 c.fairness.length
  | 23 => fun v W => W.ownsRow B 3 1 v c.fairness.length (c.fairness.flatMap icell)
  | 24 => fun v W => ∃ b, v = .slice (some ⟨b, 0, none⟩) 0 0 ∧ Blk W b 61 [] ∧ B ≤ b
  | 25 => fun v W => v = .pointer (some ⟨b1, 8, none⟩)
  | 26 => fun v W => v = slc h 8 c.ands.length
  | 27 => fun v W => W.ownsRow B 61 3 v c.ands.length (c.ands.flatMap tcells)
  | 28 => fun v W => ∃ b, v = .slice (some ⟨b, 0, none⟩) 0 0 ∧ Blk W b 130 [] ∧ B ≤ b
  | 29 => fun v W => v = .pointer (some ⟨b1, 9, none⟩)
  | 30 => fun v W => v = slc h 9 c.symbols.length
  | 31 => fun v W => W.ownsRow B 130 3 v c.symbols.length (c.symbols.flatMap scells)
  | 32 => fun v W => ∃ b, v = .slice (some ⟨b, 0, none⟩) 0 0 ∧ Blk W b 9 [] ∧ B ≤ b
  | 33 => fun v W => v = .pointer (some ⟨b1, 10, none⟩)
  | 34 => fun v W => v = slc h 10 c.comments.length
  | 35 => fun v W => W.ownsRow B 9 1 v c.comments.length (c.comments.flatMap bcell)
  | 36 => fun v W => ∃ h' js', v = .agg (ccells c h').toArray ∧ ∀ i, (cirRows c h' js' js' c.justice.length i).own W B
  | _ => fun _ _ => True
theorem cpPhi_chg {B b1 : Nat} {c : Circ} {h : Hd} : ∀ i v w w', Chg w w' none_ → cpPhi B b1 c h i v w → cpPhi B b1 c h i v w' := by
  intro i v w w' hc
  unfold cpPhi
  split <;> first
    | exact id
    | exact fun hh => own_chg hh hc fun _ _ => id
    | exact fun ⟨b, h1, h2, h3⟩ => ⟨b, h1, h2.chg hc id, h3⟩
    | exact fun ⟨A, cp, js, h1, h2, h3⟩ => ⟨A, cp, js, h1, own_chg h2 hc fun _ _ => id, fun k hk => own_chg (h3 k hk) hc fun _ _ => id⟩
    | exact fun ⟨A, cp, h1, h2⟩ => ⟨A, cp, h1, CirHas.chg h2 hc⟩
theorem ds_ok {l : List Oper} {ds : Nat → List Nat} (n : Nat) (h : ((List.range n).all fun i => (ds i).all fun j => (gslot l j).isSome) = true) (h0 : ∀ i, n ≤ i → ds i = []) : ∀ i, ∀ j ∈ ds i, gslot l j ≠ none := by
  intro i j hj hn
  rcases Nat.lt_or_ge i n with hi | hi
  · rw [List.all_eq_true] at h
    have h1 := h i (List.mem_range.2 hi)
    rw [List.all_eq_true] at h1
    have h2 := h1 j hj
    rw [hn] at h2
    cases h2
  · rw [h0 i hi] at hj; cases hj
theorem nthEq {l : List Oper} {i : Nat} {o o' : Oper} (h : nth l i = some o) (h' : nth l i = some o') : o' = o := Option.some.inj (h'.symm.trans h)
attribute [local irreducible] WC WL WX WS WO OX Does DoesU Enters CV Pure thenQ blockQ retQ Wants retQC
set_option maxRecDepth 100000
theorem copyCircuit_cv {w : World} {c : Circ} {h js : Hd} (H : CirAt w c h js) (hf : c.Fits) (hn : Nils h js) : CV Tryd.prog 37 [.agg (ccells c h).toArray] w fun v w' => ∃ h' js', v = .agg (ccells c h').toArray ∧ CirHas w' w.heap.size c h' js' ∧ Chg w w' none_ := by
  refine enterC (t := 29) 40 2 [] Tryd.func37 rfl rfl rfl (.inl rfl) rfl ?_
  repeat' (first
|(apply X_allocK (w.heap.size + 1);exact sz_alloc _ _)
|(apply WC_seqK;intro K hK)
|(apply hK;clear hK)
|(apply WC_region)
|(apply WL_nil)
|(apply thenQ_normal)
|(apply WL_on0;eq_refl)
|(apply X_box;eq_refl))
  have e2 := Blk.newA (w.alloc (.cells (Value.agg (ccells c h).toArray).cells 29)) (Value.agg #[nu 0, .slice none 0 0, .slice none 0 0, .slice none 0 0, .slice none 0 0, .slice none 0 0, .slice none 0 0, .slice none 0 0, .slice none 0 0, .slice none 0 0, .slice none 0 0]).cells 29
  rw [sz_alloc] at e2
  have e1 := Blk.new w (ccells c h) 29
  have hC0 : Chg w ((w.alloc (.cells (Value.agg (ccells c h).toArray).cells 29)).alloc (.cells (Value.agg #[nu 0, .slice none 0 0, .slice none 0 0, .slice none 0 0, .slice none 0 0, .slice none 0 0, .slice none 0 0, .slice none 0 0, .slice none 0 0, .slice none 0 0, .slice none 0 0]).cells 29)) none_ := (Chg.alloc w _ none_).al _
  refine WC_turn (fun W => Chg w W none_ ∧ Blk W w.heap.size 29 (ccells c h) ∧ Blk W (w.heap.size + 1) 29 [nu 0, .slice none 0 0, .slice none 0 0, .slice none 0 0, .slice none 0 0, .slice none 0 0, .slice none 0 0, .slice none 0 0, .slice none 0 0, .slice none 0 0, .slice none 0 0]) ⟨hC0, Blk.alloc _ e1, e2⟩ ?_
  clear e1 e2 hC0
  rintro w0 ⟨hC0, hI0, hR0⟩
  refine WC_free [(1, pt w.heap.size), (2, pt (w.heap.size + 1))] cpDs (cpPhi (w.heap.size + 2) w.heap.size c h) (fun W => Chg w0.drew W none_) (fun W => ∃ h' js', Chg w W none_ ∧ Blk W (w.heap.size + 1) 29 (ccells c h') ∧ CirHas W (w.heap.size + 2) c h' js') mixed (by kernel_rfl) (by simp) ⟨rfl, rfl, trivial⟩ cpPhi_chg (fun _ _ h1 h2 => h2.trans h1 fun _ _ h => h) ?_ (Chg.refl _ _) ?_ ?_ ?_
  · refine ds_ok 38 (by kernel_rfl) fun i hi => ?_
    obtain ⟨m, rfl⟩ : ∃ m, i = m + 38 := ⟨i - 38, by omega⟩
    rfl
  · intro i o hi ho W vals hS hv
    have hCW := (hC0.dr).trans hS fun _ _ h => h
    have hB : Blk W w.heap.size 29 (ccells c h) := Blk.chg (w := w0.drew) hI0 hS id
    have hc := H.chg hCW
    have hbb : w.heap.size + 2 ≤ W.heap.size := by have h1 := hR0.lt; have h2 := hS.size; exact Nat.le_trans h1 h2
    match i, hi, ho, hv with
    | 0, _, ho, hv =>
      obtain rfl := nthEq ho rfl
      exact Ex.pure (p_field (b := w.heap.size) (by eq_refl)) ⟨rfl, Chg.refl _ _⟩
    | 1, _, ho, hv =>
      obtain rfl := nthEq ho rfl
      exact Ex.does (does_load1 (evv (by eq_refl) (hv 0 (by simp [cpDs]))) hB rfl) ⟨rfl, Chg.refl _ _⟩
    | 2, _, ho, hv =>
      obtain rfl := nthEq ho rfl
      exact Ex.pure (p_field (b := w.heap.size) (by eq_refl)) ⟨rfl, Chg.refl _ _⟩
    | 3, _, ho, hv =>
      obtain rfl := nthEq ho rfl
      exact Ex.does (does_load1 (evv (by eq_refl) (hv 2 (by simp [cpDs]))) hB rfl) ⟨rfl, Chg.refl _ _⟩
    | 4, _, ho, hv =>
      obtain rfl := nthEq ho rfl
      exact Ex.fn (f := 38) (evv1 (by eq_refl) (hv 3 (by simp [cpDs]))) (copyInts_cv (c := (h 1).2) hc.inputs (hn.1 1) hf.inputs) fun v w' hr => ⟨own_mono hr.1 hbb, hr.2⟩
    | 5, _, ho, hv =>
      obtain rfl := nthEq ho rfl
      exact Ex.does buildS23_0 ⟨⟨_, rfl, Blk.newA W #[] 59, hbb⟩, Chg.alloc _ _ _⟩
    | 6, _, ho, hv =>
      obtain rfl := nthEq ho rfl
      exact Ex.pure (p_field (b := w.heap.size) (by eq_refl)) ⟨rfl, Chg.refl _ _⟩
    | 7, _, ho, hv =>
      obtain rfl := nthEq ho rfl
      exact Ex.does (does_load1 (evv (by eq_refl) (hv 6 (by simp [cpDs]))) hB rfl) ⟨rfl, Chg.refl _ _⟩
    | 8, _, ho, hv =>
      obtain rfl := nthEq ho rfl
      obtain ⟨b, e1, e2, e3⟩ := hv 5 (by simp [cpDs])
      exact Ex.appendE (sz := 3) (by eq_refl) (by eq_refl) e1 (hv 7 (by simp [cpDs])) e2 e3 rfl (by decide) (by rw [length_flatMap2 tcells 3 tlen]) (fun hA => ⟨by have hr := hc.latches; rw [hA] at hr; exact hr.nil_of, hn.1 2 hA⟩) (fun p hp j u hj => hc.latches.cells tlen (by decide) hp j u hj) hf.latches (by decide) fun v w' hr hC => ⟨hr, hC⟩
    | 9, _, ho, hv =>
      obtain rfl := nthEq ho rfl
      exact Ex.pure (p_field (b := w.heap.size) (by eq_refl)) ⟨rfl, Chg.refl _ _⟩
    | 10, _, ho, hv =>
      obtain rfl := nthEq ho rfl
      exact Ex.does (does_load1 (evv (by eq_refl) (hv 9 (by simp [cpDs]))) hB rfl) ⟨rfl, Chg.refl _ _⟩
    | 11, _, ho, hv =>
      obtain rfl := nthEq ho rfl
      exact Ex.fn (f := 38) (evv1 (by eq_refl) (hv 10 (by simp [cpDs]))) (copyInts_cv (c := (h 3).2) hc.outputs (hn.1 3) hf.outputs) fun v w' hr => ⟨own_mono hr.1 hbb, hr.2⟩
    | 12, _, ho, hv =>
      obtain rfl := nthEq ho rfl
      exact Ex.pure (p_field (b := w.heap.size) (by eq_refl)) ⟨rfl, Chg.refl _ _⟩
    | 13, _, ho, hv =>
      obtain rfl := nthEq ho rfl
      exact Ex.does (does_load1 (evv (by eq_refl) (hv 12 (by simp [cpDs]))) hB rfl) ⟨rfl, Chg.refl _ _⟩
    | 14, _, ho, hv =>
      obtain rfl := nthEq ho rfl
      exact Ex.fn (f := 38) (evv1 (by eq_refl) (hv 13 (by simp [cpDs]))) (copyInts_cv (c := (h 4).2) hc.bads (hn.1 4) hf.bads) fun v w' hr => ⟨own_mono hr.1 hbb, hr.2⟩
    | 15, _, ho, hv =>
      obtain rfl := nthEq ho rfl
      exact Ex.pure (p_field (b := w.heap.size) (by eq_refl)) ⟨rfl, Chg.refl _ _⟩
    | 16, _, ho, hv =>
      obtain rfl := nthEq ho rfl
      exact Ex.does (does_load1 (evv (by eq_refl) (hv 15 (by simp [cpDs]))) hB rfl) ⟨rfl, Chg.refl _ _⟩
    | 17, _, ho, hv =>
      obtain rfl := nthEq ho rfl
      exact Ex.fn (f := 38) (evv1 (by eq_refl) (hv 16 (by simp [cpDs]))) (copyInts_cv (c := (h 5).2) hc.constraints (hn.1 5) hf.constraints) fun v w' hr => ⟨own_mono hr.1 hbb, hr.2⟩
    | 18, _, ho, hv =>
      obtain rfl := nthEq ho rfl
      exact Ex.pure (p_field (b := w.heap.size) (by eq_refl)) ⟨rfl, Chg.refl _ _⟩
    | 19, _, ho, hv =>
      obtain rfl := nthEq ho rfl
      exact Ex.does (does_load1 (evv (by eq_refl) (hv 18 (by simp [cpDs]))) hB rfl) ⟨rfl, Chg.refl _ _⟩
    | 20, _, ho, hv =>
      obtain rfl := nthEq ho rfl
      exact Ex.fn (f := 68) (evv1 (by eq_refl) (hv 19 (by simp [cpDs]))) (copyLists_cv (c := (h 6).2) hc.justice hc.each hn.2 hf.justice hf.each) fun v w' ⟨A, cp, js', h1, h2, h3, h4⟩ => ⟨⟨A, cp, js', h1, own_mono h2 hbb, fun k hk => own_mono (h3 k hk) hbb⟩, h4⟩
    | 21, _, ho, hv =>
      obtain rfl := nthEq ho rfl
      exact Ex.pure (p_field (b := w.heap.size) (by eq_refl)) ⟨rfl, Chg.refl _ _⟩
    | 22, _, ho, hv =>
      obtain rfl := nthEq ho rfl
      exact Ex.does (does_load1 (evv (by eq_refl) (hv 21 (by simp [cpDs]))) hB rfl) ⟨rfl, Chg.refl _ _⟩
    | 23, _, ho, hv =>
      obtain rfl := nthEq ho rfl
      exact Ex.fn (f := 38) (evv1 (by eq_refl) (hv 22 (by simp [cpDs]))) (copyInts_cv (c := (h 7).2) hc.fairness (hn.1 7) hf.fairness) fun v w' hr => ⟨own_mono hr.1 hbb, hr.2⟩
    | 24, _, ho, hv =>
      obtain rfl := nthEq ho rfl
      exact Ex.does buildS25_0 ⟨⟨_, rfl, Blk.newA W #[] 61, hbb⟩, Chg.alloc _ _ _⟩
    | 25, _, ho, hv =>
      obtain rfl := nthEq ho rfl
      exact Ex.pure (p_field (b := w.heap.size) (by eq_refl)) ⟨rfl, Chg.refl _ _⟩
    | 26, _, ho, hv =>
      obtain rfl := nthEq ho rfl
      exact Ex.does (does_load1 (evv (by eq_refl) (hv 25 (by simp [cpDs]))) hB rfl) ⟨rfl, Chg.refl _ _⟩
    | 27, _, ho, hv =>
      obtain rfl := nthEq ho rfl
      obtain ⟨b, e1, e2, e3⟩ := hv 24 (by simp [cpDs])
      exact Ex.appendE (sz := 3) (by eq_refl) (by eq_refl) e1 (hv 26 (by simp [cpDs])) e2 e3 rfl (by decide) (by rw [length_flatMap2 tcells 3 tlen]) (fun hA => ⟨by have hr := hc.ands; rw [hA] at hr; exact hr.nil_of, hn.1 8 hA⟩) (fun p hp j u hj => hc.ands.cells tlen (by decide) hp j u hj) hf.ands (by decide) fun v w' hr hC => ⟨hr, hC⟩
    | 28, _, ho, hv =>
      obtain rfl := nthEq ho rfl
      exact Ex.does buildS26_0 ⟨⟨_, rfl, Blk.newA W #[] 130, hbb⟩, Chg.alloc _ _ _⟩
    | 29, _, ho, hv =>
      obtain rfl := nthEq ho rfl
      exact Ex.pure (p_field (b := w.heap.size) (by eq_refl)) ⟨rfl, Chg.refl _ _⟩
    | 30, _, ho, hv =>
      obtain rfl := nthEq ho rfl
      exact Ex.does (does_load1 (evv (by eq_refl) (hv 29 (by simp [cpDs]))) hB rfl) ⟨rfl, Chg.refl _ _⟩
    | 31, _, ho, hv =>
      obtain rfl := nthEq ho rfl
      obtain ⟨b, e1, e2, e3⟩ := hv 28 (by simp [cpDs])
      exact Ex.appendE (sz := 3) (by eq_refl) (by eq_refl) e1 (hv 30 (by simp [cpDs])) e2 e3 rfl (by decide) (by rw [length_flatMap2 scells 3 slen]) (fun hA => ⟨by have hr := hc.symbols; rw [hA] at hr; exact hr.nil_of, hn.1 9 hA⟩) (fun p hp j u hj => hc.symbols.cells slen (by decide) hp j u hj) hf.symbols (by decide) fun v w' hr hC => ⟨hr, hC⟩
    | 32, _, ho, hv =>
      obtain rfl := nthEq ho rfl
      exact Ex.does buildS27_0 ⟨⟨_, rfl, Blk.newA W #[] 9, hbb⟩, Chg.alloc _ _ _⟩
    | 33, _, ho, hv =>
      obtain rfl := nthEq ho rfl
      exact Ex.pure (p_field (b := w.heap.size) (by eq_refl)) ⟨rfl, Chg.refl _ _⟩
    | 34, _, ho, hv =>
      obtain rfl := nthEq ho rfl
      exact Ex.does (does_load1 (evv (by eq_refl) (hv 33 (by simp [cpDs]))) hB rfl) ⟨rfl, Chg.refl _ _⟩
    | 35, _, ho, hv =>
      obtain rfl := nthEq ho rfl
      obtain ⟨b, e1, e2, e3⟩ := hv 32 (by simp [cpDs])
      exact Ex.appendE (sz := 1) (by eq_refl) (by eq_refl) e1 (hv 34 (by simp [cpDs])) e2 e3 rfl (by decide) (by rw [length_flatMap2 bcell 1 blen]) (fun hA => ⟨by have hr := hc.comments; rw [hA] at hr; exact hr.nil_of, hn.1 10 hA⟩) (fun p hp j u hj => hc.comments.cells blen (by decide) hp j u hj) hf.comments (by decide) fun v w' hr hC => ⟨hr, hC⟩
    | 36, _, ho, hv =>
      obtain rfl := nthEq ho rfl
      have e0 : vals 1 = nu c.max := hv 1 (by simp [cpDs])
      have r1 : W.ownsRow (w.heap.size + 2) 3 1 (vals 4) c.inputs.length (c.inputs.flatMap icell) := hv 4 (by simp [cpDs])
      obtain ⟨A1, c1, e1⟩ := row_form' r1
      rw [e1] at r1
      have r2 : W.ownsRow (w.heap.size + 2) 59 3 (vals 8) c.latches.length (c.latches.flatMap tcells) := hv 8 (by simp [cpDs])
      obtain ⟨A2, c2, e2⟩ := row_form' r2
      rw [e2] at r2
      have r3 : W.ownsRow (w.heap.size + 2) 3 1 (vals 11) c.outputs.length (c.outputs.flatMap icell) := hv 11 (by simp [cpDs])
      obtain ⟨A3, c3, e3⟩ := row_form' r3
      rw [e3] at r3
      have r4 : W.ownsRow (w.heap.size + 2) 3 1 (vals 14) c.bads.length (c.bads.flatMap icell) := hv 14 (by simp [cpDs])
      obtain ⟨A4, c4, e4⟩ := row_form' r4
      rw [e4] at r4
      have r5 : W.ownsRow (w.heap.size + 2) 3 1 (vals 17) c.constraints.length (c.constraints.flatMap icell) := hv 17 (by simp [cpDs])
      obtain ⟨A5, c5, e5⟩ := row_form' r5
      rw [e5] at r5
      have r7 : W.ownsRow (w.heap.size + 2) 3 1 (vals 23) c.fairness.length (c.fairness.flatMap icell) := hv 23 (by simp [cpDs])
      obtain ⟨A7, c7, e7⟩ := row_form' r7
      rw [e7] at r7
      have r8 : W.ownsRow (w.heap.size + 2) 61 3 (vals 27) c.ands.length (c.ands.flatMap tcells) := hv 27 (by simp [cpDs])
      obtain ⟨A8, c8, e8⟩ := row_form' r8
      rw [e8] at r8
      have r9 : W.ownsRow (w.heap.size + 2) 130 3 (vals 31) c.symbols.length (c.symbols.flatMap scells) := hv 31 (by simp [cpDs])
      obtain ⟨A9, c9, e9⟩ := row_form' r9
      rw [e9] at r9
      have r10 : W.ownsRow (w.heap.size + 2) 9 1 (vals 35) c.comments.length (c.comments.flatMap bcell) := hv 35 (by simp [cpDs])
      obtain ⟨A10, c10, e10⟩ := row_form' r10
      rw [e10] at r10
      obtain ⟨A6, c6, js6, e6, r6, g6⟩ : ∃ (A : Option Addr) (cp : Nat) (js : Hd), vals 20 = .slice A c.justice.length cp ∧ W.ownsRow (w.heap.size + 2) 22 1 (vals 20) c.justice.length (jcells c js) ∧ ∀ k, k < c.justice.length → W.ownsRow (w.heap.size + 2) 3 1 (slc js k (c.justice.getD k []).length) (c.justice.getD k []).length ((c.justice.getD k []).flatMap icell) := hv 20 (by simp [cpDs])
      rw [e6] at r6
      refine Ex.pure (build29_0_1_2_3_4_5_6_7_8_9_10 (evv (by eq_refl) e0) (evv (by eq_refl) e1) (evv (by eq_refl) e2) (evv (by eq_refl) e3) (evv (by eq_refl) e4) (evv (by eq_refl) e5) (evv (by eq_refl) e6) (evv (by eq_refl) e7) (evv (by eq_refl) e8) (evv (by eq_refl) e9) (evv (by eq_refl) e10)) ⟨⟨fun | 1 => (A1, c1) | 2 => (A2, c2) | 3 => (A3, c3) | 4 => (A4, c4) | 5 => (A5, c5) | 6 => (A6, c6) | 7 => (A7, c7) | 8 => (A8, c8) | 9 => (A9, c9) | 10 => (A10, c10) | _ => (none, 0), js6, rfl, fun i => ?_⟩, Chg.refl _ _⟩
      match i with
      | 1 => exact r1
      | 2 => exact r2
      | 3 => exact r3
      | 4 => exact r4
      | 5 => exact r5
      | 6 =>
        show W.ownsRow (w.heap.size + 2) 22 1 (.slice A6 c.justice.length c6) c.justice.length ((List.range c.justice.length).map fun k => if k < c.justice.length then slc js6 k (c.justice.getD k []).length else slc js6 k (c.justice.getD k []).length)
        rw [show ((List.range c.justice.length).map fun k => if k < c.justice.length then slc js6 k (c.justice.getD k []).length else slc js6 k (c.justice.getD k []).length) = jcells c js6 by unfold jcells; congr 1; funext k; split <;> rfl]
        exact r6
      | 7 => exact r7
      | 8 => exact r8
      | 9 => exact r9
      | 10 => exact r10
      | 0 => exact World.ownsRow_nil _ _ _ _
      | k + 11 =>
        by_cases hk : k < c.justice.length
        · simp only [cirRows, if_pos hk]; exact g6 k hk
        · simp only [cirRows, if_neg hk]; exact World.ownsRow_nil _ _ _ _
    | n + 37, hi, _, _ => exact absurd hi (by simp)
  · intro i o hi ho W vals hS hv
    obtain rfl : i = 37 := by simpa using hi
    obtain rfl := nthEq ho rfl
    have hCW := (hC0.dr).trans hS fun _ _ h => h
    have hR : Blk W (w.heap.size + 1) 29 _ := Blk.chg (w := w0.drew) hR0 hS id
    obtain ⟨h', js', e, hH⟩ : ∃ h' js', vals 36 = .agg (ccells c h').toArray ∧ CirHas W (w.heap.size + 2) c h' js' := hv 36 (by simp [cpDs])
    have hcc : Chg W (W.setRow (w.heap.size + 1) (ccells c h').toArray) (fun k => k = w.heap.size + 1) := Chg.setRow _ _ _ rfl
    exact Ex.doesU (does_storeA (t1 := 29) (vs := ccells c h') (o := 0) (b := w.heap.size + 1) (by eq_refl) (evv (by eq_refl) e) hR rfl (by exact Nat.le_refl 11) (by simp [ccells, Value.oneCell'])) ⟨h', js', hCW.trans hcc fun k hk hh => by omega, hR.set (ccells c h'), fun i => own_chg (hH i) hcc fun k hk hh => by have := ((hH i).lt k hk).1; omega⟩
  · rintro W ⟨h', js', hC, hB, hH⟩
    repeat' (first
|(apply hK;clear hK)
|(apply thenQ_normal)
|(apply WC_ret))
    refine retC0 (.inl rfl) (by eq_refl) (cs := ccells c h') (fun j u hj => ?_) rfl ⟨h', js', rfl, fun i => own_mono (hH i) (by omega), hC⟩
    rw [add_at, Nat.zero_add]
    exact (hB.cell j).trans hj
end SC
end Go.Proofs.YtclihihdgodloaaDoor
end
section
/- trestlebook: LendCircuit. -/
set_option linter.unusedVariables false
set_option linter.unusedSimpArgs false
namespace Go.Proofs.YtclihihdgodloaaDoor
namespace SC
open Go.Proofs
/-- As many as memory holds, one more in each list. -/
structure Circ.Fits1 (c : Circ) : Prop extends c.Fits where
  inputs1 : (c.inputs.length + 1) * 8 ≤ 140737488355328
  latches1 : (c.latches.length + 1) * 24 ≤ 140737488355328
  outputs1 : (c.outputs.length + 1) * 8 ≤ 140737488355328
  bads1 : (c.bads.length + 1) * 8 ≤ 140737488355328
  constraints1 : (c.constraints.length + 1) * 8 ≤ 140737488355328
  fairness1 : (c.fairness.length + 1) * 8 ≤ 140737488355328
  ands1 : (c.ands.length + 1) * 24 ≤ 140737488355328
def lintRow (h : Hd) (i : Nat) (l : List Int) : Rw := ⟨slc h i (l.length + 1), 3, 1, l.length + 1, (l ++ [-77]).flatMap icell⟩
def ltriRow (h : Hd) (i : Nat) (t : TypeId) (l : List Tri) : Rw := ⟨slc h i (l.length + 1), t, 3, l.length + 1, (l ++ [(-77, 0, 0)]).flatMap tcells⟩
/-- The rows of a circuit that is lent: one more behind the end. -/
def lentRow (c : Circ) (h js : Hd) : Nat → Rw
  | 1 => lintRow h 1 c.inputs
  | 2 => ltriRow h 2 59 c.latches
  | 3 => lintRow h 3 c.outputs
  | 4 => lintRow h 4 c.bads
  | 5 => lintRow h 5 c.constraints
  | 7 => lintRow h 7 c.fairness
  | 8 => ltriRow h 8 61 c.ands
  | k => cirRows c h js js c.justice.length k
def Has (w : World) (base : Nat) (f : Nat → Rw) : Prop := ∀ i, (f i).own w base
def CirLent (w : World) (base : Nat) (c : Circ) (h js : Hd) : Prop := Has w base (lentRow c h js)
theorem Has.chg {w w' : World} {base : Nat} {f : Nat → Rw} {T : Nat → Prop} (H : Has w base f) (hc : Chg w w' T) (hT : ∀ i k, (f i).v.ownBlock = some k → ¬ T k) : Has w' base f := fun i => own_chg (H i) hc (hT i)
theorem Has.put {w w' : World} {base : Nat} {f : Nat → Rw} {T : Nat → Prop} (H : Has w base f) (i : Nat) (r : Rw) (hc : Chg w w' T) (hT : ∀ j k, j ≠ i → (f j).v.ownBlock = some k → ¬ T k) (hr : r.own w' base) : Has w' base (upd f i r) := fun j => by
  unfold upd
  split
  · exact hr
  · rename_i hne
    exact own_chg (H j) hc fun k hk => hT j k hne hk
theorem Has.lt {w : World} {base : Nat} {f : Nat → Rw} (H : Has w base f) {i k : Nat} (hk : (f i).v.ownBlock = some k) : base ≤ k ∧ k < w.heap.size := World.ownsRow.lt (H i) k hk
theorem own_blk {w : World} {base sz n b : Nat} {t t1 : TypeId} {v : Value} {xs cs : List Value} (h : w.ownsRow base t sz v n xs) (hb : Blk w b t1 cs) (hne : t ≠ t1) : v.ownBlock ≠ some b := by
  rcases h.2 with ⟨rfl, _⟩ | ⟨g, _, _, rfl, _, hg, _⟩
  · intro hh; cases hh
  · intro hh
    simp only [Value.ownBlock, Option.some.injEq] at hh
    subst hh
    unfold Blk at hb
    rw [hg] at hb
    simp at hb
    exact hne hb.2
theorem lent_tri (l : List Tri) : (l ++ [(-77, 0, 0)]).flatMap tcells = l.flatMap tcells ++ [nu (-77), nu 0, nu 0] := by rw [List.flatMap_append]; rfl
def rt : Nat → TypeId
  | 2 => 59
  | 6 => 22
  | 8 => 61
  | 9 => 130
  | 10 => 9
  | _ => 3
theorem rt_51 (j : Nat) : rt j ≠ 29 := by unfold rt; split <;> decide
theorem rt_70 {j : Nat} (h : j ≠ 2) : rt j ≠ 59 := by unfold rt; split <;> first | decide | exact absurd rfl h
theorem rt_43 {j : Nat} (h : j ≠ 8) : rt j ≠ 61 := by unfold rt; split <;> first | decide | exact absurd rfl h
theorem cirRows_t (c : Circ) (h js jn : Hd) (d : Nat) (j : Nat) : (cirRows c h js jn d j).t = rt j := by
  match j with
  | 0 | 1 | 2 | 3 | 4 | 5 | 6 | 7 | 8 | 9 | 10 => rfl
  | k + 11 =>
    simp only [cirRows]
    split <;> rfl
theorem upd_t {f : Nat → Rw} {i : Nat} {r : Rw} {g : Nat → Nat} (hf : ∀ j, (f j).t = g j) (hr : r.t = g i) : ∀ j, (upd f i r j).t = g j := fun j => by
  unfold upd
  split
  · rename_i e; rw [e]; exact hr
  · exact hf j
section
variable {P : Program} {n : Nat} {all : List Oper} {S : World → Prop} {K : Env → World → Prop} {i : Nat} {r : List (Nat × Bool)} {d : Option Tmp} {ty t t0 : TypeId} {e : Env} {w : World} {x y : Operand} {td : TypeDesc} {sz by_ sz1 by1 : Nat} {zv z1 : Value} {ag ag1 : Bool}
theorem O_sliceTo {a : Option Addr} {m c : Nat} {k : IntKind} {j : Int} [U : Ty P t (.slice t0) sz1 z1 by1 ag1] [T : Ty P t0 td sz zv by_ ag] (h : ev e x = some (.slice a m c)) (h1 : ev e y = some (.int k j)) (h0 : 0 ≤ j) (h2 : j ≤ c) (hS : S w) (hr : WS P n all S K r (push d (.slice a j.toNat c) e) w) :
    OX P n all S K i true r d (.slice t x none (some y) none) ty e w := O_pure (p_sliceTo U.und T h h1 h0 h2) hS hr
end
attribute [local irreducible] WC WL WX WS WO OX Does DoesU Enters CV Pure thenQ blockQ retQ Wants retQC
set_option maxRecDepth 100000
theorem lendCircuit_cv {w : World} {c : Circ} {h js : Hd} (H : CirAt w c h js) (hf : c.Fits1) (hn : Nils h js) : CV Tryd.prog 10 [.agg (ccells c h).toArray] w fun v w' => ∃ h' js', v = .agg (ccells c h').toArray ∧ CirLent w' w.heap.size c h' js' ∧ Chg w w' none_ := by
  refine enterC (t := 29) 47 2 [] Tryd.func10 rfl rfl rfl (.inl rfl) rfl ?_
  repeat' (first
|(apply X_allocK (w.heap.size + 1);exact sz_alloc _ _)
|(apply WC_seqK;intro K hK)
|(apply hK;clear hK)
|(apply WC_region)
|(apply WL_nil)
|(apply thenQ_normal)
|(apply WL_on0;eq_refl)
|(apply X_loadW;eq_refl;(first|assumption|(apply Blk.alloc;assumption)|apply Blk.new|apply Blk.newA|(apply Blk.alloc;first|apply Blk.newA|(apply Blk.alloc;first|assumption|apply Blk.newA)));eq_refl)
|(apply X_box;eq_refl))
  have e2 := Blk.newA (w.alloc (.cells (Value.agg (ccells c h).toArray).cells 29)) (Value.agg #[nu 0, .slice none 0 0, .slice none 0 0, .slice none 0 0, .slice none 0 0, .slice none 0 0, .slice none 0 0, .slice none 0 0, .slice none 0 0, .slice none 0 0, .slice none 0 0]).cells 29
  rw [sz_alloc] at e2
  have e1 := Blk.new w (ccells c h) 29
  have hC0 : Chg w ((w.alloc (.cells (Value.agg (ccells c h).toArray).cells 29)).alloc (.cells (Value.agg #[nu 0, .slice none 0 0, .slice none 0 0, .slice none 0 0, .slice none 0 0, .slice none 0 0, .slice none 0 0, .slice none 0 0, .slice none 0 0, .slice none 0 0, .slice none 0 0]).cells 29)) none_ := (Chg.alloc w _ none_).al _
  refine WX_turn (fun W => Chg w W none_ ∧ Blk W w.heap.size 29 (ccells c h) ∧ Blk W (w.heap.size + 1) 29 [nu 0, .slice none 0 0, .slice none 0 0, .slice none 0 0, .slice none 0 0, .slice none 0 0, .slice none 0 0, .slice none 0 0, .slice none 0 0, .slice none 0 0, .slice none 0 0]) ⟨hC0, Blk.alloc _ e1, e2⟩ ?_
  clear e1 e2 hC0
  rintro w0 ⟨hC0, hI0, hR0⟩
  have hcp := copyCircuit_cv (H.chg hC0) hf.toFits hn
  repeat' (first
|(apply X_fn;eq_refl;exact hcp;rintro _ w1 ⟨h1, js1, rfl, hH1, hC1⟩)
|(apply WL_on0;eq_refl)
|(apply X_alloc))
  have hbW : w.heap.size + 2 ≤ w0.heap.size := hR0.lt
  have hO1 := Blk.newA w1 (Value.agg #[nu 0, .slice none 0 0, .slice none 0 0, .slice none 0 0, .slice none 0 0, .slice none 0 0, .slice none 0 0, .slice none 0 0, .slice none 0 0, .slice none 0 0, .slice none 0 0]).cells 29
  refine X_doesU (does_storeA (t1 := 29) (vs := ccells c h1) (o := 0) (b := w1.heap.size) (by eq_refl) (by eq_refl) (cs := (Value.agg #[nu 0, .slice none 0 0, .slice none 0 0, .slice none 0 0, .slice none 0 0, .slice none 0 0, .slice none 0 0, .slice none 0 0, .slice none 0 0, .slice none 0 0, .slice none 0 0]).cells.toList) hO1 rfl (by exact Nat.le_refl 11) (by simp [ccells, Value.oneCell'])) ?_
  have hcc : Chg (w1.alloc (.cells (Value.agg #[nu 0, .slice none 0 0, .slice none 0 0, .slice none 0 0, .slice none 0 0, .slice none 0 0, .slice none 0 0, .slice none 0 0, .slice none 0 0, .slice none 0 0, .slice none 0 0]).cells 29)) ((w1.alloc (.cells (Value.agg #[nu 0, .slice none 0 0, .slice none 0 0, .slice none 0 0, .slice none 0 0, .slice none 0 0, .slice none 0 0, .slice none 0 0, .slice none 0 0, .slice none 0 0, .slice none 0 0]).cells 29)).setRow w1.heap.size (ccells c h1).toArray) (fun k => k = w1.heap.size) := Chg.setRow _ _ _ rfl
  have hI1 := hI0.chg hC1 id
  have hR1 := hR0.chg hC1 id
  have hs1 := hC1.size
  refine WL_turn (fun W => Chg w W none_ ∧ Blk W w.heap.size 29 (ccells c h) ∧ Blk W (w.heap.size + 1) 29 [nu 0, .slice none 0 0, .slice none 0 0, .slice none 0 0, .slice none 0 0, .slice none 0 0, .slice none 0 0, .slice none 0 0, .slice none 0 0, .slice none 0 0, .slice none 0 0] ∧ Blk W w1.heap.size 29 (ccells c h1) ∧ Has W w0.heap.size (cirRows c h1 js1 js1 c.justice.length)) ⟨((hC0.trans hC1 fun _ _ h => h).al _).trans hcc fun k hk hh => by omega, (hI1.alloc _).chg hcc (by omega), (hR1.alloc _).chg hcc (by omega), hO1.set (ccells c h1), fun i => own_chg ((hH1 i).alloc _) hcc fun k hk hh => by have := ((hH1 i).lt k hk).2; omega⟩ ?_
  clear hO1 hcc hcp hH1 hI1 hR1 hI0 hR0 hC1
  rintro w2 ⟨hC2, hI2, hR2, hO2, hW2⟩
  generalize w1.heap.size = b3 at *
  have ht2 : ∀ j, (cirRows c h1 js1 js1 c.justice.length j).t = rt j := cirRows_t c h1 js1 js1 _
  repeat' (first
|(apply WC_seqK;intro K hK)
|(apply hK;clear hK)
|(apply WL_nil)
|(apply thenQ_normal))

  refine WC_draws [(0, true), (1, true), (3, true), (4, true), (6, true), (7, true), (2, false), (9, true), (5, false), (8, false), (10, false), (11, true), (12, false), (13, true), (14, false)] (fun W => Blk W w.heap.size 29 (ccells c h)) mixed (by kernel_rfl) (by kernel_rfl) ?_
  have hC2 := hC2.dr
  have hI2 : Blk w2.drew w.heap.size 29 (ccells c h) := hI2
  have hR2 : Blk w2.drew (w.heap.size + 1) 29 _ := hR2
  have hO2 : Blk w2.drew b3 29 (ccells c h1) := hO2
  have hW2 : Has w2.drew w0.heap.size (cirRows c h1 js1 js1 c.justice.length) := hW2
  have hS2 : Blk w2.drew w.heap.size 29 (ccells c h) := hI2
  generalize w2.drew = w2' at *
  repeat' (first
|(apply O_fn;eq_refl;(apply lendInts_cv;exact (H.chg hC2).inputs;exact hn.1 1;exact hf.inputs1);rintro _ w3 ⟨A1, p1, rfl, hr, hE⟩;refine ⟨fun _ => hI2.chg hE id, ?_⟩)
|(apply WS_next;eq_refl)
|(apply WO_on0;eq_refl)
|(apply O_field;eq_refl;(first|assumption|exact trivial))
|(apply O_loadR;eq_refl;(first|(intro _ h;exact h)|(intro _ h;exact h.1)|(intro _ h;exact h.2)|(intro _ h;exact h.2.1)|(intro _ h;exact h.2.2)|(intro _ h;exact h.2.2.1)|(intro _ h;exact h.2.2.2));eq_refl;(first|assumption|exact trivial)))
  have hC3 := hC2.trans hE fun _ _ h => h
  have hI3 := hI2.chg hE id
  have hR3 := hR2.chg hE id
  have hO3 := hO2.chg hE id
  have hlb3 : w0.heap.size ≤ w2'.heap.size := by have := hO2.lt; omega
  have hW3 : Has w3 w0.heap.size (upd (cirRows c h1 js1 js1 c.justice.length) 1 ⟨.slice A1 (c.inputs.length + 1) p1, 3, 1, c.inputs.length + 1, (c.inputs ++ [-77]).flatMap icell⟩) := hW2.put 1 _ hE (fun _ _ _ _ => id) (own_mono hr hlb3)
  have ht3 : ∀ j, ((upd (cirRows c h1 js1 js1 c.justice.length) 1 ⟨.slice A1 (c.inputs.length + 1) p1, 3, 1, c.inputs.length + 1, (c.inputs ++ [-77]).flatMap icell⟩) j).t = rt j := upd_t ht2 rfl
  have hS3 := hI3
  clear hr hE
  repeat' (first
|(apply O_fn;eq_refl;(apply lendInts_cv;exact (H.chg hC3).outputs;exact hn.1 3;exact hf.outputs1);rintro _ w4 ⟨A3, p3, rfl, hr, hE⟩;refine ⟨fun _ => hI3.chg hE id, ?_⟩)
|(apply WS_next;eq_refl)
|(apply WO_on0;eq_refl)
|(apply O_field;eq_refl;(first|assumption|exact trivial)))
  have hC4 := hC3.trans hE fun _ _ h => h
  have hI4 := hI3.chg hE id
  have hR4 := hR3.chg hE id
  have hO4 := hO3.chg hE id
  have hlb4 : w0.heap.size ≤ w3.heap.size := by have := hO3.lt; omega
  have hW4 : Has w4 w0.heap.size (upd (upd (cirRows c h1 js1 js1 c.justice.length) 1 ⟨.slice A1 (c.inputs.length + 1) p1, 3, 1, c.inputs.length + 1, (c.inputs ++ [-77]).flatMap icell⟩) 3 ⟨.slice A3 (c.outputs.length + 1) p3, 3, 1, c.outputs.length + 1, (c.outputs ++ [-77]).flatMap icell⟩) := hW3.put 3 _ hE (fun _ _ _ _ => id) (own_mono hr hlb4)
  have ht4 : ∀ j, ((upd (upd (cirRows c h1 js1 js1 c.justice.length) 1 ⟨.slice A1 (c.inputs.length + 1) p1, 3, 1, c.inputs.length + 1, (c.inputs ++ [-77]).flatMap icell⟩) 3 ⟨.slice A3 (c.outputs.length + 1) p3, 3, 1, c.outputs.length + 1, (c.outputs ++ [-77]).flatMap icell⟩) j).t = rt j := upd_t ht3 rfl
  have hS4 := hI4
  clear hr hE
  repeat' (first
|(apply O_fn;eq_refl;(apply lendInts_cv;exact (H.chg hC4).bads;exact hn.1 4;exact hf.bads1);rintro _ w5 ⟨A4, p4, rfl, hr, hE⟩;refine ⟨fun _ => hI4.chg hE id, ?_⟩)
|(apply WS_next;eq_refl)
|(apply WO_on0;eq_refl))
  have hC5 := hC4.trans hE fun _ _ h => h
  have hI5 := hI4.chg hE id
  have hR5 := hR4.chg hE id
  have hO5 := hO4.chg hE id
  have hlb5 : w0.heap.size ≤ w4.heap.size := by have := hO4.lt; omega
  have hW5 : Has w5 w0.heap.size (upd (upd (upd (cirRows c h1 js1 js1 c.justice.length) 1 ⟨.slice A1 (c.inputs.length + 1) p1, 3, 1, c.inputs.length + 1, (c.inputs ++ [-77]).flatMap icell⟩) 3 ⟨.slice A3 (c.outputs.length + 1) p3, 3, 1, c.outputs.length + 1, (c.outputs ++ [-77]).flatMap icell⟩) 4 ⟨.slice A4 (c.bads.length + 1) p4, 3, 1, c.bads.length + 1, (c.bads ++ [-77]).flatMap icell⟩) := hW4.put 4 _ hE (fun _ _ _ _ => id) (own_mono hr hlb5)
  have ht5 : ∀ j, ((upd (upd (upd (cirRows c h1 js1 js1 c.justice.length) 1 ⟨.slice A1 (c.inputs.length + 1) p1, 3, 1, c.inputs.length + 1, (c.inputs ++ [-77]).flatMap icell⟩) 3 ⟨.slice A3 (c.outputs.length + 1) p3, 3, 1, c.outputs.length + 1, (c.outputs ++ [-77]).flatMap icell⟩) 4 ⟨.slice A4 (c.bads.length + 1) p4, 3, 1, c.bads.length + 1, (c.bads ++ [-77]).flatMap icell⟩) j).t = rt j := upd_t ht4 rfl
  have hS5 := hI5
  clear hr hE
  skip
  have hE : Chg w5 (w5.setRow b3 ((ccells c h1).set (0 + 1) (.slice A1 c.inputs.length p1)).toArray) (fun k => k = b3) := Chg.setRow _ _ _ rfl
  have hC6 := hC5.trans hE fun k hk hh => by omega
  have hI6 := hI5.chg hE (by omega)
  have hR6 := hR5.chg hE (by omega)
  have hW6 : Has _ w0.heap.size (upd (upd (upd (cirRows c h1 js1 js1 c.justice.length) 1 ⟨.slice A1 (c.inputs.length + 1) p1, 3, 1, c.inputs.length + 1, (c.inputs ++ [-77]).flatMap icell⟩) 3 ⟨.slice A3 (c.outputs.length + 1) p3, 3, 1, c.outputs.length + 1, (c.outputs ++ [-77]).flatMap icell⟩) 4 ⟨.slice A4 (c.bads.length + 1) p4, 3, 1, c.bads.length + 1, (c.bads ++ [-77]).flatMap icell⟩) := hW5.chg hE fun i k hk hh => own_blk (hW5 i) hO5 (by rw [ht5 i]; exact rt_51 i) (by rw [hk, hh])
  have ht6 := ht5
  refine O_doesU (does_store1 (t1 := 29) (b := b3) (o := 0 + 1) (v := (.slice A1 c.inputs.length p1)) (by eq_refl) (by eq_refl) hO5 (by simp [ccells]) rfl rfl) (fun _ => hI6) ?_
  have hO6 : Blk _ b3 29 (ccells c (setHd h1 1 (A1, p1))) := hO5.set ((ccells c h1).set (0 + 1) (.slice A1 c.inputs.length p1))
  have hS6 := hI6
  clear hE
  generalize w5.setRow b3 ((ccells c h1).set (0 + 1) (.slice A1 c.inputs.length p1)).toArray = w6 at *
  repeat' (first
|(apply WS_next;eq_refl)
|(apply WO_on0;eq_refl)
|(apply O_field;eq_refl;(first|assumption|exact trivial)))
  have hE : Chg w6 (w6.setRow b3 ((ccells c (setHd h1 1 (A1, p1))).set (0 + 3) (.slice A3 c.outputs.length p3)).toArray) (fun k => k = b3) := Chg.setRow _ _ _ rfl
  have hC7 := hC6.trans hE fun k hk hh => by omega
  have hI7 := hI6.chg hE (by omega)
  have hR7 := hR6.chg hE (by omega)
  have hW7 : Has _ w0.heap.size (upd (upd (upd (cirRows c h1 js1 js1 c.justice.length) 1 ⟨.slice A1 (c.inputs.length + 1) p1, 3, 1, c.inputs.length + 1, (c.inputs ++ [-77]).flatMap icell⟩) 3 ⟨.slice A3 (c.outputs.length + 1) p3, 3, 1, c.outputs.length + 1, (c.outputs ++ [-77]).flatMap icell⟩) 4 ⟨.slice A4 (c.bads.length + 1) p4, 3, 1, c.bads.length + 1, (c.bads ++ [-77]).flatMap icell⟩) := hW6.chg hE fun i k hk hh => own_blk (hW6 i) hO6 (by rw [ht6 i]; exact rt_51 i) (by rw [hk, hh])
  have ht7 := ht6
  refine O_doesU (does_store1 (t1 := 29) (b := b3) (o := 0 + 3) (v := (.slice A3 c.outputs.length p3)) (by eq_refl) (by eq_refl) hO6 (by simp [ccells]) rfl rfl) (fun _ => hI7) ?_
  have hO7 : Blk _ b3 29 (ccells c (setHd (setHd h1 1 (A1, p1)) 3 (A3, p3))) := hO6.set ((ccells c (setHd h1 1 (A1, p1))).set (0 + 3) (.slice A3 c.outputs.length p3))
  have hS7 := hI7
  clear hE
  generalize w6.setRow b3 ((ccells c (setHd h1 1 (A1, p1))).set (0 + 3) (.slice A3 c.outputs.length p3)).toArray = w7 at *
  repeat' (first
|(apply WS_next;eq_refl)
|(apply WO_on0;eq_refl)
|(apply O_field;eq_refl;(first|assumption|exact trivial)))
  have hE : Chg w7 (w7.setRow b3 ((ccells c (setHd (setHd h1 1 (A1, p1)) 3 (A3, p3))).set (0 + 4) (.slice A4 c.bads.length p4)).toArray) (fun k => k = b3) := Chg.setRow _ _ _ rfl
  have hC8 := hC7.trans hE fun k hk hh => by omega
  have hI8 := hI7.chg hE (by omega)
  have hR8 := hR7.chg hE (by omega)
  have hW8 : Has _ w0.heap.size (upd (upd (upd (cirRows c h1 js1 js1 c.justice.length) 1 ⟨.slice A1 (c.inputs.length + 1) p1, 3, 1, c.inputs.length + 1, (c.inputs ++ [-77]).flatMap icell⟩) 3 ⟨.slice A3 (c.outputs.length + 1) p3, 3, 1, c.outputs.length + 1, (c.outputs ++ [-77]).flatMap icell⟩) 4 ⟨.slice A4 (c.bads.length + 1) p4, 3, 1, c.bads.length + 1, (c.bads ++ [-77]).flatMap icell⟩) := hW7.chg hE fun i k hk hh => own_blk (hW7 i) hO7 (by rw [ht7 i]; exact rt_51 i) (by rw [hk, hh])
  have ht8 := ht7
  refine O_doesU (does_store1 (t1 := 29) (b := b3) (o := 0 + 4) (v := (.slice A4 c.bads.length p4)) (by eq_refl) (by eq_refl) hO7 (by simp [ccells]) rfl rfl) (fun _ => hI8) ?_
  have hO8 : Blk _ b3 29 (ccells c (setHd (setHd (setHd h1 1 (A1, p1)) 3 (A3, p3)) 4 (A4, p4))) := hO7.set ((ccells c (setHd (setHd h1 1 (A1, p1)) 3 (A3, p3))).set (0 + 4) (.slice A4 c.bads.length p4))
  have hS8 := hI8
  clear hE
  generalize w7.setRow b3 ((ccells c (setHd (setHd h1 1 (A1, p1)) 3 (A3, p3))).set (0 + 4) (.slice A4 c.bads.length p4)).toArray = w8 at *
  repeat' (first
|(apply WC_seqK;intro K hK)
|(apply hK;clear hK)
|(apply thenQ_normal)
|(apply WS_nil))
  skip
  refine WC_draws [(0, true), (1, true), (3, true), (4, true), (2, false), (6, true), (5, false), (7, false), (8, true), (9, false)] (fun W => Blk W w.heap.size 29 (ccells c h)) mixed (by kernel_rfl) (by kernel_rfl) ?_
  have hC8 := hC8.dr
  have hI8 : Blk w8.drew w.heap.size 29 (ccells c h) := hI8
  have hR8 : Blk w8.drew (w.heap.size + 1) 29 _ := hR8
  have hO8 : Blk w8.drew b3 29 (ccells c (setHd (setHd (setHd h1 1 (A1, p1)) 3 (A3, p3)) 4 (A4, p4))) := hO8
  have hW8 : Has w8.drew w0.heap.size (upd (upd (upd (cirRows c h1 js1 js1 c.justice.length) 1 ⟨.slice A1 (c.inputs.length + 1) p1, 3, 1, c.inputs.length + 1, (c.inputs ++ [-77]).flatMap icell⟩) 3 ⟨.slice A3 (c.outputs.length + 1) p3, 3, 1, c.outputs.length + 1, (c.outputs ++ [-77]).flatMap icell⟩) 4 ⟨.slice A4 (c.bads.length + 1) p4, 3, 1, c.bads.length + 1, (c.bads ++ [-77]).flatMap icell⟩) := hW8
  have hS8 : Blk w8.drew w.heap.size 29 (ccells c h) := hI8
  generalize w8.drew = w8' at *
  repeat' (first
|(apply O_fn;eq_refl;(apply lendInts_cv;exact (H.chg hC8).constraints;exact hn.1 5;exact hf.constraints1);rintro _ w9 ⟨A5, p5, rfl, hr, hE⟩;refine ⟨fun _ => hI8.chg hE id, ?_⟩)
|(apply WS_next;eq_refl)
|(apply WO_on0;eq_refl)
|(apply O_field;eq_refl;(first|assumption|exact trivial))
|(apply O_loadR;eq_refl;(first|(intro _ h;exact h)|(intro _ h;exact h.1)|(intro _ h;exact h.2)|(intro _ h;exact h.2.1)|(intro _ h;exact h.2.2)|(intro _ h;exact h.2.2.1)|(intro _ h;exact h.2.2.2));eq_refl;(first|assumption|exact trivial)))
  have hC9 := hC8.trans hE fun _ _ h => h
  have hI9 := hI8.chg hE id
  have hR9 := hR8.chg hE id
  have hO9 := hO8.chg hE id
  have hlb9 : w0.heap.size ≤ w8'.heap.size := by have := hO8.lt; omega
  have hW9 : Has w9 w0.heap.size (upd (upd (upd (upd (cirRows c h1 js1 js1 c.justice.length) 1 ⟨.slice A1 (c.inputs.length + 1) p1, 3, 1, c.inputs.length + 1, (c.inputs ++ [-77]).flatMap icell⟩) 3 ⟨.slice A3 (c.outputs.length + 1) p3, 3, 1, c.outputs.length + 1, (c.outputs ++ [-77]).flatMap icell⟩) 4 ⟨.slice A4 (c.bads.length + 1) p4, 3, 1, c.bads.length + 1, (c.bads ++ [-77]).flatMap icell⟩) 5 ⟨.slice A5 (c.constraints.length + 1) p5, 3, 1, c.constraints.length + 1, (c.constraints ++ [-77]).flatMap icell⟩) := hW8.put 5 _ hE (fun _ _ _ _ => id) (own_mono hr hlb9)
  have ht9 : ∀ j, ((upd (upd (upd (upd (cirRows c h1 js1 js1 c.justice.length) 1 ⟨.slice A1 (c.inputs.length + 1) p1, 3, 1, c.inputs.length + 1, (c.inputs ++ [-77]).flatMap icell⟩) 3 ⟨.slice A3 (c.outputs.length + 1) p3, 3, 1, c.outputs.length + 1, (c.outputs ++ [-77]).flatMap icell⟩) 4 ⟨.slice A4 (c.bads.length + 1) p4, 3, 1, c.bads.length + 1, (c.bads ++ [-77]).flatMap icell⟩) 5 ⟨.slice A5 (c.constraints.length + 1) p5, 3, 1, c.constraints.length + 1, (c.constraints ++ [-77]).flatMap icell⟩) j).t = rt j := upd_t ht8 rfl
  have hS9 := hI9
  clear hr hE
  repeat' (first
|(apply O_fn;eq_refl;(apply lendInts_cv;exact (H.chg hC9).fairness;exact hn.1 7;exact hf.fairness1);rintro _ w10 ⟨A7, p7, rfl, hr, hE⟩;refine ⟨fun _ => hI9.chg hE id, ?_⟩)
|(apply WS_next;eq_refl)
|(apply WO_on0;eq_refl)
|(apply O_field;eq_refl;(first|assumption|exact trivial)))
  have hC10 := hC9.trans hE fun _ _ h => h
  have hI10 := hI9.chg hE id
  have hR10 := hR9.chg hE id
  have hO10 := hO9.chg hE id
  have hlb10 : w0.heap.size ≤ w9.heap.size := by have := hO9.lt; omega
  have hW10 : Has w10 w0.heap.size (upd (upd (upd (upd (upd (cirRows c h1 js1 js1 c.justice.length) 1 ⟨.slice A1 (c.inputs.length + 1) p1, 3, 1, c.inputs.length + 1, (c.inputs ++ [-77]).flatMap icell⟩) 3 ⟨.slice A3 (c.outputs.length + 1) p3, 3, 1, c.outputs.length + 1, (c.outputs ++ [-77]).flatMap icell⟩) 4 ⟨.slice A4 (c.bads.length + 1) p4, 3, 1, c.bads.length + 1, (c.bads ++ [-77]).flatMap icell⟩) 5 ⟨.slice A5 (c.constraints.length + 1) p5, 3, 1, c.constraints.length + 1, (c.constraints ++ [-77]).flatMap icell⟩) 7 ⟨.slice A7 (c.fairness.length + 1) p7, 3, 1, c.fairness.length + 1, (c.fairness ++ [-77]).flatMap icell⟩) := hW9.put 7 _ hE (fun _ _ _ _ => id) (own_mono hr hlb10)
  have ht10 : ∀ j, ((upd (upd (upd (upd (upd (cirRows c h1 js1 js1 c.justice.length) 1 ⟨.slice A1 (c.inputs.length + 1) p1, 3, 1, c.inputs.length + 1, (c.inputs ++ [-77]).flatMap icell⟩) 3 ⟨.slice A3 (c.outputs.length + 1) p3, 3, 1, c.outputs.length + 1, (c.outputs ++ [-77]).flatMap icell⟩) 4 ⟨.slice A4 (c.bads.length + 1) p4, 3, 1, c.bads.length + 1, (c.bads ++ [-77]).flatMap icell⟩) 5 ⟨.slice A5 (c.constraints.length + 1) p5, 3, 1, c.constraints.length + 1, (c.constraints ++ [-77]).flatMap icell⟩) 7 ⟨.slice A7 (c.fairness.length + 1) p7, 3, 1, c.fairness.length + 1, (c.fairness ++ [-77]).flatMap icell⟩) j).t = rt j := upd_t ht9 rfl
  have hS10 := hI10
  clear hr hE
  skip
  have hE : Chg w10 (w10.setRow b3 ((ccells c (setHd (setHd (setHd h1 1 (A1, p1)) 3 (A3, p3)) 4 (A4, p4))).set (0 + 5) (.slice A5 c.constraints.length p5)).toArray) (fun k => k = b3) := Chg.setRow _ _ _ rfl
  have hC11 := hC10.trans hE fun k hk hh => by omega
  have hI11 := hI10.chg hE (by omega)
  have hR11 := hR10.chg hE (by omega)
  have hW11 : Has _ w0.heap.size (upd (upd (upd (upd (upd (cirRows c h1 js1 js1 c.justice.length) 1 ⟨.slice A1 (c.inputs.length + 1) p1, 3, 1, c.inputs.length + 1, (c.inputs ++ [-77]).flatMap icell⟩) 3 ⟨.slice A3 (c.outputs.length + 1) p3, 3, 1, c.outputs.length + 1, (c.outputs ++ [-77]).flatMap icell⟩) 4 ⟨.slice A4 (c.bads.length + 1) p4, 3, 1, c.bads.length + 1, (c.bads ++ [-77]).flatMap icell⟩) 5 ⟨.slice A5 (c.constraints.length + 1) p5, 3, 1, c.constraints.length + 1, (c.constraints ++ [-77]).flatMap icell⟩) 7 ⟨.slice A7 (c.fairness.length + 1) p7, 3, 1, c.fairness.length + 1, (c.fairness ++ [-77]).flatMap icell⟩) := hW10.chg hE fun i k hk hh => own_blk (hW10 i) hO10 (by rw [ht10 i]; exact rt_51 i) (by rw [hk, hh])
  have ht11 := ht10
  refine O_doesU (does_store1 (t1 := 29) (b := b3) (o := 0 + 5) (v := (.slice A5 c.constraints.length p5)) (by eq_refl) (by eq_refl) hO10 (by simp [ccells]) rfl rfl) (fun _ => hI11) ?_
  have hO11 : Blk _ b3 29 (ccells c (setHd (setHd (setHd (setHd h1 1 (A1, p1)) 3 (A3, p3)) 4 (A4, p4)) 5 (A5, p5))) := hO10.set ((ccells c (setHd (setHd (setHd h1 1 (A1, p1)) 3 (A3, p3)) 4 (A4, p4))).set (0 + 5) (.slice A5 c.constraints.length p5))
  have hS11 := hI11
  clear hE
  generalize w10.setRow b3 ((ccells c (setHd (setHd (setHd h1 1 (A1, p1)) 3 (A3, p3)) 4 (A4, p4))).set (0 + 5) (.slice A5 c.constraints.length p5)).toArray = w11 at *
  repeat' (first
|(apply WS_next;eq_refl)
|(apply WO_on0;eq_refl)
|(apply O_field;eq_refl;(first|assumption|exact trivial)))
  have hE : Chg w11 (w11.setRow b3 ((ccells c (setHd (setHd (setHd (setHd h1 1 (A1, p1)) 3 (A3, p3)) 4 (A4, p4)) 5 (A5, p5))).set (0 + 7) (.slice A7 c.fairness.length p7)).toArray) (fun k => k = b3) := Chg.setRow _ _ _ rfl
  have hC12 := hC11.trans hE fun k hk hh => by omega
  have hI12 := hI11.chg hE (by omega)
  have hR12 := hR11.chg hE (by omega)
  have hW12 : Has _ w0.heap.size (upd (upd (upd (upd (upd (cirRows c h1 js1 js1 c.justice.length) 1 ⟨.slice A1 (c.inputs.length + 1) p1, 3, 1, c.inputs.length + 1, (c.inputs ++ [-77]).flatMap icell⟩) 3 ⟨.slice A3 (c.outputs.length + 1) p3, 3, 1, c.outputs.length + 1, (c.outputs ++ [-77]).flatMap icell⟩) 4 ⟨.slice A4 (c.bads.length + 1) p4, 3, 1, c.bads.length + 1, (c.bads ++ [-77]).flatMap icell⟩) 5 ⟨.slice A5 (c.constraints.length + 1) p5, 3, 1, c.constraints.length + 1, (c.constraints ++ [-77]).flatMap icell⟩) 7 ⟨.slice A7 (c.fairness.length + 1) p7, 3, 1, c.fairness.length + 1, (c.fairness ++ [-77]).flatMap icell⟩) := hW11.chg hE fun i k hk hh => own_blk (hW11 i) hO11 (by rw [ht11 i]; exact rt_51 i) (by rw [hk, hh])
  have ht12 := ht11
  refine O_doesU (does_store1 (t1 := 29) (b := b3) (o := 0 + 7) (v := (.slice A7 c.fairness.length p7)) (by eq_refl) (by eq_refl) hO11 (by simp [ccells]) rfl rfl) (fun _ => hI12) ?_
  have hO12 : Blk _ b3 29 (ccells c (setHd (setHd (setHd (setHd (setHd h1 1 (A1, p1)) 3 (A3, p3)) 4 (A4, p4)) 5 (A5, p5)) 7 (A7, p7))) := hO11.set ((ccells c (setHd (setHd (setHd (setHd h1 1 (A1, p1)) 3 (A3, p3)) 4 (A4, p4)) 5 (A5, p5))).set (0 + 7) (.slice A7 c.fairness.length p7))
  have hS12 := hI12
  clear hE
  generalize w11.setRow b3 ((ccells c (setHd (setHd (setHd (setHd h1 1 (A1, p1)) 3 (A3, p3)) 4 (A4, p4)) 5 (A5, p5))).set (0 + 7) (.slice A7 c.fairness.length p7)).toArray = w12 at *
  repeat' (first
|(apply WC_seqK;intro K hK)
|(apply hK;clear hK)
|(apply thenQ_normal)
|(apply WS_nil))
  skip
  refine WC_draws [(0, true), (1, true), (2, true), (5, true), (6, true), (7, true), (3, false), (4, false), (8, true), (9, true), (10, false)] (fun W => Blk W w.heap.size 29 (ccells c h) ∧ Blk W b3 29 (ccells c (setHd (setHd (setHd (setHd (setHd h1 1 (A1, p1)) 3 (A3, p3)) 4 (A4, p4)) 5 (A5, p5)) 7 (A7, p7)))) mixed (by kernel_rfl) (by kernel_rfl) ?_
  have hC12 := hC12.dr
  have hI12 : Blk w12.drew w.heap.size 29 (ccells c h) := hI12
  have hR12 : Blk w12.drew (w.heap.size + 1) 29 _ := hR12
  have hO12 : Blk w12.drew b3 29 (ccells c (setHd (setHd (setHd (setHd (setHd h1 1 (A1, p1)) 3 (A3, p3)) 4 (A4, p4)) 5 (A5, p5)) 7 (A7, p7))) := hO12
  have hW12 : Has w12.drew w0.heap.size (upd (upd (upd (upd (upd (cirRows c h1 js1 js1 c.justice.length) 1 ⟨.slice A1 (c.inputs.length + 1) p1, 3, 1, c.inputs.length + 1, (c.inputs ++ [-77]).flatMap icell⟩) 3 ⟨.slice A3 (c.outputs.length + 1) p3, 3, 1, c.outputs.length + 1, (c.outputs ++ [-77]).flatMap icell⟩) 4 ⟨.slice A4 (c.bads.length + 1) p4, 3, 1, c.bads.length + 1, (c.bads ++ [-77]).flatMap icell⟩) 5 ⟨.slice A5 (c.constraints.length + 1) p5, 3, 1, c.constraints.length + 1, (c.constraints ++ [-77]).flatMap icell⟩) 7 ⟨.slice A7 (c.fairness.length + 1) p7, 3, 1, c.fairness.length + 1, (c.fairness ++ [-77]).flatMap icell⟩) := hW12
  have hS12 : Blk w12.drew w.heap.size 29 (ccells c h) ∧ Blk w12.drew b3 29 (ccells c (setHd (setHd (setHd (setHd (setHd h1 1 (A1, p1)) 3 (A3, p3)) 4 (A4, p4)) 5 (A5, p5)) 7 (A7, p7))) := ⟨hI12, hO12⟩
  generalize w12.drew = w12' at *
  repeat' (first
|(apply O_loadR;eq_refl;(first|exact fun _ h => h.1|exact fun _ h => h.2);eq_refl;exact hS12)
|(apply WS_next;eq_refl)
|(apply WO_on0;eq_refl)
|(apply O_field;eq_refl;(first|assumption|exact trivial))
|(apply O_len;eq_refl;(first|assumption|exact trivial))
|(apply O_pure;apply build59_0 <;> eq_refl;(first|assumption|exact trivial)))
  refine O_does (buildS23_1 (by eq_refl)) (fun _ => ⟨hI12.alloc _, hO12.alloc _⟩) ?_
  have hr2 : w12'.ownsRow w0.heap.size 59 3 (slc h1 2 c.latches.length) c.latches.length (c.latches.flatMap tcells) := hW12 2
  have hlw : w0.heap.size ≤ w12'.heap.size := by have := hO12.lt; omega
  repeat' (first
|(apply WS_next;eq_refl)
|(apply WO_on0;eq_refl))
  refine O_append w0.heap.size (by eq_refl) (by eq_refl) (hr2.alloc _) (Blk.newA w12' #[nu (-77), nu 0, nu 0] 59) rfl rfl (by decide) (by simp [Value.oneCell']) hf.latches1 (by decide) (by rw [sz_alloc]; omega) ?_
  intro v' w13 hr hE _ _
  obtain ⟨A2, p2, rfl⟩ := row_form' hr
  have hcap := own_cap hr
  have hC13 : Chg w w13 none_ := (hC12.al _).trans hE fun k hk hh => by have := (hr2.lt k hh).1; omega
  have hI13 := (hI12.alloc (.cells #[nu (-77), nu 0, nu 0] 59)).chg hE (own_blk hr2 hI12 (by decide))
  have hR13 := (hR12.alloc (.cells #[nu (-77), nu 0, nu 0] 59)).chg hE (own_blk hr2 hR12 (by decide))
  have hO13 := (hO12.alloc (.cells #[nu (-77), nu 0, nu 0] 59)).chg hE (own_blk hr2 hO12 (by decide))
  have hWa : Has (w12'.alloc (.cells #[nu (-77), nu 0, nu 0] 59)) w0.heap.size (upd (upd (upd (upd (upd (cirRows c h1 js1 js1 c.justice.length) 1 ⟨.slice A1 (c.inputs.length + 1) p1, 3, 1, c.inputs.length + 1, (c.inputs ++ [-77]).flatMap icell⟩) 3 ⟨.slice A3 (c.outputs.length + 1) p3, 3, 1, c.outputs.length + 1, (c.outputs ++ [-77]).flatMap icell⟩) 4 ⟨.slice A4 (c.bads.length + 1) p4, 3, 1, c.bads.length + 1, (c.bads ++ [-77]).flatMap icell⟩) 5 ⟨.slice A5 (c.constraints.length + 1) p5, 3, 1, c.constraints.length + 1, (c.constraints ++ [-77]).flatMap icell⟩) 7 ⟨.slice A7 (c.fairness.length + 1) p7, 3, 1, c.fairness.length + 1, (c.fairness ++ [-77]).flatMap icell⟩) := fun j => (hW12 j).alloc _
  have hW13 : Has w13 w0.heap.size (upd (upd (upd (upd (upd (upd (cirRows c h1 js1 js1 c.justice.length) 1 ⟨.slice A1 (c.inputs.length + 1) p1, 3, 1, c.inputs.length + 1, (c.inputs ++ [-77]).flatMap icell⟩) 3 ⟨.slice A3 (c.outputs.length + 1) p3, 3, 1, c.outputs.length + 1, (c.outputs ++ [-77]).flatMap icell⟩) 4 ⟨.slice A4 (c.bads.length + 1) p4, 3, 1, c.bads.length + 1, (c.bads ++ [-77]).flatMap icell⟩) 5 ⟨.slice A5 (c.constraints.length + 1) p5, 3, 1, c.constraints.length + 1, (c.constraints ++ [-77]).flatMap icell⟩) 7 ⟨.slice A7 (c.fairness.length + 1) p7, 3, 1, c.fairness.length + 1, (c.fairness ++ [-77]).flatMap icell⟩) 2 ⟨.slice A2 (c.latches.length + 1) p2, 59, 3, c.latches.length + 1, c.latches.flatMap tcells ++ [nu (-77), nu 0, nu 0]⟩) := hWa.put 2 _ hE (fun j k hj hk hh => own_ne hr2 (hW12 j) (by rw [ht12 j]; exact fun e => rt_70 hj e.symm) hh hk) hr
  have ht13 : ∀ j, ((upd (upd (upd (upd (upd (upd (cirRows c h1 js1 js1 c.justice.length) 1 ⟨.slice A1 (c.inputs.length + 1) p1, 3, 1, c.inputs.length + 1, (c.inputs ++ [-77]).flatMap icell⟩) 3 ⟨.slice A3 (c.outputs.length + 1) p3, 3, 1, c.outputs.length + 1, (c.outputs ++ [-77]).flatMap icell⟩) 4 ⟨.slice A4 (c.bads.length + 1) p4, 3, 1, c.bads.length + 1, (c.bads ++ [-77]).flatMap icell⟩) 5 ⟨.slice A5 (c.constraints.length + 1) p5, 3, 1, c.constraints.length + 1, (c.constraints ++ [-77]).flatMap icell⟩) 7 ⟨.slice A7 (c.fairness.length + 1) p7, 3, 1, c.fairness.length + 1, (c.fairness ++ [-77]).flatMap icell⟩) 2 ⟨.slice A2 (c.latches.length + 1) p2, 59, 3, c.latches.length + 1, c.latches.flatMap tcells ++ [nu (-77), nu 0, nu 0]⟩) j).t = rt j := upd_t ht12 rfl
  have hS13 : Blk w13 w.heap.size 29 (ccells c h) ∧ Blk w13 b3 29 (ccells c (setHd (setHd (setHd (setHd (setHd h1 1 (A1, p1)) 3 (A3, p3)) 4 (A4, p4)) 5 (A5, p5)) 7 (A7, p7))) := ⟨hI13, hO13⟩
  refine ⟨fun _ => hS13, ?_⟩
  clear hE hWa hr2
  repeat' (first
|(apply O_sliceTo;eq_refl;eq_refl;omega;omega;exact hS13)
|(apply WS_next;eq_refl)
|(apply WO_on0;eq_refl)
|(apply O_field;eq_refl;(first|assumption|exact trivial)))
  skip
  have hE : Chg w13 (w13.setRow b3 ((ccells c (setHd (setHd (setHd (setHd (setHd h1 1 (A1, p1)) 3 (A3, p3)) 4 (A4, p4)) 5 (A5, p5)) 7 (A7, p7))).set (0 + 2) (.slice A2 c.latches.length p2)).toArray) (fun k => k = b3) := Chg.setRow _ _ _ rfl
  have hC14 := hC13.trans hE fun k hk hh => by omega
  have hI14 := hI13.chg hE (by omega)
  have hR14 := hR13.chg hE (by omega)
  have hW14 : Has _ w0.heap.size (upd (upd (upd (upd (upd (upd (cirRows c h1 js1 js1 c.justice.length) 1 ⟨.slice A1 (c.inputs.length + 1) p1, 3, 1, c.inputs.length + 1, (c.inputs ++ [-77]).flatMap icell⟩) 3 ⟨.slice A3 (c.outputs.length + 1) p3, 3, 1, c.outputs.length + 1, (c.outputs ++ [-77]).flatMap icell⟩) 4 ⟨.slice A4 (c.bads.length + 1) p4, 3, 1, c.bads.length + 1, (c.bads ++ [-77]).flatMap icell⟩) 5 ⟨.slice A5 (c.constraints.length + 1) p5, 3, 1, c.constraints.length + 1, (c.constraints ++ [-77]).flatMap icell⟩) 7 ⟨.slice A7 (c.fairness.length + 1) p7, 3, 1, c.fairness.length + 1, (c.fairness ++ [-77]).flatMap icell⟩) 2 ⟨.slice A2 (c.latches.length + 1) p2, 59, 3, c.latches.length + 1, c.latches.flatMap tcells ++ [nu (-77), nu 0, nu 0]⟩) := hW13.chg hE fun i k hk hh => own_blk (hW13 i) hO13 (by rw [ht13 i]; exact rt_51 i) (by rw [hk, hh])
  have ht14 := ht13
  refine O_doesU (does_store1 (t1 := 29) (b := b3) (o := 0 + 2) (v := (.slice A2 c.latches.length p2)) (by eq_refl) (by eq_refl) hO13 (by simp [ccells]) rfl rfl) (lo (by kernel_rfl)) ?_
  have hO14 : Blk _ b3 29 (ccells c (setHd (setHd (setHd (setHd (setHd (setHd h1 1 (A1, p1)) 3 (A3, p3)) 4 (A4, p4)) 5 (A5, p5)) 7 (A7, p7)) 2 (A2, p2))) := hO13.set ((ccells c (setHd (setHd (setHd (setHd (setHd h1 1 (A1, p1)) 3 (A3, p3)) 4 (A4, p4)) 5 (A5, p5)) 7 (A7, p7))).set (0 + 2) (.slice A2 c.latches.length p2))
  have hS14 := hI14
  clear hE
  generalize w13.setRow b3 ((ccells c (setHd (setHd (setHd (setHd (setHd h1 1 (A1, p1)) 3 (A3, p3)) 4 (A4, p4)) 5 (A5, p5)) 7 (A7, p7))).set (0 + 2) (.slice A2 c.latches.length p2)).toArray = w14 at *
  repeat' (first
|(apply WC_seqK;intro K hK)
|(apply hK;clear hK)
|(apply thenQ_normal)
|(apply WS_nil))
  skip
  refine WC_draws [(0, true), (1, true), (2, true), (5, true), (6, true), (7, true), (3, false), (4, false), (8, true), (9, true), (10, false)] (fun W => Blk W w.heap.size 29 (ccells c h) ∧ Blk W b3 29 (ccells c (setHd (setHd (setHd (setHd (setHd (setHd h1 1 (A1, p1)) 3 (A3, p3)) 4 (A4, p4)) 5 (A5, p5)) 7 (A7, p7)) 2 (A2, p2)))) mixed (by kernel_rfl) (by kernel_rfl) ?_
  have hC14 := hC14.dr
  have hI14 : Blk w14.drew w.heap.size 29 (ccells c h) := hI14
  have hR14 : Blk w14.drew (w.heap.size + 1) 29 _ := hR14
  have hO14 : Blk w14.drew b3 29 (ccells c (setHd (setHd (setHd (setHd (setHd (setHd h1 1 (A1, p1)) 3 (A3, p3)) 4 (A4, p4)) 5 (A5, p5)) 7 (A7, p7)) 2 (A2, p2))) := hO14
  have hW14 : Has w14.drew w0.heap.size (upd (upd (upd (upd (upd (upd (cirRows c h1 js1 js1 c.justice.length) 1 ⟨.slice A1 (c.inputs.length + 1) p1, 3, 1, c.inputs.length + 1, (c.inputs ++ [-77]).flatMap icell⟩) 3 ⟨.slice A3 (c.outputs.length + 1) p3, 3, 1, c.outputs.length + 1, (c.outputs ++ [-77]).flatMap icell⟩) 4 ⟨.slice A4 (c.bads.length + 1) p4, 3, 1, c.bads.length + 1, (c.bads ++ [-77]).flatMap icell⟩) 5 ⟨.slice A5 (c.constraints.length + 1) p5, 3, 1, c.constraints.length + 1, (c.constraints ++ [-77]).flatMap icell⟩) 7 ⟨.slice A7 (c.fairness.length + 1) p7, 3, 1, c.fairness.length + 1, (c.fairness ++ [-77]).flatMap icell⟩) 2 ⟨.slice A2 (c.latches.length + 1) p2, 59, 3, c.latches.length + 1, c.latches.flatMap tcells ++ [nu (-77), nu 0, nu 0]⟩) := hW14
  have hS14 : Blk w14.drew w.heap.size 29 (ccells c h) ∧ Blk w14.drew b3 29 (ccells c (setHd (setHd (setHd (setHd (setHd (setHd h1 1 (A1, p1)) 3 (A3, p3)) 4 (A4, p4)) 5 (A5, p5)) 7 (A7, p7)) 2 (A2, p2))) := ⟨hI14, hO14⟩
  generalize w14.drew = w14' at *
  repeat' (first
|(apply O_loadR;eq_refl;(first|exact fun _ h => h.1|exact fun _ h => h.2);eq_refl;exact hS14)
|(apply WS_next;eq_refl)
|(apply WO_on0;eq_refl)
|(apply O_field;eq_refl;(first|assumption|exact trivial))
|(apply O_len;eq_refl;(first|assumption|exact trivial))
|(apply O_pure;apply build61_0 <;> eq_refl;(first|assumption|exact trivial)))
  refine O_does (buildS25_1 (by eq_refl)) (fun _ => ⟨hI14.alloc _, hO14.alloc _⟩) ?_
  have hr2 : w14'.ownsRow w0.heap.size 61 3 (slc h1 8 c.ands.length) c.ands.length (c.ands.flatMap tcells) := hW14 8
  have hlw : w0.heap.size ≤ w14'.heap.size := by have := hO14.lt; omega
  repeat' (first
|(apply WS_next;eq_refl)
|(apply WO_on0;eq_refl))
  refine O_append w0.heap.size (by eq_refl) (by eq_refl) (hr2.alloc _) (Blk.newA w14' #[nu (-77), nu 0, nu 0] 61) rfl rfl (by decide) (by simp [Value.oneCell']) hf.ands1 (by decide) (by rw [sz_alloc]; omega) ?_
  intro v' w15 hr hE _ _
  obtain ⟨A8, p8, rfl⟩ := row_form' hr
  have hcap := own_cap hr
  have hC15 : Chg w w15 none_ := (hC14.al _).trans hE fun k hk hh => by have := (hr2.lt k hh).1; omega
  have hI15 := (hI14.alloc (.cells #[nu (-77), nu 0, nu 0] 61)).chg hE (own_blk hr2 hI14 (by decide))
  have hR15 := (hR14.alloc (.cells #[nu (-77), nu 0, nu 0] 61)).chg hE (own_blk hr2 hR14 (by decide))
  have hO15 := (hO14.alloc (.cells #[nu (-77), nu 0, nu 0] 61)).chg hE (own_blk hr2 hO14 (by decide))
  have hWa : Has (w14'.alloc (.cells #[nu (-77), nu 0, nu 0] 61)) w0.heap.size (upd (upd (upd (upd (upd (upd (cirRows c h1 js1 js1 c.justice.length) 1 ⟨.slice A1 (c.inputs.length + 1) p1, 3, 1, c.inputs.length + 1, (c.inputs ++ [-77]).flatMap icell⟩) 3 ⟨.slice A3 (c.outputs.length + 1) p3, 3, 1, c.outputs.length + 1, (c.outputs ++ [-77]).flatMap icell⟩) 4 ⟨.slice A4 (c.bads.length + 1) p4, 3, 1, c.bads.length + 1, (c.bads ++ [-77]).flatMap icell⟩) 5 ⟨.slice A5 (c.constraints.length + 1) p5, 3, 1, c.constraints.length + 1, (c.constraints ++ [-77]).flatMap icell⟩) 7 ⟨.slice A7 (c.fairness.length + 1) p7, 3, 1, c.fairness.length + 1, (c.fairness ++ [-77]).flatMap icell⟩) 2 ⟨.slice A2 (c.latches.length + 1) p2, 59, 3, c.latches.length + 1, c.latches.flatMap tcells ++ [nu (-77), nu 0, nu 0]⟩) := fun j => (hW14 j).alloc _
  have hW15 : Has w15 w0.heap.size (upd (upd (upd (upd (upd (upd (upd (cirRows c h1 js1 js1 c.justice.length) 1 ⟨.slice A1 (c.inputs.length + 1) p1, 3, 1, c.inputs.length + 1, (c.inputs ++ [-77]).flatMap icell⟩) 3 ⟨.slice A3 (c.outputs.length + 1) p3, 3, 1, c.outputs.length + 1, (c.outputs ++ [-77]).flatMap icell⟩) 4 ⟨.slice A4 (c.bads.length + 1) p4, 3, 1, c.bads.length + 1, (c.bads ++ [-77]).flatMap icell⟩) 5 ⟨.slice A5 (c.constraints.length + 1) p5, 3, 1, c.constraints.length + 1, (c.constraints ++ [-77]).flatMap icell⟩) 7 ⟨.slice A7 (c.fairness.length + 1) p7, 3, 1, c.fairness.length + 1, (c.fairness ++ [-77]).flatMap icell⟩) 2 ⟨.slice A2 (c.latches.length + 1) p2, 59, 3, c.latches.length + 1, c.latches.flatMap tcells ++ [nu (-77), nu 0, nu 0]⟩) 8 ⟨.slice A8 (c.ands.length + 1) p8, 61, 3, c.ands.length + 1, c.ands.flatMap tcells ++ [nu (-77), nu 0, nu 0]⟩) := hWa.put 8 _ hE (fun j k hj hk hh => own_ne hr2 (hW14 j) (by rw [ht14 j]; exact fun e => rt_43 hj e.symm) hh hk) hr
  have ht15 : ∀ j, ((upd (upd (upd (upd (upd (upd (upd (cirRows c h1 js1 js1 c.justice.length) 1 ⟨.slice A1 (c.inputs.length + 1) p1, 3, 1, c.inputs.length + 1, (c.inputs ++ [-77]).flatMap icell⟩) 3 ⟨.slice A3 (c.outputs.length + 1) p3, 3, 1, c.outputs.length + 1, (c.outputs ++ [-77]).flatMap icell⟩) 4 ⟨.slice A4 (c.bads.length + 1) p4, 3, 1, c.bads.length + 1, (c.bads ++ [-77]).flatMap icell⟩) 5 ⟨.slice A5 (c.constraints.length + 1) p5, 3, 1, c.constraints.length + 1, (c.constraints ++ [-77]).flatMap icell⟩) 7 ⟨.slice A7 (c.fairness.length + 1) p7, 3, 1, c.fairness.length + 1, (c.fairness ++ [-77]).flatMap icell⟩) 2 ⟨.slice A2 (c.latches.length + 1) p2, 59, 3, c.latches.length + 1, c.latches.flatMap tcells ++ [nu (-77), nu 0, nu 0]⟩) 8 ⟨.slice A8 (c.ands.length + 1) p8, 61, 3, c.ands.length + 1, c.ands.flatMap tcells ++ [nu (-77), nu 0, nu 0]⟩) j).t = rt j := upd_t ht14 rfl
  have hS15 : Blk w15 w.heap.size 29 (ccells c h) ∧ Blk w15 b3 29 (ccells c (setHd (setHd (setHd (setHd (setHd (setHd h1 1 (A1, p1)) 3 (A3, p3)) 4 (A4, p4)) 5 (A5, p5)) 7 (A7, p7)) 2 (A2, p2))) := ⟨hI15, hO15⟩
  refine ⟨fun _ => hS15, ?_⟩
  clear hE hWa hr2
  repeat' (first
|(apply O_sliceTo;eq_refl;eq_refl;omega;omega;exact hS15)
|(apply WS_next;eq_refl)
|(apply WO_on0;eq_refl)
|(apply O_field;eq_refl;(first|assumption|exact trivial)))
  skip
  have hE : Chg w15 (w15.setRow b3 ((ccells c (setHd (setHd (setHd (setHd (setHd (setHd h1 1 (A1, p1)) 3 (A3, p3)) 4 (A4, p4)) 5 (A5, p5)) 7 (A7, p7)) 2 (A2, p2))).set (0 + 8) (.slice A8 c.ands.length p8)).toArray) (fun k => k = b3) := Chg.setRow _ _ _ rfl
  have hC16 := hC15.trans hE fun k hk hh => by omega
  have hI16 := hI15.chg hE (by omega)
  have hR16 := hR15.chg hE (by omega)
  have hW16 : Has _ w0.heap.size (upd (upd (upd (upd (upd (upd (upd (cirRows c h1 js1 js1 c.justice.length) 1 ⟨.slice A1 (c.inputs.length + 1) p1, 3, 1, c.inputs.length + 1, (c.inputs ++ [-77]).flatMap icell⟩) 3 ⟨.slice A3 (c.outputs.length + 1) p3, 3, 1, c.outputs.length + 1, (c.outputs ++ [-77]).flatMap icell⟩) 4 ⟨.slice A4 (c.bads.length + 1) p4, 3, 1, c.bads.length + 1, (c.bads ++ [-77]).flatMap icell⟩) 5 ⟨.slice A5 (c.constraints.length + 1) p5, 3, 1, c.constraints.length + 1, (c.constraints ++ [-77]).flatMap icell⟩) 7 ⟨.slice A7 (c.fairness.length + 1) p7, 3, 1, c.fairness.length + 1, (c.fairness ++ [-77]).flatMap icell⟩) 2 ⟨.slice A2 (c.latches.length + 1) p2, 59, 3, c.latches.length + 1, c.latches.flatMap tcells ++ [nu (-77), nu 0, nu 0]⟩) 8 ⟨.slice A8 (c.ands.length + 1) p8, 61, 3, c.ands.length + 1, c.ands.flatMap tcells ++ [nu (-77), nu 0, nu 0]⟩) := hW15.chg hE fun i k hk hh => own_blk (hW15 i) hO15 (by rw [ht15 i]; exact rt_51 i) (by rw [hk, hh])
  have ht16 := ht15
  refine O_doesU (does_store1 (t1 := 29) (b := b3) (o := 0 + 8) (v := (.slice A8 c.ands.length p8)) (by eq_refl) (by eq_refl) hO15 (by simp [ccells]) rfl rfl) (lo (by kernel_rfl)) ?_
  have hO16 : Blk _ b3 29 (ccells c (setHd (setHd (setHd (setHd (setHd (setHd (setHd h1 1 (A1, p1)) 3 (A3, p3)) 4 (A4, p4)) 5 (A5, p5)) 7 (A7, p7)) 2 (A2, p2)) 8 (A8, p8))) := hO15.set ((ccells c (setHd (setHd (setHd (setHd (setHd (setHd h1 1 (A1, p1)) 3 (A3, p3)) 4 (A4, p4)) 5 (A5, p5)) 7 (A7, p7)) 2 (A2, p2))).set (0 + 8) (.slice A8 c.ands.length p8))
  have hS16 := hI16
  clear hE
  generalize w15.setRow b3 ((ccells c (setHd (setHd (setHd (setHd (setHd (setHd h1 1 (A1, p1)) 3 (A3, p3)) 4 (A4, p4)) 5 (A5, p5)) 7 (A7, p7)) 2 (A2, p2))).set (0 + 8) (.slice A8 c.ands.length p8)).toArray = w16 at *
  repeat' (first
|(apply WC_seqK;intro K hK)
|(apply hK;clear hK)
|(apply WC_region)
|(apply thenQ_normal)
|(apply WS_nil)
|(apply WL_on0;eq_refl)
|(apply X_loadW;eq_refl;(first|assumption|(apply Blk.alloc;assumption)|apply Blk.new|apply Blk.newA|(apply Blk.alloc;first|apply Blk.newA|(apply Blk.alloc;first|assumption|apply Blk.newA)));eq_refl))
  skip
  refine X_doesU (does_storeA (t1 := 29) (vs := ccells c (setHd (setHd (setHd (setHd (setHd (setHd (setHd h1 1 (A1, p1)) 3 (A3, p3)) 4 (A4, p4)) 5 (A5, p5)) 7 (A7, p7)) 2 (A2, p2)) 8 (A8, p8))) (o := 0) (b := w.heap.size + 1) (by eq_refl) (by eq_refl) hR16 rfl (by exact Nat.le_refl 11) (by simp [ccells, Value.oneCell'])) ?_
  have hE : Chg w16 (w16.setRow (w.heap.size + 1) (ccells c (setHd (setHd (setHd (setHd (setHd (setHd (setHd h1 1 (A1, p1)) 3 (A3, p3)) 4 (A4, p4)) 5 (A5, p5)) 7 (A7, p7)) 2 (A2, p2)) 8 (A8, p8))).toArray) (fun k => k = w.heap.size + 1) := Chg.setRow _ _ _ rfl
  have hRf := hR16.set (ccells c (setHd (setHd (setHd (setHd (setHd (setHd (setHd h1 1 (A1, p1)) 3 (A3, p3)) 4 (A4, p4)) 5 (A5, p5)) 7 (A7, p7)) 2 (A2, p2)) 8 (A8, p8)))
  have hWf : Has _ w0.heap.size (upd (upd (upd (upd (upd (upd (upd (cirRows c h1 js1 js1 c.justice.length) 1 ⟨.slice A1 (c.inputs.length + 1) p1, 3, 1, c.inputs.length + 1, (c.inputs ++ [-77]).flatMap icell⟩) 3 ⟨.slice A3 (c.outputs.length + 1) p3, 3, 1, c.outputs.length + 1, (c.outputs ++ [-77]).flatMap icell⟩) 4 ⟨.slice A4 (c.bads.length + 1) p4, 3, 1, c.bads.length + 1, (c.bads ++ [-77]).flatMap icell⟩) 5 ⟨.slice A5 (c.constraints.length + 1) p5, 3, 1, c.constraints.length + 1, (c.constraints ++ [-77]).flatMap icell⟩) 7 ⟨.slice A7 (c.fairness.length + 1) p7, 3, 1, c.fairness.length + 1, (c.fairness ++ [-77]).flatMap icell⟩) 2 ⟨.slice A2 (c.latches.length + 1) p2, 59, 3, c.latches.length + 1, c.latches.flatMap tcells ++ [nu (-77), nu 0, nu 0]⟩) 8 ⟨.slice A8 (c.ands.length + 1) p8, 61, 3, c.ands.length + 1, c.ands.flatMap tcells ++ [nu (-77), nu 0, nu 0]⟩) := hW16.chg hE fun i k hk hh => own_blk (hW16 i) hR16 (by rw [ht16 i]; exact rt_51 i) (by rw [hk, hh])
  have hCf := hC16.trans hE fun k hk hh => by omega
  repeat' (first
|(apply hK;clear hK)
|(apply WL_nil)
|(apply thenQ_normal)
|(apply WC_ret))
  refine retC0 (.inl rfl) (by eq_refl) (cs := ccells c (setHd (setHd (setHd (setHd (setHd (setHd (setHd h1 1 (A1, p1)) 3 (A3, p3)) 4 (A4, p4)) 5 (A5, p5)) 7 (A7, p7)) 2 (A2, p2)) 8 (A8, p8))) (fun j u hj => ?_) rfl ⟨(setHd (setHd (setHd (setHd (setHd (setHd (setHd h1 1 (A1, p1)) 3 (A3, p3)) 4 (A4, p4)) 5 (A5, p5)) 7 (A7, p7)) 2 (A2, p2)) 8 (A8, p8)), js1, rfl, fun j => ?_, hCf⟩
  · rw [add_at, Nat.zero_add]
    exact (hRf.cell j).trans hj
  · have hj := own_mono (hWf j) (show w.heap.size ≤ w0.heap.size by omega)
    match j with
    | 0 | 1 | 3 | 4 | 5 | 6 | 7 | 9 | 10 => exact hj
    | 2 =>
      show World.ownsRow _ _ 59 3 _ _ ((c.latches ++ [(-77, 0, 0)]).flatMap tcells)
      rw [lent_tri]
      exact hj
    | 8 =>
      show World.ownsRow _ _ 61 3 _ _ ((c.ands ++ [(-77, 0, 0)]).flatMap tcells)
      rw [lent_tri]
      exact hj
    | k + 11 => exact hj
end SC
end Go.Proofs.YtclihihdgodloaaDoor
end
section
/- trestlebook: KeptCircuit. -/
set_option linter.unusedVariables false
set_option linter.unusedSimpArgs false
namespace Go.Proofs.YtclihihdgodloaaDoor
namespace SC
open Go.Proofs
theorem lint_at {w : World} {base : Nat} {h : Hd} {i : Nat} {l : List Int} (H : (lintRow h i l).own w base) : RowA w icell 1 (h i).1 (l ++ [-77]) ∧ l.length + 1 ≤ (h i).2 := by
  have H1 : w.ownsRow base 3 1 (.slice (h i).1 (l ++ [-77]).length (h i).2) (l ++ [-77]).length ((l ++ [-77]).flatMap icell) := by
    have e : (l ++ [(-77 : Int)]).length = l.length + 1 := by simp
    rw [e]; exact H
  have hc := own_cap H1
  exact ⟨RowA.own ilen H1, by simpa using hc⟩
theorem ltri_at {w : World} {base : Nat} {h : Hd} {i : Nat} {t : TypeId} {l : List Tri} (H : (ltriRow h i t l).own w base) : RowA w tcells 3 (h i).1 (l ++ [(-77, 0, 0)]) ∧ l.length + 1 ≤ (h i).2 := by
  have H1 : w.ownsRow base t 3 (.slice (h i).1 (l ++ [(-77, 0, 0)]).length (h i).2) (l ++ [(-77, 0, 0)]).length ((l ++ [(-77, 0, 0)]).flatMap tcells) := by
    have e : (l ++ [((-77, 0, 0) : Tri)]).length = l.length + 1 := by simp
    rw [e]; exact H
  have hc := own_cap H1
  exact ⟨RowA.own tlen H1, by simpa using hc⟩
theorem CirLent.chg {w w' : World} {base : Nat} {c : Circ} {h js : Hd} (H : CirLent w base c h js) (hc : Chg w w' none_) : CirLent w' base c h js := fun i => own_chg (H i) hc fun _ _ => id
theorem CirLent.at {w : World} {base : Nat} {c : Circ} {h js : Hd} (H : CirLent w base c h js) : CirAt w c h js := by
  refine ⟨(lint_at (H 1)).1.left, (ltri_at (H 2)).1.left, (lint_at (H 3)).1.left, (lint_at (H 4)).1.left, (lint_at (H 5)).1.left, fun k hk => ?_, fun k hk => ?_, (lint_at (H 7)).1.left, (ltri_at (H 8)).1.left, RowA.own slen (H 9), RowA.own blen (H 10)⟩
  · have h6 := H 6
    simp only [Rw.own, lentRow, cirRows] at h6
    rcases h6.2 with ⟨hv, hn⟩ | ⟨g, cap, cur, hv, hb, hg, rest⟩
    · omega
    · simp only [slc, Value.slice.injEq] at hv
      refine ⟨⟨g, 0, none⟩, hv.1, ?_⟩
      have := h6.cells (g := g) (by simp [slc, hv.1, Value.ownBlock]) k (slc js k c.justice[k].length) (by simp [hk])
      rw [show (k : Int).toNat * 1 = k by omega]
      exact this
  · have := H (k + 11)
    simp only [lentRow, cirRows, if_pos hk] at this
    have e : c.justice.getD k [] = c.justice[k] := by simp [hk]
    rw [e] at this
    exact RowA.own ilen this
section
variable {e : Env} {x y : Operand} {ty t : TypeId}
theorem O_eqVT {n : Nat} {all : List Oper} {K : Env → World → Prop} {S : World → Prop} {r : List (Nat × Bool)} {i : Nat} {w : World} {d : Option Tmp} {a : Array Value} {C : Prop} (hgd : Tryd.prog.eqGuardType Tryd.prog.depth t = false) (hr : ∀ w, ∃ r, (Op.equal t (.agg a) (.agg a)).run Tryd.prog w = .ok r w ∧ (r = true ↔ C)) (hC : C) (h : ev e x = some (.agg a)) (h1 : ev e y = some (.agg a)) (hS : S w)
    (ht : WS Tryd.prog n all S K r (push d (.bool true) e) w) : OX Tryd.prog n all S K i true r d (.binOp .eql t x y t) ty e w :=
  O_pure ((p_eqV hgd hr h h1).2 hC) hS ht
end
attribute [local irreducible] WC WL WX WS WO OX Does DoesU Enters CV Pure thenQ blockQ retQ Wants retQC
set_option maxRecDepth 100000
theorem mark_fits : TriFits (-77, 0, 0) := ⟨by unfold fits; decide, by unfold fits; decide, by unfold fits; decide⟩
theorem keptCircuit_cv {w : World} {base : Nat} {c : Circ} {h js k ks : Hd} (H : CirLent w base c h js) (H' : CirAt w c k ks) (hc : c.Okay) (hl : ∀ n ∈ c.lens, n + 1 ≤ 9223372036854775807) : CV Tryd.prog 16 [.agg (ccells c h).toArray, .agg (ccells c k).toArray] w fun v w' => v = .bool true ∧ Chg w w' none_ := by
  have hC0 : Chg w ((w.alloc (.cells (ccells c h).toArray 29)).alloc (.cells (ccells c k).toArray 29)) none_ := (Chg.alloc w _ none_).al _
  have hA : ∀ W, Chg ((w.alloc (.cells (ccells c h).toArray 29)).alloc (.cells (ccells c k).toArray 29)) W none_ → Blk W w.heap.size 29 (ccells c h) := fun W hW => (Blk.alloc _ (Blk.new w _ _)).chg hW id
  have hB : ∀ W, Chg ((w.alloc (.cells (ccells c h).toArray 29)).alloc (.cells (ccells c k).toArray 29)) W none_ → Blk W (w.alloc (.cells (ccells c h).toArray 29)).heap.size 29 (ccells c k) := fun W hW => (Blk.new (w.alloc (.cells (ccells c h).toArray 29)) (ccells c k) 29).chg hW id
  have hr := Chg.refl ((w.alloc (.cells (ccells c h).toArray 29)).alloc (.cells (ccells c k).toArray 29)) none_
  have lc : ∀ n : Nat, (n : Int) ∈ c.lens → n + 1 ≤ 9223372036854775807 := fun n hn => by have := hl _ hn; omega
  have s1 : ∀ W, Chg ((w.alloc (.cells (ccells c h).toArray 29)).alloc (.cells (ccells c k).toArray 29)) W none_ → CV Tryd.prog 17 [.slice (h 1).1 c.inputs.length (h 1).2, .slice (k 1).1 c.inputs.length (k 1).2] W fun v w' => v = .bool true ∧ Chg W w' none_ := fun W hW => keptInts_cv ((lint_at (H 1)).1.chg hC0 |>.chg hW) (lint_at (H 1)).2 ((H'.chg hC0).chg hW).inputs (lc _ (by simp [Circ.lens]))
  have s3 : ∀ W, Chg ((w.alloc (.cells (ccells c h).toArray 29)).alloc (.cells (ccells c k).toArray 29)) W none_ → CV Tryd.prog 17 [.slice (h 3).1 c.outputs.length (h 3).2, .slice (k 3).1 c.outputs.length (k 3).2] W fun v w' => v = .bool true ∧ Chg W w' none_ := fun W hW => keptInts_cv ((lint_at (H 3)).1.chg hC0 |>.chg hW) (lint_at (H 3)).2 ((H'.chg hC0).chg hW).outputs (lc _ (by simp [Circ.lens]))
  have s4 : ∀ W, Chg ((w.alloc (.cells (ccells c h).toArray 29)).alloc (.cells (ccells c k).toArray 29)) W none_ → CV Tryd.prog 17 [.slice (h 4).1 c.bads.length (h 4).2, .slice (k 4).1 c.bads.length (k 4).2] W fun v w' => v = .bool true ∧ Chg W w' none_ := fun W hW => keptInts_cv ((lint_at (H 4)).1.chg hC0 |>.chg hW) (lint_at (H 4)).2 ((H'.chg hC0).chg hW).bads (lc _ (by simp [Circ.lens]))
  have s5 : ∀ W, Chg ((w.alloc (.cells (ccells c h).toArray 29)).alloc (.cells (ccells c k).toArray 29)) W none_ → CV Tryd.prog 17 [.slice (h 5).1 c.constraints.length (h 5).2, .slice (k 5).1 c.constraints.length (k 5).2] W fun v w' => v = .bool true ∧ Chg W w' none_ := fun W hW => keptInts_cv ((lint_at (H 5)).1.chg hC0 |>.chg hW) (lint_at (H 5)).2 ((H'.chg hC0).chg hW).constraints (lc _ (by simp [Circ.lens]))
  have s7 : ∀ W, Chg ((w.alloc (.cells (ccells c h).toArray 29)).alloc (.cells (ccells c k).toArray 29)) W none_ → CV Tryd.prog 17 [.slice (h 7).1 c.fairness.length (h 7).2, .slice (k 7).1 c.fairness.length (k 7).2] W fun v w' => v = .bool true ∧ Chg W w' none_ := fun W hW => keptInts_cv ((lint_at (H 7)).1.chg hC0 |>.chg hW) (lint_at (H 7)).2 ((H'.chg hC0).chg hW).fairness (lc _ (by simp [Circ.lens]))
  have s34 : ∀ W, Chg ((w.alloc (.cells (ccells c h).toArray 29)).alloc (.cells (ccells c k).toArray 29)) W none_ → CV Tryd.prog 47 [.agg (ccells c h).toArray, .agg (ccells c k).toArray] W fun v w' => v = .bool true ∧ Chg W w' none_ := fun W hW => (sameCircuit_cv ((H.at.chg hC0).chg hW) ((H'.chg hC0).chg hW) hc hc).mono fun v w' ⟨b, e, h1, h2⟩ => ⟨by rw [e, h1.2 rfl], h2⟩
  obtain ⟨q2, hq2, c2⟩ := (ltri_at (H 2)).1 c.latches.length (by simp)
  obtain ⟨q8, hq8, c8⟩ := (ltri_at (H 8)).1 c.ands.length (by simp)
  have d2 : ∀ W, Chg ((w.alloc (.cells (ccells c h).toArray 29)).alloc (.cells (ccells c k).toArray 29)) W none_ → ∀ j u, (tcells (-77, 0, 0))[j]? = some u → W.cell? ((q2.add ((c.latches.length : Int).toNat * 3)).add j) = some u := fun W hW j u hj => cel_chg (cel_chg (c2 j u (by simpa using hj)) hC0 id) hW id
  have d8 : ∀ W, Chg ((w.alloc (.cells (ccells c h).toArray 29)).alloc (.cells (ccells c k).toArray 29)) W none_ → ∀ j u, (tcells (-77, 0, 0))[j]? = some u → W.cell? ((q8.add ((c.ands.length : Int).toNat * 3)).add j) = some u := fun W hW j u hj => cel_chg (cel_chg (c8 j u (by simpa using hj)) hC0 id) hW id
  have n2 := (ltri_at (H 2)).2
  have n8 := (ltri_at (H 8)).2
  have m2 := lc c.latches.length (by simp [Circ.lens])
  have m8 := lc c.ands.length (by simp [Circ.lens])
  refine enter 77 [4] Tryd.func16 rfl rfl rfl (by decide) rfl ?_
  repeat' (first
|(apply X_loadR;eq_refl;(apply hA;assumption);eq_refl)
|(apply X_loadR;eq_refl;(apply hB;assumption);eq_refl)
|(apply X_fn;eq_refl;(first|(apply s1;assumption)|(apply s3;assumption)|(apply s4;assumption)|(apply s5;assumption)|(apply s7;assumption));rintro _ W ⟨rfl, hE⟩;have hD := Chg.trans (by assumption) hE (fun _ _ h => h))
|(apply WC_seqK;intro K hK)
|(apply hK;clear hK)
|(apply WC_region)
|(apply WL_nil)
|(apply thenQ_normal)
|(apply WL_on0;eq_refl)
|(apply WL_onG;eq_refl;eq_refl;eq_refl;eq_refl)
|(apply X_pv;eq_refl;first|exact trivial|omega)
|(apply X_field;eq_refl)
|(apply X_box;eq_refl))
  refine WC_turn (fun W => Chg ((w.alloc (.cells (ccells c h).toArray 29)).alloc (.cells (ccells c k).toArray 29)) W none_) (by assumption) ?_
  intro W9 hW9
  refine WC_draws [(0, true), (1, true), (2, true), (3, true), (4, false), (5, true), (6, true), (7, true), (8, true), (9, true), (10, true), (11, true), (12, true), (13, true), (14, true), (15, true), (16, true), (17, true), (18, true), (19, true), (20, true), (21, true), (22, true), (23, true), (24, true), (25, true), (26, true), (27, true), (28, true), (29, true), (30, true), (31, true), (32, true), (33, true), (34, true), (35, true), (36, true), (37, true), (38, true)] (fun W => Chg ((w.alloc (.cells (ccells c h).toArray 29)).alloc (.cells (ccells c k).toArray 29)) W none_) mixed (by kernel_rfl) (by kernel_rfl) ?_
  have hS := hW9.dr
  clear hW9
  have e2 : (ccells c h)[0 + 2]? = some (.slice (some q2) c.latches.length (h 2).2) := by rw [← hq2]; rfl
  have e8 : (ccells c h)[0 + 8]? = some (.slice (some q8) c.ands.length (h 8).2) := by rw [← hq8]; rfl
  repeat' (first
|(apply O_loadW;eq_refl;exact hA;eq_refl;assumption)
|(apply O_loadW;eq_refl;exact hB;eq_refl;assumption)
|(apply O_loadR;eq_refl;exact hA;exact e2;assumption)
|(apply O_loadR;eq_refl;exact hA;exact e8;assumption)
|(apply O_loadR;eq_refl;exact hB;eq_refl;assumption)
|(apply O_fn;eq_refl;(apply s34;assumption);rintro _ W2 ⟨rfl, hE⟩;have hS2 := Chg.trans hS hE (fun _ _ h => h);refine ⟨fun _ => hS2, ?_⟩)
|(apply O_sliceTo;eq_refl;eq_refl;omega;omega;assumption)
|(apply O_loadAP (tcells (-77, 0, 0));eq_refl;eq_refl;(first|exact d2|exact d8);assumption)
|(apply O_eqVT guard70 (run_neq70 mark_fits mark_fits) rfl;eq_refl;eq_refl;assumption)
|(apply O_eqVT guard43 (run_neq43 mark_fits mark_fits) rfl;eq_refl;eq_refl;assumption)
|(apply hK;clear hK)
|(apply thenQ_normal)
|(apply WC_ret)
|(apply ret1;eq_refl)
|(apply WS_nil)
|(apply WS_next;eq_refl)
|(apply WO_on0;eq_refl)
|(apply WO_onG;eq_refl;eq_refl;eq_refl;eq_refl)
|(apply O_pv;eq_refl;(first|exact trivial|omega);(first|assumption|exact trivial))
|(apply O_field;eq_refl;(first|assumption|exact trivial))
|(apply O_len;eq_refl;(first|assumption|exact trivial))
|(apply O_indexP;eq_refl;eq_refl;omega;omega;(first|assumption|exact trivial))
|(apply O_pure;apply build59_0 <;> eq_refl;(first|assumption|exact trivial))
|(apply O_pure;apply build61_0 <;> eq_refl;(first|assumption|exact trivial)))
  skip
  exact ⟨rfl, hC0.trans (by assumption) fun _ _ h => h⟩
end SC
end Go.Proofs.YtclihihdgodloaaDoor
end
section
/- A circuit that comes in, with its reach: numbers that fit, lists that memory holds, no room where there is no row. -/
set_option linter.unusedVariables false
set_option linter.unusedSimpArgs false
namespace Go.Proofs.YtclihihdgodloaaDoor
namespace SC
open Go.Proofs
set_option maxRecDepth 100000
theorem weightsAll_mem {H : Type} {P : Program} {e : TypeId} : ∀ {l : List (DataW H)} {d : DataW H}, d ∈ l → ∀ n ∈ d.weights P e, n ∈ DataW.weightsAll P e l
  | d' :: r, d, hd, n, hn => by
    simp only [DataW.weightsAll, List.mem_append]
    rcases List.mem_cons.1 hd with rfl | h
    · exact Or.inl hn
    · exact Or.inr (weightsAll_mem h n hn)
section
variable {H : Type} {enc : TypeId × Value → H} {W : World} {base : Nat} {spare : Nat → Bool} {held : Bool}
/-- A row that comes in. -/
theorem openRowS {α : Type} (en : α → List Value) (Good : α → DataW H → Prop) {t e : TypeId} {sz : Nat} (ht : Tryd.prog.underlying t = some (.slice e)) (hsz : Tryd.prog.cellsOf e = sz) (hl : ∀ a, (en a).length = sz)
    (he : ∀ (fuel : Nat) (cs : List Value) (x : DataW H × List MemPlace), DataW.trod enc Tryd.prog W base spare held fuel e cs = some x → ∃ a, en a = cs ∧ Good a x.1) {fuel : Nat} {cs : List Value} {x : DataW H × List MemPlace}
    (h : DataW.trod enc Tryd.prog W base spare held fuel t cs = some x) : ∃ (A : Option Addr) (cp : Nat) (l : List α), cs = [.slice A l.length cp] ∧ RowA W en sz A l ∧ (∀ a ∈ l, ∃ d, Good a d ∧ ∀ n ∈ d.weights Tryd.prog e, n ∈ x.1.weights Tryd.prog t) ∧ l.length ≤ maxLen ∧ (A = none → cp = 0) ∧ (∀ R, (∀ n ∈ x.1.weights Tryd.prog t, n ≤ R) → l.length * Tryd.prog.bytesOf e ≤ R) := by
  rcases DataW.trod_slice ht h with ⟨rfl, _⟩ | ⟨a, len, cap, elems, rest, n, _, rfl, hx0, hb, hlc, hcm, hel, hi, _⟩
  · exact ⟨none, 0, [], rfl, fun k hk => absurd hk (Nat.not_lt_zero _), fun a ha => (by cases ha), Nat.zero_le _, fun _ => rfl, fun R _ => by simp⟩
  · have key : ∀ i, i < len → ∃ y : α, (∃ d, Good y d ∧ ∀ n ∈ d.weights Tryd.prog e, n ∈ x.1.weights Tryd.prog t) ∧ ∀ j u, (en y)[j]? = some u → W.cell? ((a.add (i * sz)).add j) = some u := fun i hlt => by
      have h1 := hi i hlt
      have hlt' : i < elems.length := by omega
      rw [List.getElem?_eq_getElem hlt'] at h1
      obtain ⟨cs, hc, hx⟩ := Option.bind_eq_some_iff.1 h1
      rw [hsz] at hc
      obtain ⟨_, hcl, hat⟩ := World.cells?_some hc
      obtain ⟨y, rfl, hg⟩ := he _ _ _ hx
      refine ⟨y, ⟨_, hg, fun m hm => ?_⟩, fun j u hj => ?_⟩
      · rw [hx0]
        simp only [DataW.weights, ht, List.mem_cons, List.mem_append]
        exact .inr (.inl (weightsAll_mem (List.mem_map.2 ⟨_, List.getElem_mem hlt', rfl⟩) m hm))
      · have hjl : j < sz := by have := (List.getElem?_eq_some_iff.1 hj).1; rwa [hl] at this
        rw [hat j hjl]
        exact hj
    obtain ⟨l, hll, hq⟩ := listOf key
    subst hll
    refine ⟨some a, cap, l, rfl, fun k hk => ⟨a, rfl, fun j u hj => ?_⟩, fun y hy => ?_, Nat.le_trans hlc hcm, fun h => (by cases h), fun R hR => ?_⟩
    · rw [show (k : Int).toNat = k by omega]
      exact (hq k hk).2 j u hj
    · obtain ⟨i, hi', rfl⟩ := List.mem_iff_getElem.1 hy
      exact (hq i hi').1
    · have := hR ((elems.length + rest.length) * Tryd.prog.bytesOf e) (by rw [hx0]; simp [DataW.weights, ht])
      rw [← hel]
      exact Nat.le_trans (Nat.mul_le_mul_right _ (Nat.le_add_right _ _)) this
theorem openFieldS {t : TypeId} {fs : Array Field} {fuel : Nat} {cs : List Value} {x : DataW H × List MemPlace} (ht : Tryd.prog.underlying t = some (.struct fs)) (hc : Tryd.prog.cellsOf t = fs.size) (h : DataW.trod enc Tryd.prog W base spare held fuel t cs = some x) :
    cs.length = fs.size ∧ ∃ n, ∀ (i : Nat) (f : Field) (hi : i < cs.length), fs[i]? = some f → f.offset = i → Tryd.prog.cellsOf f.type = 1 → ∃ y, DataW.trod enc Tryd.prog W base spare held n f.type [cs[i]] = some y ∧ ∀ n ∈ y.1.weights Tryd.prog f.type, n ∈ x.1.weights Tryd.prog t := by
  obtain ⟨xs, n, _, hx0, hcl, hxl, hf⟩ := DataW.trod_struct ht h
  refine ⟨hcl.trans hc, n, fun i f hi hfi ho h1 => ?_⟩
  have := hf i f hfi
  have hx : i < xs.length := by rw [hxl, ← hc, ← hcl]; exact hi
  rw [ho, h1, List.drop_eq_getElem_cons hi, List.getElem?_eq_getElem hx] at this
  refine ⟨_, this, fun m hm => ?_⟩
  rw [hx0]
  simp only [DataW.weights, ht]
  exact DataW.weights_mem_each (j := i) (t := f.type) (d := xs[i].1) (by rw [List.getElem?_map, Array.getElem?_toList, hfi]; rfl) (by rw [List.getElem?_map, List.getElem?_eq_getElem hx]; rfl) m hm
theorem openIntS {fuel : Nat} {cs : List Value} {x : DataW H × List MemPlace} (h : DataW.trod enc Tryd.prog W base spare held fuel 3 cs = some x) : ∃ a, icell a = cs ∧ fits a := by
  obtain ⟨z, rfl, _, w1⟩ := DataW.trod_int Tryd.underlying3 h
  refine ⟨z, rfl, ?_⟩
  simp [Lit.wf, IntKind.min, IntKind.max, IntKind.signed, IntKind.bits] at w1; unfold fits; omega
theorem openTriS {t : TypeId} {fs : Array Field} (ht : Tryd.prog.underlying t = some (.struct fs)) (hc : Tryd.prog.cellsOf t = 3) (hs : fs.size = 3) (hf : ∀ i, i < 3 → ∃ f, fs[i]? = some f ∧ f.offset = i ∧ f.type = 3) {fuel : Nat} {cs : List Value} {x : DataW H × List MemPlace}
    (h : DataW.trod enc Tryd.prog W base spare held fuel t cs = some x) : ∃ a, tcells a = cs ∧ TriFits a := by
  obtain ⟨hl, n, hfl⟩ := openField ht (hc.trans hs.symm) h
  rw [hs] at hl
  have one : ∀ (i : Nat) (hi : i < cs.length), ∃ z : Int, cs[i] = nu z ∧ fits z := fun i hi => by
    obtain ⟨f, h1, h2, h3⟩ := hf i (by omega)
    obtain ⟨y, hy⟩ := hfl i f hi h1 h2 (by rw [h3]; kernel_rfl)
    rw [h3] at hy
    obtain ⟨z, hz, hw⟩ := openIntS hy
    exact ⟨z, (List.cons.inj hz).1.symm, hw⟩
  obtain ⟨p, h0, f0⟩ := one 0 (by omega)
  obtain ⟨q, h1, f1⟩ := one 1 (by omega)
  obtain ⟨r, h2, f2⟩ := one 2 (by omega)
  refine ⟨(p, q, r), ?_, f0, f1, f2⟩
  apply List.ext_getElem (by rw [hl]; rfl)
  intro i hi1 hi2
  match i, hi2 with
  | 0, _ => exact h0.symm
  | 1, _ => exact h1.symm
  | 2, _ => exact h2.symm
theorem openAndS {fuel : Nat} {cs : List Value} {x : DataW H × List MemPlace} (h : DataW.trod enc Tryd.prog W base spare held fuel 61 cs = some x) : ∃ a, tcells a = cs ∧ TriFits a :=
  openTriS Tryd.underlying61 (by kernel_rfl) rfl (fun i hi => match i, hi with
    | 0, _ => ⟨_, rfl, rfl, rfl⟩
    | 1, _ => ⟨_, rfl, rfl, rfl⟩
    | 2, _ => ⟨_, rfl, rfl, rfl⟩) h
theorem openLatchS {fuel : Nat} {cs : List Value} {x : DataW H × List MemPlace} (h : DataW.trod enc Tryd.prog W base spare held fuel 59 cs = some x) : ∃ a, tcells a = cs ∧ TriFits a :=
  openTriS Tryd.underlying59 (by kernel_rfl) rfl (fun i hi => match i, hi with
    | 0, _ => ⟨_, rfl, rfl, rfl⟩
    | 1, _ => ⟨_, rfl, rfl, rfl⟩
    | 2, _ => ⟨_, rfl, rfl, rfl⟩) h
theorem bytes3 : Tryd.prog.bytesOf 3 = 8 := by kernel_rfl
theorem bytes70 : Tryd.prog.bytesOf 59 = 24 := by kernel_rfl
theorem bytes43 : Tryd.prog.bytesOf 61 = 24 := by kernel_rfl
theorem bytes45 : Tryd.prog.bytesOf 22 = 24 := by kernel_rfl
theorem bytes117 : Tryd.prog.bytesOf 130 = 32 := by kernel_rfl
theorem bytes9 : Tryd.prog.bytesOf 9 = 16 := by kernel_rfl
theorem openIntsS {fuel : Nat} {cs : List Value} {x : DataW H × List MemPlace} (h : DataW.trod enc Tryd.prog W base spare held fuel 22 cs = some x) : ∃ y, lcell y = cs ∧ (RowA W icell 1 y.A y.l ∧ y.l.length ≤ maxLen ∧ (y.A = none → y.cp = 0) ∧ ∀ R, (∀ n ∈ x.1.weights Tryd.prog 22, n ≤ R) → y.l.length * 8 ≤ R) := by
  obtain ⟨A, cp, l, rfl, hr, _, hl, hn, hw⟩ := openRowS icell (fun _ _ => True) Tryd.underlying22 (by kernel_rfl) ilen (fun _ _ _ h => by obtain ⟨a, h1, _⟩ := openIntS h; exact ⟨a, h1, trivial⟩) h
  rw [bytes3] at hw
  exact ⟨⟨A, cp, l⟩, rfl, hr, hl, hn, hw⟩
/-- A circuit that comes in. -/
theorem openCirS {v : Value} {d : DataW H} {ps : List MemPlace} {r : Reach} {b0 : Nat} (hv : Value.okWide Tryd.prog W r b0 29 v) (h : DataW.Trod enc Tryd.prog W base spare held 29 v d ps) (hz : ∀ n ∈ d.weights Tryd.prog 29, n ≤ 140737488351232) :
    ∃ (c : Circ) (h js : Hd), v = .agg (ccells c h).toArray ∧ CirAt W c h js ∧ c.Sane ∧ c.Okay ∧ c.Fits1 ∧ Nils h js := by
  obtain ⟨cs, rfl, hsz⟩ := Go.WideShapes.okWide_struct Tryd.underlying29 hv
  obtain ⟨fuel, hf⟩ := h
  rw [agg_cells] at hf
  obtain ⟨hl, n, hfl⟩ := openFieldS Tryd.underlying29 (by kernel_rfl) hf
  have hl : cs.toList.length = 11 := hl
  obtain ⟨y0, h0, g0⟩ := hfl 0 _ (by rw [hl]; decide) rfl rfl (by kernel_rfl)
  obtain ⟨y1, h1, g1⟩ := hfl 1 _ (by rw [hl]; decide) rfl rfl (by kernel_rfl)
  obtain ⟨y2, h2, g2⟩ := hfl 2 _ (by rw [hl]; decide) rfl rfl (by kernel_rfl)
  obtain ⟨y3, h3, g3⟩ := hfl 3 _ (by rw [hl]; decide) rfl rfl (by kernel_rfl)
  obtain ⟨y4, h4, g4⟩ := hfl 4 _ (by rw [hl]; decide) rfl rfl (by kernel_rfl)
  obtain ⟨y5, h5, g5⟩ := hfl 5 _ (by rw [hl]; decide) rfl rfl (by kernel_rfl)
  obtain ⟨y6, h6, g6⟩ := hfl 6 _ (by rw [hl]; decide) rfl rfl (by kernel_rfl)
  obtain ⟨y7, h7, g7⟩ := hfl 7 _ (by rw [hl]; decide) rfl rfl (by kernel_rfl)
  obtain ⟨y8, h8, g8⟩ := hfl 8 _ (by rw [hl]; decide) rfl rfl (by kernel_rfl)
  obtain ⟨y9, h9, g9⟩ := hfl 9 _ (by rw [hl]; decide) rfl rfl (by kernel_rfl)
  obtain ⟨y10, h10, g10⟩ := hfl 10 _ (by rw [hl]; decide) rfl rfl (by kernel_rfl)
  obtain ⟨m, e0, _, _⟩ := DataW.trod_int Tryd.underlying3 h0
  have oi : ∀ (fuel : Nat) (cs : List Value) (x : DataW H × List MemPlace), DataW.trod enc Tryd.prog W base spare held fuel 3 cs = some x → ∃ a, icell a = cs ∧ True := fun _ _ _ h => by obtain ⟨a, h1, _⟩ := openIntS h; exact ⟨a, h1, trivial⟩
  obtain ⟨A1, c1, l1, e1, r1, _, n1, z1, w1⟩ := openRowS icell (fun _ _ => True) Tryd.underlying22 (by kernel_rfl) ilen oi h1
  obtain ⟨A2, c2, l2, e2, r2, k2, n2, z2, w2⟩ := openRowS tcells (fun a _ => TriFits a) Tryd.underlying23 (by kernel_rfl) tlen (fun _ _ _ h => openLatchS h) h2
  obtain ⟨A3, c3, l3, e3, r3, _, n3, z3, w3⟩ := openRowS icell (fun _ _ => True) Tryd.underlying22 (by kernel_rfl) ilen oi h3
  obtain ⟨A4, c4, l4, e4, r4, _, n4, z4, w4⟩ := openRowS icell (fun _ _ => True) Tryd.underlying22 (by kernel_rfl) ilen oi h4
  obtain ⟨A5, c5, l5, e5, r5, _, n5, z5, w5⟩ := openRowS icell (fun _ _ => True) Tryd.underlying22 (by kernel_rfl) ilen oi h5
  obtain ⟨A6, c6, l6, e6, r6, k6, n6, z6, w6⟩ := openRowS lcell (fun y d => RowA W icell 1 y.A y.l ∧ y.l.length ≤ maxLen ∧ (y.A = none → y.cp = 0) ∧ ∀ R, (∀ n ∈ d.weights Tryd.prog 22, n ≤ R) → y.l.length * 8 ≤ R) Tryd.underlying24 (by kernel_rfl) (fun _ => rfl) (fun _ _ _ h => openIntsS h) h6
  obtain ⟨A7, c7, l7, e7, r7, _, n7, z7, w7⟩ := openRowS icell (fun _ _ => True) Tryd.underlying22 (by kernel_rfl) ilen oi h7
  obtain ⟨A8, c8, l8, e8, r8, k8, n8, z8, w8⟩ := openRowS tcells (fun a _ => TriFits a) Tryd.underlying25 (by kernel_rfl) tlen (fun _ _ _ h => openAndS h) h8
  obtain ⟨A9, c9, l9, e9, r9, k9, n9, z9, w9⟩ := openRowS scells (fun s _ => (0 ≤ s.kind ∧ s.kind ≤ 255) ∧ (-9223372036854775808 ≤ s.at_ ∧ s.at_ ≤ 9223372036854775807) ∧ s.name.size ≤ maxLen) Tryd.underlying26 (by kernel_rfl) slen (fun _ _ _ h => openSym h) h9
  obtain ⟨A10, c10, l10, e10, r10, k10, n10, z10, w10⟩ := openRowS bcell (fun s _ => s.size ≤ maxLen) Tryd.underlying27 (by kernel_rfl) blen (fun _ _ _ h => openTxt h) h10
  rw [bytes3] at w1 w3 w4 w5 w7
  rw [bytes70] at w2
  rw [bytes43] at w8
  rw [bytes45] at w6
  rw [bytes117] at w9
  rw [bytes9] at w10
  have v1 := w1 _ fun n hn => hz n (g1 n hn)
  have v2 := w2 _ fun n hn => hz n (g2 n hn)
  have v3 := w3 _ fun n hn => hz n (g3 n hn)
  have v4 := w4 _ fun n hn => hz n (g4 n hn)
  have v5 := w5 _ fun n hn => hz n (g5 n hn)
  have v6 := w6 _ fun n hn => hz n (g6 n hn)
  have v7 := w7 _ fun n hn => hz n (g7 n hn)
  have v8 := w8 _ fun n hn => hz n (g8 n hn)
  have v9 := w9 _ fun n hn => hz n (g9 n hn)
  have v10 := w10 _ fun n hn => hz n (g10 n hn)
  have k6' : ∀ y ∈ l6, RowA W icell 1 y.A y.l ∧ y.l.length ≤ maxLen ∧ (y.A = none → y.cp = 0) ∧ y.l.length * 8 ≤ 140737488351232 := fun y hy => by
    obtain ⟨d, ⟨q1, q2, q3, q4⟩, q5⟩ := k6 y hy
    exact ⟨q1, q2, q3, q4 _ fun n hn => hz n (g6 n (q5 n hn))⟩
  have k9' : ∀ s ∈ l9, (0 ≤ s.kind ∧ s.kind ≤ 255) ∧ (-9223372036854775808 ≤ s.at_ ∧ s.at_ ≤ 9223372036854775807) ∧ s.name.size ≤ maxLen := fun s hs => by obtain ⟨_, q, _⟩ := k9 s hs; exact q
  have k10' : ∀ s ∈ l10, s.size ≤ maxLen := fun s hs => by obtain ⟨_, q, _⟩ := k10 s hs; exact q
  refine ⟨⟨m, l1, l2, l3, l4, l5, l6.map (·.l), l7, l8, l9, l10⟩, fun | 1 => (A1, c1) | 2 => (A2, c2) | 3 => (A3, c3) | 4 => (A4, c4) | 5 => (A5, c5) | 6 => (A6, c6) | 7 => (A7, c7) | 8 => (A8, c8) | 9 => (A9, c9) | 10 => (A10, c10) | _ => (none, 0), fun k => ((l6[k]?).map fun y => (y.A, y.cp)).getD (none, 0), ?_, ?_, ?_, ?_, ?_, ?_, ?_⟩
  · congr 1
    apply Array.ext'
    apply List.ext_getElem (by rw [hl]; rfl)
    intro i hi1 hi2
    match i, hi2 with
    | 0, _ => exact (List.cons.inj e0).1
    | 1, _ => exact (List.cons.inj e1).1
    | 2, _ => exact (List.cons.inj e2).1
    | 3, _ => exact (List.cons.inj e3).1
    | 4, _ => exact (List.cons.inj e4).1
    | 5, _ => exact (List.cons.inj e5).1
    | 6, _ =>
      refine (List.cons.inj e6).1.trans ?_
      show _ = Value.slice A6 (l6.map (·.l)).length c6
      rw [List.length_map]
    | 7, _ => exact (List.cons.inj e7).1
    | 8, _ => exact (List.cons.inj e8).1
    | 9, _ => exact (List.cons.inj e9).1
    | 10, _ => exact (List.cons.inj e10).1
  · refine ⟨r1, r2, r3, r4, r5, fun k hk => ?_, fun k hk => ?_, r7, r8, r9, r10⟩
    · have hk' : k < l6.length := by simpa using hk
      obtain ⟨p, hp, hc⟩ := r6 k hk'
      refine ⟨p, hp, ?_⟩
      have := hc 0 (.slice l6[k].A l6[k].l.length l6[k].cp) rfl
      rw [add_zero'] at this
      rw [this]
      simp [hk']
    · have hk' : k < l6.length := by simpa using hk
      have := (k6' _ (List.getElem_mem hk')).1
      simpa [hk'] using this
  · refine ⟨fun l hl => ?_, fun s hs => (k9' s hs).1, fun s hs => (k9' s hs).2.1, fun s hs => ?_, fun s hs => ?_, ?_⟩
    · obtain ⟨y, hy, rfl⟩ := List.mem_map.1 hl
      have := (k6' y hy).2.1
      simp only [maxLen] at this
      omega
    · have := (k9' s hs).2.2
      simp only [maxLen] at this
      omega
    · have := k10' s hs
      simp only [maxLen] at this
      omega
    · simp only [maxLen] at *
      simp only [List.length_map]
      omega
  · refine ⟨fun n hn => ?_, fun l hl => ?_, fun x hx => (by obtain ⟨_, q, _⟩ := k2 x hx; exact q), fun x hx => (by obtain ⟨_, q, _⟩ := k8 x hx; exact q), fun s hs => ?_⟩
    · simp only [maxLen] at *
      simp only [Circ.lens, List.mem_cons, List.length_map, List.not_mem_nil, or_false] at hn
      rcases hn with rfl | rfl | rfl | rfl | rfl | rfl | rfl | rfl | rfl | rfl <;> omega
    · obtain ⟨y, hy, rfl⟩ := List.mem_map.1 hl
      have := (k6' y hy).2.1
      simp only [maxLen] at this
      omega
    · have := k9' s hs
      simp only [maxLen] at this
      exact ⟨this.1, this.2.1, by omega⟩
  · refine ⟨⟨?_, ?_, ?_, ?_, ?_, ?_, fun l hl => ?_, ?_, ?_, ?_, ?_⟩, ?_, ?_, ?_, ?_, ?_, ?_, ?_⟩
    all_goals first
      | (simp only [List.length_map]; omega)
      | (obtain ⟨y, hy, rfl⟩ := List.mem_map.1 hl
         have := (k6' y hy).2.2.2
         omega)
  · intro i hi
    match i with
    | 1 => exact z1 hi
    | 2 => exact z2 hi
    | 3 => exact z3 hi
    | 4 => exact z4 hi
    | 5 => exact z5 hi
    | 6 => exact z6 hi
    | 7 => exact z7 hi
    | 8 => exact z8 hi
    | 9 => exact z9 hi
    | 10 => exact z10 hi
    | 0 => rfl
    | k + 11 => rfl
  · intro k hk
    cases hy : l6[k]? with
    | none => simp only [hy]; rfl
    | some y =>
      have hm := List.mem_of_getElem? hy
      simp only [hy, Option.map_some, Option.getD_some] at hk ⊢
      exact (k6' y hm).2.2.1 hk
end
end SC
end Go.Proofs.YtclihihdgodloaaDoor
end
section
/- trestleref03: size, one, used. -/
set_option linter.unusedVariables false
set_option linter.unusedSimpArgs false
namespace Go.Proofs.YtclihihdgodloaaDoor
namespace SC
open Go.Proofs
attribute [local irreducible] WC WL WX WS WO OX Does DoesU Enters CV Pure thenQ blockQ retQ Wants retQC
set_option maxRecDepth 100000
theorem lens_ex {c : Circ} : (∃ n ∈ c.lens, 16384 < n) ↔ (16384 < (c.inputs.length : Int) ∨ 16384 < (c.latches.length : Int) ∨ 16384 < (c.outputs.length : Int) ∨ 16384 < (c.bads.length : Int) ∨ 16384 < (c.constraints.length : Int) ∨ 16384 < (c.justice.length : Int) ∨ 16384 < (c.fairness.length : Int) ∨ 16384 < (c.ands.length : Int) ∨ 16384 < (c.symbols.length : Int) ∨ 16384 < (c.comments.length : Int)) := by
  simp [Circ.lens]
theorem size_cv {w : World} {c : Circ} {h js : Hd} (H : CirAt w c h js) (hf : c.Fits) (hs : c.Okay) : CV Tryd.prog 78 [.agg (ccells c h).toArray] w fun v w' => v = nu (sizesM c) ∧ Chg w w' none_ := by
  have hI : Blk (w.alloc (.cells (ccells c h).toArray 29)) w.heap.size 29 (ccells c h) := Blk.new w _ _
  have hC := Chg.alloc w (.cells (ccells c h).toArray 29) none_
  have hj := (H.chg hC).justice
  by_cases hm : c.max < 0 ∨ 16384 < c.max
  · refine enter 109 [2] Tryd.func78 rfl rfl rfl (by decide) rfl ?_
    repeat' (first
|(apply WC_seqK;intro K hK)
|(apply hK;clear hK)
|(apply WC_region)
|(apply WL_nil)
|(apply thenQ_normal)
|(apply thenQ_ret)
|(apply WC_ret)
|(apply WC_if_true;eq_refl)
|(apply ret1;eq_refl)
|(apply WL_on0;eq_refl)
|(apply WL_onG;eq_refl;eq_refl;eq_refl;eq_refl)
|(apply WL_noG;eq_refl;eq_refl;eq_refl;eq_refl)
|(apply X_pv;eq_refl;first|exact trivial|omega)
|(apply X_field;eq_refl)
|(apply X_loadR;eq_refl;(first|assumption|(apply Blk.alloc;assumption)|apply Blk.new|apply Blk.newA|(apply Blk.alloc;first|apply Blk.newA|(apply Blk.alloc;first|assumption|apply Blk.newA)));eq_refl)
|(apply X_cmpT;eq_refl;eq_refl;omega)
|(apply X_cmp;eq_refl;eq_refl;all_goals intro _)
|(apply X_box;eq_refl))
    all_goals exact ⟨by unfold sizesM; rw [if_pos hm], hC⟩
  have hlens := hs.lens
  simp only [Circ.lens, List.mem_cons, List.not_mem_nil, or_false] at hlens
  have k1 := hlens _ (.inl rfl)
  have k2 := hlens _ (.inr (.inl rfl))
  have k3 := hlens _ (.inr (.inr (.inl rfl)))
  have k4 := hlens _ (.inr (.inr (.inr (.inl rfl))))
  have k5 := hlens _ (.inr (.inr (.inr (.inr (.inl rfl)))))
  have k6 := hlens _ (.inr (.inr (.inr (.inr (.inr (.inl rfl))))))
  have k7 := hlens _ (.inr (.inr (.inr (.inr (.inr (.inr (.inl rfl)))))))
  have k8 := hlens _ (.inr (.inr (.inr (.inr (.inr (.inr (.inr (.inl rfl))))))))
  have k9 := hlens _ (.inr (.inr (.inr (.inr (.inr (.inr (.inr (.inr (.inl rfl)))))))))
  have k10 := hlens _ (.inr (.inr (.inr (.inr (.inr (.inr (.inr (.inr (.inr rfl)))))))))
  clear hlens
  refine enter 109 [2] Tryd.func78 rfl rfl rfl (by decide) rfl ?_
  repeat' (first
|(apply WC_seqK;intro K hK)
|(apply hK;clear hK)
|(apply WC_block)
|(apply WC_region)
|(apply WL_nil)
|(apply thenQ_normal)
|(apply WC_skip)
|(apply WC_if_false;eq_refl)
|(apply WL_on0;eq_refl)
|(apply WL_onG;eq_refl;eq_refl;eq_refl;eq_refl)
|(apply X_pv;eq_refl;first|exact trivial|omega)
|(apply X_field;eq_refl)
|(apply X_loadR;eq_refl;(first|assumption|(apply Blk.alloc;assumption)|apply Blk.new|apply Blk.newA|(apply Blk.alloc;first|apply Blk.newA|(apply Blk.alloc;first|assumption|apply Blk.newA)));eq_refl)
|(apply X_cmpF;eq_refl;eq_refl;omega)
|(apply X_box;eq_refl))
  refine WC_loop (fun i : Nat => [(1, pt w.heap.size), (3, nu 16384), (4, nu (sumL (c.justice.take i))), (5, nu i)]) (fun i w1 => Chg w w1 none_ ∧ Blk w1 w.heap.size 29 (ccells c h) ∧ i ≤ c.justice.length ∧ i ≤ 16385 ∧ sumL (c.justice.take i) ≤ i * 17592186044416) (fun i => c.justice.length - i) 0 ⟨rfl, rfl, rfl, rfl, trivial⟩ ⟨hC, hI, Nat.zero_le _, Nat.zero_le _, by simp [sumL]⟩ ?_
  rintro i w1 ⟨hC1, hI1, hi, hi2, hsum⟩
  by_cases hgo : i < c.justice.length ∧ i ≤ 16384
  · obtain ⟨hlt, hle⟩ := hgo
    obtain ⟨p, hp, hpc⟩ := (H.chg hC1).justice i hlt
    have hst := sumL_take hlt
    have hee := hf.each _ (List.getElem_mem hlt)
    generalize hx : c.justice[i] = l at *
    generalize hb : sumL (c.justice.take i) = a at *
    have e6 : (ccells c h)[0 + 6]? = some (.slice (some p) c.justice.length (h 6).2) := by rw [← hp]; rfl
    repeat' (first
|(apply X_loadR;eq_refl;exact hI1;exact e6)
|(apply WC_seqK;intro K hK)
|(apply hK;clear hK)
|(apply WC_block)
|(apply WC_region)
|(apply WL_nil)
|(apply thenQ_normal)
|(apply blockQ_normal)
|(apply WC_skip)
|(apply WC_if_true;eq_refl)
|(apply WL_on0;eq_refl)
|(apply WL_onG;eq_refl;eq_refl;eq_refl;eq_refl)
|(apply X_pv;eq_refl;first|exact trivial|omega)
|(apply X_field;eq_refl)
|(apply X_loadC;eq_refl;(first|assumption|(apply cel;first|assumption|(apply cel;assumption))))
|(apply X_cmpT;eq_refl;eq_refl;omega)
|(apply X_len;eq_refl)
|(apply X_indexP;eq_refl;eq_refl;omega;omega))
    exact ⟨i + 1, ⟨rfl, rfl, by simp only [hst]; rfl, rfl, trivial⟩, ⟨hC1, hI1, hlt, by omega, by rw [hst]; omega⟩, by omega⟩
  · have key : sizesM c = if (∃ n ∈ c.lens, 16384 < n) ∨ 16384 < ((sumL (c.justice.take i) : Nat) : Int) then 2 else 0 := by
      unfold sizesM
      rw [if_neg hm]
      rcases Nat.lt_or_ge 16384 c.justice.length with hbig | hsm
      · rw [if_pos (.inl ⟨(c.justice.length : Int), by simp [Circ.lens], by omega⟩), if_pos (.inl ⟨(c.justice.length : Int), by simp [Circ.lens], by omega⟩)]
      · have e1 : c.justice.take i = c.justice := List.take_of_length_le (by omega)
        rw [e1] at hsum ⊢
        have e2 : sumW c.justice = sumL c.justice := by
          unfold sumW
          simp only [IntKind.wrap_i64]
          omega
        rw [e2]
    clear hsum hj
    have hsb : sumL (c.justice.take i) ≤ 16385 * 17592186044416 := by
      refine Nat.le_trans (sumL_le (M := 17592186044416) fun x hx => ?_) (Nat.mul_le_mul_right _ (by simp; omega))
      have := hf.each x (List.mem_of_mem_take hx)
      omega
    generalize hb : sumL (c.justice.take i) = a at *
    repeat' (first
|(apply WC_seqK;intro K hK)
|(apply hK;clear hK)
|(clear hK;apply hK;clear hK)
|(apply WC_region)
|(apply WL_nil)
|(apply thenQ_normal)
|(apply thenQ_ret)
|(apply thenQ_exit)
|(apply blockQ_hit)
|(apply WC_ret)
|(apply WC_exit)
|(apply WC_skip)
|(apply WC_if_true;eq_refl)
|(apply WC_if_false;eq_refl)
|(apply ret1;eq_refl)
|(apply WL_on0;eq_refl)
|(apply WL_onG;eq_refl;eq_refl;eq_refl;eq_refl)
|(apply WL_noG;eq_refl;eq_refl;eq_refl;eq_refl)
|(apply X_pv;eq_refl;first|exact trivial|omega)
|(apply X_field;eq_refl)
|(apply X_loadR;eq_refl;(first|assumption|(apply Blk.alloc;assumption)|apply Blk.new|apply Blk.newA|(apply Blk.alloc;first|apply Blk.newA|(apply Blk.alloc;first|assumption|apply Blk.newA)));eq_refl)
|(apply X_cmpT;eq_refl;eq_refl;omega)
|(apply X_cmpF;eq_refl;eq_refl;omega)
|(apply X_cmp;eq_refl;eq_refl;all_goals intro _)
|(apply X_len;eq_refl))
    all_goals
      refine ⟨?_, hC1⟩
      rw [key]
      simp only [lens_ex]
      split <;> first | rfl | (exfalso; omega)
end SC
end Go.Proofs.YtclihihdgodloaaDoor
end
section
/- trestleref03: one, used, usedAll. -/
set_option linter.unusedVariables false
set_option linter.unusedSimpArgs false
namespace Go.Proofs.YtclihihdgodloaaDoor
namespace SC
open Go.Proofs
attribute [local irreducible] WC WL WX WS WO OX Does DoesU Enters CV Pure thenQ blockQ retQ Wants retQC
set_option maxRecDepth 100000
/-- Which variables are defined. -/
def bt (t : Tab) : List Bool := t.map fun m => decide (m.1 ≠ 0)
theorem bt_len (t : Tab) : (bt t).length = t.length := by simp [bt]
theorem bt_set (t : Tab) (v : Nat) (m : Int × Int) (h : m.1 ≠ 0) : bt (t.set v m) = (bt t).set v true := by
  unfold bt
  rw [List.map_set, decide_eq_true h]
theorem bt_get {t : Tab} {v : Nat} (h : v < t.length) : (bt t)[v]? = some (decide (kindAt t (v : Int) ≠ 0)) := by
  unfold bt
  rw [List.getElem?_map, List.getElem?_eq_getElem h]
  simp only [Option.map_some]
  rw [kindAt_get (m := t[v]) (by rw [show ((v : Int)).toNat = v by omega, List.getElem?_eq_getElem h])]
theorem one_cv {w : World} {c : Circ} {h : Hd} {t : Tab} {b : Nat} {l k i : Int} (hB : Blk w b 4 ((bt t).map Value.bool)) (hm : 0 ≤ c.max ∧ c.max ≤ 16384) (hl : (t.length : Int) = c.max + 1) (hk : k ≠ 0) :
    CV Tryd.prog 102 [.agg (ccells c h).toArray, .slice (some ⟨b, 0, none⟩) t.length t.length, nu l] w fun v w' => v = nu (defM c.max t l (k, i)).1 ∧ Blk w' b 4 ((bt (defM c.max t l (k, i)).2).map Value.bool) ∧ Chg w w' (fun k => k = b) := by
  have hI : Blk (w.alloc (.cells (ccells c h).toArray 29)) w.heap.size 29 (ccells c h) := Blk.new w _ _
  have hC := Chg.alloc w (.cells (ccells c h).toArray 29) none_
  have hB1 := hB.alloc (.cells (ccells c h).toArray 29)
  by_cases hbad : defBad c.max l
  · have e : defM c.max t l (k, i) = (30, t) := if_pos hbad
    rw [e]
    unfold defBad at hbad
    refine enter 30 [6] Tryd.func102 rfl rfl rfl (by decide) rfl ?_
    repeat' (first
|(apply WC_seqK;intro K hK)
|(apply hK;clear hK)
|(apply WC_region)
|(apply WL_nil)
|(apply thenQ_normal)
|(apply thenQ_ret)
|(apply WC_ret)
|(apply WC_if_true;eq_refl)
|(apply ret1;eq_refl)
|(apply WL_on0;eq_refl)
|(apply WL_onG;eq_refl;eq_refl;eq_refl;eq_refl)
|(apply WL_noG;eq_refl;eq_refl;eq_refl;eq_refl)
|(apply X_pv;eq_refl;first|exact trivial|omega)
|(apply X_field;eq_refl)
|(apply X_loadR;eq_refl;(first|assumption|(apply Blk.alloc;assumption)|apply Blk.new|apply Blk.newA|(apply Blk.alloc;first|apply Blk.newA|(apply Blk.alloc;first|assumption|apply Blk.newA)));eq_refl)
|(apply X_cmpT;eq_refl;eq_refl;omega)
|(apply X_cmp;eq_refl;eq_refl;all_goals intro _)
|(apply X_box;eq_refl))
    all_goals exact ⟨rfl, hB1, Chg.alloc w _ _⟩
  · have hb2 := hbad
    unfold defBad at hb2
    have hlt : (l / 2).toNat < t.length := by omega
    have hg := bt_get hlt
    rw [show (((l / 2).toNat : Nat) : Int) = l / 2 by omega] at hg
    have hcell : ((bt t).map Value.bool)[0 + (l / 2).toNat * 1]? = some (.bool (decide (kindAt t (l / 2) ≠ 0))) := by
      rw [Nat.zero_add, Nat.mul_one, List.getElem?_map, hg]; rfl
    by_cases hk0 : kindAt t (l / 2) ≠ 0
    · have e : defM c.max t l (k, i) = (31, t) := (if_neg hbad).trans (if_pos hk0)
      rw [e]
      rw [decide_eq_true hk0] at hcell
      refine enter 30 [6] Tryd.func102 rfl rfl rfl (by decide) rfl ?_
      repeat' (first
|(apply X_loadR;eq_refl;exact hB1;exact hcell)
|(apply WC_seqK;intro K hK)
|(apply hK;clear hK)
|(apply WC_region)
|(apply WL_nil)
|(apply thenQ_normal)
|(apply thenQ_ret)
|(apply WC_ret)
|(apply WC_skip)
|(apply WC_if_true;eq_refl)
|(apply WC_if_false;eq_refl)
|(apply ret1;eq_refl)
|(apply WL_on0;eq_refl)
|(apply WL_onG;eq_refl;eq_refl;eq_refl;eq_refl)
|(apply X_pv;eq_refl;first|exact trivial|omega)
|(apply X_field;eq_refl)
|(apply X_loadR;eq_refl;(first|assumption|(apply Blk.alloc;assumption)|apply Blk.new|apply Blk.newA|(apply Blk.alloc;first|apply Blk.newA|(apply Blk.alloc;first|assumption|apply Blk.newA)));eq_refl)
|(apply X_cmpF;eq_refl;eq_refl;omega)
|(apply X_index;eq_refl;eq_refl;omega;omega)
|(apply X_box;eq_refl))
      exact ⟨rfl, hB1, Chg.alloc w _ _⟩
    · have e : defM c.max t l (k, i) = (0, t.set (l / 2).toNat (k, i)) := (if_neg hbad).trans (if_neg hk0)
      rw [e]
      rw [decide_eq_false hk0] at hcell
      refine enter 30 [6] Tryd.func102 rfl rfl rfl (by decide) rfl ?_
      repeat' (first
|(apply X_loadR;eq_refl;exact hB1;exact hcell)
|(apply WC_seqK;intro K hK)
|(apply hK;clear hK)
|(apply WC_region)
|(apply WL_nil)
|(apply thenQ_normal)
|(apply WC_skip)
|(apply WC_if_false;eq_refl)
|(apply WL_on0;eq_refl)
|(apply WL_onG;eq_refl;eq_refl;eq_refl;eq_refl)
|(apply X_pv;eq_refl;first|exact trivial|omega)
|(apply X_field;eq_refl)
|(apply X_loadR;eq_refl;(first|assumption|(apply Blk.alloc;assumption)|apply Blk.new|apply Blk.newA|(apply Blk.alloc;first|apply Blk.newA|(apply Blk.alloc;first|assumption|apply Blk.newA)));eq_refl)
|(apply X_cmpF;eq_refl;eq_refl;omega)
|(apply X_index;eq_refl;eq_refl;omega;omega)
|(apply X_box;eq_refl))
      refine X_doesU (does_store1 (t1 := 4) (b := b) (o := 0 + (l / 2).toNat * 1) (v := .bool true) (by eq_refl) (by eq_refl) hB1 (by rw [List.length_map, bt_len]; omega) rfl rfl) ?_
      have hc2 : Chg (w.alloc (.cells (ccells c h).toArray 29)) ((w.alloc (.cells (ccells c h).toArray 29)).setRow b ((((bt t).map Value.bool).set (0 + (l / 2).toNat * 1) (.bool true)).toArray)) (fun k => k = b) := Chg.setRow _ _ _ rfl
      have hB2 := hB1.set (((bt t).map Value.bool).set (0 + (l / 2).toNat * 1) (.bool true))
      repeat' (first
|(apply WC_seqK;intro K hK)
|(apply hK;clear hK)
|(apply WC_region)
|(apply WL_nil)
|(apply thenQ_normal)
|(apply WC_ret)
|(apply ret1;eq_refl)
|(apply WL_on0;eq_refl)
|(apply X_pv;eq_refl;first|exact trivial|omega))
      refine ⟨rfl, ?_, (Chg.alloc w _ _).trans hc2 fun k hk hh => hh⟩
      rw [bt_set t _ _ hk, List.map_set]
      have e0 : (((bt t).map Value.bool).set (l / 2).toNat (Value.bool true)) = ((bt t).map Value.bool).set (0 + (l / 2).toNat * 1) (.bool true) := by rw [Nat.zero_add, Nat.mul_one]
      rw [e0]
      exact hB2
/-- Which variables may be used: those that are defined, and the constant. -/
def ut (t : Tab) : List Bool := (bt t).set 0 true
theorem used_cv {w : World} {c : Circ} {h : Hd} {t : Tab} {b n : Nat} {x : Int} (hB : Blk w b 4 ((ut t).map Value.bool)) (hn : n = t.length) (hm : 0 ≤ c.max ∧ c.max ≤ 16384) (hl : (t.length : Int) = c.max + 1) :
    CV Tryd.prog 103 [.agg (ccells c h).toArray, .slice (some ⟨b, 0, none⟩) n n, nu x] w fun v w' => v = nu (useOne c.max t x) ∧ Chg w w' none_ := by
  have hI : Blk (w.alloc (.cells (ccells c h).toArray 29)) w.heap.size 29 (ccells c h) := Blk.new w _ _
  have hC := Chg.alloc w (.cells (ccells c h).toArray 29) none_
  have hB1 := hB.alloc (.cells (ccells c h).toArray 29)
  subst hn
  by_cases hbad : x < 0 ∨ 2 * c.max + 1 < x
  · have e : useOne c.max t x = 30 := if_pos hbad
    rw [e]
    refine enter 23 [6] Tryd.func103 rfl rfl rfl (by decide) rfl ?_
    repeat' (first
|(apply WC_seqK;intro K hK)
|(apply hK;clear hK)
|(apply WC_region)
|(apply WL_nil)
|(apply thenQ_normal)
|(apply thenQ_ret)
|(apply WC_ret)
|(apply WC_if_true;eq_refl)
|(apply ret1;eq_refl)
|(apply WL_on0;eq_refl)
|(apply WL_onG;eq_refl;eq_refl;eq_refl;eq_refl)
|(apply WL_noG;eq_refl;eq_refl;eq_refl;eq_refl)
|(apply X_pv;eq_refl;first|exact trivial|omega)
|(apply X_field;eq_refl)
|(apply X_loadR;eq_refl;(first|assumption|(apply Blk.alloc;assumption)|apply Blk.new|apply Blk.newA|(apply Blk.alloc;first|apply Blk.newA|(apply Blk.alloc;first|assumption|apply Blk.newA)));eq_refl)
|(apply X_cmpT;eq_refl;eq_refl;omega)
|(apply X_cmp;eq_refl;eq_refl;all_goals intro _)
|(apply X_box;eq_refl))
    all_goals exact ⟨rfl, hC⟩
  · have hlt : (x / 2).toNat < t.length := by omega
    have hg := bt_get hlt
    rw [show (((x / 2).toNat : Nat) : Int) = x / 2 by omega] at hg
    have hcell : ((ut t).map Value.bool)[0 + (x / 2).toNat * 1]? = some (.bool (decide (¬ (1 < x ∧ kindAt t (x / 2) = 0)))) := by
      rw [Nat.zero_add, Nat.mul_one, List.getElem?_map]
      unfold ut
      rcases Nat.eq_zero_or_pos (x / 2).toNat with h0 | h0
      · rw [h0, List.getElem?_set_self (by rw [bt_len]; omega)]
        simp; omega
      · rw [List.getElem?_set_ne (by omega), hg]
        by_cases hk : kindAt t (x / 2) = 0
        · simp [hk]; omega
        · simp [hk]
    by_cases hk : 1 < x ∧ kindAt t (x / 2) = 0
    · have e : useOne c.max t x = 32 := (if_neg hbad).trans (if_pos hk)
      rw [e]
      rw [decide_eq_false (fun hh => hh hk)] at hcell
      refine enter 23 [6] Tryd.func103 rfl rfl rfl (by decide) rfl ?_
      repeat' (first
|(apply X_loadR;eq_refl;exact hB1;exact hcell)
|(apply WC_seqK;intro K hK)
|(apply hK;clear hK)
|(apply WC_region)
|(apply WL_nil)
|(apply thenQ_normal)
|(apply thenQ_ret)
|(apply WC_ret)
|(apply WC_skip)
|(apply WC_if_true;eq_refl)
|(apply WC_if_false;eq_refl)
|(apply ret1;eq_refl)
|(apply WL_on0;eq_refl)
|(apply WL_onG;eq_refl;eq_refl;eq_refl;eq_refl)
|(apply X_pv;eq_refl;first|exact trivial|omega)
|(apply X_field;eq_refl)
|(apply X_loadR;eq_refl;(first|assumption|(apply Blk.alloc;assumption)|apply Blk.new|apply Blk.newA|(apply Blk.alloc;first|apply Blk.newA|(apply Blk.alloc;first|assumption|apply Blk.newA)));eq_refl)
|(apply X_cmpF;eq_refl;eq_refl;omega)
|(apply X_index;eq_refl;eq_refl;omega;omega)
|(apply X_box;eq_refl))
      exact ⟨rfl, hC⟩
    · have e : useOne c.max t x = 0 := (if_neg hbad).trans (if_neg hk)
      rw [e]
      rw [decide_eq_true hk] at hcell
      refine enter 23 [6] Tryd.func103 rfl rfl rfl (by decide) rfl ?_
      repeat' (first
|(apply X_loadR;eq_refl;exact hB1;exact hcell)
|(apply WC_seqK;intro K hK)
|(apply hK;clear hK)
|(apply WC_region)
|(apply WL_nil)
|(apply thenQ_normal)
|(apply WC_ret)
|(apply WC_skip)
|(apply WC_if_false;eq_refl)
|(apply ret1;eq_refl)
|(apply WL_on0;eq_refl)
|(apply WL_onG;eq_refl;eq_refl;eq_refl;eq_refl)
|(apply X_pv;eq_refl;first|exact trivial|omega)
|(apply X_field;eq_refl)
|(apply X_loadR;eq_refl;(first|assumption|(apply Blk.alloc;assumption)|apply Blk.new|apply Blk.newA|(apply Blk.alloc;first|apply Blk.newA|(apply Blk.alloc;first|assumption|apply Blk.newA)));eq_refl)
|(apply X_cmpF;eq_refl;eq_refl;omega)
|(apply X_index;eq_refl;eq_refl;omega;omega)
|(apply X_box;eq_refl))
      exact ⟨rfl, hC⟩
theorem usedAll_cv {w : World} {c : Circ} {h : Hd} {t : Tab} {b n cp : Nat} {A : Option Addr} {ls : List Int} (hB : Blk w b 4 ((ut t).map Value.bool)) (hn : n = t.length) (hm : 0 ≤ c.max ∧ c.max ≤ 16384) (hl : (t.length : Int) = c.max + 1) (R : RowA w icell 1 A ls) (hlen : ls.length ≤ 9223372036854775807) :
    CV Tryd.prog 104 [.agg (ccells c h).toArray, .slice (some ⟨b, 0, none⟩) n n, .slice A ls.length cp] w fun v w' => v = .tuple #[nu (goUse c.max t (ones ls) 0).1, nu (goUse c.max t (ones ls) 0).2] ∧ Chg w w' none_ := by
  have hI : Blk (w.alloc (.cells (ccells c h).toArray 29)) w.heap.size 29 (ccells c h) := Blk.new w _ _
  have hC := Chg.alloc w (.cells (ccells c h).toArray 29) none_
  refine enter 27 [6, 7] Tryd.func104 rfl rfl rfl (by decide) rfl ?_
  repeat' (first
|(apply WC_seqK;intro K hK)
|(apply hK;clear hK)
|(apply WC_block)
|(apply WC_region)
|(apply WL_nil)
|(apply thenQ_normal)
|(apply WL_on0;eq_refl)
|(apply X_pv;eq_refl;first|exact trivial|omega)
|(apply X_box;eq_refl))
  refine WC_loop (fun i : Nat => [(1, .slice (some ⟨b, 0, none⟩) n n), (2, .slice A ls.length cp), (3, pt w.heap.size), (8, nu i)]) (fun i w1 => Chg w w1 none_ ∧ Blk w1 w.heap.size 29 (ccells c h) ∧ i ≤ ls.length ∧ goUse c.max t ((ones ls).drop i) i = goUse c.max t (ones ls) 0) (fun i => ls.length - i) 0 ⟨rfl, rfl, rfl, rfl, trivial⟩ ⟨hC, hI, Nat.zero_le _, rfl⟩ ?_
  rintro i w1 ⟨hC1, hI1, hi, hgo⟩
  rcases Nat.lt_or_ge i ls.length with hlt | hge
  · obtain ⟨p, hp, hpc⟩ := (R.chg hC1).one hlt (v := nu ls[i]) rfl
    rw [goUse_step (by rw [ones_len]; exact hlt)] at hgo
    have e1 : (ones ls)[i]'(by rw [ones_len]; exact hlt) = [ls[i]] := by simp [ones]
    have e2 : useM c.max t [ls[i]] = useOne c.max t ls[i] := by
      simp only [useM]; split
      · rfl
      · omega
    rw [e1, e2] at hgo
    generalize ls[i] = x at *
    rw [hp]
    repeat' (first
|(apply WC_seqK;intro K hK)
|(apply hK;clear hK)
|(apply WC_block)
|(apply WC_region)
|(apply WL_nil)
|(apply thenQ_normal)
|(apply WC_skip)
|(apply WC_if_true;eq_refl)
|(apply WL_on0;eq_refl)
|(apply X_pv;eq_refl;first|exact trivial|omega)
|(apply X_cmpT;eq_refl;eq_refl;omega)
|(apply X_len;eq_refl))
    refine WC_draws [(0, true), (1, true), (2, true), (3, true), (4, true), (5, true), (6, false), (7, true)] (fun W => Blk W w.heap.size 29 (ccells c h) ∧ W.cell? (p.add ((i : Int).toNat * 1)) = some (nu x)) mixed (by kernel_rfl) (by kernel_rfl) ?_
    have hS : Blk w1.drew w.heap.size 29 (ccells c h) ∧ w1.drew.cell? (p.add ((i : Int).toNat * 1)) = some (nu x) := ⟨hI1, cel_chg hpc (Chg.refl w1 none_).dr id⟩
    have hus := used_cv (h := h) (n := n) (x := x) ((hB.chg hC1 id).chg (Chg.refl w1 none_).dr id) hn hm hl
    repeat' (first
|(apply O_fn;eq_refl;exact hus;rintro _ w3 ⟨rfl, hC3⟩;have hS3 : Blk w3 w.heap.size 29 (ccells c h) ∧ w3.cell? (p.add ((i : Int).toNat * 1)) = some (nu x) := ⟨hS.1.chg hC3 id, cel_chg hS.2 hC3 id⟩;refine ⟨fun _ => hS3, ?_⟩)
|(apply WC_seqK;intro K hK)
|(apply hK;clear hK)
|(apply WC_region)
|(apply WL_nil)
|(apply thenQ_normal)
|(apply thenQ_ret)
|(apply blockQ_ret)
|(apply blockQ_normal)
|(apply WC_ret)
|(apply WC_skip)
|(apply WC_if_true;eq_refl)
|(apply WC_if_false;eq_refl)
|(apply ret2;eq_refl;eq_refl)
|(apply WS_nil)
|(apply WS_next;eq_refl)
|(apply WO_on0;eq_refl)
|(apply O_pv;eq_refl;(first|exact trivial|omega);(first|assumption|exact trivial))
|(apply O_loadW;eq_refl;(first|(intro _ h;exact h)|(intro _ h;exact h.1)|(intro _ h;exact h.2)|(intro _ h;exact h.2.1)|(intro _ h;exact h.2.2)|(intro _ h;exact h.2.2.1)|(intro _ h;exact h.2.2.2));eq_refl;(first|assumption|exact trivial))
|(apply O_loadC;eq_refl;(first|(intro _ h;exact h)|(intro _ h;exact h.1)|(intro _ h;exact h.2)|(intro _ h;exact h.2.1)|(intro _ h;exact h.2.2)|(intro _ h;exact h.2.2.1)|(intro _ h;exact h.2.2.2));(first|assumption|exact trivial))
|(apply O_indexP;eq_refl;eq_refl;omega;omega;(first|assumption|exact trivial))
|(apply WL_on0;eq_refl)
|(apply X_pv;eq_refl;first|exact trivial|omega)
|(apply X_cmp;eq_refl;eq_refl;all_goals intro _))
    all_goals have hC4 : Chg w w3 none_ := hC1.dr.trans hC3 fun _ _ h => h
    · rw [if_pos (by assumption)] at hgo
      exact ⟨by rw [← hgo], hC4⟩
    · rw [if_neg (by assumption)] at hgo
      exact ⟨i + 1, ⟨rfl, by first | rfl | (rw [hp]; rfl), rfl, rfl, trivial⟩, ⟨hC4, hS3.1, hlt, hgo⟩, by omega⟩
  · rw [List.drop_eq_nil_of_le (by rw [ones_len]; exact hge)] at hgo
    repeat' (first
|(apply WC_seqK;intro K hK)
|(apply hK;clear hK)
|(clear hK;apply hK;clear hK)
|(apply WC_region)
|(apply WL_nil)
|(apply thenQ_normal)
|(apply thenQ_exit)
|(apply blockQ_hit)
|(apply WC_ret)
|(apply WC_exit)
|(apply WC_if_false;eq_refl)
|(apply ret2;eq_refl;eq_refl)
|(apply WL_on0;eq_refl)
|(apply X_pv;eq_refl;first|exact trivial|omega)
|(apply X_cmpF;eq_refl;eq_refl;omega)
|(apply X_len;eq_refl))
    exact ⟨by rw [← hgo]; rfl, hC1⟩
end SC
end Go.Proofs.YtclihihdgodloaaDoor
end
section
/- shape: Copy. -/
set_option linter.unusedVariables false
set_option linter.unusedSimpArgs false
namespace Go.Proofs.YtclihihdgodloaaDoor
namespace SC
open Go.Proofs
attribute [local irreducible] WC WL WX WS WO OX Does DoesU Enters CV Pure thenQ blockQ retQ Wants retQC
set_option maxRecDepth 100000
end SC
end Go.Proofs.YtclihihdgodloaaDoor
end
section
/- shape: Renumber's closures. -/
set_option linter.unusedVariables false
set_option linter.unusedSimpArgs false
namespace Go.Proofs.YtclihihdgodloaaDoor
namespace SC
open Go.Proofs
attribute [local irreducible] WC WL WX WS WO OX Does DoesU Enters CV Pure thenQ blockQ retQ Wants retQC
set_option maxRecDepth 100000
/-- A literal by a map of variables. -/
def litM (to : List Int) (l : Int) : Int := L to (l / 2) + l % 2
theorem take_set_succ (os : List Int) (i : Nat) (v : Int) (h : i < os.length) : (os.set i v).take (i + 1) = os.take i ++ [v] := by
  apply List.ext_getElem?
  intro j
  rcases Nat.lt_trichotomy j i with hj | hj | hj
  · rw [List.getElem?_take_of_lt (by omega), List.getElem?_set_ne (by omega), List.getElem?_append_left (by simp; omega), List.getElem?_take_of_lt hj]
  · subst hj
    rw [List.getElem?_take_of_lt (by omega), List.getElem?_set_self h, List.getElem?_append_right (by simp; omega)]
    simp [Nat.min_eq_left (Nat.le_of_lt h)]
  · rw [List.getElem?_eq_none (by simp; omega), List.getElem?_eq_none (by simp; omega)]
end SC
end Go.Proofs.YtclihihdgodloaaDoor
end
section
/- shape: Renumber, the plain words. -/
set_option linter.unusedVariables false
set_option linter.unusedSimpArgs false
namespace Go.Proofs.YtclihihdgodloaaDoor
namespace SC
open Go.Proofs
def giveM : List Int → Int → List Int → List Int
  | [], _, to => to
  | l :: r, nx, to => giveM r (nx + 2) (to.set (l / 2).toNat (nx + 2))
/-- The map behind these definitions. -/
def mapOf (max : Int) (ks : List Int) : List Int := giveM ks 0 (List.replicate (max + 1).toNat 0)
/-- The gates' definitions in an order. -/
def andAt (c : Circ) (i : Int) : Tri := c.ands.getD i.toNat (0, 0, 0)
def defsOf (c : Circ) (ord : List Int) : List Int := c.inputs ++ c.latches.map (·.1) ++ ord.map fun i => (andAt c i).1
def renLatch (to : List Int) (x : Tri) : Tri := (litM to x.1, litM to x.2.1, if 1 < x.2.2 then litM to x.2.2 else x.2.2)
def renAnd (to : List Int) (x : Tri) : Tri := (litM to x.1, max (litM to x.2.1) (litM to x.2.2), min (litM to x.2.1) (litM to x.2.2))
/-- The circuit in another order. -/
def renM (c : Circ) (ord : List Int) : Circ :=
  let to := mapOf c.max (defsOf c ord)
  { c with
    max := (defsOf c ord).length
    inputs := c.inputs.map (litM to)
    outputs := c.outputs.map (litM to)
    bads := c.bads.map (litM to)
    constraints := c.constraints.map (litM to)
    fairness := c.fairness.map (litM to)
    justice := c.justice.map fun l => l.map (litM to)
    latches := c.latches.map (renLatch to)
    ands := ord.map fun i => renAnd to (andAt c i) }
/-- A row's block. -/
theorem Rows.block {w : World} {base : Nat} {F : Nat → Rw} (h : Rows w base F) (i : Nat) {n : Nat} {a : Option Addr} {c : Nat} (hv : (F i).v = .slice a n c) (hn : (F i).n = n) (h0 : 0 < n) : ∃ g, a = some ⟨g, 0, none⟩ ∧ (F i).v.ownBlock = some g := by
  have := h.own i
  rcases this.2 with ⟨hv', hn'⟩ | ⟨g, cap, cur, hv', _⟩
  · omega
  · rw [hv] at hv'
    cases hv'
    exact ⟨g, rfl, by rw [hv]; rfl⟩
end SC
end Go.Proofs.YtclihihdgodloaaDoor
end
section
/- shape: Renumber, the walk. -/
set_option linter.unusedVariables false
set_option linter.unusedSimpArgs false
namespace Go.Proofs.YtclihihdgodloaaDoor
namespace SC
open Go.Proofs
section
variable {P : Program} {n : Nat} {all : List Oper} {K : Env → World → Prop} {S : World → Prop} {r : List (Nat × Bool)} {i : Nat} {e : Env} {w : World} {d : Option Tmp} {ty : TypeId} {x : Operand}
end
attribute [local irreducible] WC WL WX WS WO OX Does DoesU Enters CV Pure thenQ blockQ retQ Wants retQC
set_option maxRecDepth 100000
section
variable {w W W' : World} {c : Circ} {h : Hd} {u : Value} {ord : List Int} {tr : Nat} {ks : List Int}
end
section
variable {w W W' : World} {c : Circ} {h : Hd} {u : Value} {ord to : List Int} {tr lb ob : Nat} {cs : List Value} {F : Nat → Rw}
end
end SC
end Go.Proofs.YtclihihdgodloaaDoor
end
section
/- shape: works. -/
set_option linter.unusedVariables false
set_option linter.unusedSimpArgs false
namespace Go.Proofs.YtclihihdgodloaaDoor
namespace SC
open Go.Proofs
attribute [local irreducible] WC WL WX WS WO OX Does DoesU Enters CV Pure thenQ blockQ retQ Wants retQC
set_option maxRecDepth 100000
theorem RowA.emp {α : Type} {w : World} {enc : α → List Value} {sz : Nat} {A : Option Addr} : RowA w enc sz A ([] : List α) := fun k hk => absurd hk (Nat.not_lt_zero _)
theorem RowA.blk {α : Type} {w : World} {enc : α → List Value} {sz b : Nat} {t : TypeId} {l : List α} (hsz : ∀ a, (enc a).length = sz) (h : Blk w b t (l.flatMap enc)) : RowA w enc sz (some ⟨b, 0, none⟩) l := fun k hk => by
  refine ⟨_, rfl, fun j u hj => ?_⟩
  have hjl : j < sz := by have := (List.getElem?_eq_some_iff.1 hj).1; rwa [hsz] at this
  rw [add_at, add_at, Nat.zero_add, h.cell, Int.toNat_natCast, flatMap_get enc sz hsz l k hk j hjl]
  exact hj
def hNil : Hd := fun _ => (none, 0)
end SC
end Go.Proofs.YtclihihdgodloaaDoor
end
section
/- shape's laws: gates of each variable; ShapeOrders' walk. -/
set_option linter.unusedVariables false
set_option linter.unusedSimpArgs false
namespace Go.Proofs.YtclihihdgodloaaDoor
namespace SC
open Go.Proofs
def gatesL : List Tri → Nat → List Int → List Int
  | [], _, l => l
  | x :: r, i, l => gatesL r (i + 1) (l.set (x.1 / 2).toNat i)
theorem gatesL_len : ∀ (ls : List Tri) (k : Nat) (l : List Int), (gatesL ls k l).length = l.length
  | [], _, _ => rfl
  | x :: r, k, l => by unfold gatesL; rw [gatesL_len r]; simp
theorem gatesL_step {ls : List Tri} {k : Nat} {l : List Int} (hk : k < ls.length) : gatesL (ls.drop k) k l = gatesL (ls.drop (k + 1)) (k + 1) (l.set (ls[k].1 / 2).toNat k) := by
  rw [List.drop_eq_getElem_cons hk]
  rfl
theorem gatesL_not : ∀ (ls : List Tri) (k : Nat) (l : List Int) (v : Int), 0 ≤ v → (∀ x ∈ ls, rg l.length (x.1 / 2) ∧ x.1 / 2 ≠ v) → L (gatesL ls k l) v = L l v
  | [], _, _, _, _, _ => rfl
  | x :: r, k, l, v, hv, h => by
    obtain ⟨h1, h2⟩ := h x (by simp)
    unfold gatesL
    rw [gatesL_not r (k + 1) _ v hv fun y hy => by rw [List.length_set]; exact h y (by simp [hy]), L_set _ h1 hv, if_neg (fun e => h2 e.symm)]
theorem gatesL_at : ∀ (ls : List Tri) (k : Nat) (l : List Int) (j : Nat) (hj : j < ls.length), (∀ x ∈ ls, rg l.length (x.1 / 2)) → (∀ i (hi : i < ls.length), ls[i].1 / 2 = ls[j].1 / 2 → i = j) → L (gatesL ls k l) (ls[j].1 / 2) = k + j
  | [], _, _, j, hj, _, _ => absurd hj (Nat.not_lt_zero _)
  | x :: r, k, l, 0, hj, h, hu => by
    have h1 := h x (by simp)
    unfold gatesL
    simp only [List.getElem_cons_zero]
    rw [gatesL_not r (k + 1) _ _ h1.1 fun y hy => ⟨by rw [List.length_set]; exact h y (by simp [hy]), fun e => ?_⟩, L_set _ h1 h1.1, if_pos rfl]
    · simp
    · obtain ⟨i, hi, rfl⟩ := List.mem_iff_getElem.1 hy
      have := hu (i + 1) (by simp; omega) (by simpa using e)
      omega
  | x :: r, k, l, j + 1, hj, h, hu => by
    unfold gatesL
    simp only [List.getElem_cons_succ]
    rw [gatesL_at r (k + 1) _ j (by simpa using hj) (fun y hy => by rw [List.length_set]; exact h y (by simp [hy])) fun i hi e => by
      have := hu (i + 1) (by simp; omega) (by simpa using e)
      omega]
    simp; omega
/-- Of each variable the gate that defines it, or -1. -/
def gatesM (c : Circ) : List Int := gatesL c.ands 0 (List.replicate (c.max + 1).toNat (-1))
theorem gatesM_len (c : Circ) : (gatesM c).length = (c.max + 1).toNat := by unfold gatesM; rw [gatesL_len]; simp
theorem TabOk.gatesM {c : Circ} {t : Tab} (h : TabOk c t) {v : Int} (hv : rg (c.max + 1).toNat v) : L (SC.gatesM c) v = if kindAt t v = 3 then atOf t v else -1 := by
  have hrg : ∀ x ∈ c.ands, rg (List.replicate (c.max + 1).toNat (-1 : Int)).length (x.1 / 2) := fun x hx => by
    obtain ⟨j, hj, rfl⟩ := List.mem_iff_getElem.1 hx
    have := (h.gat j hj).1
    rw [List.length_replicate]
    unfold defBad at this; unfold rg; omega
  have e : v = ((v.toNat : Nat) : Int) := by unfold rg at hv; omega
  by_cases hk : kindAt t v = 3
  · rw [if_pos hk]
    rw [e] at hk
    obtain ⟨j, hj, h1, h2, h3⟩ := h.gate hk
    rw [← e] at h1 h2
    have e2 : c.ands[j].1 / 2 = v := by omega
    have := gatesL_at c.ands 0 (List.replicate (c.max + 1).toNat (-1)) j hj hrg fun i hi e3 => by
      have g1 := (h.gat i hi).2
      have g2 := (h.gat j hj).2
      rw [e3, g2] at g1
      simp at g1
      omega
    rw [e2] at this
    unfold SC.gatesM
    rw [this, h2]
    simp
  · rw [if_neg hk]
    unfold SC.gatesM
    rw [gatesL_not c.ands 0 _ v hv.1 fun x hx => ⟨hrg x hx, fun e2 => hk ?_⟩]
    · unfold L
      unfold rg at hv
      simp only [List.getD_eq_getElem?_getD, List.getElem?_replicate]
      rw [if_pos (by omega)]
      rfl
    · obtain ⟨j, hj, rfl⟩ := List.mem_iff_getElem.1 hx
      have := (h.gat j hj).2
      rw [e2] at this
      rw [kindAt_get this]
theorem mem_gateB {c : Circ} {t : Tab} {i : Int} {z : Int} (hi : rg c.ands.length i) : z ∈ gateB t c i ↔ ∃ l, (l = (andAt c i).2.1 ∨ l = (andAt c i).2.2) ∧ kindAt t (l / 2) = 3 ∧ atOf t (l / 2) = z := by
  unfold gateB belowM
  rw [mem_belowL]
  unfold andAt
  simp
attribute [local irreducible] WC WL WX WS WO OX Does DoesU Enters CV Pure thenQ blockQ retQ Wants retQC
set_option maxRecDepth 100000
end SC
end Go.Proofs.YtclihihdgodloaaDoor
end
section
/- trestleref03: Defined. -/
set_option linter.unusedVariables false
set_option linter.unusedSimpArgs false
namespace Go.Proofs.YtclihihdgodloaaDoor
namespace SC
open Go.Proofs
attribute [local irreducible] WC WL WX WS WO OX Does DoesU Enters CV Pure thenQ blockQ retQ Wants retQC
set_option maxRecDepth 100000
theorem defined_cv {w : World} {c : Circ} {h js : Hd} (H : CirAt w c h js) (hs : c.Okay) (hm : 0 ≤ c.max ∧ c.max ≤ 16384) : CV Tryd.prog 79 [.agg (ccells c h).toArray] w fun v w' => Chg w w' none_ ∧
    (((definesM c (T0 c)).1.2 ≠ 0 ∧ v = .tuple #[.slice none 0 0, nu (definesM c (T0 c)).1.1, nu (definesM c (T0 c)).1.2]) ∨
     ((definesM c (T0 c)).1.2 = 0 ∧ ∃ b, ∃ n : Nat, w.heap.size ≤ b ∧ (n : Int) = c.max + 1 ∧ (tabM c).length = n ∧ v = .tuple #[.slice (some ⟨b, 0, none⟩) n n, nu 0, nu 0] ∧ Blk w' b 4 ((ut (tabM c)).map Value.bool))) := by
  obtain ⟨m, hm2⟩ : ∃ m : Nat, c.max + 1 = m := ⟨(c.max + 1).toNat, by omega⟩
  have hml : (c.max + 1).toNat = m := by omega
  have hI0 : Blk (w.alloc (.cells (ccells c h).toArray 29)) w.heap.size 29 (ccells c h) := Blk.new w _ _
  have hC0 := Chg.alloc w (.cells (ccells c h).toArray 29) none_
  have hz0 := sz_alloc w (.cells (ccells c h).toArray 29)
  have hlens := hs.lens
  simp only [Circ.lens, List.mem_cons, List.not_mem_nil, or_false] at hlens
  have k1 := hlens _ (.inl rfl)
  have k2 := hlens _ (.inr (.inl rfl))
  have k8 := hlens _ (.inr (.inr (.inr (.inr (.inr (.inr (.inr (.inl rfl))))))))
  clear hlens
  refine enter 96 [2, 3, 4] Tryd.func79 rfl rfl rfl (by decide) rfl ?_
  repeat' (first
|(apply WC_seqK;intro K hK)
|(apply hK;clear hK)
|(apply WC_region)
|(apply WL_nil)
|(apply thenQ_normal)
|(apply WL_on0;eq_refl)
|(apply X_pv;eq_refl;first|exact trivial|omega)
|(apply X_field;eq_refl)
|(apply X_loadR;eq_refl;(first|assumption|(apply Blk.alloc;assumption)|apply Blk.new|apply Blk.newA|(apply Blk.alloc;first|apply Blk.newA|(apply Blk.alloc;first|assumption|apply Blk.newA)));eq_refl)
|(apply X_box;eq_refl))
  rw [hm2]
  repeat' (first
|(apply X_make;eq_refl;omega;omega)
|(apply WC_seqK;intro K hK)
|(apply hK;clear hK)
|(apply WC_block)
|(apply WC_region)
|(apply WL_nil)
|(apply thenQ_normal)
|(apply WL_on0;eq_refl)
|(apply X_pv;eq_refl;first|exact trivial|omega))
  have e1 : (madeCells (Value.bool false).cells (m * 1)).toList = (bt (T0 c)).map Value.bool := by rw [Nat.mul_one, show (Value.bool false).cells = #[Value.bool false] from rfl, made_one]; simp [bt, T0, hml]
  have b1 := Blk.newA (w.alloc (.cells (ccells c h).toArray 29)) (madeCells (Value.bool false).cells (m * 1)) 4
  rw [e1, hz0] at b1
  refine WC_turn (fun W => Chg w W none_ ∧ Blk W w.heap.size 29 (ccells c h) ∧ Blk W (w.heap.size + 1) 4 ((bt (T0 c)).map Value.bool)) ⟨hC0.al _, hI0.alloc _, b1⟩ ?_
  clear b1 hI0 hC0 e1
  rintro w0 ⟨hC0, hI0, hB0⟩
  have hl0 : ((T0 c).length : Int) = c.max + 1 := by simp [T0, hml, hm2]
  refine WC_loop (fun s : Nat × Tab => [(1, pt w.heap.size), (5, .slice (some ⟨w.heap.size + 1, 0, none⟩) m m), (6, nu s.1)])
    (fun s W => Chg w W none_ ∧ Blk W w.heap.size 29 (ccells c h) ∧ Blk W (w.heap.size + 1) 4 ((bt s.2).map Value.bool) ∧ s.2.length = m ∧ s.1 ≤ c.inputs.length ∧ goDef c.max 1 (c.inputs.drop s.1) s.1 s.2 = goDef c.max 1 c.inputs 0 (T0 c)) (fun s => c.inputs.length - s.1) (0, T0 c) ⟨rfl, congrArg (fun k => some (Value.slice (some ⟨k, 0, none⟩) m m)) hz0, rfl, trivial⟩ ⟨hC0, hI0, hB0, by show (T0 c).length = m; omega, Nat.zero_le _, rfl⟩ ?_
  clear hB0 hI0 hC0 hz0 w0
  rintro ⟨k, t1⟩ w1 ⟨hC1, hI1, hB1, hl1, hk, hgo⟩
  simp only at hB1 hl1 hk hgo
  rcases Nat.lt_or_ge k c.inputs.length with hlt | hge
  · obtain ⟨p, hp, hpc⟩ := H.inputs.one hlt (v := nu c.inputs[k]) rfl
    rw [goDef_step hlt] at hgo
    generalize hx : c.inputs[k] = x at *
    have e6 : (ccells c h)[0 + 1]? = some (.slice (some p) c.inputs.length (h 1).2) := by rw [← hp]; rfl
    have hlen3 := len_defM c.max t1 x (1, (k : Int))
    repeat' (first
|(apply WC_seqK;intro K hK)
|(apply hK;clear hK)
|(apply WC_block)
|(apply WC_region)
|(apply WL_nil)
|(apply thenQ_normal)
|(apply WC_skip)
|(apply WC_if_true;eq_refl)
|(apply WL_on0;eq_refl)
|(apply X_pv;eq_refl;first|exact trivial|omega)
|(apply X_field;eq_refl)
|(apply X_loadR;eq_refl;(first|assumption|(apply Blk.alloc;assumption)|apply Blk.new|apply Blk.newA|(apply Blk.alloc;first|apply Blk.newA|(apply Blk.alloc;first|assumption|apply Blk.newA)));eq_refl)
|(apply X_cmpT;eq_refl;eq_refl;omega)
|(apply X_len;eq_refl))
    refine WC_draws [(0, true), (1, true), (2, true), (3, true), (4, true), (5, true), (6, true), (7, false), (8, true)] (fun W => Chg w W none_ ∧ Blk W w.heap.size 29 (ccells c h)) mixed (by kernel_rfl) (by kernel_rfl) ?_
    have hS : Chg w w1.drew none_ ∧ Blk w1.drew w.heap.size 29 (ccells c h) := ⟨hC1.dr, hI1⟩
    have hone := one_cv (h := h) (k := 1) (i := (k : Int)) (l := x) (hB1.chg (Chg.refl w1 none_).dr id) hm (by omega) (by decide)
    rw [hl1] at hone
    repeat' (first
|(apply O_loadW;eq_refl;(exact fun _ h => h.2);eq_refl;assumption)
|(apply O_loadR;eq_refl;(exact fun _ h => h.2);exact e6;assumption)
|(apply O_loadC;eq_refl;(exact fun W h => cel_chg hpc h.1 id);assumption)
|(apply O_fn;eq_refl;exact hone;rintro _ w3 ⟨rfl, hB3, hC3⟩;have hS3 : Chg w w3 none_ ∧ Blk w3 w.heap.size 29 (ccells c h) := ⟨hS.1.trans hC3 fun k hk hh => by omega, hS.2.chg hC3 (by omega)⟩;refine ⟨fun _ => hS3, ?_⟩)
|(apply WC_seqK;intro K hK)
|(apply hK;clear hK)
|(apply WC_region)
|(apply WL_nil)
|(apply thenQ_normal)
|(apply thenQ_ret)
|(apply blockQ_ret)
|(apply blockQ_normal)
|(apply WC_ret)
|(apply WC_skip)
|(apply WC_if_true;eq_refl)
|(apply WC_if_false;eq_refl)
|(apply ret3;eq_refl;eq_refl;eq_refl)
|(apply WS_nil)
|(apply WS_next;eq_refl)
|(apply WO_on0;eq_refl)
|(apply O_pv;eq_refl;(first|exact trivial|omega);(first|assumption|exact trivial))
|(apply O_field;eq_refl;(first|assumption|exact trivial))
|(apply O_indexP;eq_refl;eq_refl;omega;omega;(first|assumption|exact trivial))
|(apply WL_on0;eq_refl)
|(apply X_pv;eq_refl;first|exact trivial|omega)
|(apply X_cmp;eq_refl;eq_refl;all_goals intro _))
    · rw [if_pos (by assumption)] at hgo
      have e : definesM c (T0 c) = goDef c.max 1 c.inputs 0 (T0 c) := by unfold definesM; rw [if_pos (by rw [← hgo]; assumption)]
      rw [e, ← hgo]
      exact ⟨hS3.1, .inl ⟨by assumption, rfl⟩⟩
    · rw [if_neg (by assumption)] at hgo
      exact ⟨(k + 1, (defM c.max t1 x (1, (k : Int))).2), ⟨rfl, rfl, rfl, trivial⟩, ⟨hS3.1, hS3.2, hB3, by simp only; omega, hlt, hgo⟩, by simp only; omega⟩
  rw [List.drop_eq_nil_of_le hge] at hgo
  have e1 : (goDef c.max 1 c.inputs 0 (T0 c)).1.2 = 0 := by rw [← hgo]; rfl
  have e2 : (goDef c.max 1 c.inputs 0 (T0 c)).2 = t1 := by rw [← hgo]; rfl
  have e3 : definesM c (T0 c) = if (goDefL c.max c.latches 0 t1).1.2 ≠ 0 then goDefL c.max c.latches 0 t1 else goDef c.max 3 (c.ands.map (·.1)) 0 (goDefL c.max c.latches 0 t1).2 := by unfold definesM; rw [if_neg (by simp [e1]), e2]
  clear e1 e2 hgo
  repeat' (first
|(apply WC_seqK;intro K hK)
|(apply hK;clear hK)
|(clear hK;apply hK;clear hK)
|(apply WC_block)
|(apply WC_region)
|(apply WL_nil)
|(apply thenQ_normal)
|(apply thenQ_exit)
|(apply blockQ_hit)
|(apply WC_exit)
|(apply WC_if_false;eq_refl)
|(apply WL_on0;eq_refl)
|(apply X_pv;eq_refl;first|exact trivial|omega)
|(apply X_field;eq_refl)
|(apply X_loadR;eq_refl;(first|assumption|(apply Blk.alloc;assumption)|apply Blk.new|apply Blk.newA|(apply Blk.alloc;first|apply Blk.newA|(apply Blk.alloc;first|assumption|apply Blk.newA)));eq_refl)
|(apply X_cmpF;eq_refl;eq_refl;omega)
|(apply X_len;eq_refl))
  refine WC_loop (fun s : Nat × Tab => [(1, pt w.heap.size), (5, .slice (some ⟨w.heap.size + 1, 0, none⟩) m m), (8, nu s.1)])
    (fun s W => Chg w W none_ ∧ Blk W w.heap.size 29 (ccells c h) ∧ Blk W (w.heap.size + 1) 4 ((bt s.2).map Value.bool) ∧ s.2.length = m ∧ s.1 ≤ c.latches.length ∧ goDefL c.max (c.latches.drop s.1) s.1 s.2 = goDefL c.max c.latches 0 t1) (fun s => c.latches.length - s.1) (0, t1) ⟨rfl, rfl, rfl, trivial⟩ ⟨hC1, hI1, hB1, hl1, Nat.zero_le _, rfl⟩ ?_
  clear hI1 hB1 hC1 hge hk
  rintro ⟨k, t2⟩ w2 ⟨hC2, hI2, hB2, hl2, hk, hgo⟩
  simp only at hB2 hl2 hk hgo
  rcases Nat.lt_or_ge k c.latches.length with hlt | hge
  · obtain ⟨p, hp, hpc⟩ := (H.chg hC2).latches k hlt
    rw [goDefL_step hlt] at hgo
    generalize hx : c.latches[k] = x at *
    have hlen3 := len_defM c.max t2 x.1 (2, (k : Int))
    have e6 : (ccells c h)[0 + 2]? = some (.slice (some p) c.latches.length (h 2).2) := by rw [← hp]; rfl
    repeat' (first
|(apply X_loadR;eq_refl;exact hI2;exact e6)
|(apply X_loadAP (tcells x);eq_refl;eq_refl;exact hpc)
|(apply WC_seqK;intro K hK)
|(apply hK;clear hK)
|(apply WC_block)
|(apply WC_region)
|(apply WL_nil)
|(apply thenQ_normal)
|(apply WC_skip)
|(apply WC_if_true;eq_refl)
|(apply WL_on0;eq_refl)
|(apply X_pv;eq_refl;first|exact trivial|omega)
|(apply X_field;eq_refl)
|(apply X_cmpT;eq_refl;eq_refl;omega)
|(apply X_len;eq_refl)
|(apply X_indexP;eq_refl;eq_refl;omega;omega)
|(apply X_alloc))
    refine X_doesU (does_storeA (t1 := 59) (vs := tcells x) (o := 0) (b := w2.heap.size) (by eq_refl) (by eq_refl) (Blk.newA w2 _ _) rfl (by exact Nat.le_refl 3) (by simp [tcells, Value.oneCell'])) ?_
    have hcc : Chg w2 ((w2.alloc (.cells #[nu 0, nu 0, nu 0] 59)).setRow w2.heap.size (tcells x).toArray) none_ := (Chg.alloc w2 _ none_).trans (Chg.setRow _ w2.heap.size _ (S := fun k => k = w2.heap.size) rfl) fun k hk h => by omega
    have hb2 : w.heap.size + 2 ≤ w2.heap.size := hB2.lt
    refine WL_turn (fun W => Chg w W none_ ∧ Blk W w.heap.size 29 (ccells c h) ∧ Blk W (w.heap.size + 1) 4 ((bt t2).map Value.bool) ∧ Blk W w2.heap.size 59 (tcells x)) ⟨hC2.trans hcc fun _ _ h => h, hI2.chg hcc id, hB2.chg hcc id, (Blk.newA w2 _ 59).set (tcells x)⟩ ?_
    rintro w3 ⟨hC3, hI3, hB3, hN3⟩
    have hone := one_cv (h := h) (k := 2) (i := (k : Int)) (l := x.1) hB3 hm (by omega) (by decide)
    rw [hl2] at hone
    repeat' (first
|(apply X_fn;eq_refl;exact hone;rintro _ w4 ⟨rfl, hB4, hC4⟩;have hN4 := hN3.chg hC4 (by omega);have hI4 := hI3.chg hC4 (by omega);have hC4' := hC3.trans hC4 fun k hk hh => by omega)
|(apply WC_seqK;intro K hK)
|(apply hK;clear hK)
|(apply WC_region)
|(apply WL_nil)
|(apply thenQ_normal)
|(apply thenQ_ret)
|(apply blockQ_ret)
|(apply blockQ_normal)
|(apply WC_ret)
|(apply WC_skip)
|(apply WC_if_true;eq_refl)
|(apply WC_if_false;eq_refl)
|(apply ret3;eq_refl;eq_refl;eq_refl)
|(apply WL_on0;eq_refl)
|(apply WL_onG;eq_refl;eq_refl;eq_refl;eq_refl)
|(apply WL_noG;eq_refl;eq_refl;eq_refl;eq_refl)
|(apply X_pv;eq_refl;first|exact trivial|omega)
|(apply X_field;eq_refl)
|(apply X_loadR;eq_refl;(first|assumption|(apply Blk.alloc;assumption)|apply Blk.new|apply Blk.newA|(apply Blk.alloc;first|apply Blk.newA|(apply Blk.alloc;first|assumption|apply Blk.newA)));eq_refl)
|(apply X_loadW;eq_refl;(first|assumption|(apply Blk.alloc;assumption)|apply Blk.new|apply Blk.newA|(apply Blk.alloc;first|apply Blk.newA|(apply Blk.alloc;first|assumption|apply Blk.newA)));eq_refl)
|(apply X_cmp;eq_refl;eq_refl;all_goals intro _))
    all_goals simp only at *
    · rw [if_pos (by assumption)] at hgo
      have e : definesM c (T0 c) = goDefL c.max c.latches 0 t1 := by rw [e3, if_pos (by rw [← hgo]; assumption)]
      rw [e, ← hgo]
      exact ⟨hC4', .inl ⟨by assumption, rfl⟩⟩
    · rw [if_neg (by assumption), if_pos (by unfold badReset; refine ⟨?_, ?_, ?_⟩ <;> assumption)] at hgo
      have e : definesM c (T0 c) = goDefL c.max c.latches 0 t1 := by rw [e3, if_pos (by rw [← hgo]; show (33 : Int) ≠ 0; decide)]
      rw [e, ← hgo]
      exact ⟨hC4', .inl ⟨by show (33 : Int) ≠ 0; decide, rfl⟩⟩
    all_goals
      rw [if_neg (by assumption), if_neg (by unfold badReset; omega)] at hgo
      exact ⟨(k + 1, (defM c.max t2 x.1 (2, (k : Int))).2), ⟨rfl, rfl, rfl, trivial⟩, ⟨hC4', hI4, hB4, by simp only; omega, hlt, hgo⟩, by simp only; omega⟩
  rw [List.drop_eq_nil_of_le hge] at hgo
  have e1 : (goDefL c.max c.latches 0 t1).1.2 = 0 := by rw [← hgo]; rfl
  have e2 : (goDefL c.max c.latches 0 t1).2 = t2 := by rw [← hgo]; rfl
  have e4 : definesM c (T0 c) = goDef c.max 3 (c.ands.map (·.1)) 0 t2 := by rw [e3, if_neg (by simp [e1]), e2]
  clear e1 e2 hgo e3
  repeat' (first
|(apply WC_seqK;intro K hK)
|(apply hK;clear hK)
|(clear hK;apply hK;clear hK)
|(apply WC_block)
|(apply WC_region)
|(apply WL_nil)
|(apply thenQ_normal)
|(apply thenQ_exit)
|(apply blockQ_hit)
|(apply WC_exit)
|(apply WC_if_false;eq_refl)
|(apply WL_on0;eq_refl)
|(apply X_pv;eq_refl;first|exact trivial|omega)
|(apply X_field;eq_refl)
|(apply X_loadR;eq_refl;(first|assumption|(apply Blk.alloc;assumption)|apply Blk.new|apply Blk.newA|(apply Blk.alloc;first|apply Blk.newA|(apply Blk.alloc;first|assumption|apply Blk.newA)));eq_refl)
|(apply X_cmpF;eq_refl;eq_refl;omega)
|(apply X_len;eq_refl))
  refine WC_loop (fun s : Nat × Tab => [(1, pt w.heap.size), (5, .slice (some ⟨w.heap.size + 1, 0, none⟩) m m), (11, nu s.1)])
    (fun s W => Chg w W none_ ∧ Blk W w.heap.size 29 (ccells c h) ∧ Blk W (w.heap.size + 1) 4 ((bt s.2).map Value.bool) ∧ s.2.length = m ∧ s.1 ≤ c.ands.length ∧ goDef c.max 3 ((c.ands.map (·.1)).drop s.1) s.1 s.2 = goDef c.max 3 (c.ands.map (·.1)) 0 t2) (fun s => c.ands.length - s.1) (0, t2) ⟨rfl, rfl, rfl, trivial⟩ ⟨hC2, hI2, hB2, hl2, Nat.zero_le _, rfl⟩ ?_
  clear hI2 hB2 hC2 hge hk
  rintro ⟨k, t3⟩ w1 ⟨hC1, hI1, hB1, hl1, hk, hgo⟩
  simp only at hB1 hl1 hk hgo
  rcases Nat.lt_or_ge k c.ands.length with hlt | hge
  · obtain ⟨p, hp, hpc⟩ := H.ands k hlt
    rw [goDef_step (by simpa using hlt), List.getElem_map] at hgo
    generalize hx : c.ands[k] = x at *
    have hlen3 := len_defM c.max t3 x.1 (3, (k : Int))
    have e6 : (ccells c h)[0 + 8]? = some (.slice (some p) c.ands.length (h 8).2) := by rw [← hp]; rfl
    repeat' (first
|(apply WC_seqK;intro K hK)
|(apply hK;clear hK)
|(apply WC_block)
|(apply WC_region)
|(apply WL_nil)
|(apply thenQ_normal)
|(apply WC_skip)
|(apply WC_if_true;eq_refl)
|(apply WL_on0;eq_refl)
|(apply X_pv;eq_refl;first|exact trivial|omega)
|(apply X_field;eq_refl)
|(apply X_loadR;eq_refl;(first|assumption|(apply Blk.alloc;assumption)|apply Blk.new|apply Blk.newA|(apply Blk.alloc;first|apply Blk.newA|(apply Blk.alloc;first|assumption|apply Blk.newA)));eq_refl)
|(apply X_cmpT;eq_refl;eq_refl;omega)
|(apply X_len;eq_refl))
    refine WC_draws [(0, true), (1, true), (2, true), (3, true), (4, true), (5, true), (6, true), (7, true), (8, false), (9, true)] (fun W => Chg w W none_ ∧ Blk W w.heap.size 29 (ccells c h)) mixed (by kernel_rfl) (by kernel_rfl) ?_
    have hS : Chg w w1.drew none_ ∧ Blk w1.drew w.heap.size 29 (ccells c h) := ⟨hC1.dr, hI1⟩
    have hone := one_cv (h := h) (k := 3) (i := (k : Int)) (l := x.1) (hB1.chg (Chg.refl w1 none_).dr id) hm (by omega) (by decide)
    rw [hl1] at hone
    repeat' (first
|(apply O_loadW;eq_refl;(exact fun _ h => h.2);eq_refl;assumption)
|(apply O_loadR;eq_refl;(exact fun _ h => h.2);exact e6;assumption)
|(apply O_loadC;eq_refl;(exact fun W h => cel_chg (hpc 0 _ rfl) h.1 id);assumption)
|(apply O_fn;eq_refl;exact hone;rintro _ w3 ⟨rfl, hB3, hC3⟩;have hS3 : Chg w w3 none_ ∧ Blk w3 w.heap.size 29 (ccells c h) := ⟨hS.1.trans hC3 fun k hk hh => by omega, hS.2.chg hC3 (by omega)⟩;refine ⟨fun _ => hS3, ?_⟩)
|(apply WC_seqK;intro K hK)
|(apply hK;clear hK)
|(apply WC_region)
|(apply WL_nil)
|(apply thenQ_normal)
|(apply thenQ_ret)
|(apply blockQ_ret)
|(apply blockQ_normal)
|(apply WC_ret)
|(apply WC_skip)
|(apply WC_if_true;eq_refl)
|(apply WC_if_false;eq_refl)
|(apply ret3;eq_refl;eq_refl;eq_refl)
|(apply WS_nil)
|(apply WS_next;eq_refl)
|(apply WO_on0;eq_refl)
|(apply O_pv;eq_refl;(first|exact trivial|omega);(first|assumption|exact trivial))
|(apply O_field;eq_refl;(first|assumption|exact trivial))
|(apply O_indexP;eq_refl;eq_refl;omega;omega;(first|assumption|exact trivial))
|(apply O_fieldP;eq_refl;(first|assumption|exact trivial))
|(apply WL_on0;eq_refl)
|(apply X_pv;eq_refl;first|exact trivial|omega)
|(apply X_cmp;eq_refl;eq_refl;all_goals intro _))
    · rw [if_pos (by assumption)] at hgo
      rw [e4, ← hgo]
      exact ⟨hS3.1, .inl ⟨by assumption, rfl⟩⟩
    · rw [if_neg (by assumption)] at hgo
      exact ⟨(k + 1, (defM c.max t3 x.1 (3, (k : Int))).2), ⟨rfl, rfl, rfl, trivial⟩, ⟨hS3.1, hS3.2, hB3, by simp only; omega, hlt, hgo⟩, by simp only; omega⟩
  rw [List.drop_eq_nil_of_le (by simpa using hge)] at hgo
  have e1 : definesM c (T0 c) = ((0, 0), t3) := by rw [e4, ← hgo]; rfl
  repeat' (first
|(apply WC_seqK;intro K hK)
|(apply hK;clear hK)
|(clear hK;apply hK;clear hK)
|(apply WC_region)
|(apply WL_nil)
|(apply thenQ_normal)
|(apply thenQ_exit)
|(apply blockQ_hit)
|(apply WC_exit)
|(apply WC_if_false;eq_refl)
|(apply WL_on0;eq_refl)
|(apply X_pv;eq_refl;first|exact trivial|omega)
|(apply X_field;eq_refl)
|(apply X_loadR;eq_refl;(first|assumption|(apply Blk.alloc;assumption)|apply Blk.new|apply Blk.newA|(apply Blk.alloc;first|apply Blk.newA|(apply Blk.alloc;first|assumption|apply Blk.newA)));eq_refl)
|(apply X_cmpF;eq_refl;eq_refl;omega)
|(apply X_len;eq_refl)
|(apply X_index;eq_refl;eq_refl;omega;omega))
  refine X_doesU (does_store1 (t1 := 4) (b := w.heap.size + 1) (o := 0 + (0 : Int).toNat * 1) (v := .bool true) (by eq_refl) (by eq_refl) hB1 (by rw [List.length_map, bt_len]; show 0 + 0 * 1 < _; omega) rfl rfl) ?_
  have hcc : Chg w1 (w1.setRow (w.heap.size + 1) (((bt t3).map Value.bool).set (0 + (0 : Int).toNat * 1) (.bool true)).toArray) (fun k => k = w.heap.size + 1) := Chg.setRow _ _ _ rfl
  have hB2 : Blk (w1.setRow (w.heap.size + 1) (((bt t3).map Value.bool).set (0 + (0 : Int).toNat * 1) (.bool true)).toArray) (w.heap.size + 1) 4 ((ut t3).map Value.bool) := by
    have := hB1.set (((bt t3).map Value.bool).set (0 + (0 : Int).toNat * 1) (.bool true))
    unfold ut
    rw [List.map_set]
    exact this
  have hC2 : Chg w (w1.setRow (w.heap.size + 1) (((bt t3).map Value.bool).set (0 + (0 : Int).toNat * 1) (.bool true)).toArray) none_ := hC1.trans hcc fun k hk hh => by omega
  repeat' (first
|(apply WC_seqK;intro K hK)
|(apply hK;clear hK)
|(apply WC_region)
|(apply WL_nil)
|(apply thenQ_normal)
|(apply WC_ret)
|(apply ret3;eq_refl;eq_refl;eq_refl)
|(apply WL_on0;eq_refl)
|(apply X_pv;eq_refl;first|exact trivial|omega))
  refine ⟨hC2, .inr ⟨by rw [e1], w.heap.size + 1, m, by omega, by omega, ?_, rfl, ?_⟩⟩
  · unfold tabM; rw [e1]; exact hl1
  · unfold tabM; rw [e1]; exact hB2
end SC
end Go.Proofs.YtclihihdgodloaaDoor
end
section
/- trestleref03: uses. -/
set_option linter.unusedVariables false
set_option linter.unusedSimpArgs false
namespace Go.Proofs.YtclihihdgodloaaDoor
namespace SC
open Go.Proofs
section
variable {P : Program} {ty t t0 : TypeId} {e : Env} {w : World} {x y : Operand} {d0 : TypeDesc} {sz by_ sz1 by1 : Nat} {z z1 : Value} {ag ag1 : Bool} {m b o : Nat} {i : Int} {k : IntKind}
theorem does_indexA [U : Ty P t (.array m t0) sz1 z1 by1 ag1] [T : Ty P t0 d0 sz z by_ ag] (h : ev e x = some (.pointer (some ⟨b, o, none⟩))) (h1 : ev e y = some (.int k i)) (h0 : 0 ≤ i) (h2 : i < m) : Does P (.indexAddr t x y) ty e w (.pointer (some ⟨b, o + i.toNat * sz, none⟩)) w := by
  intro ρ dst pos af g hρ
  simp [execOp, hρ _ _ h, hρ _ _ h1, Instr.indexAt, Instr.sureAddr, asIntOf, run_underlying U.und, h0, h2, T.size, add_at]
theorem O_indexA {n : Nat} {all : List Oper} {S : World → Prop} {K : Env → World → Prop} {j : Nat} {r : List (Nat × Bool)} {d : Option Tmp} [U : Ty P t (.array m t0) sz1 z1 by1 ag1] [T : Ty P t0 d0 sz z by_ ag] (h : ev e x = some (.pointer (some ⟨b, o, none⟩))) (h1 : ev e y = some (.int k i)) (h0 : 0 ≤ i) (h2 : i < m) (hS : S w)
    (hr : WS P n all S K r (push d (.pointer (some ⟨b, o + i.toNat * sz, none⟩)) e) w) : OX P n all S K j true r d (.indexAddr t x y) ty e w := O_quiet (fun _ _ => does_indexA h h1 h0 h2) hS hr
theorem X_indexA {n : Nat} {all : List Oper} {K : Env → World → Prop} {r : List Oper} {d : Option Tmp} [U : Ty P t (.array m t0) sz1 z1 by1 ag1] [T : Ty P t0 d0 sz z by_ ag] (h : ev e x = some (.pointer (some ⟨b, o, none⟩))) (h1 : ev e y = some (.int k i)) (h0 : 0 ≤ i) (h2 : i < m)
    (hr : WL P n all K r (push d (.pointer (some ⟨b, o + i.toNat * sz, none⟩)) e) w) : WX P n all K r d (.indexAddr t x y) ty e w := X_does (does_indexA h h1 h0 h2) hr
end
theorem goUse_ones {max : Int} {t : Tab} : ∀ (ls : List Int) (k : Nat), (goUse max t (ones ls) k).2 = useM max t ls
  | [], _ => rfl
  | x :: r, k => by
    have h1 : useM max t [x] = useOne max t x := by
      simp only [useM]; split
      · rfl
      · omega
    show (if useM max t [x] ≠ 0 then ((k : Int), useM max t [x]) else goUse max t (ones r) (k + 1)).2 = if useOne max t x ≠ 0 then useOne max t x else useM max t r
    rw [h1]
    split
    · rfl
    · exact goUse_ones r (k + 1)
attribute [local irreducible] WC WL WX WS WO OX Does DoesU Enters CV Pure thenQ blockQ retQ Wants retQC
set_option maxRecDepth 100000
theorem uses_cv' {w : World} {c : Circ} {h js : Hd} {t : Tab} {b n : Nat} (H : CirAt w c h js) (hs : c.Okay) (hm : 0 ≤ c.max ∧ c.max ≤ 16384) (hB : Blk w b 4 ((ut t).map Value.bool)) (hl : (t.length : Int) = c.max + 1) (hn : n = t.length) : CV Tryd.prog 80 [.agg (ccells c h).toArray, .slice (some ⟨b, 0, none⟩) n n] w fun v w' => v = .tuple #[nu (usesM c t).1, nu (usesM c t).2] ∧ Chg w w' none_ := by
  have hI0 : Blk (w.alloc (.cells (ccells c h).toArray 29)) w.heap.size 29 (ccells c h) := Blk.new w _ _
  have hC0 := Chg.alloc w (.cells (ccells c h).toArray 29) none_
  have hlens := hs.lens
  simp only [Circ.lens, List.mem_cons, List.not_mem_nil, or_false] at hlens
  have k2 := hlens _ (.inr (.inl rfl))
  have k3 := hlens _ (.inr (.inr (.inl rfl)))
  have k4 := hlens _ (.inr (.inr (.inr (.inl rfl))))
  have k5 := hlens _ (.inr (.inr (.inr (.inr (.inl rfl)))))
  have k6 := hlens _ (.inr (.inr (.inr (.inr (.inr (.inl rfl))))))
  have k7 := hlens _ (.inr (.inr (.inr (.inr (.inr (.inr (.inl rfl)))))))
  have k8 := hlens _ (.inr (.inr (.inr (.inr (.inr (.inr (.inr (.inl rfl))))))))
  clear hlens
  have hus : ∀ {W : World} {x : Int}, Chg w W none_ → CV Tryd.prog 103 [.agg (ccells c h).toArray, .slice (some ⟨b, 0, none⟩) n n, nu x] W fun v w' => v = nu (useOne c.max t x) ∧ Chg W w' none_ := fun {W x} hW => used_cv (h := h) (hB.chg hW id) hn hm hl
  have hua : ∀ {W : World} {A : Option Addr} {cp : Nat} {ls : List Int}, Chg w W none_ → RowA W icell 1 A ls → ls.length ≤ 9223372036854775807 → CV Tryd.prog 104 [.agg (ccells c h).toArray, .slice (some ⟨b, 0, none⟩) n n, .slice A ls.length cp] W fun v w' => v = .tuple #[nu (goUse c.max t (ones ls) 0).1, nu (useM c.max t ls)] ∧ Chg W w' none_ := fun {W A cp ls} hW R hl1 => by
    have := usedAll_cv (h := h) (cp := cp) (hB.chg hW id) hn hm hl R hl1
    rwa [goUse_ones] at this
  refine enter 128 [4, 5] Tryd.func80 rfl rfl rfl (by decide) rfl ?_
  repeat' (first
|(apply WC_seqK;intro K hK)
|(apply hK;clear hK)
|(apply WC_block)
|(apply WC_region)
|(apply WL_nil)
|(apply thenQ_normal)
|(apply WL_on0;eq_refl)
|(apply X_pv;eq_refl;first|exact trivial|omega)
|(apply X_box;eq_refl))
  refine WC_loop (fun s : Nat => [(1, .slice (some ⟨b, 0, none⟩) n n), (2, pt w.heap.size), (6, nu s)])
    (fun s W => Chg w W none_ ∧ Blk W w.heap.size 29 (ccells c h) ∧ s ≤ c.latches.length ∧ goUse c.max t ((c.latches.map fun x => [x.2.1]).drop s) s = goUse c.max t (c.latches.map fun x => [x.2.1]) 0) (fun s => c.latches.length - s) 0 ⟨rfl, rfl, rfl, trivial⟩ ⟨hC0, hI0, Nat.zero_le _, rfl⟩ ?_
  clear hI0 hC0
  rintro k w1 ⟨hC1, hI1, hk, hgo⟩
  rcases Nat.lt_or_ge k c.latches.length with hlt | hge
  · obtain ⟨p, hp, hpc⟩ := H.latches k hlt
    rw [goUse_step (by simpa using hlt), List.getElem_map] at hgo
    generalize hx : c.latches[k] = x at *
    have e2 : useM c.max t [x.2.1] = useOne c.max t x.2.1 := by
      simp only [useM]; split
      · rfl
      · omega
    rw [e2] at hgo
    have e6 : (ccells c h)[0 + 2]? = some (.slice (some p) c.latches.length (h 2).2) := by rw [← hp]; rfl
    repeat' (first
|(apply WC_seqK;intro K hK)
|(apply hK;clear hK)
|(apply WC_block)
|(apply WC_region)
|(apply WL_nil)
|(apply thenQ_normal)
|(apply WC_skip)
|(apply WC_if_true;eq_refl)
|(apply WL_on0;eq_refl)
|(apply X_pv;eq_refl;first|exact trivial|omega)
|(apply X_field;eq_refl)
|(apply X_loadR;eq_refl;(first|assumption|(apply Blk.alloc;assumption)|apply Blk.new|apply Blk.newA|(apply Blk.alloc;first|apply Blk.newA|(apply Blk.alloc;first|assumption|apply Blk.newA)));eq_refl)
|(apply X_cmpT;eq_refl;eq_refl;omega)
|(apply X_len;eq_refl))
    refine WC_draws [(0, true), (1, true), (2, true), (3, true), (4, true), (5, true), (6, true), (7, true), (8, false), (9, true)] (fun W => Chg w W none_ ∧ Blk W w.heap.size 29 (ccells c h)) mixed (by kernel_rfl) (by kernel_rfl) ?_
    have hS : Chg w w1.drew none_ ∧ Blk w1.drew w.heap.size 29 (ccells c h) := ⟨hC1.dr, hI1⟩
    repeat' (first
|(apply O_loadW;eq_refl;(exact fun _ h => h.2);eq_refl;assumption)
|(apply O_loadR;eq_refl;(exact fun _ h => h.2);exact e6;assumption)
|(apply O_loadC;eq_refl;(exact fun W h => cel_chg (hpc 1 _ rfl) h.1 id);assumption)
|(apply O_fn;eq_refl;exact hus hS.1;rintro _ w3 ⟨rfl, hC3⟩;have hS3 : Chg w w3 none_ ∧ Blk w3 w.heap.size 29 (ccells c h) := ⟨hS.1.trans hC3 fun k hk hh => hh, hS.2.chg hC3 id⟩;refine ⟨fun _ => hS3, ?_⟩)
|(apply WC_seqK;intro K hK)
|(apply hK;clear hK)
|(apply WC_region)
|(apply WL_nil)
|(apply thenQ_normal)
|(apply thenQ_ret)
|(apply blockQ_ret)
|(apply blockQ_normal)
|(apply WC_ret)
|(apply WC_skip)
|(apply WC_if_true;eq_refl)
|(apply WC_if_false;eq_refl)
|(apply ret2;eq_refl;eq_refl)
|(apply WS_nil)
|(apply WS_next;eq_refl)
|(apply WO_on0;eq_refl)
|(apply O_pv;eq_refl;(first|exact trivial|omega);(first|assumption|exact trivial))
|(apply O_field;eq_refl;(first|assumption|exact trivial))
|(apply O_indexP;eq_refl;eq_refl;omega;omega;(first|assumption|exact trivial))
|(apply O_fieldP;eq_refl;(first|assumption|exact trivial))
|(apply WL_on0;eq_refl)
|(apply X_pv;eq_refl;first|exact trivial|omega)
|(apply X_cmp;eq_refl;eq_refl;all_goals intro _))
    · rw [if_pos (by assumption)] at hgo
      have e : usesM c t = goUse c.max t (c.latches.map fun x => [x.2.1]) 0 := thenE_err (by rw [← hgo]; assumption)
      rw [e, ← hgo]
      exact ⟨rfl, hS3.1⟩
    · rw [if_neg (by assumption)] at hgo
      exact ⟨k + 1, ⟨rfl, rfl, rfl, trivial⟩, ⟨hS3.1, hS3.2, hlt, hgo⟩, by omega⟩
  rw [List.drop_eq_nil_of_le (by simpa using hge)] at hgo
  have E1 : usesM c t = restOf c.max t (thenE (goUse c.max t c.justice 0) (thenE (goUse c.max t (ones c.fairness) 0) (goUse c.max t (c.ands.map fun x => [x.2.1, x.2.2]) 0))) [c.outputs, c.bads, c.constraints] := thenE_ok (by rw [← hgo]; rfl)
  clear hgo
  repeat' (first
|(apply X_loadR;eq_refl;exact hI1;eq_refl)
|(apply WC_seqK;intro K hK)
|(apply hK;clear hK)
|(clear hK;apply hK;clear hK)
|(apply WC_region)
|(apply WL_nil)
|(apply thenQ_normal)
|(apply thenQ_exit)
|(apply blockQ_hit)
|(apply WC_exit)
|(apply WC_if_false;eq_refl)
|(apply WL_on0;eq_refl)
|(apply X_pv;eq_refl;first|exact trivial|omega)
|(apply X_field;eq_refl)
|(apply X_cmpF;eq_refl;eq_refl;omega)
|(apply X_len;eq_refl)
|(apply X_alloc)
|(apply X_pure;apply build146_0_1_2 <;> eq_refl))
  clear hge hk
  refine X_doesU (does_storeA (t1 := 146) (vs := [slc h 3 c.outputs.length, slc h 4 c.bads.length, slc h 5 c.constraints.length]) (o := 0) (b := w1.heap.size) (by eq_refl) (by eq_refl) (Blk.newA w1 _ _) rfl (by exact Nat.le_refl 3) (by simp [slc, Value.oneCell'])) ?_
  have hb1 : w.heap.size + 1 ≤ w1.heap.size := hI1.lt
  have hcc : Chg w1 ((w1.alloc (.cells #[.slice none 0 0, .slice none 0 0, .slice none 0 0] 146)).setRow w1.heap.size [slc h 3 c.outputs.length, slc h 4 c.bads.length, slc h 5 c.constraints.length].toArray) none_ := (Chg.alloc w1 _ none_).trans (Chg.setRow _ w1.heap.size _ (S := fun k => k = w1.heap.size) rfl) fun k hk h => by omega
  refine WL_turn (fun W => Chg w W none_ ∧ Blk W w.heap.size 29 (ccells c h) ∧ Blk W w1.heap.size 146 [slc h 3 c.outputs.length, slc h 4 c.bads.length, slc h 5 c.constraints.length]) ⟨hC1.trans hcc fun _ _ h => h, hI1.chg hcc id, (Blk.newA w1 _ 146).set [slc h 3 c.outputs.length, slc h 4 c.bads.length, slc h 5 c.constraints.length]⟩ ?_
  clear hcc hC1 hI1
  generalize w1.heap.size = b8 at *
  rintro w2 ⟨hC2, hI2, hA2⟩
  repeat' (first
|(apply WC_seqK;intro K hK)
|(apply hK;clear hK)
|(apply WC_block)
|(apply WC_region)
|(apply WL_nil)
|(apply thenQ_normal)
|(apply WL_on0;eq_refl)
|(apply X_pv;eq_refl;first|exact trivial|omega))
  refine WC_loop (fun s : Nat => [(1, .slice (some ⟨b, 0, none⟩) n n), (2, pt w.heap.size), (8, pt b8), (9, nu s)])
    (fun s W => Chg w W none_ ∧ Blk W w.heap.size 29 (ccells c h) ∧ Blk W b8 146 [slc h 3 c.outputs.length, slc h 4 c.bads.length, slc h 5 c.constraints.length] ∧ s ≤ 3 ∧ usesM c t = restOf c.max t (thenE (goUse c.max t c.justice 0) (thenE (goUse c.max t (ones c.fairness) 0) (goUse c.max t (c.ands.map fun x => [x.2.1, x.2.2]) 0))) ([c.outputs, c.bads, c.constraints].drop s)) (fun s => 3 - s) 0 ⟨rfl, rfl, rfl, rfl, trivial⟩ ⟨hC2, hI2, hA2, Nat.zero_le _, E1⟩ ?_
  clear hC2 hI2 hA2 E1
  rintro k w1 ⟨hC1, hI1, hA1, hk, hgo⟩
  rcases Nat.lt_or_ge k 3 with hlt | hge
  · obtain ⟨A, cp, ls, e7, hR, hls, hdr⟩ : ∃ A cp ls, [slc h 3 c.outputs.length, slc h 4 c.bads.length, slc h 5 c.constraints.length][0 + (k : Int).toNat * 1]? = some (.slice A (List.length ls) cp) ∧ RowA w icell 1 A ls ∧ ls.length ≤ 9223372036854775807 ∧ [c.outputs, c.bads, c.constraints].drop k = ls :: [c.outputs, c.bads, c.constraints].drop (k + 1) := by
      match k, hlt with
      | 0, _ => exact ⟨_, _, c.outputs, rfl, H.outputs, by omega, rfl⟩
      | 1, _ => exact ⟨_, _, c.bads, rfl, H.bads, by omega, rfl⟩
      | 2, _ => exact ⟨_, _, c.constraints, rfl, H.constraints, by omega, rfl⟩
    rw [hdr] at hgo
    repeat' (first
|(apply WC_seqK;intro K hK)
|(apply hK;clear hK)
|(apply WC_block)
|(apply WC_region)
|(apply WL_nil)
|(apply thenQ_normal)
|(apply WC_skip)
|(apply WC_if_true;eq_refl)
|(apply WL_on0;eq_refl)
|(apply X_pv;eq_refl;first|exact trivial|omega)
|(apply X_cmpT;eq_refl;eq_refl;omega))
    refine WC_draws [(0, true), (1, true), (2, true), (3, true), (4, true), (5, false), (6, true), (7, true), (8, true), (9, true), (10, true)] (fun W => Chg w W none_ ∧ Blk W w.heap.size 29 (ccells c h) ∧ Blk W b8 146 [slc h 3 c.outputs.length, slc h 4 c.bads.length, slc h 5 c.constraints.length]) mixed (by kernel_rfl) (by kernel_rfl) ?_
    have hS : Chg w w1.drew none_ ∧ Blk w1.drew w.heap.size 29 (ccells c h) ∧ Blk w1.drew b8 146 [slc h 3 c.outputs.length, slc h 4 c.bads.length, slc h 5 c.constraints.length] := ⟨hC1.dr, hI1, hA1⟩
    repeat' (first
|(apply O_loadW;eq_refl;(exact fun _ h => h.2.1);eq_refl;assumption)
|(apply O_indexA;eq_refl;eq_refl;omega;omega;assumption)
|(apply O_loadR;eq_refl;(exact fun _ h => h.2.2);exact e7;assumption)
|(apply O_fn;eq_refl;(exact hua hS.1 (hR.chg hS.1) hls);rintro _ w3 ⟨rfl, hC3⟩;have hS3 : Chg w w3 none_ ∧ Blk w3 w.heap.size 29 (ccells c h) ∧ Blk w3 b8 146 [slc h 3 c.outputs.length, slc h 4 c.bads.length, slc h 5 c.constraints.length] := ⟨hS.1.trans hC3 fun k hk hh => hh, hS.2.1.chg hC3 id, hS.2.2.chg hC3 id⟩;refine ⟨fun _ => hS3, ?_⟩)
|(apply WC_seqK;intro K hK)
|(apply hK;clear hK)
|(apply WC_region)
|(apply WL_nil)
|(apply thenQ_normal)
|(apply thenQ_ret)
|(apply blockQ_ret)
|(apply blockQ_normal)
|(apply WC_ret)
|(apply WC_skip)
|(apply WC_if_true;eq_refl)
|(apply WC_if_false;eq_refl)
|(apply ret2;eq_refl;eq_refl)
|(apply WS_nil)
|(apply WS_next;eq_refl)
|(apply WO_on0;eq_refl)
|(apply O_pv;eq_refl;(first|exact trivial|omega);(first|assumption|exact trivial))
|(apply WL_on0;eq_refl)
|(apply X_pv;eq_refl;first|exact trivial|omega)
|(apply X_cmp;eq_refl;eq_refl;all_goals intro _))
    · have e : usesM c t = goUse c.max t (ones ls) 0 := hgo.trans (thenE_err (by rw [goUse_ones]; assumption))
      rw [e, goUse_ones]
      exact ⟨rfl, hS3.1⟩
    · exact ⟨k + 1, ⟨rfl, rfl, rfl, rfl, trivial⟩, ⟨hS3.1, hS3.2.1, hS3.2.2, hlt, hgo.trans (thenE_ok (by rw [goUse_ones]; omega))⟩, by omega⟩
  obtain rfl : k = 3 := by omega
  replace hgo : usesM c t = thenE (goUse c.max t c.justice 0) (thenE (goUse c.max t (ones c.fairness) 0) (goUse c.max t (c.ands.map fun x => [x.2.1, x.2.2]) 0)) := hgo
  repeat' (first
|(apply WC_seqK;intro K hK)
|(apply hK;clear hK)
|(clear hK;apply hK;clear hK)
|(apply WC_block)
|(apply WC_region)
|(apply WL_nil)
|(apply thenQ_normal)
|(apply thenQ_exit)
|(apply blockQ_hit)
|(apply WC_exit)
|(apply WC_if_false;eq_refl)
|(apply WL_on0;eq_refl)
|(apply X_pv;eq_refl;first|exact trivial|omega)
|(apply X_cmpF;eq_refl;eq_refl;omega))
  clear hge hk hA1
  have E2 := hgo
  clear hgo
  refine WC_loop (fun s : Nat => [(1, .slice (some ⟨b, 0, none⟩) n n), (2, pt w.heap.size), (12, nu s)])
    (fun s W => Chg w W none_ ∧ Blk W w.heap.size 29 (ccells c h) ∧ s ≤ c.justice.length ∧ goUse c.max t (c.justice.drop s) s = goUse c.max t c.justice 0) (fun s => c.justice.length - s) 0 ⟨rfl, rfl, rfl, trivial⟩ ⟨hC1, hI1, Nat.zero_le _, rfl⟩ ?_
  clear hI1 hC1
  rintro k w1 ⟨hC1, hI1, hk, hgo⟩
  rcases Nat.lt_or_ge k c.justice.length with hlt | hge
  · obtain ⟨p, hp, hpc⟩ := H.justice k hlt
    have hR := H.each k hlt
    have hls := hs.just _ (List.getElem_mem hlt)
    rw [goUse_step hlt] at hgo
    generalize hx : c.justice[k] = ls at *
    have e6 : (ccells c h)[0 + 6]? = some (.slice (some p) c.justice.length (h 6).2) := by rw [← hp]; rfl
    repeat' (first
|(apply WC_seqK;intro K hK)
|(apply hK;clear hK)
|(apply WC_block)
|(apply WC_region)
|(apply WL_nil)
|(apply thenQ_normal)
|(apply WC_skip)
|(apply WC_if_true;eq_refl)
|(apply WL_on0;eq_refl)
|(apply X_pv;eq_refl;first|exact trivial|omega)
|(apply X_field;eq_refl)
|(apply X_loadR;eq_refl;(first|assumption|(apply Blk.alloc;assumption)|apply Blk.new|apply Blk.newA|(apply Blk.alloc;first|apply Blk.newA|(apply Blk.alloc;first|assumption|apply Blk.newA)));eq_refl)
|(apply X_cmpT;eq_refl;eq_refl;omega)
|(apply X_len;eq_refl))
    refine WC_draws [(0, true), (1, true), (2, true), (3, true), (4, true), (5, true), (6, true), (7, false), (8, true), (9, true), (10, true), (11, true), (12, true)] (fun W => Chg w W none_ ∧ Blk W w.heap.size 29 (ccells c h)) mixed (by kernel_rfl) (by kernel_rfl) ?_
    have hS : Chg w w1.drew none_ ∧ Blk w1.drew w.heap.size 29 (ccells c h) := ⟨hC1.dr, hI1⟩
    repeat' (first
|(apply O_loadW;eq_refl;(exact fun _ h => h.2);eq_refl;assumption)
|(apply O_loadR;eq_refl;(exact fun _ h => h.2);exact e6;assumption)
|(apply O_loadC;eq_refl;(exact fun W h => cel_chg hpc h.1 id);assumption)
|(apply O_fn;eq_refl;(exact hua hS.1 (hR.chg hS.1) hls);rintro _ w3 ⟨rfl, hC3⟩;have hS3 : Chg w w3 none_ ∧ Blk w3 w.heap.size 29 (ccells c h) := ⟨hS.1.trans hC3 fun k hk hh => hh, hS.2.chg hC3 id⟩;refine ⟨fun _ => hS3, ?_⟩)
|(apply WC_seqK;intro K hK)
|(apply hK;clear hK)
|(apply WC_region)
|(apply WL_nil)
|(apply thenQ_normal)
|(apply thenQ_ret)
|(apply blockQ_ret)
|(apply blockQ_normal)
|(apply WC_ret)
|(apply WC_skip)
|(apply WC_if_true;eq_refl)
|(apply WC_if_false;eq_refl)
|(apply ret2;eq_refl;eq_refl)
|(apply WS_nil)
|(apply WS_next;eq_refl)
|(apply WO_on0;eq_refl)
|(apply O_pv;eq_refl;(first|exact trivial|omega);(first|assumption|exact trivial))
|(apply O_field;eq_refl;(first|assumption|exact trivial))
|(apply O_indexP;eq_refl;eq_refl;omega;omega;(first|assumption|exact trivial))
|(apply WL_on0;eq_refl)
|(apply X_pv;eq_refl;first|exact trivial|omega)
|(apply X_cmp;eq_refl;eq_refl;all_goals intro _))
    · rw [if_pos (by assumption)] at hgo
      have e : usesM c t = goUse c.max t c.justice 0 := E2.trans (thenE_err (by rw [← hgo]; assumption))
      rw [e, ← hgo]
      exact ⟨rfl, hS3.1⟩
    · rw [if_neg (by assumption)] at hgo
      exact ⟨k + 1, ⟨rfl, rfl, rfl, trivial⟩, ⟨hS3.1, hS3.2, hlt, hgo⟩, by omega⟩
  rw [List.drop_eq_nil_of_le hge] at hgo
  have E3 : usesM c t = thenE (goUse c.max t (ones c.fairness) 0) (goUse c.max t (c.ands.map fun x => [x.2.1, x.2.2]) 0) := E2.trans (thenE_ok (by rw [← hgo]; rfl))
  clear hgo E2
  repeat' (first
|(apply X_fn;eq_refl;(exact hua hC1 (H.chg hC1).fairness (by omega));rintro _ w3 ⟨rfl, hC3⟩)
|(apply WC_seqK;intro K hK)
|(apply hK;clear hK)
|(clear hK;apply hK;clear hK)
|(apply WC_block)
|(apply WC_region)
|(apply WL_nil)
|(apply thenQ_normal)
|(apply thenQ_ret)
|(apply thenQ_exit)
|(apply blockQ_hit)
|(apply WC_ret)
|(apply WC_exit)
|(apply WC_skip)
|(apply WC_if_true;eq_refl)
|(apply WC_if_false;eq_refl)
|(apply ret2;eq_refl;eq_refl)
|(apply WL_on0;eq_refl)
|(apply X_pv;eq_refl;first|exact trivial|omega)
|(apply X_field;eq_refl)
|(apply X_loadR;eq_refl;(first|assumption|(apply Blk.alloc;assumption)|apply Blk.new|apply Blk.newA|(apply Blk.alloc;first|apply Blk.newA|(apply Blk.alloc;first|assumption|apply Blk.newA)));eq_refl)
|(apply X_loadW;eq_refl;(first|assumption|(apply Blk.alloc;assumption)|apply Blk.new|apply Blk.newA|(apply Blk.alloc;first|apply Blk.newA|(apply Blk.alloc;first|assumption|apply Blk.newA)));eq_refl)
|(apply X_cmpF;eq_refl;eq_refl;omega)
|(apply X_cmp;eq_refl;eq_refl;all_goals intro _)
|(apply X_len;eq_refl))
  · have e : usesM c t = goUse c.max t (ones c.fairness) 0 := E3.trans (thenE_err (by rw [goUse_ones]; assumption))
    rw [e, goUse_ones]
    exact ⟨rfl, hC1.trans hC3 fun _ _ h => h⟩
  have E4 : usesM c t = goUse c.max t (c.ands.map fun x => [x.2.1, x.2.2]) 0 := E3.trans (thenE_ok (by rw [goUse_ones]; omega))
  clear E3 hge hk
  refine WC_loop (fun s : Nat => [(1, .slice (some ⟨b, 0, none⟩) n n), (2, pt w.heap.size), (17, nu s)])
    (fun s W => Chg w W none_ ∧ Blk W w.heap.size 29 (ccells c h) ∧ s ≤ c.ands.length ∧ goUse c.max t ((c.ands.map fun x => [x.2.1, x.2.2]).drop s) s = goUse c.max t (c.ands.map fun x => [x.2.1, x.2.2]) 0) (fun s => c.ands.length - s) 0 ⟨rfl, rfl, rfl, trivial⟩ ⟨hC1.trans hC3 fun _ _ h => h, hI1.chg hC3 id, Nat.zero_le _, rfl⟩ ?_
  clear hI1 hC1 hC3 w3
  rintro k w1 ⟨hC1, hI1, hk, hgo⟩
  rcases Nat.lt_or_ge k c.ands.length with hlt | hge
  · obtain ⟨p, hp, hpc⟩ := H.ands k hlt
    rw [goUse_step (by simpa using hlt), List.getElem_map] at hgo
    generalize hx : c.ands[k] = x at *
    have e6 : (ccells c h)[0 + 8]? = some (.slice (some p) c.ands.length (h 8).2) := by rw [← hp]; rfl
    repeat' (first
|(apply WC_seqK;intro K hK)
|(apply hK;clear hK)
|(apply WC_block)
|(apply WC_region)
|(apply WL_nil)
|(apply thenQ_normal)
|(apply WC_skip)
|(apply WC_if_true;eq_refl)
|(apply WL_on0;eq_refl)
|(apply X_pv;eq_refl;first|exact trivial|omega)
|(apply X_field;eq_refl)
|(apply X_loadR;eq_refl;(first|assumption|(apply Blk.alloc;assumption)|apply Blk.new|apply Blk.newA|(apply Blk.alloc;first|apply Blk.newA|(apply Blk.alloc;first|assumption|apply Blk.newA)));eq_refl)
|(apply X_cmpT;eq_refl;eq_refl;omega)
|(apply X_len;eq_refl))
    refine WC_draws [(0, true), (1, true), (2, true), (3, true), (4, true), (5, true), (6, true), (7, true), (8, true), (9, true), (10, true), (11, true), (12, true), (13, true), (14, false), (15, false), (16, true), (17, true), (18, true), (19, true), (20, true)] (fun W => Chg w W none_ ∧ Blk W w.heap.size 29 (ccells c h)) mixed (by kernel_rfl) (by kernel_rfl) ?_
    have hS : Chg w w1.drew none_ ∧ Blk w1.drew w.heap.size 29 (ccells c h) := ⟨hC1.dr, hI1⟩
    have hSa : Chg w (w1.drew.alloc (.cells #[nu x.2.1, nu x.2.2] 3)) none_ ∧ Blk (w1.drew.alloc (.cells #[nu x.2.1, nu x.2.2] 3)) w.heap.size 29 (ccells c h) := ⟨hS.1.al _, hS.2.alloc _⟩
    have hone := hua (cp := 2) (ls := [x.2.1, x.2.2]) hSa.1 (RowA.lit w1.drew [x.2.1, x.2.2]) (by simp)
    repeat' (first
|(apply O_loadW;eq_refl;(exact fun _ h => h.2);eq_refl;assumption)
|(apply O_loadR;eq_refl;(exact fun _ h => h.2);exact e6;assumption)
|(apply O_loadC;eq_refl;(exact fun W h => cel_chg (hpc 1 _ rfl) h.1 id);assumption)
|(apply O_loadC;eq_refl;(exact fun W h => cel_chg (hpc 2 _ rfl) h.1 id);assumption)
|(apply O_does;(apply buildS22_2 <;> eq_refl);exact (fun _ => hSa))
|(apply O_fn;eq_refl;exact hone;rintro _ w3 ⟨rfl, hC3⟩;have hS3 : Chg w w3 none_ ∧ Blk w3 w.heap.size 29 (ccells c h) := ⟨hSa.1.trans hC3 fun k hk hh => hh, hSa.2.chg hC3 id⟩;refine ⟨fun _ => hS3, ?_⟩)
|(apply WC_seqK;intro K hK)
|(apply hK;clear hK)
|(apply WC_region)
|(apply WL_nil)
|(apply thenQ_normal)
|(apply thenQ_ret)
|(apply blockQ_ret)
|(apply blockQ_normal)
|(apply WC_ret)
|(apply WC_skip)
|(apply WC_if_true;eq_refl)
|(apply WC_if_false;eq_refl)
|(apply ret2;eq_refl;eq_refl)
|(apply WS_nil)
|(apply WS_next;eq_refl)
|(apply WO_on0;eq_refl)
|(apply O_pv;eq_refl;(first|exact trivial|omega);(first|assumption|exact trivial))
|(apply O_field;eq_refl;(first|assumption|exact trivial))
|(apply O_indexP;eq_refl;eq_refl;omega;omega;(first|assumption|exact trivial))
|(apply O_fieldP;eq_refl;(first|assumption|exact trivial))
|(apply WL_on0;eq_refl)
|(apply X_pv;eq_refl;first|exact trivial|omega)
|(apply X_cmp;eq_refl;eq_refl;all_goals intro _))
    · rw [if_pos (by assumption)] at hgo
      rw [E4, ← hgo]
      exact ⟨rfl, hS3.1⟩
    · rw [if_neg (by assumption)] at hgo
      exact ⟨k + 1, ⟨rfl, rfl, rfl, trivial⟩, ⟨hS3.1, hS3.2, hlt, hgo⟩, by omega⟩
  rw [List.drop_eq_nil_of_le (by simpa using hge)] at hgo
  repeat' (first
|(apply WC_seqK;intro K hK)
|(apply hK;clear hK)
|(clear hK;apply hK;clear hK)
|(apply WC_region)
|(apply WL_nil)
|(apply thenQ_normal)
|(apply thenQ_exit)
|(apply blockQ_hit)
|(apply WC_ret)
|(apply WC_exit)
|(apply WC_if_false;eq_refl)
|(apply ret2;eq_refl;eq_refl)
|(apply WL_on0;eq_refl)
|(apply X_pv;eq_refl;first|exact trivial|omega)
|(apply X_field;eq_refl)
|(apply X_loadR;eq_refl;(first|assumption|(apply Blk.alloc;assumption)|apply Blk.new|apply Blk.newA|(apply Blk.alloc;first|apply Blk.newA|(apply Blk.alloc;first|assumption|apply Blk.newA)));eq_refl)
|(apply X_cmpF;eq_refl;eq_refl;omega)
|(apply X_len;eq_refl))
  rw [E4, ← hgo]
  exact ⟨rfl, hC1⟩
end SC
end Go.Proofs.YtclihihdgodloaaDoor
end
