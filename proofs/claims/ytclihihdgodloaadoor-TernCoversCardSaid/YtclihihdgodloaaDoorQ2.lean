/- Texts of this seat, one behind the other: D10 D11 F1 F2 F3 F4 F5 F6 E1 E2 E3 E4 E5 F7 G1 G2 J1 V2 V3 J2 V4 V5 S1 I1 J3 B1 J4 J5 J6 K1 K2 K3 K4. -/
import Derived.Test.YtclihihdgodloaaDoorQ1
import Derived.Maps.OwnOps
import Derived.Maps.Views
import Derived.DeepKeys4
import Derived.WideKeyEntry
import Derived.DataElems
import Derived.ProofKit
import Derived.ChangeOld
import Derived.Below
import Derived.Deep.Slices
import Derived.Deep.Fields
import Derived.Lib.SmallJoins
import Derived.OwnWalk
section
/- shape: the closure that pushes. -/
set_option linter.unusedVariables false
set_option linter.unusedSimpArgs false
namespace Go.Proofs.YtclihihdgodloaaDoor
namespace SC
open Go.Proofs
attribute [local irreducible] WC WL WX WS WO OX Does DoesU Enters CV Pure thenQ blockQ retQ Wants
set_option maxRecDepth 100000
/-- Where x comes into a list that goes down. -/
def pushM (xs : List Int) (x : Int) : List Int := xs.takeWhile (fun y => decide (x < y)) ++ x :: xs.dropWhile (fun y => decide (x < y))
theorem push_at {xs : List Int} {x : Int} {i : Nat} (hi : i ≤ xs.length) (h1 : ∀ j (hj : j < xs.length), j < i → x < xs[j]) (h2 : ∀ j (hj : j < xs.length), i ≤ j → xs[j] ≤ x) : xs.take i ++ x :: xs.drop i = pushM xs x := by
  induction xs generalizing i with
  | nil => simp [pushM]
  | cons y r ih =>
    unfold pushM
    cases i with
    | zero =>
      have := h2 0 (by simp) (Nat.le_refl _)
      simp only [List.getElem_cons_zero] at this
      have e : decide (x < y) = false := decide_eq_false (by omega)
      simp [List.takeWhile_cons, List.dropWhile_cons, e]
    | succ i =>
      have h0 := h1 0 (by simp) (by omega)
      simp only [List.getElem_cons_zero] at h0
      have e : decide (x < y) = true := decide_eq_true h0
      have := ih (i := i) (by simpa using hi) (fun j hj hlt => by have := h1 (j + 1) (by simp; omega) (by omega); simpa using this) (fun j hj hle => by have := h2 (j + 1) (by simp; omega) (by omega); simpa using this)
      simp only [List.takeWhile_cons, List.dropWhile_cons, e, if_true, List.take_succ_cons, List.drop_succ_cons, List.cons_append]
      unfold pushM at this
      rw [← this]
theorem ic_len (a : Int) : (icell a).length = 1 := rfl
theorem flat_icell : ∀ xs : List Int, xs.flatMap icell = xs.map nu
  | [] => rfl
  | a :: r => by simp only [List.flatMap_cons, flat_icell r]; rfl
theorem rowI {w : World} {base : Nat} {A : Option Addr} {c : Nat} {xs : List Int} (h : w.ownsRow base 3 1 (.slice A xs.length c) xs.length (xs.map nu)) : RowA w icell 1 A xs := RowA.own ic_len (by rw [flat_icell]; exact h)
theorem push_cv {w : World} {base rb : Nat} {v : Value} {xs : List Int} {x : Int} (hb : Blk w rb 22 [v]) (hown : w.ownsRow base 3 1 v xs.length (xs.map nu)) (hbase : base ≤ w.heap.size) (hn : xs.length ≤ 100000) (hx : 0 ≤ x ∧ x ≤ 100000) (hxs : ∀ y ∈ xs, 0 ≤ y ∧ y ≤ 100000) (hd : ∀ (i j : Nat) (hi : i < xs.length) (hj : j < xs.length), i ≤ j → xs[j] ≤ xs[i]) :
    CV Tryd.prog 107 [nu x, pt rb] w fun u w' => ∃ v', Blk w' rb 22 [v'] ∧ w'.ownsRow base 3 1 v' (xs.length + 1) ((pushM xs x).map nu) ∧ Chg w w' (fun k => k = rb ∨ v.ownBlock = some k) ∧ (v'.ownBlock = v.ownBlock ∨ ∃ k, v'.ownBlock = some k ∧ w.heap.size ≤ k) := by
  obtain ⟨A, c, rfl⟩ := row_form' hown
  have hrl := rowI hown
  have hvr : (Value.slice A xs.length c).ownBlock ≠ some rb := by
    rcases hown.2 with ⟨hv, _⟩ | ⟨g, _, _, hv, _, hg, _⟩
    · rw [hv]; simp [Value.ownBlock]
    · rw [hv]
      intro hh
      simp only [Value.ownBlock, Option.some.injEq] at hh
      subst hh
      unfold Blk at hb
      rw [hg] at hb
      simp at hb
  refine enter 16 [] Tryd.func107 rfl rfl rfl (by decide) rfl ?_
  repeat' (first
|(apply X_fn;eq_refl;exact bsearch_cv hrl hn hx hxs hd;rintro _ _ ⟨rfl, i, f, rfl, hi, h1, h2⟩)
|(apply WC_seqK;intro K hK)
|(apply hK;clear hK)
|(apply WC_region)
|(apply WL_nil)
|(apply thenQ_normal)
|(apply WL_on0;eq_refl)
|(apply X_pv;eq_refl;first|exact trivial|omega)
|(apply X_loadR;eq_refl;(first|assumption|(apply Blk.alloc;assumption)|apply Blk.new|apply Blk.newA|(apply Blk.alloc;first|apply Blk.newA|(apply Blk.alloc;first|assumption|apply Blk.newA)));eq_refl)
|(apply X_does;apply buildS22_1 <;> eq_refl))
  rename_i w0
  have hown1 := hown.alloc (.cells #[nu x] 3)
  have hins := insert_cv (w := w0.alloc (.cells #[nu x] 3)) (base := base) (i := i) (x := x) hown1 hi (Blk.newA w0 #[nu x] 3) (fun hh => by have := (hown.lt _ hh).2; omega) (by omega) (by simp; omega)
  refine X_fn (by eq_refl) hins ?_
  rintro v' w2 ⟨hrow2, hC2, hown2⟩
  have hb2 : Blk w2 rb 22 [.slice A xs.length c] := (hb.alloc _).chg hC2 (fun hh => hvr hh)
  obtain ⟨A', c', rfl⟩ := row_form' hrow2
  have hpe := push_at hi h1 h2
  rw [hpe] at hrow2
  have hvr2 : (Value.slice A' (xs.length + 1) c').ownBlock ≠ some rb := by
    rcases hrow2.2 with ⟨hv, _⟩ | ⟨g, _, _, hv, _, hg, _⟩
    · rw [hv]; simp [Value.ownBlock]
    · rw [hv]
      intro hh
      simp only [Value.ownBlock, Option.some.injEq] at hh
      subst hh
      unfold Blk at hb2
      rw [hg] at hb2
      simp at hb2
  repeat' (first
|(apply WL_on0;eq_refl))
  refine X_doesU (does_store1 (b := rb) (o := 0) (v := .slice A' (xs.length + 1) c') (by eq_refl) (by eq_refl) hb2 (by simp) rfl rfl) ?_
  have hC3 : Chg w0 (w2.setRow rb ([Value.slice A xs.length c].set 0 (.slice A' (xs.length + 1) c')).toArray) (fun k => k = rb ∨ (Value.slice A xs.length c).ownBlock = some k) :=
    ((Chg.alloc w0 _ _).trans hC2 fun k _ hh => .inr hh).trans (Chg.setRow _ rb _ (S := fun k => k = rb) rfl) fun k _ hh => .inl hh
  have hb3 := hb2.set ([Value.slice A xs.length c].set 0 (.slice A' (xs.length + 1) c'))
  have hrow3 := own_chg hrow2 (Chg.setRow w2 rb ([Value.slice A xs.length c].set 0 (.slice A' (xs.length + 1) c')).toArray (S := fun k => k = rb) rfl) fun k hk hh => hvr2 (hh ▸ hk)
  repeat' (first
|(apply WL_nil)
|(apply ret0n))
  refine ⟨_, hb3, hrow3, hC3, hown2.imp id fun hh => ⟨_, hh, by simp⟩⟩
end SC
end Go.Proofs.YtclihihdgodloaaDoor
end
section
/- make; rows of numbers that change. -/
set_option linter.unusedVariables false
set_option linter.unusedSimpArgs false
namespace Go.Proofs.YtclihihdgodloaaDoor
namespace SC
open Go.Proofs
attribute [local irreducible] WC WL WX WS WO OX Does DoesU Enters CV Pure thenQ blockQ retQ Wants
section
variable {P : Program} {n : Nat} {all rest : List Oper} {K : Env → World → Prop} {e : Env} {w : World} {d : Option Tmp} {ty : TypeId} {x : Operand} {t t0 : TypeId} {td : TypeDesc} {sz sz1 by_ by1 : Nat} {zv z1 : Value} {ag ag1 : Bool}
theorem X_make {m : Nat} {k : IntKind} [U : Ty P t (.slice t0) sz1 z1 by1 ag1] [T : Ty P t0 td sz zv by_ ag] (h : ev e x = some (.int k (m : Int))) (hn : (by_ : Int) * m ≤ 281474976710656) (h63 : (m : Int) ≤ 9223372036854775807)
    (hr : WL P n all K rest (push d (.slice (some ⟨w.heap.size, 0, none⟩) m m) e) (w.alloc (.cells (madeCells zv.cells (m * sz)) t0))) : WX P n all K rest d (.makeSlice t x x) ty e w := X_does (does_makeSlice U.und T h hn h63) hr
end
theorem made_one (z : Value) (m : Nat) : (madeCells #[z] m).toList = List.replicate m z := by
  apply List.ext_getElem?
  intro j
  simp only [madeCells]
  by_cases hj : j < m
  · simp [hj, Nat.mod_one]
  · simp [hj]
end SC
end Go.Proofs.YtclihihdgodloaaDoor
end
section
/- shape: the plain law of order: gates told, the least first that can be. -/
set_option linter.unusedVariables false
set_option linter.unusedSimpArgs false
namespace Go.Proofs.YtclihihdgodloaaDoor
namespace SC
open Go.Proofs
section
variable {n : Nat} {B : Int → List Int}
def rg (n : Nat) (x : Int) : Prop := 0 ≤ x ∧ x < n
/-- A gate that can be told behind those of out. -/
structure CanTell (n : Nat) (B : Int → List Int) (out : List Int) (x : Int) : Prop where
  rg : rg n x
  new : x ∉ out
  low : ∀ z ∈ B x, z ∈ out
inductive Told (n : Nat) (B : Int → List Int) : List Int → Prop
  | nil : Told n B []
  | snoc {out : List Int} {x : Int} : Told n B out → CanTell n B out x → (∀ y, CanTell n B out y → x ≤ y) → Told n B (out ++ [x])
theorem Told.split {l : List Int} (h : Told n B l) : ∀ {a r : List Int} {z : Int}, l = a ++ z :: r → CanTell n B a z ∧ ∀ y, CanTell n B a y → z ≤ y := by
  induction h with
  | nil => intro a r z e; simp at e
  | @snoc out x _ h1 h2 ih =>
    intro a r z e
    rcases List.eq_nil_or_concat r with rfl | ⟨r', u, rfl⟩
    · have := List.append_inj' e rfl
      obtain ⟨rfl, e2⟩ := this
      simp at e2
      subst e2
      exact ⟨h1, h2⟩
    · have e' : out ++ [x] = (a ++ z :: r') ++ [u] := by rw [e]; simp
      obtain ⟨e1, _⟩ := List.append_inj' e' rfl
      exact ih e1
theorem Told.nodup {l : List Int} (h : Told n B l) : l.Nodup := by
  induction h with
  | nil => exact List.nodup_nil
  | @snoc out x _ h1 _ ih =>
    rw [List.nodup_append]
    exact ⟨ih, by simp, fun a ha b hb => by simp at hb; subst hb; exact fun e => h1.new (e ▸ ha)⟩
theorem Told.all {l : List Int} (h : Told n B l) : ∀ y ∈ l, rg n y := by
  induction h with
  | nil => intro y hy; cases hy
  | @snoc out x _ h1 _ ih =>
    intro y hy
    rcases List.mem_append.1 hy with hy | hy
    · exact ih y hy
    · simp at hy; subst hy; exact h1.rg
theorem Told.shut {l : List Int} (h : Told n B l) : ∀ y ∈ l, ∀ z ∈ B y, z ∈ l := by
  induction h with
  | nil => intro y hy; cases hy
  | @snoc out x _ h1 _ ih =>
    intro y hy z hz
    rcases List.mem_append.1 hy with hy | hy
    · exact List.mem_append_left _ (ih y hy z hz)
    · simp at hy; subst hy; exact List.mem_append_left _ (h1.low z hz)
theorem Told.either {a b : List Int} (ha : Told n B a) (hb : Told n B b) : a <+: b ∨ b <+: a := by
  induction ha with
  | nil => exact .inl (List.nil_prefix)
  | @snoc out x h0 h1 h2 ih =>
    rcases ih with ⟨r, rfl⟩ | h
    · cases r with
      | nil => right; simp
      | cons z r =>
        obtain ⟨g1, g2⟩ := hb.split rfl
        have : x = z := Int.le_antisymm (h2 z g1) (g2 x h1)
        subst this
        left
        exact ⟨r, by simp⟩
    · exact .inr (h.trans ⟨[x], rfl⟩)
/-- All gates that can be told. -/
structure All (n : Nat) (B : Int → List Int) (out : List Int) : Prop where
  told : Told n B out
  stuck : ∀ x, ¬ CanTell n B out x
theorem All.only {a b : List Int} (ha : All n B a) (hb : All n B b) : a = b := by
  have key : ∀ {a b : List Int}, All n B a → All n B b → a <+: b → a = b := by
    rintro a b ha hb ⟨r, rfl⟩
    cases r with
    | nil => simp
    | cons z r => exact absurd (hb.told.split rfl).1 (ha.stuck z)
  rcases ha.told.either hb.told with h | h
  · exact key ha hb h
  · exact (key hb ha h).symm
theorem nodup_size : ∀ (n : Nat) (l : List Int), l.Nodup → (∀ y ∈ l, rg n y) → l.length ≤ n
  | 0, l, _, h => by
    cases l with
    | nil => exact Nat.le_refl _
    | cons y r => have := h y (by simp); unfold rg at this; omega
  | n + 1, l, hn, h => by
    by_cases hm : (n : Int) ∈ l
    · have h1 := nodup_size n (l.erase n) (hn.erase _) fun y hy => by
        obtain ⟨g1, g2⟩ := (hn.mem_erase_iff).1 hy
        have := h y g2
        unfold rg at *
        omega
      rw [List.length_erase_of_mem hm] at h1
      omega
    · have h1 := nodup_size n l hn fun y hy => by
        have := h y hy
        have hne : y ≠ n := fun e => hm (e ▸ hy)
        unfold rg at *
        omega
      omega
theorem Told.size {l : List Int} (h : Told n B l) : l.length ≤ n := nodup_size n l h.nodup h.all

/-! ### lists that are turned at a place -/
def L (ls : List Int) (y : Int) : Int := ls.getD y.toNat 0
def A (av : List (List Int)) (x : Int) : List Int := av.getD x.toNat []
theorem L_set {ls : List Int} {i : Int} (v : Int) (h : rg ls.length i) {y : Int} (hy : 0 ≤ y) : L (ls.set i.toNat v) y = if y = i then v else L ls y := by
  unfold L rg at *
  simp only [List.getD_eq_getElem?_getD, List.getElem?_set]
  by_cases hc : y = i
  · subst hc
    rw [if_pos rfl, if_pos (by omega), if_pos rfl]
    rfl
  · rw [if_neg (by omega), if_neg hc]
theorem A_set {av : List (List Int)} {i : Int} (v : List Int) (h : rg av.length i) {y : Int} (hy : 0 ≤ y) : A (av.set i.toNat v) y = if y = i then v else A av y := by
  unfold A rg at *
  simp only [List.getD_eq_getElem?_getD, List.getElem?_set]
  by_cases hc : y = i
  · subst hc
    rw [if_pos rfl, if_pos (by omega), if_pos rfl]
    rfl
  · rw [if_neg (by omega), if_neg hc]

/-! ### a list that goes down -/
def Desc (q : List Int) : Prop := q.Pairwise (· > ·)
theorem pushM_cons (y x : Int) (r : List Int) : pushM (y :: r) x = if x < y then y :: pushM r x else x :: y :: r := by
  unfold pushM
  by_cases h : x < y
  · simp [h]
  · simp [h]
theorem pushM_mem : ∀ (q : List Int) (x y : Int), y ∈ pushM q x ↔ y ∈ q ∨ y = x
  | [], x, y => by simp [pushM]
  | a :: r, x, y => by
    rw [pushM_cons]
    split
    · simp only [List.mem_cons, pushM_mem r x y, or_assoc]
    · simp only [List.mem_cons]; rw [or_comm]
theorem pushM_len : ∀ (q : List Int) (x : Int), (pushM q x).length = q.length + 1
  | [], x => by simp [pushM]
  | a :: r, x => by
    rw [pushM_cons]
    split
    · simp [pushM_len r x]
    · simp
theorem pushM_desc : ∀ (q : List Int) (x : Int), Desc q → x ∉ q → Desc (pushM q x)
  | [], x, _, _ => by simp [pushM, Desc]
  | a :: r, x, h, hn => by
    unfold Desc at *
    rw [pushM_cons]
    rw [List.pairwise_cons] at h
    simp only [List.mem_cons, not_or] at hn
    split
    · rename_i hlt
      rw [List.pairwise_cons]
      refine ⟨fun b hb => ?_, pushM_desc r x h.2 hn.2⟩
      rcases (pushM_mem r x b).1 hb with hb | rfl
      · exact h.1 b hb
      · exact hlt
    · rename_i hle
      have hgt : x > a := by omega
      rw [List.pairwise_cons, List.pairwise_cons]
      refine ⟨fun b hb => ?_, h⟩
      rcases List.mem_cons.1 hb with rfl | hb
      · exact hgt
      · have := h.1 b hb; omega
theorem Desc.le {q : List Int} (h : Desc q) : ∀ (i j : Nat) (hi : i < q.length) (hj : j < q.length), i ≤ j → q[j] ≤ q[i] := by
  intro i j hi hj hij
  rcases Nat.lt_or_ge i j with hlt | hge
  · have := List.pairwise_iff_getElem.1 h i j hi hj hlt
    omega
  · obtain rfl : i = j := by omega
    exact Int.le_refl _
theorem Desc.last {q : List Int} {x : Int} (h : Desc (q ++ [x])) : Desc q ∧ ∀ y ∈ q, x < y := by
  unfold Desc at *
  rw [List.pairwise_append] at h
  exact ⟨h.1, fun y hy => h.2.2 y hy x (by simp)⟩
theorem Desc.nodup {q : List Int} (h : Desc q) : q.Nodup := List.Pairwise.imp (fun h => by omega) h

/-! ### how many are not out -/
def lackN (out : List Int) (l : List Int) : Nat := l.countP fun z => decide (z ∉ out)
theorem lackN_snoc {out : List Int} {x : Int} (h : x ∉ out) : ∀ l : List Int, lackN out l = lackN (out ++ [x]) l + l.count x
  | [] => rfl
  | z :: r => by
    have ih := lackN_snoc h r
    unfold lackN at *
    simp only [List.countP_cons, List.count_cons]
    rw [ih]
    by_cases hz : z = x
    · subst hz
      simp [h]
      omega
    · by_cases ho : z ∈ out
      · simp [ho, hz]
      · simp [ho, hz]
        omega
theorem lackN_zero {out l : List Int} : lackN out l = 0 ↔ ∀ z ∈ l, z ∈ out := by
  unfold lackN
  rw [List.countP_eq_zero]
  simp
theorem lackN_nil (l : List Int) : lackN [] l = l.length := by
  unfold lackN
  rw [List.countP_eq_length]
  simp

/-! ### the first loop: what lacks, and who hangs on whom -/
structure In1 (n : Nat) (B : Int → List Int) (i k : Nat) (ls : List Int) (av : List (List Int)) : Prop where
  l1 : ls.length = n
  l2 : av.length = n
  low : ∀ y, rg n y → L ls y = if y < i then ((B y).length : Int) else if y = i then (k : Int) else 0
  up : ∀ x, rg n x → ∀ y, (A av x).count y = if 0 ≤ y ∧ y < i then (B y).count x else if y = i then ((B y).take k).count x else 0
  big : ∀ x, rg n x → (A av x).length ≤ 2 * i + k
theorem In1.init (n : Nat) (B : Int → List Int) : In1 n B 0 0 (List.replicate n 0) (List.replicate n []) := by
  have e : ∀ x, A (List.replicate n []) x = [] := fun x => by
    unfold A
    simp only [List.getD_eq_getElem?_getD, List.getElem?_replicate]
    split <;> rfl
  refine ⟨by simp, by simp, fun y hy => ?_, fun x hx y => ?_, fun x hx => by rw [e]; simp⟩
  · unfold L
    simp only [List.getD_eq_getElem?_getD, List.getElem?_replicate]
    unfold rg at hy
    split <;> split <;> first | rfl | omega | (split <;> rfl)
  · rw [e]
    have h0 : ¬ (0 ≤ y ∧ y < ((0 : Nat) : Int)) := by omega
    rw [if_neg h0]
    split <;> simp
theorem In1.step {i k : Nat} {ls : List Int} {av : List (List Int)} (h : In1 n B i k ls av) (hi : i < n) (hk : k < (B i).length) (hB : ∀ x ∈ B i, rg n x) :
    In1 n B i (k + 1) (ls.set i (L ls i + 1)) (av.set ((B i)[k]).toNat (A av (B i)[k] ++ [(i : Int)])) := by
  have hr := hB _ (List.getElem_mem hk)
  have hri : rg n i := ⟨by omega, by omega⟩
  have eset : ls.set i (L ls i + 1) = ls.set (i : Int).toNat (L ls i + 1) := by simp
  refine ⟨by simp [h.l1], by simp [h.l2], fun y hy => ?_, fun x hx y => ?_, fun x hx => ?_⟩
  · rw [eset, L_set _ (by rw [h.l1]; exact hri) hy.1]
    have := h.low y hy
    by_cases hc : y = i
    · subst hc
      rw [if_neg (by omega), if_pos rfl] at this
      rw [if_pos rfl, if_neg (by omega), if_pos rfl, this]
      omega
    · rw [if_neg hc, this, if_neg hc, if_neg hc]
  · rw [A_set _ (by rw [h.l2]; exact hr) hx.1]
    have hu := h.up x hx y
    by_cases hx' : x = (B i)[k]
    · rw [if_pos hx', List.count_append, ← hx', hu, List.count_singleton]
      by_cases hy : y = i
      · subst hy
        rw [List.take_succ_eq_append_getElem hk, List.count_append, List.count_singleton, ← hx']
        simp
      · have e : ¬ (((i : Int) == y) = true) := by simp; exact fun e => hy e.symm
        rw [if_neg hy, if_neg hy, if_neg e]
        rfl
    · rw [if_neg hx', hu]
      by_cases hy : y = i
      · subst hy
        have e : ¬ (((B i)[k] == x) = true) := by simp; exact fun e => hx' e.symm
        rw [List.take_succ_eq_append_getElem hk, List.count_append, List.count_singleton, if_neg e]
        simp
      · rw [if_neg hy, if_neg hy]
  · rw [A_set _ (by rw [h.l2]; exact hr) hx.1]
    have := h.big x hx
    split
    · rename_i hc
      subst hc
      simp only [List.length_append, List.length_singleton]
      omega
    · omega
theorem In1.close {i : Nat} {ls : List Int} {av : List (List Int)} (h : In1 n B i (B i).length ls av) (hi : i < n) (h2 : (B i).length ≤ 2) : In1 n B (i + 1) 0 ls av := by
  refine ⟨h.l1, h.l2, fun y hy => ?_, fun x hx y => ?_, fun x hx => by have := h.big x hx; omega⟩
  · rw [h.low y hy]
    by_cases h0 : y < i
    · rw [if_pos h0, if_pos (by omega)]
    · rw [if_neg h0]
      by_cases h1 : y = i
      · subst h1; rw [if_pos rfl, if_pos (by omega)]
      · rw [if_neg h1, if_neg (by omega)]
        split <;> rfl
  · rw [h.up x hx y]
    by_cases h0 : 0 ≤ y ∧ y < i
    · rw [if_pos h0, if_pos (by omega)]
    · rw [if_neg h0]
      by_cases h1 : y = i
      · subst h1; rw [if_pos rfl, if_pos (by omega), List.take_length]
      · rw [if_neg h1, if_neg (by omega)]
        split <;> simp
/-- What the first loop leaves. -/
structure Laid (n : Nat) (B : Int → List Int) (ls : List Int) (av : List (List Int)) : Prop where
  l1 : ls.length = n
  l2 : av.length = n
  up : ∀ x, rg n x → ∀ y, rg n y → (A av x).count y = (B y).count x
  inr : ∀ x, rg n x → ∀ y ∈ A av x, rg n y
  big : ∀ x, rg n x → (A av x).length ≤ 2 * n
theorem In1.laid {ls : List Int} {av : List (List Int)} (h : In1 n B n 0 ls av) : Laid n B ls av ∧ ∀ y, rg n y → L ls y = (B y).length := by
  refine ⟨⟨h.l1, h.l2, fun x hx y hy => ?_, fun x hx y hy => ?_, fun x hx => by have := h.big x hx; omega⟩, fun y hy => ?_⟩
  · rw [h.up x hx y, if_pos ⟨hy.1, hy.2⟩]
  · have h1 := h.up x hx y
    have h2 : 0 < (A av x).count y := List.count_pos_iff.2 hy
    rw [h1] at h2
    split at h2
    · assumption
    · split at h2 <;> simp at h2
  · rw [h.low y hy, if_pos hy.2]

/-! ### the second loop: who is ready -/
structure In2 (n : Nat) (ls : List Int) (i : Nat) (q : List Int) : Prop where
  desc : Desc q
  mem : ∀ y, y ∈ q ↔ rg n y ∧ y < i ∧ L ls y = 0
theorem In2.init (n : Nat) (ls : List Int) : In2 n ls 0 [] := ⟨by unfold Desc; exact List.Pairwise.nil, fun y => by unfold rg; simp; omega⟩
theorem In2.push {ls : List Int} {i : Nat} {q : List Int} (h : In2 n ls i q) (hi : i < n) (h0 : L ls i = 0) : In2 n ls (i + 1) (pushM q i) := by
  refine ⟨pushM_desc _ _ h.desc fun hh => ?_, fun y => ?_⟩
  · have := (h.mem _).1 hh; omega
  · rw [pushM_mem, h.mem]
    constructor
    · rintro (⟨h1, h2, h3⟩ | rfl)
      · exact ⟨h1, by omega, h3⟩
      · exact ⟨⟨by omega, by omega⟩, by omega, h0⟩
    · rintro ⟨h1, h2, h3⟩
      by_cases hc : y = i
      · exact .inr hc
      · exact .inl ⟨h1, by omega, h3⟩
theorem In2.skip {ls : List Int} {i : Nat} {q : List Int} (h : In2 n ls i q) (h0 : ¬ L ls i = 0) : In2 n ls (i + 1) q := by
  refine ⟨h.desc, fun y => ?_⟩
  rw [h.mem]
  constructor
  · rintro ⟨h1, h2, h3⟩
    exact ⟨h1, by omega, h3⟩
  · rintro ⟨h1, h2, h3⟩
    refine ⟨h1, ?_, h3⟩
    by_cases hc : y = i
    · subst hc; exact absurd h3 h0
    · omega

/-! ### the third loop -/
structure In3 (n : Nat) (B : Int → List Int) (out q ls : List Int) : Prop where
  told : Told n B out
  len : ls.length = n
  low : ∀ y, rg n y → L ls y = lackN out (B y)
  desc : Desc q
  mem : ∀ y, y ∈ q ↔ rg n y ∧ y ∉ out ∧ L ls y = 0
theorem In2.third {ls : List Int} {av : List (List Int)} {q : List Int} (h : In2 n ls n q) (h1 : Laid n B ls av) (h2 : ∀ y, rg n y → L ls y = (B y).length) : In3 n B [] q ls := by
  refine ⟨.nil, h1.l1, fun y hy => by rw [h2 y hy, lackN_nil], h.desc, fun y => ?_⟩
  rw [h.mem]
  unfold rg
  simp
  omega
theorem In3.can {out q ls : List Int} (h : In3 n B out q ls) (y : Int) : y ∈ q ↔ CanTell n B out y := by
  rw [h.mem]
  constructor
  · rintro ⟨h1, h2, h3⟩
    rw [h.low y h1] at h3
    exact ⟨h1, h2, lackN_zero.1 (by omega)⟩
  · rintro ⟨h1, h2, h3⟩
    refine ⟨h1, h2, ?_⟩
    rw [h.low y h1, lackN_zero.2 h3]
    rfl
theorem In3.all {out ls : List Int} (h : In3 n B out [] ls) : All n B out := ⟨h.told, fun x hx => by have := (h.can x).2 hx; cases this⟩
theorem In3.tell {out q ls : List Int} {x : Int} (h : In3 n B out (q ++ [x]) ls) : Told n B (out ++ [x]) := by
  refine .snoc h.told ((h.can x).1 (by simp)) fun y hy => ?_
  rcases List.mem_append.1 ((h.can y).2 hy) with hm | hm
  · have := h.desc.last.2 y hm; omega
  · simp at hm; omega
structure InR (n : Nat) (B : Int → List Int) (av : List (List Int)) (out : List Int) (x : Int) (j : Nat) (q ls : List Int) : Prop where
  told : Told n B (out ++ [x])
  len : ls.length = n
  low : ∀ y, rg n y → L ls y = lackN (out ++ [x]) (B y) + ((B y).count x : Int) - (((A av x).take j).count y : Int)
  desc : Desc q
  mem : ∀ y, y ∈ q ↔ rg n y ∧ y ∉ out ++ [x] ∧ L ls y = 0
theorem In3.relax {av : List (List Int)} {out q ls : List Int} {x : Int} (h : In3 n B out (q ++ [x]) ls) : InR n B av out x 0 q ls := by
  have hx := (h.can x).1 (by simp)
  refine ⟨h.tell, h.len, fun y hy => ?_, h.desc.last.1, fun y => ?_⟩
  · rw [h.low y hy, lackN_snoc hx.new]
    simp
  · have h1 := h.mem y
    have h2 := h.desc.last.2 y
    constructor
    · intro hy
      obtain ⟨g1, g2, g3⟩ := h1.1 (List.mem_append_left _ hy)
      refine ⟨g1, fun hh => ?_, g3⟩
      rcases List.mem_append.1 hh with hh | hh
      · exact g2 hh
      · simp at hh; have := h2 hy; omega
    · rintro ⟨g1, g2, g3⟩
      have := h1.2 ⟨g1, fun hh => g2 (List.mem_append_left _ hh), g3⟩
      rcases List.mem_append.1 this with hh | hh
      · exact hh
      · exact absurd (List.mem_append_right _ hh) g2
theorem InR.close {av : List (List Int)} {out q ls : List Int} {x : Int} (h : InR n B av out x (A av x).length q ls) (hl : ∀ y, rg n y → (A av x).count y = (B y).count x) : In3 n B (out ++ [x]) q ls := by
  refine ⟨h.told, h.len, fun y hy => ?_, h.desc, h.mem⟩
  rw [h.low y hy, List.take_length, hl y hy]
  omega
theorem InR.step {av : List (List Int)} {out q ls : List Int} {x : Int} {j : Nat} (h : InR n B av out x j q ls) (hj : j < (A av x).length) (hl : ∀ y, rg n y → (A av x).count y = (B y).count x) (hi : ∀ y ∈ A av x, rg n y) :
    1 ≤ L ls (A av x)[j] ∧ L ls (A av x)[j] ≤ lackN (out ++ [x]) (B (A av x)[j]) + (B (A av x)[j]).count x ∧ (A av x)[j] ∉ q ∧
      InR n B av out x (j + 1) (if L ls (A av x)[j] - 1 = 0 then pushM q (A av x)[j] else q) (ls.set ((A av x)[j]).toNat (L ls (A av x)[j] - 1)) := by
  have hr := hi _ (List.getElem_mem hj)
  have hlow := h.low _ hr
  have hc : ((A av x).take (j + 1)).count (A av x)[j] = ((A av x).take j).count (A av x)[j] + 1 := by
    rw [List.take_succ_eq_append_getElem hj, List.count_append]
    simp
  have hle : ((A av x).take (j + 1)).count (A av x)[j] ≤ (B (A av x)[j]).count x := by
    rw [← hl _ hr]
    exact (List.take_sublist _ _).count_le _
  have h1 : 1 ≤ L ls (A av x)[j] := by omega
  have hnq : (A av x)[j] ∉ q := fun hh => by have := (h.mem _).1 hh; omega
  have hxB : x ∈ B (A av x)[j] := List.count_pos_iff.1 (by omega)
  have hnew : (A av x)[j] ∉ out ++ [x] := by
    intro hh
    obtain ⟨hx1, _⟩ := h.told.split (a := out) (r := []) rfl
    rcases List.mem_append.1 hh with hh | hh
    · have ht : Told n B out := by
        have := h.told
        generalize hg : out ++ [x] = l at this
        cases this with
        | nil => simp at hg
        | snoc t _ _ => obtain ⟨rfl, _⟩ := List.append_inj' hg rfl; exact t
      exact hx1.new (ht.shut _ hh x hxB)
    · simp at hh
      rw [hh] at hxB
      exact hx1.new (hx1.low x hxB)
  refine ⟨h1, by omega, hnq, h.told, by simp [h.len], fun y hy => ?_, ?_, fun y => ?_⟩
  · rw [L_set _ (by rw [h.len]; exact hr) hy.1]
    have hly := h.low y hy
    split
    · rename_i hc'
      subst hc'
      rw [hc]
      omega
    · rename_i hc'
      rw [List.take_succ_eq_append_getElem hj, List.count_append, List.count_singleton, if_neg (by simpa using fun e => hc' e.symm), hly]
      simp
  · split
    · exact pushM_desc _ _ h.desc hnq
    · exact h.desc
  · have hm := h.mem y
    have hset : 0 ≤ y → L (ls.set ((A av x)[j]).toNat (L ls (A av x)[j] - 1)) y = _ := fun hy => L_set _ (by rw [h.len]; exact hr) hy
    by_cases hy0 : 0 ≤ y
    · rw [hset hy0]
      by_cases hc' : y = (A av x)[j]
      · rw [if_pos hc']
        constructor
        · intro hy
          split at hy
          · exact ⟨by rw [hc']; exact hr, by rw [hc']; exact hnew, by assumption⟩
          · exact absurd (hc' ▸ hy) hnq
        · rintro ⟨_, _, g3⟩
          rw [if_pos g3, pushM_mem]
          exact .inr hc'
      · rw [if_neg hc', ← hm]
        split
        · rw [pushM_mem]
          simp [hc']
        · exact Iff.rfl
    · constructor
      · intro hy
        split at hy
        · rw [pushM_mem] at hy
          rcases hy with hy | hy
          · exact absurd (hm.1 hy).1.1 hy0
          · exact absurd (hy ▸ hr.1) hy0
        · exact absurd (hm.1 hy).1.1 hy0
      · rintro ⟨g1, _, _⟩
        exact absurd g1.1 hy0
end
end SC
end Go.Proofs.YtclihihdgodloaaDoor
end
section
/- shape: order, the walk's first loop. -/
set_option linter.unusedVariables false
set_option linter.unusedSimpArgs false
namespace Go.Proofs.YtclihihdgodloaaDoor
namespace SC
open Go.Proofs
attribute [local irreducible] WC WL WX WS WO OX Does DoesU Enters CV Pure thenQ blockQ retQ Wants
set_option maxRecDepth 100000
/-- Rows of numbers, each in memory of its own. -/
structure Above (w : World) (base : Nat) (vs : List Value) (av : List (List Int)) : Prop where
  len : vs.length = av.length
  rows : ∀ (x : Nat) (v : Value) (l : List Int), vs[x]? = some v → av[x]? = some l → w.ownsRow base 3 1 v l.length (l.map nu)
  apart : ∀ (x y : Nat) (v u : Value) (k : Nat), x ≠ y → vs[x]? = some v → vs[y]? = some u → v.ownBlock = some k → u.ownBlock ≠ some k
section
variable {w w' : World} {base : Nat} {vs : List Value} {av : List (List Int)}
theorem Above.lt (h : Above w base vs av) {x : Nat} {v : Value} {k : Nat} (hx : vs[x]? = some v) (hk : v.ownBlock = some k) : base ≤ k ∧ k < w.heap.size := by
  have hlt := (List.getElem?_eq_some_iff.1 hx).1
  have hlt2 : x < av.length := by have := h.len; omega
  have hl : av[x]? = some av[x] := List.getElem?_eq_getElem hlt2
  exact (h.rows x v _ hx hl).lt k hk
theorem Above.chg (h : Above w base vs av) {T : Nat → Prop} (hc : Chg w w' T) (hn : ∀ (x : Nat) (v : Value) (k : Nat), vs[x]? = some v → v.ownBlock = some k → ¬ T k) : Above w' base vs av :=
  ⟨h.len, fun x v l hx hl => own_chg (h.rows x v l hx hl) hc fun k hk => hn x v k hx hk, h.apart⟩
theorem Above.set (h : Above w base vs av) {x : Nat} {v v' : Value} {l l' : List Int} (hx : vs[x]? = some v) (hl : av[x]? = some l) (hrow : w'.ownsRow base 3 1 v' l'.length (l'.map nu)) (hc : Chg w w' (fun k => v.ownBlock = some k))
    (ho : v'.ownBlock = v.ownBlock ∨ v'.ownBlock = some w.heap.size) : Above w' base (vs.set x v') (av.set x l') := by
  have hxl := (List.getElem?_eq_some_iff.1 hx).1
  have hal := (List.getElem?_eq_some_iff.1 hl).1
  refine ⟨by simp [h.len], fun y u m hy hm => ?_, fun y z u u' k hyz hy hz hk => ?_⟩
  · rw [List.getElem?_set] at hy hm
    by_cases hc' : x = y
    · subst hc'
      rw [if_pos rfl, if_pos (by first | exact hxl | exact hal)] at hy hm
      cases hy; cases hm
      exact hrow
    · rw [if_neg hc'] at hy hm
      exact own_chg (h.rows y u m hy hm) hc fun k hk hv => h.apart x y v u k hc' hx hy hv hk
  · rw [List.getElem?_set] at hy hz
    by_cases h1 : x = y
    · subst h1
      rw [if_pos rfl, if_pos hxl] at hy
      rw [if_neg hyz] at hz
      cases hy
      intro hk'
      rcases ho with ho | ho
      · exact h.apart x z v u' k hyz hx hz (ho ▸ hk) hk'
      · rw [ho] at hk
        cases hk
        have := (h.lt hz hk').2
        omega
    · rw [if_neg h1] at hy
      by_cases h2 : x = z
      · subst h2
        rw [if_pos rfl, if_pos hxl] at hz
        cases hz
        intro hk'
        rcases ho with ho | ho
        · exact h.apart y x u v k hyz hy hx hk (ho ▸ hk')
        · rw [ho] at hk'
          cases hk'
          have := (h.lt hy hk).2
          omega
      · rw [if_neg h2] at hz
        exact h.apart y z u u' k hyz hy hz hk
theorem Above.init (w : World) (base n : Nat) : Above w base (List.replicate n (.slice none 0 0)) (List.replicate n []) := by
  refine ⟨by simp, fun x v l hx hl => ?_, fun x y v u k _ hx _ hk => ?_⟩
  · rw [List.getElem?_replicate] at hx hl
    split at hx
    · rename_i hlt
      rw [if_pos hlt] at hl
      cases hx; cases hl
      exact World.ownsRow_nil _ _ _ _
    · cases hx
  · rw [List.getElem?_replicate] at hx
    split at hx
    · cases hx; cases hk
    · cases hx
end
theorem own_mono {w : World} {base base' : Nat} {e : TypeId} {size : Nat} {v : Value} {n : Nat} {xs : List Value} (h : w.ownsRow base e size v n xs) (hb : base' ≤ base) : w.ownsRow base' e size v n xs := by
  obtain ⟨h1, h2⟩ := h
  refine ⟨h1, ?_⟩
  rcases h2 with h2 | ⟨g, cap, cur, hv, hg, rest⟩
  · exact .inl h2
  · exact .inr ⟨g, cap, cur, hv, Nat.le_trans hb hg, rest⟩
theorem own_cap {w : World} {base : Nat} {e : TypeId} {size : Nat} {a : Option Addr} {m c : Nat} {n : Nat} {xs : List Value} (h : w.ownsRow base e size (.slice a m c) n xs) : n ≤ c := by
  rcases h.2 with ⟨hv, hn⟩ | ⟨g, cap, cur, hv, _, _, hc, _⟩
  · omega
  · cases hv; exact hc
theorem own_short {w : World} {base m c : Nat} {a : Option Addr} {xs : List Int} {u : Int} (h : w.ownsRow base 3 1 (.slice a (m + 1) c) (m + 1) ((xs ++ [u]).map nu)) (hm : xs.length = m) : w.ownsRow base 3 1 (.slice a m c) m (xs.map nu) := by
  obtain ⟨h1, h2⟩ := h
  rcases h2 with ⟨hv, hn⟩ | ⟨g, cap, cur, hv, hb, hg, hc, hmx, hs, ht⟩
  · omega
  · cases hv
    refine ⟨by simp [hm], .inr ⟨g, _, cur, rfl, hb, hg, by omega, hmx, hs, ?_⟩⟩
    have : cur.toList.take (m * 1) = (cur.toList.take ((m + 1) * 1)).take (m * 1) := by rw [List.take_take, Nat.min_eq_left (by omega)]
    rw [this, ht, List.map_append, List.take_append_of_le_length (by simp [hm]), List.take_of_length_le (by simp [hm])]
theorem L_cell {ls : List Int} {y : Int} (h : rg ls.length y) : (ls.map nu)[0 + y.toNat * 1]? = some (nu (L ls y)) := by
  unfold rg at h
  rw [Nat.zero_add, Nat.mul_one, List.getElem?_map, List.getElem?_eq_getElem (by omega)]
  unfold L
  rw [List.getD_eq_getElem?_getD, List.getElem?_eq_getElem (by omega)]
  rfl
theorem A_get {av : List (List Int)} {x : Int} (h : rg av.length x) : av[x.toNat]? = some (A av x) := by
  unfold rg at h
  unfold A
  rw [List.getD_eq_getElem?_getD, List.getElem?_eq_getElem (by omega)]
  rfl
theorem set_nu (ls : List Int) (k : Nat) (a : Int) : (ls.map nu).set k (nu a) = (ls.set k a).map nu := by rw [List.map_set]
/-- Of each gate: the gates that it uses. -/
def gateB (t : Tab) (c : Circ) (y : Int) : List Int := belowM t (c.ands.getD y.toNat (0, 0, 0))
theorem gateB_at (t : Tab) (c : Circ) {i : Nat} (hi : i < c.ands.length) : gateB t c i = belowM t c.ands[i] := by
  unfold gateB
  simp [hi]
section
variable {n : Nat} {all rest : List Oper} {K : Env → World → Prop} {e : Env} {w : World} {d : Option Tmp} {ty : TypeId} {P : Program} {x y : Operand} {t t0 : TypeId} {td : TypeDesc} {sz sz1 by_ by1 : Nat} {zv z1 : Value} {ag ag1 : Bool}
theorem X_sliceTo {a : Option Addr} {m c : Nat} {k : IntKind} {i : Int} [U : Ty P t (.slice t0) sz1 z1 by1 ag1] [T : Ty P t0 td sz zv by_ ag] (h : ev e x = some (.slice a m c)) (h1 : ev e y = some (.int k i)) (h0 : 0 ≤ i) (h2 : i ≤ c) (hr : WL P n all K rest (push d (.slice a i.toNat c) e) w) :
    WX P n all K rest d (.slice t x none (some y) none) ty e w := X_pure (p_sliceTo U.und T h h1 h0 h2) hr
end
/-- What order keeps in memory: what lacks, who hangs on whom, the variable of those that are ready, and its row. -/
structure OrdMem (w : World) (lb ab rb base : Nat) (ls : List Int) (vs : List Value) (av : List (List Int)) (v : Value) (q : List Int) : Prop where
  lack : Blk w lb 3 (ls.map nu)
  abv : Blk w ab 22 vs
  rows : Above w base vs av
  rdy : Blk w rb 22 [v]
  row : w.ownsRow (rb + 1) 3 1 v q.length (q.map nu)
  under : ∀ (x : Nat) (u : Value) (k : Nat), vs[x]? = some u → u.ownBlock = some k → k < rb
  lay : lb < base ∧ ab < base ∧ lb ≠ ab ∧ base ≤ rb
section
variable {w w' : World} {lb ab rb base : Nat} {ls : List Int} {vs : List Value} {av : List (List Int)} {v v' : Value} {q q' : List Int}
theorem OrdMem.chg (h : OrdMem w lb ab rb base ls vs av v q) {T : Nat → Prop} (hc : Chg w w' T) (hT : ∀ k, T k → rb < k ∧ v.ownBlock ≠ some k) : OrdMem w' lb ab rb base ls vs av v q := by
  have hl := h.lay
  refine ⟨h.lack.chg hc fun hh => ?_, h.abv.chg hc fun hh => ?_, h.rows.chg hc fun x u k hx hk hh => ?_, h.rdy.chg hc fun hh => ?_, own_chg h.row hc fun k hk hh => (hT k hh).2 hk, h.under, hl⟩
  · have := (hT _ hh).1; omega
  · have := (hT _ hh).1; omega
  · have := (hT _ hh).1; have := h.under x u k hx hk; omega
  · have := (hT _ hh).1; omega
theorem OrdMem.same (h : OrdMem w lb ab rb base ls vs av v q) (hc : Chg w w' none_) : OrdMem w' lb ab rb base ls vs av v q := h.chg hc fun _ hh => hh.elim
theorem OrdMem.pushed (h : OrdMem w lb ab rb base ls vs av v q) (hc : Chg w w' (fun k => k = rb ∨ v.ownBlock = some k)) (hb : Blk w' rb 22 [v']) (hrow : w'.ownsRow (rb + 1) 3 1 v' q'.length (q'.map nu)) : OrdMem w' lb ab rb base ls vs av v' q' := by
  have hl := h.lay
  have hlt : ∀ k, v.ownBlock = some k → rb + 1 ≤ k := fun k hk => (h.row.lt k hk).1
  refine ⟨h.lack.chg hc fun hh => ?_, h.abv.chg hc fun hh => ?_, h.rows.chg hc fun x u k hx hk hh => ?_, hb, hrow, h.under, hl⟩
  · rcases hh with hh | hh
    · omega
    · have := hlt _ hh; omega
  · rcases hh with hh | hh
    · omega
    · have := hlt _ hh; omega
  · have := h.under x u k hx hk
    rcases hh with hh | hh
    · omega
    · have := hlt _ hh; omega
theorem OrdMem.lacked (h : OrdMem w lb ab rb base ls vs av v q) (ls' : List Int) : OrdMem (w.setRow lb (ls'.map nu).toArray) lb ab rb base ls' vs av v q := by
  have hl := h.lay
  have hc : Chg w (w.setRow lb (ls'.map nu).toArray) (fun k => k = lb) := Chg.setRow _ _ _ rfl
  refine ⟨h.lack.set _, h.abv.chg hc (by omega), h.rows.chg hc fun x u k hx hk hh => by have := (h.rows.lt hx hk).1; omega, h.rdy.chg hc (by omega), own_chg h.row hc fun k hk hh => by have := (h.row.lt k hk).1; omega, h.under, hl⟩
end
end SC
end Go.Proofs.YtclihihdgodloaaDoor
end
section
/- shape: order, the walk. -/
set_option linter.unusedVariables false
set_option linter.unusedSimpArgs false
namespace Go.Proofs.YtclihihdgodloaaDoor
namespace SC
open Go.Proofs
attribute [local irreducible] WC WL WX WS WO OX Does DoesU Enters CV Pure thenQ blockQ retQ Wants
set_option maxRecDepth 100000
theorem order_cv {w : World} {q b : Nat} {c : Circ} {h js : Hd} {t : Tab} (H : Lk w q b c h js t) (O : LkOk c t) (hl : c.ands.length ≤ 16384)
    (hr : ∀ x ∈ c.ands, 0 ≤ x.2.1 ∧ x.2.1 ≤ 2 * c.max + 1 ∧ 0 ≤ x.2.2 ∧ x.2.2 ≤ 2 * c.max + 1) (hB : ∀ y, rg c.ands.length y → ∀ x ∈ gateB t c y, rg c.ands.length x) :
    CV Tryd.prog 93 [pt q] w fun v w' => ∃ out, All c.ands.length (gateB t c) out ∧ w'.ownsRow w.heap.size 3 1 v out.length (out.map nu) ∧ Chg w w' none_ := by
  have hH := H.head
  have hb2 : ∀ y, (gateB t c y).length ≤ 2 := fun y => belowL_len t _
  generalize hn : c.ands.length = n at *
  refine enter 113 [2] Tryd.func93 rfl rfl rfl (by decide) rfl ?_
  have h8 : (ccells c h ++ [Value.slice (some ⟨b, 0, none⟩) t.length t.length])[0 + 0 + 8]? = some (.slice (h 8).1 n (h 8).2) := by rw [← hn]; rfl
  repeat' (first
|(apply X_loadR;eq_refl;assumption;exact h8)
|(apply X_make;eq_refl;omega;omega)
|(apply WC_seqK;intro K hK)
|(apply hK;clear hK)
|(apply WC_block)
|(apply WC_region)
|(apply WL_nil)
|(apply thenQ_normal)
|(apply WL_on0;eq_refl)
|(apply X_pv;eq_refl;first|exact trivial|omega)
|(apply X_field;eq_refl)
|(apply X_len;eq_refl))
  refine WC_turn (fun w1 => Chg w w1 none_ ∧ Blk w1 w.heap.size 3 ((List.replicate n (0 : Int)).map nu) ∧ Blk w1 (w.heap.size + 1) 22 (List.replicate n (.slice none 0 0)) ∧ w1.heap.size = w.heap.size + 2) ?_ ?_
  · have e1 : (madeCells (Value.int .i64 0).cells (n * 1)).toList = (List.replicate n (0 : Int)).map nu := by rw [Nat.mul_one, show (Value.int .i64 0).cells = #[nu 0] from rfl, made_one, List.map_replicate]
    have e2 : (madeCells (Value.slice none 0 0).cells (n * 1)).toList = List.replicate n (Value.slice none 0 0) := by rw [Nat.mul_one, show (Value.slice none 0 0).cells = #[Value.slice none 0 0] from rfl, made_one]
    have h1 := Blk.newA w (madeCells (Value.int .i64 0).cells (n * 1)) 3
    have h2 := Blk.newA (w.alloc (.cells (madeCells (Value.int .i64 0).cells (n * 1)) 3)) (madeCells (Value.slice none 0 0).cells (n * 1)) 22
    have es : (w.alloc (.cells (madeCells (Value.int .i64 0).cells (n * 1)) 3)).heap.size = w.heap.size + 1 := by simp
    rw [e1] at h1
    rw [e2, es] at h2
    exact ⟨(Chg.alloc w _ none_).al _, h1.alloc _, h2, by simp⟩
  have es1 : (w.alloc (.cells (madeCells (Value.int .i64 0).cells (n * 1)) 3)).heap.size = w.heap.size + 1 := by simp
  rintro w1 ⟨hC1, hL1, hA1, hz1⟩
  refine WC_loop (fun s : Nat × List Int × List (List Int) × List Value => [(0, pt q), (3, nu n), (4, .slice (some ⟨w.heap.size, 0, none⟩) n n), (5, .slice (some ⟨w.heap.size + 1, 0, none⟩) n n), (26, nu n), (27, nu s.1)])
    (fun s w1 => Chg w w1 none_ ∧ Blk w1 w.heap.size 3 (s.2.1.map nu) ∧ Blk w1 (w.heap.size + 1) 22 s.2.2.2 ∧ Above w1 (w.heap.size + 2) s.2.2.2 s.2.2.1 ∧ In1 n (gateB t c) s.1 0 s.2.1 s.2.2.1 ∧ s.1 ≤ n) (fun s => n - s.1)
    (0, List.replicate n 0, List.replicate n [], List.replicate n (.slice none 0 0)) ⟨rfl, rfl, rfl, congrArg (fun k => some (Value.slice (some ⟨k, 0, none⟩) n n)) es1, rfl, rfl, trivial⟩ ⟨hC1, hL1, hA1, Above.init _ _ _, In1.init _ _, Nat.zero_le _⟩ ?_
  clear hL1 hA1 hC1 hz1
  rintro ⟨i, ls, av, vs⟩ w1 ⟨hC1, hL1, hA1, hV1, hI1, hi⟩
  simp only at hL1 hA1 hV1 hI1 hi
  rcases Nat.lt_or_ge i n with hlt | hge
  · have hcv := below_cv (i := i) (H.chg hC1) O (by omega) (by omega) hr
    rw [← gateB_at t c (by omega)] at hcv
    have hbl := hb2 i
    have hw1 := hA1.lt
    repeat' (first
|(apply X_fn;eq_refl;exact hcv;rintro v w2 ⟨hrow, hC2⟩;obtain ⟨A, cc, rfl⟩ := row_form' hrow)
|(apply WC_seqK;intro K hK)
|(apply hK;clear hK)
|(apply WC_block)
|(apply WC_region)
|(apply WL_nil)
|(apply thenQ_normal)
|(apply WC_skip)
|(apply WC_if_true;eq_refl)
|(apply WL_on0;eq_refl)
|(apply X_pv;eq_refl;first|exact trivial|omega)
|(apply X_cmpT;eq_refl;eq_refl;omega)
|(apply X_len;eq_refl))
    have hI1' := hI1
    refine WC_loop (fun s : Nat × List Int × List (List Int) × List Value => [(0, pt q), (3, nu n), (4, .slice (some ⟨w.heap.size, 0, none⟩) n n), (5, .slice (some ⟨w.heap.size + 1, 0, none⟩) n n), (6, nu i), (26, nu n), (27, nu i), (32, .slice A (gateB t c i).length cc), (33, nu (gateB t c i).length), (34, nu s.1)])
      (fun s w3 => Chg w w3 none_ ∧ w3.ownsRow w1.heap.size 3 1 (.slice A (gateB t c i).length cc) (gateB t c i).length ((gateB t c i).map nu) ∧ Blk w3 w.heap.size 3 (s.2.1.map nu) ∧ Blk w3 (w.heap.size + 1) 22 s.2.2.2 ∧ Above w3 (w.heap.size + 2) s.2.2.2 s.2.2.1 ∧
        (∀ (x : Nat) (v : Value) (k : Nat), s.2.2.2[x]? = some v → v.ownBlock = some k → (Value.slice A (gateB t c i).length cc).ownBlock ≠ some k) ∧ In1 n (gateB t c) i s.1 s.2.1 s.2.2.1 ∧ s.1 ≤ (gateB t c i).length) (fun s => (gateB t c i).length - s.1)
      (0, ls, av, vs) ⟨rfl, rfl, rfl, rfl, rfl, rfl, rfl, rfl, rfl, rfl, trivial⟩ ⟨hC1.trans hC2 fun _ _ h => h, hrow, hL1.chg hC2 id, hA1.chg hC2 id, hV1.chg hC2 fun _ _ _ _ _ => id, fun x v k hx hk hh => by have := (hV1.lt hx hk).2; have := (hrow.lt k hh).1; omega, hI1, Nat.zero_le _⟩ ?_
    clear hI1 hL1 hA1 hV1 hcv hrow
    rintro ⟨k, ls, av, vs⟩ w3 ⟨hC3, hrow, hL3, hA3, hV3, hap, hI3, hk⟩
    simp only at hL3 hA3 hV3 hI3 hk hap
    rcases Nat.lt_or_ge k (gateB t c i).length with hkl | hkg
    · obtain ⟨p, rfl, hpc⟩ := (rowI hrow).one hkl (v := nu (gateB t c i)[k]) rfl
      have hxr := hB i ⟨by omega, by omega⟩ _ (List.getElem_mem hkl)
      have hst := hI3.step hlt hkl (hB i ⟨by omega, by omega⟩)
      have hbig := hI3.big _ hxr
      generalize hx : (gateB t c i)[k] = x at *
      have hri : rg n (i : Int) := ⟨by omega, by omega⟩
      have hLi := L_cell (ls := ls) (y := i) (by rw [hI3.l1]; exact hri)
      have hLk := hI3.low i hri
      rw [if_neg (by omega), if_pos rfl] at hLk
      have hAx := A_get (av := av) (x := x) (by rw [hI3.l2]; exact hxr)
      have hxv : x.toNat < vs.length := by have := hV3.len; have := hI3.l2; have h3 := hxr; unfold rg at h3; omega
      have hvx : vs[0 + x.toNat * 1]? = some vs[x.toNat] := by rw [Nat.zero_add, Nat.mul_one]; exact List.getElem?_eq_getElem hxv
      have hvx' : vs[x.toNat]? = some vs[x.toNat] := List.getElem?_eq_getElem hxv
      generalize hvv : vs[x.toNat] = vx at *
      have hxr' := hxr
      unfold rg at hxr'
      repeat' (first
|(apply X_loadR;eq_refl;exact hL3;exact hLi)
|(apply WC_seqK;intro K hK)
|(apply hK;clear hK)
|(apply WC_block)
|(apply WC_region)
|(apply WL_nil)
|(apply thenQ_normal)
|(apply WC_skip)
|(apply WC_if_true;eq_refl)
|(apply WL_on0;eq_refl)
|(apply X_pv;eq_refl;first|exact trivial|omega)
|(apply X_loadC;eq_refl;(first|assumption|(apply cel;first|assumption|(apply cel;assumption))))
|(apply X_cmpT;eq_refl;eq_refl;omega)
|(apply X_index;eq_refl;eq_refl;omega;omega)
|(apply X_indexP;eq_refl;eq_refl;omega;omega))
      have hll := hI3.l1
      refine X_doesU (does_store1 (b := w.heap.size) (o := 0 + (i : Int).toNat * 1) (v := nu (L ls i + 1)) (by eq_refl) (by eq_refl) hL3 (by simp; omega) rfl rfl) ?_
      refine WL_turn (fun w4 => Chg w w4 none_ ∧ w4.ownsRow w1.heap.size 3 1 (.slice (some p) (gateB t c i).length cc) (gateB t c i).length ((gateB t c i).map nu) ∧ Blk w4 w.heap.size 3 ((ls.set i (L ls i + 1)).map nu) ∧ Blk w4 (w.heap.size + 1) 22 vs ∧ Above w4 (w.heap.size + 2) vs av ∧ w4.heap.size = w3.heap.size) ?_ ?_
      · have hcc : Chg w3 (w3.setRow w.heap.size ((ls.map nu).set (0 + (i : Int).toNat * 1) (nu (L ls i + 1))).toArray) (fun k => k = w.heap.size) := Chg.setRow _ _ _ rfl
        refine ⟨hC3.trans hcc fun k hk hh => by omega, own_chg hrow hcc fun k hk hh => by have := (hrow.lt k hk).1; omega, ?_, hA3.chg hcc (by omega), hV3.chg hcc fun x v k hx hk hh => by have := (hV3.lt hx hk).1; omega, by simp [World.setRow]⟩
        have := hL3.set ((ls.map nu).set (0 + (i : Int).toNat * 1) (nu (L ls i + 1)))
        rw [set_nu, Nat.zero_add, Nat.mul_one, Int.toNat_natCast] at this
        rw [set_nu, Nat.zero_add, Nat.mul_one, Int.toNat_natCast]
        exact this
      rintro w4 ⟨hC4, hrow4, hL4, hA4, hV4, hz4⟩
      repeat' (first
|(apply X_loadR;eq_refl;exact hA4;exact hvx)
|(apply hK;clear hK)
|(apply WC_region)
|(apply WL_nil)
|(apply thenQ_normal)
|(apply WL_on0;eq_refl)
|(apply X_pv;eq_refl;first|exact trivial|omega)
|(apply X_index;eq_refl;eq_refl;omega;omega)
|(apply X_does;apply buildS22_1 <;> eq_refl))
      have hrowx := hV4.rows x.toNat vx (SC.A av x) hvx' hAx
      refine X_append (w.heap.size + 2) (by eq_refl) (by eq_refl) (hrowx.alloc _) (Blk.newA w4 _ _) rfl rfl (by decide) (by simp [Value.oneCell']) (by omega) (by decide) (by have := hA4.lt; simp; omega) ?_
      intro v' w5 hrow5 hC5 hown5 _
      obtain ⟨A', c', rfl⟩ := row_form' hrow5
      have hA5 : Blk w5 (w.heap.size + 1) 22 vs := (hA4.alloc _).chg hC5 fun hh => by have := (hV4.lt hvx' hh).1; omega
      repeat' (first
|(apply WL_on0;eq_refl)
|(apply X_index;eq_refl;eq_refl;omega;omega))
      refine X_doesU (does_store1 (b := w.heap.size + 1) (o := 0 + x.toNat * 1) (by eq_refl) (by eq_refl) hA5 (by simp; omega) rfl rfl) ?_
      have hset : vs.set (0 + x.toNat * 1) (Value.slice A' ((SC.A av x).length + 1) c') = vs.set x.toNat (Value.slice A' ((SC.A av x).length + 1) c') := by rw [Nat.zero_add, Nat.mul_one]
      rw [hset]
      have hcc5 : Chg w5 (w5.setRow (w.heap.size + 1) (vs.set x.toNat (Value.slice A' ((SC.A av x).length + 1) c')).toArray) (fun k => k = w.heap.size + 1) := Chg.setRow _ _ _ rfl
      have hV5 : Above w5 (w.heap.size + 2) (vs.set x.toNat (Value.slice A' ((SC.A av x).length + 1) c')) (av.set x.toNat (SC.A av x ++ [(i : Int)])) :=
        (hV4.chg (Chg.alloc _ _ none_) fun _ _ _ _ _ => id).set hvx' hAx (by simpa using hrow5) hC5 hown5
      have hrA := hrow4.lt
      have hrow6 := own_chg (own_chg (hrow4.alloc (.cells #[nu i] 3)) hC5 fun k hk hh => hap x.toNat vx k hvx' hh hk) hcc5 fun k hk hh => by have := (hrA k hk).1; omega
      have hL6 := ((hL4.alloc (.cells #[nu i] 3)).chg hC5 fun hh => by have := (hV4.lt hvx' hh).1; omega).chg hcc5 (by omega)
      have hA6 := hA5.set (vs.set x.toNat (Value.slice A' ((SC.A av x).length + 1) c'))
      have hV6 := hV5.chg hcc5 fun y v k hy hk hh => by have := (hV5.lt hy hk).1; omega
      have hC6 : Chg w (w5.setRow (w.heap.size + 1) (vs.set x.toNat (Value.slice A' ((SC.A av x).length + 1) c')).toArray) none_ := ((hC4.al (.cells #[nu i] 3)).trans hC5 fun k hk hh => by have := (hV4.lt hvx' hh).1; omega).trans hcc5 fun k hk hh => by omega
      generalize w5.setRow (w.heap.size + 1) (vs.set x.toNat (Value.slice A' ((SC.A av x).length + 1) c')).toArray = w6 at *
      repeat' (first
|(apply hK;clear hK)
|(apply WC_region)
|(apply WL_nil)
|(apply thenQ_normal)
|(apply blockQ_normal)
|(apply WL_on0;eq_refl)
|(apply X_pv;eq_refl;first|exact trivial|omega))
      refine ⟨(k + 1, ls.set i (L ls i + 1), av.set x.toNat (SC.A av x ++ [(i : Int)]), vs.set x.toNat (Value.slice A' ((SC.A av x).length + 1) c')), ⟨rfl, rfl, rfl, rfl, rfl, rfl, rfl, rfl, rfl, rfl, trivial⟩, ⟨hC6, hrow6, hL6, hA6, hV6, ?_, hst, hkl⟩, by simp only; omega⟩
      intro y v k hy hk hh
      have hk1 := (hrA k hh).2
      simp only at hy
      rw [List.getElem?_set] at hy
      split at hy
      · cases hy
        rcases hown5 with ho | ho
        · exact hap x.toNat vx k hvx' (ho ▸ hk) hh
        · rw [hk] at ho
          have es : (w4.alloc (.cells #[nu i] 3)).heap.size = w4.heap.size + 1 := by simp
          have := Option.some.inj ho
          have hk2 : k < (w4.alloc (.cells #[nu i] 3)).heap.size := by omega
          first | omega | (simp at this; omega)
      · exact hap y v k hy hk hh
    · obtain rfl : k = (gateB t c i).length := by omega
      repeat' (first
|(apply WC_seqK;intro K hK)
|(apply hK;clear hK)
|(clear hK;apply hK;clear hK)
|(apply WC_region)
|(apply WL_nil)
|(apply thenQ_normal)
|(apply thenQ_exit)
|(apply blockQ_hit)
|(apply blockQ_normal)
|(apply WC_exit)
|(apply WC_if_false;eq_refl)
|(apply WL_on0;eq_refl)
|(apply X_pv;eq_refl;first|exact trivial|omega)
|(apply X_cmpF;eq_refl;eq_refl;omega))
      exact ⟨(i + 1, ls, av, vs), ⟨rfl, rfl, rfl, rfl, rfl, rfl, trivial⟩, ⟨hC3, hL3, hA3, hV3, hI3.close hlt hbl, hlt⟩, by simp only; omega⟩
  · obtain rfl : i = n := by omega
    repeat' (first
|(apply WC_seqK;intro K hK)
|(apply hK;clear hK)
|(clear hK;apply hK;clear hK)
|(apply WC_region)
|(apply WL_nil)
|(apply thenQ_normal)
|(apply thenQ_exit)
|(apply blockQ_hit)
|(apply WC_exit)
|(apply WC_if_false;eq_refl)
|(apply WL_on0;eq_refl)
|(apply X_cmpF;eq_refl;eq_refl;omega)
|(apply X_alloc))
    refine X_pure (p_makeFunc (vs := [pt w1.heap.size]) rfl) ?_
    repeat' (first
|(apply WC_seqK;intro K hK)
|(apply hK;clear hK)
|(apply WC_block)
|(apply WC_region)
|(apply WL_nil)
|(apply thenQ_normal)
|(apply WL_on0;eq_refl)
|(apply X_pv;eq_refl;first|exact trivial|omega))
    obtain ⟨hlaid, hlen0⟩ := hI1.laid
    have hw1 := hA1.lt
    have hM1 : OrdMem (w1.alloc (.cells (Value.slice none 0 0).cells 22)) w.heap.size (w.heap.size + 1) w1.heap.size (w.heap.size + 2) ls vs av (.slice none 0 0) [] :=
      ⟨hL1.alloc _, hA1.alloc _, hV1.chg (Chg.alloc _ _ none_) fun _ _ _ _ _ => id, Blk.newA w1 _ _, World.ownsRow_nil _ _ _ _, fun x u k hx hk => (hV1.lt hx hk).2, by omega, by omega, by omega, by omega⟩
    have hC2 : Chg w (w1.alloc (.cells (Value.slice none 0 0).cells 22)) none_ := hC1.al _
    generalize hrb : w1.heap.size = rb at *
    generalize w1.alloc (.cells (Value.slice none 0 0).cells 22) = w2 at *
    refine WC_loop (fun s : Nat × List Int × Value => [(4, .slice (some ⟨w.heap.size, 0, none⟩) i i), (5, .slice (some ⟨w.heap.size + 1, 0, none⟩) i i), (9, pt rb), (10, .func (.func 107) #[] #[pt rb]), (57, nu i), (58, nu s.1)])
      (fun s w' => Chg w w' none_ ∧ OrdMem w' w.heap.size (w.heap.size + 1) rb (w.heap.size + 2) ls vs av s.2.2 s.2.1 ∧ In2 i ls s.1 s.2.1 ∧ s.1 ≤ i) (fun s => i - s.1)
      (0, [], .slice none 0 0) ⟨rfl, rfl, rfl, rfl, rfl, rfl, trivial⟩ ⟨hC2, hM1, In2.init _ _, Nat.zero_le _⟩ ?_
    rintro ⟨k, qs, v⟩ w3 ⟨hC3, hM3, hI2, hk⟩
    simp only at hM3 hI2 hk
    have hqs : ∀ y ∈ qs, 0 ≤ y ∧ y ≤ 100000 := fun y hy => by have := ((hI2.mem y).1 hy).1; unfold rg at this; omega
    have hqn : qs.length ≤ 16384 := by have := nodup_size i qs hI2.desc.nodup fun y hy => ((hI2.mem y).1 hy).1; omega
    have hL3 := hM3.lack
    rcases Nat.lt_or_ge k i with hlt | hge
    · have hki : rg i (k : Int) := ⟨by omega, by omega⟩
      have hLi := L_cell (ls := ls) (y := k) (by rw [hI1.l1]; exact hki)
      have hpc := push_cv (x := k) hM3.rdy hM3.row (by have := hM3.rdy.lt; omega) (by omega) ⟨by omega, by omega⟩ hqs hI2.desc.le
      repeat' (first
|(apply X_loadR;eq_refl;exact hL3;exact hLi)
|(apply X_clo (f := 107);eq_refl;eq_refl;exact hpc;rintro _ w4 ⟨v', hb4, hrow4, hC4, hown4⟩)
|(apply WC_seqK;intro K hK)
|(apply hK;clear hK)
|(apply WC_block)
|(apply WC_region)
|(apply WL_nil)
|(apply thenQ_normal)
|(apply blockQ_normal)
|(apply WC_skip)
|(apply WC_if_true;eq_refl)
|(apply WC_if_false;eq_refl)
|(apply WL_on0;eq_refl)
|(apply X_pv;eq_refl;first|exact trivial|omega)
|(apply X_cmpT;eq_refl;eq_refl;omega)
|(apply X_cmp;eq_refl;eq_refl;all_goals intro _)
|(apply X_index;eq_refl;eq_refl;omega;omega))
      · have hM4 := hM3.pushed (q' := pushM qs k) hC4 hb4 (by rw [pushM_len]; exact hrow4)
        exact ⟨(k + 1, pushM qs k, v'), ⟨rfl, rfl, rfl, rfl, rfl, rfl, trivial⟩, ⟨hC3.trans hC4 fun j hj hh => by
          have := hM3.rdy.lt
          rcases hh with hh | hh
          · omega
          · have := (hM3.row.lt j hh).1; omega, hM4, hI2.push hlt (by assumption), hlt⟩, by simp only; omega⟩
      · exact ⟨(k + 1, qs, v), ⟨rfl, rfl, rfl, rfl, rfl, rfl, trivial⟩, ⟨hC3, hM3, hI2.skip (by assumption), hlt⟩, by simp only; omega⟩
    · obtain rfl : k = i := by omega
      repeat' (first
|(apply WC_seqK;intro K hK)
|(apply hK;clear hK)
|(clear hK;apply hK;clear hK)
|(apply WC_block)
|(apply WC_region)
|(apply WL_nil)
|(apply thenQ_normal)
|(apply thenQ_exit)
|(apply blockQ_hit)
|(apply WC_exit)
|(apply WC_if_false;eq_refl)
|(apply WL_on0;eq_refl)
|(apply X_pv;eq_refl;first|exact trivial|omega)
|(apply X_cmpF;eq_refl;eq_refl;omega))
      have hI3 := hI2.third hlaid hlen0
      refine WC_loop (fun s : List Int × List Int × List Int × Value × Value => [(4, .slice (some ⟨w.heap.size, 0, none⟩) k k), (5, .slice (some ⟨w.heap.size + 1, 0, none⟩) k k), (9, pt rb), (10, .func (.func 107) #[] #[pt rb]), (12, s.2.2.2.2)])
        (fun s w' => Chg w w' none_ ∧ OrdMem w' w.heap.size (w.heap.size + 1) rb (w.heap.size + 2) s.2.2.1 vs av s.2.2.2.1 s.2.1 ∧ w'.ownsRow (rb + 1) 3 1 s.2.2.2.2 s.1.length (s.1.map nu) ∧ (∀ k, s.2.2.2.2.ownBlock = some k → s.2.2.2.1.ownBlock ≠ some k) ∧ In3 k (gateB t c) s.1 s.2.1 s.2.2.1) (fun s => k - s.1.length)
        ([], qs, ls, v, .slice none 0 0) ⟨rfl, rfl, rfl, rfl, rfl, trivial⟩ ⟨hC3, hM3, World.ownsRow_nil _ _ _ _, fun _ h => (by cases h), hI3⟩ ?_
      clear hL3 hM3 hI2 hI1 hL1 hA1 hV1 hlen0 hI3 hM1 hC3 hqn hqs
      rintro ⟨out, qs, ls, v, vo⟩ w3 ⟨hC3, hM3, hro, hap, hI3⟩
      simp only at hM3 hro hap hI3
      obtain ⟨Av, cv, rfl⟩ := row_form' hM3.row
      have hR3 := hM3.rdy
      rcases List.eq_nil_or_concat qs with rfl | ⟨qs', x, rfl⟩
      · simp only [List.length_nil] at hR3
        repeat' (first
|(apply WC_seqK;intro K hK)
|(apply hK;clear hK)
|(clear hK;apply hK;clear hK)
|(apply WC_region)
|(apply WL_nil)
|(apply thenQ_normal)
|(apply thenQ_exit)
|(apply blockQ_hit)
|(apply WC_ret)
|(apply WC_exit)
|(apply WC_if_false;eq_refl)
|(apply ret1;eq_refl)
|(apply WL_on0;eq_refl)
|(apply X_pv;eq_refl;first|exact trivial|omega)
|(apply X_loadR;eq_refl;(first|assumption|(apply Blk.alloc;assumption)|apply Blk.new|apply Blk.newA|(apply Blk.alloc;first|apply Blk.newA|(apply Blk.alloc;first|assumption|apply Blk.newA)));eq_refl)
|(apply X_cmpF;eq_refl;eq_refl;omega)
|(apply X_len;eq_refl))
        exact ⟨out, hI3.all, own_mono hro (by have := hM3.lay; omega), hC3⟩
      · rw [List.concat_eq_append] at *
        obtain ⟨p, rfl, hpc⟩ := (rowI hM3.row).one (k := qs'.length) (by simp) (v := nu x) (by simp [icell])
        have el : (qs' ++ [x]).length = qs'.length + 1 := by simp
        have hrow3 := hM3.row
        rw [el] at hR3 hrow3
        have ex : (((qs'.length + 1 : Nat) : Int) - 1).toNat = qs'.length := by omega
        have ex' : ((qs'.length : Nat) : Int).toNat = qs'.length := by omega
        rw [ex', ← ex] at hpc
        have hql : qs'.length < 16384 := by
          have := nodup_size k _ hI3.desc.nodup fun y hy => ((hI3.mem y).1 hy).1
          simp only [List.length_append, List.length_singleton] at this
          omega
        have hcap := own_cap hrow3
        have hsh := own_short hrow3 rfl
        have htell := hI3.tell
        have hout := htell.size
        simp only [List.length_append, List.length_singleton] at hout
        have hxr := htell.all x (by simp)
        repeat' (first
|(apply X_sliceTo;eq_refl;eq_refl;omega;omega)
|(apply WC_seqK;intro K hK)
|(apply hK;clear hK)
|(apply WC_block)
|(apply WC_region)
|(apply WL_nil)
|(apply thenQ_normal)
|(apply WC_skip)
|(apply WC_if_true;eq_refl)
|(apply WL_on0;eq_refl)
|(apply X_pv;eq_refl;first|exact trivial|omega)
|(apply X_loadR;eq_refl;(first|assumption|(apply Blk.alloc;assumption)|apply Blk.new|apply Blk.newA|(apply Blk.alloc;first|apply Blk.newA|(apply Blk.alloc;first|assumption|apply Blk.newA)));eq_refl)
|(apply X_loadC;eq_refl;(first|assumption|(apply cel;first|assumption|(apply cel;assumption))))
|(apply X_cmpT;eq_refl;eq_refl;omega)
|(apply X_len;eq_refl)
|(apply X_indexP;eq_refl;eq_refl;omega;omega))
        refine X_doesU (does_store1 (b := rb) (o := 0) (v := .slice (some p) (((qs'.length + 1 : Nat) : Int) - 1).toNat cv) (by eq_refl) (by eq_refl) hR3 (by simp) rfl rfl) ?_
        refine WL_turn (fun w4 => Chg w w4 none_ ∧ OrdMem w4 w.heap.size (w.heap.size + 1) rb (w.heap.size + 2) ls vs av (.slice (some p) qs'.length cv) qs' ∧ w4.ownsRow (rb + 1) 3 1 vo out.length (out.map nu)) ?_ ?_
        · rw [ex]
          have hcc : Chg w3 (w3.setRow rb ([Value.slice (some p) (qs'.length + 1) cv].set 0 (.slice (some p) qs'.length cv)).toArray) (fun k => k = rb) := Chg.setRow _ _ _ rfl
          have hrl := hM3.row.lt
          refine ⟨hC3.trans hcc fun k hk hh => by have := hM3.lay; omega, hM3.pushed (hcc.mono fun k hk => .inl hk) (hR3.set _) (own_chg hsh hcc fun k hk hh => by have := (hrl k hk).1; omega), own_chg hro hcc fun k hk hh => by have := (hro.lt k hk).1; omega⟩
        rintro w4 ⟨hC4, hM4, hro4⟩
        repeat' (first
|(apply WC_seqK;intro K hK)
|(apply hK;clear hK)
|(apply WC_region)
|(apply WL_nil)
|(apply thenQ_normal)
|(apply WL_on0;eq_refl)
|(apply X_pv;eq_refl;first|exact trivial|omega)
|(apply X_does;apply buildS22_1 <;> eq_refl))
        refine X_append (rb + 1) (by eq_refl) (by eq_refl) (hro4.alloc _) (Blk.newA w4 _ _) rfl rfl (by decide) (by simp [Value.oneCell']) (by omega) (by decide) (by have := hM4.rdy.lt; simp; omega) ?_
        intro vo' w5 hro5 hC5 hown5 _
        have hrl4 := hro4.lt
        have hM5 : OrdMem w5 w.heap.size (w.heap.size + 1) rb (w.heap.size + 2) ls vs av (.slice (some p) qs'.length cv) qs' :=
          (hM4.same (Chg.alloc w4 _ none_)).chg hC5 fun k hk => ⟨by have := (hrl4 k hk).1; omega, hap k hk⟩
        have hap5 : ∀ k, vo'.ownBlock = some k → (Value.slice (some p) qs'.length cv).ownBlock ≠ some k := by
          intro k hk hh
          rcases hown5 with ho | ho
          · exact hap k (ho ▸ hk) hh
          · rw [hk] at ho
            have := (hM4.row.lt k hh).2
            have es : (w4.alloc (.cells #[nu x] 3)).heap.size = w4.heap.size + 1 := by simp
            have e2 := Option.some.inj ho
            have : k = (w4.alloc (.cells #[nu x] 3)).heap.size := e2
            omega
        have hC5' : Chg w w5 none_ := (hC4.al _).trans hC5 fun k hk hh => by have := (hrl4 k hh).1; have := hM4.lay; omega
        have hll := hI3.len
        have hRx := hI3.relax (av := av)
        clear hI3 hM3 hrow3 hR3 hsh hpc hro hap hM4 hro4 hrl4 hC4 hC3 hC5 hown5
        have hxv : x.toNat < vs.length := by have := hM5.rows.len; have := hlaid.l2; have h3 := hxr; unfold rg at h3; omega
        have hvx : vs[0 + x.toNat * 1]? = some vs[x.toNat] := by rw [Nat.zero_add, Nat.mul_one]; exact List.getElem?_eq_getElem hxv
        have hvx' : vs[x.toNat]? = some vs[x.toNat] := List.getElem?_eq_getElem hxv
        have hAx := A_get (av := av) (x := x) (by rw [hlaid.l2]; exact hxr)
        generalize hvv : vs[x.toNat] = vx at *
        have hup := hlaid.up x hxr
        have hin := hlaid.inr x hxr
        obtain ⟨Ax, cx, rfl⟩ := row_form' (hM5.rows.rows x.toNat vx (SC.A av x) hvx' hAx)
        have hA5 := hM5.abv
        have hxr' := hxr
        unfold rg at hxr'
        have hlx : (SC.A av x).length ≤ 100000 := by
          have := hlaid.big x hxr
          omega
        repeat' (first
|(apply X_loadR;eq_refl;exact hA5;exact hvx)
|(apply WC_seqK;intro K hK)
|(apply hK;clear hK)
|(apply WC_block)
|(apply WC_region)
|(apply WL_nil)
|(apply thenQ_normal)
|(apply WL_on0;eq_refl)
|(apply X_pv;eq_refl;first|exact trivial|omega)
|(apply X_len;eq_refl)
|(apply X_index;eq_refl;eq_refl;omega;omega))
        refine WC_loop (fun s : Nat × List Int × List Int × Value => [(4, .slice (some ⟨w.heap.size, 0, none⟩) k k), (5, .slice (some ⟨w.heap.size + 1, 0, none⟩) k k), (9, pt rb), (10, .func (.func 107) #[] #[pt rb]), (12, vo'), (91, .slice Ax (SC.A av x).length cx), (92, nu (SC.A av x).length), (93, nu s.1)])
          (fun s w' => Chg w w' none_ ∧ OrdMem w' w.heap.size (w.heap.size + 1) rb (w.heap.size + 2) s.2.2.1 vs av s.2.2.2 s.2.1 ∧ w'.ownsRow (rb + 1) 3 1 vo' (out.length + 1) (out.map nu ++ [nu x]) ∧ (∀ k, vo'.ownBlock = some k → s.2.2.2.ownBlock ≠ some k) ∧ InR k (gateB t c) av out x s.1 s.2.1 s.2.2.1 ∧ s.1 ≤ (SC.A av x).length)
          (fun s => (SC.A av x).length - s.1) (0, qs', ls, .slice (some p) qs'.length cv) ⟨rfl, rfl, rfl, rfl, rfl, rfl, rfl, rfl, trivial⟩ ⟨hC5', hM5, hro5, hap5, hRx, Nat.zero_le _⟩ ?_
        clear hC5' hM5 hro5 hap5 hRx hA5 hll
        rintro ⟨j, qs, ls, v⟩ w3 ⟨hC3, hM3, hro, hap, hR, hj⟩
        simp only at hM3 hro hap hR hj
        rcases Nat.lt_or_ge j (SC.A av x).length with hjl | hjg
        · obtain ⟨pa, rfl, hpc⟩ := (rowI (hM3.rows.rows x.toNat _ (SC.A av x) hvx' hAx)).one hjl (v := nu (SC.A av x)[j]) rfl
          have hst := hR.step hjl hup hin
          have hyr := hin _ (List.getElem_mem hjl)
          generalize hy : (SC.A av x)[j] = y at *
          obtain ⟨g1, g2, g3, g4⟩ := hst
          have hll := hR.len
          have hLy := L_cell (ls := ls) (y := y) (by rw [hll]; exact hyr)
          have hLy' := L_cell (ls := ls.set y.toNat (L ls y - 1)) (y := y) (by rw [List.length_set, hll]; exact hyr)
          rw [L_set _ (by rw [hll]; exact hyr) hyr.1, if_pos rfl] at hLy'
          have hyr' := hyr
          unfold rg at hyr'
          have c1 : lackN (out ++ [x]) (gateB t c y) ≤ 2 := Nat.le_trans List.countP_le_length (hb2 y)
          have c2 : (gateB t c y).count x ≤ 2 := Nat.le_trans List.count_le_length (hb2 y)
          have hL3 := hM3.lack
          repeat' (first
|(apply X_loadR;eq_refl;exact hL3;exact hLy)
|(apply WC_seqK;intro K hK)
|(apply hK;clear hK)
|(apply WC_block)
|(apply WC_region)
|(apply WL_nil)
|(apply thenQ_normal)
|(apply WC_skip)
|(apply WC_if_true;eq_refl)
|(apply WL_on0;eq_refl)
|(apply X_pv;eq_refl;first|exact trivial|omega)
|(apply X_loadC;eq_refl;(first|assumption|(apply cel;first|assumption|(apply cel;assumption))))
|(apply X_cmpT;eq_refl;eq_refl;omega)
|(apply X_index;eq_refl;eq_refl;omega;omega)
|(apply X_indexP;eq_refl;eq_refl;omega;omega))
          refine X_doesU (does_store1 (b := w.heap.size) (o := 0 + y.toNat * 1) (v := nu (L ls y - 1)) (by eq_refl) (by eq_refl) hL3 (by simp; omega) rfl rfl) ?_
          rw [set_nu, Nat.zero_add, Nat.mul_one]
          have hM4 := hM3.lacked (ls.set y.toNat (L ls y - 1))
          have hcc : Chg w3 (w3.setRow w.heap.size ((ls.set y.toNat (L ls y - 1)).map nu).toArray) (fun k => k = w.heap.size) := Chg.setRow _ _ _ rfl
          have hC4 := hC3.trans hcc fun k hk hh => by omega
          have hro4 := own_chg hro hcc fun k hk hh => by have := (hro.lt k hk).1; have := hM3.lay; omega
          generalize w3.setRow w.heap.size ((ls.set y.toNat (L ls y - 1)).map nu).toArray = w4 at *
          have hL4 := hM4.lack
          have hqs : ∀ y ∈ qs, 0 ≤ y ∧ y ≤ 100000 := fun y hy => by have := ((hR.mem y).1 hy).1; unfold rg at this; omega
          have hqn : qs.length ≤ 16384 := by have := nodup_size k qs hR.desc.nodup fun y hy => ((hR.mem y).1 hy).1; omega
          have hpc := push_cv (x := y) hM4.rdy hM4.row (by have := hM4.rdy.lt; omega) (by omega) ⟨by omega, by omega⟩ hqs hR.desc.le
          repeat' (first
|(apply X_loadR;eq_refl;exact hL4;exact hLy')
|(apply X_clo (f := 107);eq_refl;eq_refl;exact hpc;rintro _ w5 ⟨v', hb5, hrow5, hC5, hown5⟩)
|(apply WC_seqK;intro K hK)
|(apply hK;clear hK)
|(apply WC_region)
|(apply WL_nil)
|(apply thenQ_normal)
|(apply blockQ_normal)
|(apply WC_skip)
|(apply WC_if_true;eq_refl)
|(apply WC_if_false;eq_refl)
|(apply WL_on0;eq_refl)
|(apply X_pv;eq_refl;first|exact trivial|omega)
|(apply X_cmp;eq_refl;eq_refl;all_goals intro _)
|(apply X_index;eq_refl;eq_refl;omega;omega))
          · rw [if_pos (by assumption)] at g4
            have hM5 := hM4.pushed (q' := pushM qs y) hC5 hb5 (by rw [pushM_len]; exact hrow5)
            have hlt4 := hro4.lt
            have hvl := hM4.row.lt
            have hrd := hM4.rdy.lt
            refine ⟨(j + 1, pushM qs y, ls.set y.toNat (L ls y - 1), v'), ⟨rfl, rfl, rfl, rfl, rfl, rfl, rfl, rfl, trivial⟩, ⟨hC4.trans hC5 fun i hi hh => ?_, hM5, own_chg hro4 hC5 fun i hi hh => ?_, fun i hi hh => ?_, g4, hjl⟩, by simp only; omega⟩
            · rcases hh with hh | hh
              · have := hM4.lay; omega
              · have := (hvl i hh).1; have := hM4.lay; omega
            · rcases hh with hh | hh
              · have := (hlt4 i hi).1; omega
              · exact hap i hi hh
            · rcases hown5 with ho | ⟨m, ho, hm⟩
              · exact hap i hi (ho ▸ hh)
              · simp only at hh
                rw [ho] at hh
                cases hh
                have := (hlt4 i hi).2
                omega
          · rw [if_neg (by assumption)] at g4
            exact ⟨(j + 1, qs, ls.set y.toNat (L ls y - 1), v), ⟨rfl, rfl, rfl, rfl, rfl, rfl, rfl, rfl, trivial⟩, ⟨hC4, hM4, hro4, hap, g4, hjl⟩, by simp only; omega⟩
        · obtain rfl : j = (SC.A av x).length := by omega
          repeat' (first
|(apply WC_seqK;intro K hK)
|(apply hK;clear hK)
|(apply WC_region)
|(apply WL_nil)
|(apply thenQ_normal)
|(apply thenQ_exit)
|(apply blockQ_hit)
|(apply blockQ_normal)
|(apply WC_exit)
|(apply WC_if_false;eq_refl)
|(apply WL_on0;eq_refl)
|(apply X_cmpF;eq_refl;eq_refl;omega))
          exact ⟨(out ++ [x], qs, ls, v, vo'), ⟨rfl, rfl, rfl, rfl, rfl, trivial⟩, ⟨hC3, hM3, by simpa using hro, hap, hR.close hup⟩, by simp; omega⟩
end SC
end Go.Proofs.YtclihihdgodloaaDoor
end
section
/- shape: the plain law of cycle: gates that come round. -/
set_option linter.unusedVariables false
set_option linter.unusedSimpArgs false
namespace Go.Proofs.YtclihihdgodloaaDoor
namespace SC
open Go.Proofs
section
variable {n : Nat} {B : Int → List Int}
/-- y is used by x, through others perhaps. -/
inductive Hangs (B : Int → List Int) : Int → Int → Prop
  | one {x z : Int} : z ∈ B x → Hangs B x z
  | more {x z y : Int} : Hangs B x z → y ∈ B z → Hangs B x y
theorem sub_size : ∀ (l m : List Int), l.Nodup → (∀ y ∈ l, y ∈ m) → l.length ≤ m.length
  | [], m, _, _ => Nat.zero_le _
  | a :: l, m, hn, h => by
    rw [List.nodup_cons] at hn
    have ha := h a (by simp)
    have := sub_size l (m.erase a) hn.2 fun y hy => (List.mem_erase_of_ne (fun e : y = a => hn.1 (e ▸ hy))).2 (h y (by simp [hy]))
    rw [List.length_erase_of_mem ha] at this
    have : 0 < m.length := List.length_pos_of_mem ha
    simp only [List.length_cons]
    omega
theorem All.round {out : List Int} (h : All n B out) (hB : ∀ y, rg n y → ∀ x ∈ B y, rg n x) (hlt : out.length < n) : ∃ i, rg n i ∧ Hangs B i i := by
  have h0 : ∃ y, rg n y ∧ y ∉ out := by
    refine Classical.byContradiction fun hc => ?_
    have h1 : ∀ y, rg n y → y ∈ out := fun y hy => Classical.byContradiction fun hh => hc ⟨y, hy, hh⟩
    have h2 : ((List.range n).map fun k : Nat => (k : Int)).Nodup := List.pairwise_map.2 (List.pairwise_lt_range.imp fun h => by omega)
    have := sub_size _ out h2 fun y hy => by
      obtain ⟨k, hk, rfl⟩ := List.mem_map.1 hy
      exact h1 _ ⟨by omega, by have := List.mem_range.1 hk; omega⟩
    simp at this
    omega
  have h1 : ∀ s : {y : Int // rg n y ∧ y ∉ out}, ∃ s' : {y : Int // rg n y ∧ y ∉ out}, s'.1 ∈ B s.1 := by
    rintro ⟨y, hy, ho⟩
    refine Classical.byContradiction fun hc => h.stuck y ⟨hy, ho, fun z hz => Classical.byContradiction fun hh => hc ⟨⟨z, hB y hy z hz, hh⟩, hz⟩⟩
  obtain ⟨y0, hy0⟩ := h0
  let f : {y : Int // rg n y ∧ y ∉ out} → {y : Int // rg n y ∧ y ∉ out} := fun s => (h1 s).choose
  have hf : ∀ s, (f s).1 ∈ B s.1 := fun s => (h1 s).choose_spec
  let g : Nat → {y : Int // rg n y ∧ y ∉ out} := fun k => Nat.rec ⟨y0, hy0⟩ (fun _ s => f s) k
  have hg : ∀ k, (g (k + 1)).1 ∈ B (g k).1 := fun k => hf (g k)
  have hh : ∀ d i, Hangs B (g i).1 (g (i + d + 1)).1 := by
    intro d
    induction d with
    | zero => intro i; exact .one (hg i)
    | succ d ih => intro i; exact .more (ih i) (hg (i + d + 1))
  have hp : ∃ i j, i < j ∧ (g i).1 = (g j).1 := by
    refine Classical.byContradiction fun hc => ?_
    have hn : ((List.range (n + 1)).map fun k => (g k).1).Nodup := List.pairwise_map.2 (List.pairwise_lt_range.imp fun {a b} h e => hc ⟨a, b, h, e⟩)
    have := nodup_size n _ hn fun y hy => by
      obtain ⟨k, _, rfl⟩ := List.mem_map.1 hy
      exact (g k).2.1
    simp at this
    omega
  obtain ⟨i, j, hij, e⟩ := hp
  refine ⟨(g i).1, (g i).2.1, ?_⟩
  have := hh (j - i - 1) i
  rw [show i + (j - i - 1) + 1 = j by omega, ← e] at this
  exact this

/-! ### the search -/
def Sn (sn : List Bool) (z : Int) : Bool := sn.getD z.toNat false
theorem Sn_set {sn : List Bool} {i : Int} (v : Bool) (h : rg sn.length i) {y : Int} (hy : 0 ≤ y) : Sn (sn.set i.toNat v) y = if y = i then v else Sn sn y := by
  unfold Sn rg at *
  simp only [List.getD_eq_getElem?_getD, List.getElem?_set]
  by_cases hc : y = i
  · subst hc
    rw [if_pos rfl, if_pos (by omega), if_pos rfl]
    rfl
  · rw [if_neg (by omega), if_neg hc]
theorem count_set : ∀ (sn : List Bool) (k : Nat), sn[k]? = some false → (sn.set k true).count false + 1 = sn.count false
  | [], k, h => by simp at h
  | a :: r, 0, h => by simp at h; subst h; simp
  | a :: r, k + 1, h => by
    have := count_set r k (by simpa using h)
    simp only [List.set_cons_succ, List.count_cons]
    omega
structure Srch (n : Nat) (B : Int → List Int) (i : Int) (W : List Int) (sn : List Bool) : Prop where
  len : sn.length = n
  work : ∀ z ∈ W, rg n z ∧ Hangs B i z
  noti : Sn sn i = false
  base : ∀ u ∈ B i, u ∈ W ∨ Sn sn u = true
  shut : ∀ z, rg n z → Sn sn z = true → ∀ u ∈ B z, u ∈ W ∨ Sn sn u = true
  size : W.length + 3 * sn.count false ≤ 3 * n + 2
theorem Sn_false (n : Nat) (z : Int) : Sn (List.replicate n false) z = false := by
  unfold Sn
  simp only [List.getD_eq_getElem?_getD, List.getElem?_replicate]
  split <;> rfl
theorem Srch.init {i : Int} (hi : rg n i) (hB : ∀ y, rg n y → ∀ x ∈ B y, rg n x) (h2 : (B i).length ≤ 2) : Srch n B i (B i) (List.replicate n false) := by
  refine ⟨by simp, fun z hz => ⟨hB i hi z hz, .one hz⟩, Sn_false _ _, fun u hu => .inl hu, fun z _ hz => ?_, by simp; omega⟩
  rw [Sn_false] at hz
  cases hz
theorem Srch.old {i x : Int} {W : List Int} {sn : List Bool} (h : Srch n B i (W ++ [x]) sn) (hs : Sn sn x = true) : Srch n B i W sn := by
  have key : ∀ u, u ∈ W ++ [x] ∨ Sn sn u = true → u ∈ W ∨ Sn sn u = true := by
    rintro u (hu | hu)
    · rcases List.mem_append.1 hu with hu | hu
      · exact .inl hu
      · simp at hu; subst hu; exact .inr hs
    · exact .inr hu
  have := h.size
  simp only [List.length_append, List.length_singleton] at this
  exact ⟨h.len, fun z hz => h.work z (List.mem_append_left _ hz), h.noti, fun u hu => key u (h.base u hu), fun z hz h1 u hu => key u (h.shut z hz h1 u hu), by omega⟩
theorem Srch.new {i x : Int} {W : List Int} {sn : List Bool} (h : Srch n B i (W ++ [x]) sn) (hi : rg n i) (hs : Sn sn x = false) (hne : ¬ x = i) (hB : ∀ y, rg n y → ∀ x ∈ B y, rg n x) (h2 : (B x).length ≤ 2) :
    Srch n B i (W ++ B x) (sn.set x.toNat true) ∧ 3 * (sn.set x.toNat true).count false + (W ++ B x).length < 3 * sn.count false + (W ++ [x]).length := by
  obtain ⟨hx, hh⟩ := h.work x (by simp)
  have hset : ∀ y, 0 ≤ y → Sn (sn.set x.toNat true) y = if y = x then true else Sn sn y := fun y hy => Sn_set true (by rw [h.len]; exact hx) hy
  have hxl : x.toNat < sn.length := by have := h.len; unfold rg at hx; omega
  have hc : (sn.set x.toNat true).count false + 1 = sn.count false := count_set _ _ (by
    rw [List.getElem?_eq_getElem hxl]
    unfold Sn at hs
    rw [List.getD_eq_getElem?_getD, List.getElem?_eq_getElem hxl] at hs
    simpa using hs)
  have key : ∀ u, rg n u → u ∈ W ++ [x] ∨ Sn sn u = true → u ∈ W ++ B x ∨ Sn (sn.set x.toNat true) u = true := by
    rintro u hr (hu | hu)
    · rcases List.mem_append.1 hu with hu | hu
      · exact .inl (List.mem_append_left _ hu)
      · simp at hu; subst hu; right; rw [hset _ hr.1, if_pos rfl]
    · right
      rw [hset _ hr.1]
      split
      · rfl
      · exact hu
  have hsz := h.size
  simp only [List.length_append, List.length_singleton] at hsz ⊢
  refine ⟨⟨by simp [h.len], fun z hz => ?_, ?_, fun u hu => key u (hB i hi u hu) (h.base u hu), fun z hz h1 u hu => ?_, by simp only [List.length_append]; omega⟩, by omega⟩
  · rcases List.mem_append.1 hz with hz | hz
    · exact h.work z (List.mem_append_left _ hz)
    · exact ⟨hB x hx z hz, .more hh hz⟩
  · rw [hset _ hi.1, if_neg (fun e => hne e.symm)]
    exact h.noti
  · rw [hset _ hz.1] at h1
    by_cases hzx : z = x
    · subst hzx
      exact .inl (List.mem_append_right _ hu)
    · rw [if_neg hzx] at h1
      exact key u (hB z hz u hu) (h.shut z hz h1 u hu)
theorem Srch.none {i : Int} {sn : List Bool} (h : Srch n B i [] sn) (hi : rg n i) (hB : ∀ y, rg n y → ∀ x ∈ B y, rg n x) : ¬ Hangs B i i := by
  have key : ∀ x y, Hangs B x y → x = i → Sn sn y = true ∧ rg n y := by
    intro x y hh
    induction hh with
    | one hz =>
      rintro rfl
      exact ⟨by simpa using h.base _ hz, hB _ hi _ hz⟩
    | more _ hy ih =>
      intro e
      obtain ⟨h1, h2⟩ := ih e
      exact ⟨by simpa using h.shut _ h2 h1 _ hy, hB _ h2 _ hy⟩
  intro hh
  have := (key i i hh rfl).1
  rw [h.noti] at this
  cases this
/-- What cycle answers: the first gate that comes round, or -1. -/
def CycOf (n : Nat) (B : Int → List Int) (r : Int) : Prop :=
  ∃ out, All n B out ∧ ((out.length = n ∧ r = -1) ∨ (out.length < n ∧ rg n r ∧ Hangs B r r ∧ ∀ j, rg n j → j < r → ¬ Hangs B j j))
end
section
variable {P : Program} {n : Nat} {all rest : List Oper} {K : Env → World → Prop} {e : Env} {w : World} {d : Option Tmp} {ty : TypeId} {x y : Operand} {t t0 : TypeId} {td : TypeDesc} {sz by_ : Nat} {zv v : Value} {ag : Bool}
theorem WC_scope {c : Code} {Q : Post} (h : WC P n c Q e w) (hQ : ∀ l e w, ¬ Q (.goto l) e w) : WC P n (.scope c) Q e w := fun a ha => wp_scope_straight (wp_mono (h a ha) fun s a w hs => by
  cases s with
  | goto l => obtain ⟨e, _, hq⟩ := hs; exact hQ l e w hq
  | normal => exact hs
  | exit i => exact hs
  | ret => exact hs
  | panic c => exact hs
  | outgrown => exact hs)
theorem retQ_goto {rs : List Nat} {R : Value → World → Prop} : ∀ l e w, ¬ retQ rs R (.goto l) e w := fun _ _ _ h => h
theorem does_append0 [U : Ty P t (.slice t0) 1 (.slice none 0 0) 24 false] [T : Ty P t0 td sz zv by_ ag] {base m : Nat} {xs : List Value} (h : ev e x = some v) (h1 : ev e y = some (.slice none 0 0)) (hown : w.ownsRow base t0 sz v m xs) :
    Does P (.call { callee := .builtin .append, args := #[x, y], argTypes := #[t, t] }) ty e w v w := by
  obtain ⟨i, hi, hzz⟩ := Option.map_eq_some_iff.1 T.info
  intro ρ dst pos af g hρ
  have hrun := run_append_owned_none (P := P) (w := w) base t ty t0 i sz U.und hi v m xs hown
  simp [execOp, resolve, hρ _ _ h, hρ _ _ h1, invoke, builtin, hrun]
/-- append of a row that is new memory itself, or nil. -/
theorem X_appendO {t0 : TypeId} (base base' : Nat) [U : Ty P t (.slice t0) 1 (.slice none 0 0) 24 false] [T : Ty P t0 td sz zv by_ ag] {m j : Nat} {xs news : List Value} {u : Value} (h : ev e x = some v) (h1 : ev e y = some u) (hown : w.ownsRow base t0 sz v m xs) (hu : w.ownsRow base' t0 sz u j news)
    (hzs : zv.cells.size = sz) (hsz : 0 < sz) (ho : ∀ u ∈ news, u.oneCell' = true) (hby : (m + j) * by_ ≤ 140737488355328) (hby1 : 1 ≤ by_) (hbase : base ≤ w.heap.size)
    (hr : ∀ v' w', w'.ownsRow base t0 sz v' (m + j) (xs ++ news) → Chg w w' (fun k => v.ownBlock = some k) → (v'.ownBlock = v.ownBlock ∨ v'.ownBlock = some w.heap.size) → WL P n all K rest (push d v' e) w') :
    WX P n all K rest d (.call { callee := .builtin .append, args := #[x, y], argTypes := #[t, t] }) ty e w := by
  rcases hu.2 with ⟨rfl, hj⟩ | ⟨g, cap, cur, rfl, _, hg, _⟩
  · have hnn : news = [] := List.length_eq_zero_iff.1 (by rw [hu.1, hj]; omega)
    subst hj
    subst hnn
    exact X_does (does_append0 h h1 hown) (hr v w (by simpa using hown) (Chg.refl _ _) (.inl rfl))
  · refine X_appendC base h h1 hown (fun i u hi => ?_) hu.1 hzs hsz ho hby hby1 hbase fun v' w' a b c _ => hr v' w' a b c
    have := hu.cells (g := g) rfl i u hi
    rwa [add_at, Nat.zero_add] at this
end
end SC
end Go.Proofs.YtclihihdgodloaaDoor
end
section
/- shape: cycle, the walk. -/
set_option linter.unusedVariables false
set_option linter.unusedSimpArgs false
namespace Go.Proofs.YtclihihdgodloaaDoor
namespace SC
open Go.Proofs
attribute [local irreducible] WC WL WX WS WO OX Does DoesU Enters CV Pure thenQ blockQ retQ Wants
set_option maxRecDepth 100000
theorem Sn_cell {sn : List Bool} {z : Int} (h : rg sn.length z) : (sn.map Value.bool)[0 + z.toNat * 1]? = some (.bool (Sn sn z)) := by
  unfold rg at h
  rw [Nat.zero_add, Nat.mul_one, List.getElem?_map, List.getElem?_eq_getElem (by omega)]
  unfold Sn
  rw [List.getD_eq_getElem?_getD, List.getElem?_eq_getElem (by omega)]
  rfl
theorem cycle_cv {w : World} {q b : Nat} {c : Circ} {h js : Hd} {t : Tab} (H : Lk w q b c h js t) (O : LkOk c t) (hl : c.ands.length ≤ 16384)
    (hr : ∀ x ∈ c.ands, 0 ≤ x.2.1 ∧ x.2.1 ≤ 2 * c.max + 1 ∧ 0 ≤ x.2.2 ∧ x.2.2 ≤ 2 * c.max + 1) (hB : ∀ y, rg c.ands.length y → ∀ x ∈ gateB t c y, rg c.ands.length x) :
    CV Tryd.prog 99 [pt q] w fun v w' => ∃ r, v = nu r ∧ CycOf c.ands.length (gateB t c) r ∧ Chg w w' none_ := by
  have hcv := order_cv (H.chg (Chg.drew w none_)) O hl hr hB
  have hb2 : ∀ y, (gateB t c y).length ≤ 2 := fun y => belowL_len t _
  have hH := H.head
  generalize hn : c.ands.length = n at *
  have h8 : (ccells c h ++ [Value.slice (some ⟨b, 0, none⟩) t.length t.length])[0 + 0 + 8]? = some (.slice (h 8).1 n (h 8).2) := by rw [← hn]; rfl
  generalize hcs : ccells c h ++ [Value.slice (some ⟨b, 0, none⟩) t.length t.length] = cs at *
  refine enter 68 [2] Tryd.func99 rfl rfl rfl (by decide) rfl ?_
  repeat' (first
|(apply WC_scope;rotate_left;exact retQ_goto)
|(apply WC_seqK;intro K hK)
|(apply hK;clear hK)
|(apply WC_region)
|(apply WL_nil)
|(apply thenQ_normal)
|(apply WL_on0;eq_refl)
|(apply X_pv;eq_refl;first|exact trivial|omega))
  refine WC_draws [(0, true), (3, true), (4, true), (5, true), (6, true), (7, true), (8, true), (1, false), (2, true), (9, true)] (fun W => Blk W q 139 cs) mixed (by kernel_rfl) (by kernel_rfl) ?_
  have hS : Blk w.drew q 139 cs := hH
  repeat' (first
|(apply O_loadR;eq_refl;(intro _ h;exact h);exact h8;assumption)
|(apply O_fn;eq_refl;exact hcv;rintro v w3 ⟨out, hall, hrow, hC3⟩;obtain ⟨Ao, co, rfl⟩ := row_form' hrow;have hS3 : Blk w3 q 139 cs := hS.chg hC3 id;refine ⟨fun _ => hS3, ?_⟩)
|(apply WC_seqK;intro K hK)
|(apply hK;clear hK)
|(apply WC_region)
|(apply WL_nil)
|(apply thenQ_normal)
|(apply thenQ_ret)
|(apply WC_ret)
|(apply WC_skip)
|(apply WC_label)
|(apply WC_if_true;eq_refl)
|(apply WC_if_false;eq_refl)
|(apply ret1;eq_refl)
|(apply WS_nil)
|(apply WS_next;eq_refl)
|(apply WO_on0;eq_refl)
|(apply O_pv;eq_refl;(first|exact trivial|omega);(first|assumption|exact trivial))
|(apply O_field;eq_refl;(first|assumption|exact trivial))
|(apply O_cmp;eq_refl;eq_refl;(first|assumption|exact trivial);all_goals intro _)
|(apply O_len;eq_refl;(first|assumption|exact trivial))
|(apply WL_on0;eq_refl)
|(apply X_pv;eq_refl;first|exact trivial|omega)
|(apply X_field;eq_refl))
  · exact ⟨-1, rfl, ⟨out, hall, .inl ⟨by omega, rfl⟩⟩, (Chg.drew w none_).trans hC3 fun _ _ h => h⟩
  have hlt0 : out.length < n := by have := hall.told.size; omega
  have hC3' : Chg w w3 none_ := (Chg.drew w none_).trans hC3 fun _ _ h => h
  repeat' (first
|(apply X_loadR;eq_refl;exact hS3;exact h8)
|(apply hK;clear hK)
|(apply WC_block)
|(apply WL_nil)
|(apply thenQ_normal)
|(apply WL_on0;eq_refl)
|(apply X_pv;eq_refl;first|exact trivial|omega)
|(apply X_len;eq_refl))
  clear hS hrow hC3
  refine WC_loop (fun i : Nat => [(0, pt q), (22, nu n), (23, nu i)]) (fun i w1 => Chg w w1 none_ ∧ (∀ j, rg n j → j < i → ¬ Hangs (gateB t c) j j) ∧ i ≤ n) (fun i => n - i) 0 ⟨rfl, rfl, rfl, trivial⟩ ⟨hC3', fun j hj h => by unfold rg at hj; omega, Nat.zero_le _⟩ ?_
  clear hC3' hS3
  rintro i w1 ⟨hC1, hno, hi⟩
  have hH1 := hH.chg hC1 id
  rcases Nat.lt_or_ge i n with hlt | hge
  · have hri : rg n (i : Int) := ⟨by omega, by omega⟩
    repeat' (first
|(apply X_loadR;eq_refl;exact hH1;exact h8)
|(apply X_make;eq_refl;omega;omega)
|(apply WC_seqK;intro K hK)
|(apply hK;clear hK)
|(apply WC_block)
|(apply WC_region)
|(apply WL_nil)
|(apply thenQ_normal)
|(apply WC_skip)
|(apply WC_if_true;eq_refl)
|(apply WL_on0;eq_refl)
|(apply X_pv;eq_refl;first|exact trivial|omega)
|(apply X_field;eq_refl)
|(apply X_cmpT;eq_refl;eq_refl;omega)
|(apply X_len;eq_refl))
    have hCm : Chg w (w1.alloc (.cells (madeCells (Value.bool false).cells (n * 1)) 4)) none_ := hC1.al _
    have hcb := below_cv (i := i) (H.chg hCm) O (by omega) (by omega) hr
    rw [← gateB_at t c (by omega)] at hcb
    repeat' (first
|(apply X_fn;eq_refl;exact hcb;rintro v w2 ⟨hrow, hC2⟩)
|(apply WC_seqK;intro K hK)
|(apply hK;clear hK)
|(apply WC_block)
|(apply WL_nil)
|(apply thenQ_normal)
|(apply WL_on0;eq_refl)
|(apply X_pv;eq_refl;first|exact trivial|omega))
    have hsb : Blk w2 w1.heap.size 4 ((List.replicate n false).map Value.bool) := by
      have e1 : (madeCells (Value.bool false).cells (n * 1)).toList = (List.replicate n false).map Value.bool := by rw [Nat.mul_one, show (Value.bool false).cells = #[Value.bool false] from rfl, made_one, List.map_replicate]
      have := Blk.newA w1 (madeCells (Value.bool false).cells (n * 1)) 4
      rw [e1] at this
      exact this.chg hC2 id
    have es : (w1.alloc (.cells (madeCells (Value.bool false).cells (n * 1)) 4)).heap.size = w1.heap.size + 1 := by simp
    rw [es] at hrow
    have hC2' := hCm.trans hC2 fun _ _ h => h
    refine WC_loop (fun s : List Int × List Bool × Value => [(0, pt q), (3, nu i), (4, .slice (some ⟨w1.heap.size, 0, none⟩) n n), (5, s.2.2), (22, nu n), (23, nu i)])
      (fun s w' => Chg w w' none_ ∧ Blk w' w1.heap.size 4 (s.2.1.map Value.bool) ∧ w'.ownsRow (w1.heap.size + 1) 3 1 s.2.2 s.1.length (s.1.map nu) ∧ Srch n (gateB t c) i s.1 s.2.1) (fun s => 3 * s.2.1.count false + s.1.length)
      (gateB t c i, List.replicate n false, v) ⟨rfl, rfl, rfl, rfl, rfl, rfl, trivial⟩ ⟨hC2', hsb, hrow, Srch.init hri hB (hb2 i)⟩ ?_
    clear hC2' hsb hrow hC2 hcb hCm
    rintro ⟨W, sn, v⟩ w2 ⟨hC2, hsb, hrow, hI⟩
    simp only at hsb hrow hI
    obtain ⟨Aw, cw, rfl⟩ := row_form' hrow
    rcases List.eq_nil_or_concat W with rfl | ⟨W', x, rfl⟩
    · have hnone := hI.none hri hB
      simp only [List.length_nil]
      repeat' (first
|(apply WC_seqK;intro K hK)
|(apply hK;clear hK)
|(clear hK;apply hK;clear hK)
|(apply WC_region)
|(apply WL_nil)
|(apply thenQ_normal)
|(apply thenQ_exit)
|(apply blockQ_hit)
|(apply WC_exit)
|(apply WC_if_false;eq_refl)
|(apply WL_on0;eq_refl)
|(apply X_pv;eq_refl;first|exact trivial|omega)
|(apply X_cmpF;eq_refl;eq_refl;omega)
|(apply X_len;eq_refl))
      refine ⟨i + 1, ⟨rfl, rfl, rfl, trivial⟩, ⟨hC2, fun j hj hji => ?_, hlt⟩, by omega⟩
      by_cases hc : j = i
      · subst hc; exact hnone
      · exact hno j hj (by omega)
    · rw [List.concat_eq_append] at *
      have hsz := hI.size
      simp only [List.length_append, List.length_singleton] at hsz
      obtain ⟨hxr, hxh⟩ := hI.work x (by simp)
      have hxr' := hxr
      unfold rg at hxr'
      obtain ⟨p, rfl, hpc⟩ := (rowI hrow).one (k := W'.length) (by simp) (v := nu x) (by simp [icell])
      have el : (W' ++ [x]).length = W'.length + 1 := by simp
      rw [el] at hrow
      have ex : (((W'.length + 1 : Nat) : Int) - 1).toNat = W'.length := by omega
      have ex' : ((W'.length : Nat) : Int).toNat = W'.length := by omega
      rw [ex', ← ex] at hpc
      have hcap := own_cap hrow
      have hsh := own_short hrow rfl
      have hsl := hI.len
      have hcell := Sn_cell (sn := sn) (z := x) (by rw [hsl]; exact hxr)
      simp only [el]
      cases hsx : Sn sn x
      · rw [hsx] at hcell
        repeat' (first
|(apply X_sliceTo;eq_refl;eq_refl;omega;omega)
|(apply X_loadR;eq_refl;exact hsb;exact hcell)
|(apply WC_seqK;intro K hK)
|(apply hK;clear hK)
|(apply WC_block)
|(apply WC_region)
|(apply WL_nil)
|(apply thenQ_normal)
|(apply thenQ_ret)
|(apply blockQ_ret)
|(apply WC_ret)
|(apply WC_skip)
|(apply WC_if_true;eq_refl)
|(apply WC_if_false;eq_refl)
|(apply ret1;eq_refl)
|(apply WL_on0;eq_refl)
|(apply X_pv;eq_refl;first|exact trivial|omega)
|(apply X_loadC;eq_refl;(first|assumption|(apply cel;first|assumption|(apply cel;assumption))))
|(apply X_cmpT;eq_refl;eq_refl;omega)
|(apply X_cmp;eq_refl;eq_refl;all_goals intro _)
|(apply X_len;eq_refl)
|(apply X_index;eq_refl;eq_refl;omega;omega)
|(apply X_indexP;eq_refl;eq_refl;omega;omega))
        · have hxi : x = i := by assumption
          subst hxi
          exact ⟨_, rfl, ⟨out, hall, .inr ⟨hlt0, hri, hxh, hno⟩⟩, hC2⟩
        · have hxi : ¬ x = i := by assumption
          obtain ⟨hS, hm⟩ := hI.new hri hsx hxi hB (hb2 x)
          refine X_doesU (does_store1 (b := w1.heap.size) (o := 0 + x.toNat * 1) (v := .bool true) (by eq_refl) (by eq_refl) hsb (by simp; omega) rfl rfl) ?_
          rw [show (sn.map Value.bool).set (0 + x.toNat * 1) (.bool true) = (sn.set x.toNat true).map Value.bool by rw [Nat.zero_add, Nat.mul_one, List.map_set]]
          have hcc : Chg w2 (w2.setRow w1.heap.size ((sn.set x.toNat true).map Value.bool).toArray) (fun k => k = w1.heap.size) := Chg.setRow _ _ _ rfl
          have hsb3 := hsb.set ((sn.set x.toNat true).map Value.bool)
          have hws := hC1.size
          have hC3 := hC2.trans hcc fun k hk hh => by omega
          have hrow3 := own_chg hsh hcc fun k hk hh => by have := (hsh.lt k hk).1; omega
          generalize w2.setRow w1.heap.size ((sn.set x.toNat true).map Value.bool).toArray = w3 at *
          have hcx := below_cv (i := x.toNat) (H.chg hC3) O (by omega) (by omega) hr
          rw [← gateB_at t c (by omega), show ((x.toNat : Nat) : Int) = x by omega] at hcx
          rw [ex]
          repeat' (first
|(apply X_fn;eq_refl;exact hcx;rintro v4 w4 ⟨hrow4, hC4⟩)
|(apply hK;clear hK)
|(apply WC_region)
|(apply WL_nil)
|(apply thenQ_normal)
|(apply WL_on0;eq_refl)
|(apply X_pv;eq_refl;first|exact trivial|omega))
          have hw4 : w1.heap.size + 1 ≤ w4.heap.size := by have := hsb3.lt; have := hC4.size; omega
          refine X_appendO (w1.heap.size + 1) w3.heap.size (by eq_refl) (by eq_refl) (own_chg hrow3 hC4 fun _ _ => id) hrow4 rfl (by decide) (by simp [Value.oneCell']) (by have := hb2 x; omega) (by decide) hw4 ?_
          intro v5 w5 hrow5 hC5 _
          repeat' (first
|(apply WL_nil)
|(apply thenQ_normal)
|(apply blockQ_normal)
|(apply WL_on0;eq_refl)
|(apply X_pv;eq_refl;first|exact trivial|omega))
          have hown : ∀ k, (Value.slice (some p) W'.length cw).ownBlock = some k → w1.heap.size + 1 ≤ k := fun k hk => (hrow3.lt k hk).1
          have hC5' : Chg w w5 none_ := (hC3.trans hC4 fun _ _ h => h).trans hC5 fun k hk hh => by have := hown k hh; omega
          refine ⟨(W' ++ gateB t c x, sn.set x.toNat true, v5), ⟨rfl, rfl, rfl, rfl, rfl, rfl, trivial⟩, ⟨hC5', (hsb3.chg hC4 id).chg hC5 fun hh => by have := hown _ hh; omega, by rw [List.length_append, List.map_append]; exact hrow5, hS⟩, by rw [el] at hm; exact hm⟩
      · rw [hsx] at hcell
        repeat' (first
|(apply X_sliceTo;eq_refl;eq_refl;omega;omega)
|(apply X_loadR;eq_refl;exact hsb;exact hcell)
|(apply WC_seqK;intro K hK)
|(apply hK;clear hK)
|(apply WC_block)
|(apply WC_region)
|(apply WL_nil)
|(apply thenQ_normal)
|(apply thenQ_ret)
|(apply blockQ_ret)
|(apply blockQ_normal)
|(apply WC_ret)
|(apply WC_skip)
|(apply WC_if_true;eq_refl)
|(apply WC_if_false;eq_refl)
|(apply ret1;eq_refl)
|(apply WL_on0;eq_refl)
|(apply X_pv;eq_refl;first|exact trivial|omega)
|(apply X_loadC;eq_refl;(first|assumption|(apply cel;first|assumption|(apply cel;assumption))))
|(apply X_cmpT;eq_refl;eq_refl;omega)
|(apply X_cmp;eq_refl;eq_refl;all_goals intro _)
|(apply X_len;eq_refl)
|(apply X_index;eq_refl;eq_refl;omega;omega)
|(apply X_indexP;eq_refl;eq_refl;omega;omega))
        · have hxi : x = i := by assumption
          subst hxi
          exact ⟨_, rfl, ⟨out, hall, .inr ⟨hlt0, hri, hxh, hno⟩⟩, hC2⟩
        · exact ⟨(W', sn, .slice (some p) W'.length cw), ⟨rfl, rfl, rfl, congrArg (fun k => some (Value.slice (some p) k cw)) ex, rfl, rfl, trivial⟩, ⟨hC2, hsb, hsh, hI.old hsx⟩, by simp⟩
  · obtain rfl : i = n := by omega
    obtain ⟨j, hj, hh⟩ := hall.round hB hlt0
    exact absurd hh (hno j hj hj.2)
end SC
end Go.Proofs.YtclihihdgodloaaDoor
end
section
/- shape: the plain law of definitions and uses. -/
set_option linter.unusedVariables false
set_option linter.unusedSimpArgs false
namespace Go.Proofs.YtclihihdgodloaaDoor
namespace SC
open Go.Proofs
theorem kindAt_get {t : Tab} {v : Int} {m : Int × Int} (h : t[v.toNat]? = some m) : kindAt t v = m.1 := by unfold kindAt; rw [h]; rfl
theorem atOf_get {t : Tab} {v : Int} {m : Int × Int} (h : t[v.toNat]? = some m) : atOf t v = m.2 := by unfold atOf; rw [h]; rfl
/-- What definitions of one kind leave where none is wrong. -/
structure DefOk (max kind : Int) (ls : List Int) (k : Nat) (t t' : Tab) : Prop where
  len : t'.length = t.length
  each : ∀ j (hj : j < ls.length), ¬ defBad max ls[j] ∧ kindAt t (ls[j] / 2) = 0 ∧ t'[(ls[j] / 2).toNat]? = some (kind, ((k + j : Nat) : Int))
  rest : ∀ v : Nat, (∀ l ∈ ls, (l / 2).toNat ≠ v) → t'[v]? = t[v]?
theorem goDef_spec {max kind : Int} (hk : kind ≠ 0) : ∀ (ls : List Int) (k : Nat) (t : Tab), (t.length : Int) = max + 1 → (goDef max kind ls k t).1.2 = 0 → DefOk max kind ls k t (goDef max kind ls k t).2
  | [], k, t, _, _ => ⟨rfl, fun j hj => absurd hj (Nat.not_lt_zero _), fun _ _ => rfl⟩
  | l :: r, k, t, hl, h => by
    unfold goDef at h ⊢
    split at h
    · rename_i hh; exact absurd h hh
    · rename_i hh
      rw [if_neg hh]
      have hh : (defM max t l (kind, (k : Int))).1 = 0 := Classical.byContradiction hh
      have hb : ¬ defBad max l := by
        intro hb
        unfold defM at hh
        rw [if_pos hb] at hh
        simp at hh
      have hk0 : kindAt t (l / 2) = 0 := Classical.byContradiction fun hc => by
        unfold defM at hh
        rw [if_neg hb, if_pos hc] at hh
        simp at hh
      have e2 : (defM max t l (kind, (k : Int))).2 = t.set (l / 2).toNat (kind, (k : Int)) := by unfold defM; rw [if_neg hb, if_neg (fun hc => hc hk0)]
      rw [e2] at h ⊢
      have ih := goDef_spec hk r (k + 1) (t.set (l / 2).toNat (kind, (k : Int))) (by rw [List.length_set]; exact hl) h
      have hlt : (l / 2).toNat < t.length := by unfold defBad at hb; omega
      have hne : ∀ l' ∈ r, (l' / 2).toNat ≠ (l / 2).toNat := by
        intro l' hl' e
        obtain ⟨j, hj, rfl⟩ := List.mem_iff_getElem.1 hl'
        have := (ih.each j hj).2.1
        have g : (t.set (l / 2).toNat (kind, (k : Int)))[(r[j] / 2).toNat]? = some (kind, (k : Int)) := by rw [e, List.getElem?_set_self hlt]
        rw [kindAt_get g] at this
        exact hk this
      refine ⟨by rw [ih.len, List.length_set], fun j hj => ?_, fun v hv => ?_⟩
      · cases j with
        | zero =>
          refine ⟨hb, hk0, ?_⟩
          simp only [List.getElem_cons_zero, Nat.add_zero]
          rw [ih.rest _ hne, List.getElem?_set_self hlt]
        | succ j =>
          obtain ⟨g1, g2, g3⟩ := ih.each j (by simpa using hj)
          simp only [List.getElem_cons_succ]
          refine ⟨g1, ?_, by rw [g3]; simp; omega⟩
          have hn := hne _ (List.getElem_mem (show j < r.length by simpa using hj))
          unfold kindAt at g2 ⊢
          rwa [List.getElem?_set_ne (fun e => hn e.symm)] at g2
      · rw [ih.rest v fun l' hl' => hv l' (by simp [hl']), List.getElem?_set_ne (hv l (by simp))]
theorem goDefL_goDef {max : Int} : ∀ (ls : List Tri) (k : Nat) (t : Tab), (goDefL max ls k t).1.2 = 0 → (goDef max 2 (ls.map (·.1)) k t).1.2 = 0 ∧ (goDef max 2 (ls.map (·.1)) k t).2 = (goDefL max ls k t).2 ∧ ∀ x ∈ ls, ¬ badReset x
  | [], _, _, _ => ⟨rfl, rfl, fun x hx => by cases hx⟩
  | x :: r, k, t, h => by
    unfold goDefL at h
    split at h
    · rename_i hh; exact absurd h hh
    · rename_i hh
      split at h
      · simp at h
      · rename_i hb
        obtain ⟨h1, h2, h3⟩ := goDefL_goDef r (k + 1) _ h
        have e1 : goDef max 2 ((x :: r).map (·.1)) k t = goDef max 2 (r.map (·.1)) (k + 1) (defM max t x.1 (2, (k : Int))).2 := by
          rw [List.map_cons]
          conv => lhs; unfold goDef
          rw [if_neg hh]
        have e2 : goDefL max (x :: r) k t = goDefL max r (k + 1) (defM max t x.1 (2, (k : Int))).2 := by
          conv => lhs; unfold goDefL
          rw [if_neg hh, if_neg hb]
        rw [e1, e2]
        exact ⟨h1, h2, fun y hy => by
          rcases List.mem_cons.1 hy with rfl | hy
          · exact hb
          · exact h3 y hy⟩
def T0 (c : Circ) : Tab := List.replicate (c.max + 1).toNat (0, 0)
/-- The table of a circuit whose definitions are right. -/
structure TabOk (c : Circ) (t : Tab) : Prop where
  len : (t.length : Int) = c.max + 1
  inp : ∀ j (hj : j < c.inputs.length), ¬ defBad c.max c.inputs[j] ∧ t[(c.inputs[j] / 2).toNat]? = some (1, (j : Int))
  lat : ∀ j (hj : j < c.latches.length), ¬ defBad c.max c.latches[j].1 ∧ t[(c.latches[j].1 / 2).toNat]? = some (2, (j : Int)) ∧ ¬ badReset c.latches[j]
  gat : ∀ j (hj : j < c.ands.length), ¬ defBad c.max c.ands[j].1 ∧ t[(c.ands[j].1 / 2).toNat]? = some (3, (j : Int))
  only : ∀ (v : Nat) (m : Int × Int), t[v]? = some m → m = (0, 0) ∨ (∃ (j : Nat) (hj : j < c.inputs.length), c.inputs[j] = 2 * v ∧ m = (1, (j : Int))) ∨ (∃ (j : Nat) (hj : j < c.latches.length), c.latches[j].1 = 2 * v ∧ m = (2, (j : Int))) ∨ ∃ (j : Nat) (hj : j < c.ands.length), c.ands[j].1 = 2 * v ∧ m = (3, (j : Int))
theorem two_of {max l : Int} {v : Nat} (h : ¬ defBad max l) (e : (l / 2).toNat = v) : l = 2 * v := by unfold defBad at h; omega
theorem definesM_spec {c : Circ} (h0 : 0 ≤ c.max) (h : (definesM c (T0 c)).1.2 = 0) : TabOk c (definesM c (T0 c)).2 := by
  unfold definesM at h ⊢
  split at h
  · rename_i hh; exact absurd h hh
  · rename_i hh
    rw [if_neg hh]
    have h1 : (goDef c.max 1 c.inputs 0 (T0 c)).1.2 = 0 := Classical.byContradiction hh
    split at h
    · rename_i hh2; exact absurd h hh2
    · rename_i hh2
      rw [if_neg hh2]
      have h2 : (goDefL c.max c.latches 0 (goDef c.max 1 c.inputs 0 (T0 c)).2).1.2 = 0 := Classical.byContradiction hh2
      have hl0 : ((T0 c).length : Int) = c.max + 1 := by unfold T0; simp; omega
      have d1 := goDef_spec (by decide) c.inputs 0 (T0 c) hl0 h1
      obtain ⟨g1, g2, g3⟩ := goDefL_goDef c.latches 0 _ h2
      have d2 := goDef_spec (by decide) (c.latches.map (·.1)) 0 _ (by rw [d1.len]; exact hl0) g1
      rw [g2] at d2
      have d3 := goDef_spec (by decide) (c.ands.map (·.1)) 0 _ (by rw [d2.len, d1.len]; exact hl0) h
      generalize (goDef c.max 1 c.inputs 0 (T0 c)).2 = t1 at *
      generalize (goDefL c.max c.latches 0 t1).2 = t2 at *
      generalize (goDef c.max 3 (c.ands.map (·.1)) 0 t2).2 = t3 at *
      have k2 : ∀ v : Nat, ∀ m, t2[v]? = some m → m.1 ≠ 0 → t3[v]? = some m := fun v m hm hk => by
        rw [d3.rest v fun l hl e => ?_]
        · exact hm
        · obtain ⟨j, hj, rfl⟩ := List.mem_iff_getElem.1 hl
          have := (d3.each j hj).2.1
          rw [kindAt_get (m := m) (by rw [e]; exact hm)] at this
          exact hk this
      have k1 : ∀ v : Nat, ∀ m, t1[v]? = some m → m.1 ≠ 0 → t2[v]? = some m := fun v m hm hk => by
        rw [d2.rest v fun l hl e => ?_]
        · exact hm
        · obtain ⟨j, hj, rfl⟩ := List.mem_iff_getElem.1 hl
          have := (d2.each j hj).2.1
          rw [kindAt_get (m := m) (by rw [e]; exact hm)] at this
          exact hk this
      refine ⟨by rw [d3.len, d2.len, d1.len]; exact hl0, fun j hj => ?_, fun j hj => ?_, fun j hj => ?_, fun v m hm => ?_⟩
      · obtain ⟨a1, _, a3⟩ := d1.each j hj
        exact ⟨a1, by have := k2 _ _ (k1 _ _ a3 (by simp)) (by simp); simpa using this⟩
      · obtain ⟨a1, _, a3⟩ := d2.each j (by simpa using hj)
        simp only [List.getElem_map] at a1 a3
        exact ⟨a1, by have := k2 _ _ a3 (by simp); simpa using this, g3 _ (List.getElem_mem hj)⟩
      · obtain ⟨a1, _, a3⟩ := d3.each j (by simpa using hj)
        simp only [List.getElem_map] at a1 a3
        exact ⟨a1, by simpa using a3⟩
      · by_cases c3 : ∃ (j : Nat) (hj : j < c.ands.length), (c.ands[j].1 / 2).toNat = v
        · obtain ⟨j, hj, e⟩ := c3
          obtain ⟨a1, _, a3⟩ := d3.each j (by simpa using hj)
          simp only [List.getElem_map] at a1 a3
          rw [e, hm] at a3
          exact .inr (.inr (.inr ⟨j, hj, two_of a1 e, by simpa using a3⟩))
        · rw [d3.rest v fun l hl e => by
            obtain ⟨x, hx, rfl⟩ := List.mem_map.1 hl
            obtain ⟨j, hj, rfl⟩ := List.mem_iff_getElem.1 hx
            exact c3 ⟨j, hj, e⟩] at hm
          by_cases c2 : ∃ (j : Nat) (hj : j < c.latches.length), (c.latches[j].1 / 2).toNat = v
          · obtain ⟨j, hj, e⟩ := c2
            obtain ⟨a1, _, a3⟩ := d2.each j (by simpa using hj)
            simp only [List.getElem_map] at a1 a3
            rw [e, hm] at a3
            exact .inr (.inr (.inl ⟨j, hj, two_of a1 e, by simpa using a3⟩))
          · rw [d2.rest v fun l hl e => by
              obtain ⟨x, hx, rfl⟩ := List.mem_map.1 hl
              obtain ⟨j, hj, rfl⟩ := List.mem_iff_getElem.1 hx
              exact c2 ⟨j, hj, e⟩] at hm
            by_cases c1 : ∃ (j : Nat) (hj : j < c.inputs.length), (c.inputs[j] / 2).toNat = v
            · obtain ⟨j, hj, e⟩ := c1
              obtain ⟨a1, _, a3⟩ := d1.each j hj
              rw [e, hm] at a3
              exact .inr (.inl ⟨j, hj, two_of a1 e, by simpa using a3⟩)
            · rw [d1.rest v fun l hl e => by
                obtain ⟨j, hj, rfl⟩ := List.mem_iff_getElem.1 hl
                exact c1 ⟨j, hj, e⟩] at hm
              left
              unfold T0 at hm
              rw [List.getElem?_replicate] at hm
              split at hm
              · simpa using hm.symm
              · cases hm
/-- A literal that may be used. -/
def useOk (c : Circ) (t : Tab) (x : Int) : Prop := 0 ≤ x ∧ x ≤ 2 * c.max + 1 ∧ (1 < x → kindAt t (x / 2) ≠ 0)
theorem useOne_ok {c : Circ} {t : Tab} {x : Int} : useOne c.max t x = 0 ↔ useOk c t x := by
  unfold useOne useOk
  split
  · constructor
    · intro h; omega
    · rintro ⟨h1, h2, _⟩; omega
  · split
    · rename_i h
      constructor
      · intro h; omega
      · rintro ⟨_, _, h3⟩; exact absurd h.2 (h3 h.1)
    · rename_i h1 h2
      constructor
      · intro _; exact ⟨by omega, by omega, fun h3 h4 => h2 ⟨h3, h4⟩⟩
      · intro _; rfl
theorem useM_ok {c : Circ} {t : Tab} : ∀ ls : List Int, useM c.max t ls = 0 ↔ ∀ x ∈ ls, useOk c t x
  | [] => by simp [useM]
  | x :: r => by
    unfold useM
    rw [List.forall_mem_cons, ← useM_ok r, ← useOne_ok]
    split
    · rename_i h
      exact ⟨fun hh => absurd hh h, fun hh => absurd hh.1 h⟩
    · rename_i h
      have h' := Classical.byContradiction h
      exact ⟨fun hh => ⟨h', hh⟩, fun hh => hh.2⟩
theorem goUse_ok {c : Circ} {t : Tab} : ∀ (ls : List (List Int)) (k : Nat), (goUse c.max t ls k).2 = 0 ↔ ∀ l ∈ ls, ∀ x ∈ l, useOk c t x
  | [], _ => by simp [goUse]
  | l :: r, k => by
    unfold goUse
    rw [List.forall_mem_cons, ← goUse_ok r (k + 1), ← useM_ok]
    split
    · rename_i h
      exact ⟨fun hh => absurd hh h, fun hh => absurd hh.1 h⟩
    · rename_i h
      have h' := Classical.byContradiction h
      exact ⟨fun hh => ⟨h', hh⟩, fun hh => hh.2⟩
theorem thenE_ok_iff {a b : Int × Int} : (thenE a b).2 = 0 ↔ a.2 = 0 ∧ b.2 = 0 := by
  unfold thenE
  split
  · rename_i h; exact ⟨fun hh => absurd hh h, fun hh => absurd hh.1 h⟩
  · rename_i h; exact ⟨fun hh => ⟨Classical.byContradiction h, hh⟩, fun hh => hh.2⟩
structure UseAll (c : Circ) (t : Tab) : Prop where
  next : ∀ x ∈ c.latches, useOk c t x.2.1
  outputs : ∀ x ∈ c.outputs, useOk c t x
  bads : ∀ x ∈ c.bads, useOk c t x
  constraints : ∀ x ∈ c.constraints, useOk c t x
  justice : ∀ l ∈ c.justice, ∀ x ∈ l, useOk c t x
  fairness : ∀ x ∈ c.fairness, useOk c t x
  ands : ∀ x ∈ c.ands, useOk c t x.2.1 ∧ useOk c t x.2.2
theorem usesM_spec {c : Circ} {t : Tab} : (usesM c t).2 = 0 ↔ UseAll c t := by
  unfold usesM
  simp only [thenE_ok_iff, goUse_ok, ones]
  constructor
  · rintro ⟨h1, h2, h3, h4, h5, h6, h7⟩
    exact ⟨fun x hx => h1 _ (List.mem_map.2 ⟨x, hx, rfl⟩) _ (by simp), fun x hx => h2 _ (List.mem_map.2 ⟨x, hx, rfl⟩) _ (by simp), fun x hx => h3 _ (List.mem_map.2 ⟨x, hx, rfl⟩) _ (by simp), fun x hx => h4 _ (List.mem_map.2 ⟨x, hx, rfl⟩) _ (by simp), h5,
      fun x hx => h6 _ (List.mem_map.2 ⟨x, hx, rfl⟩) _ (by simp), fun x hx => ⟨h7 _ (List.mem_map.2 ⟨x, hx, rfl⟩) _ (by simp), h7 _ (List.mem_map.2 ⟨x, hx, rfl⟩) _ (by simp)⟩⟩
  · intro h
    refine ⟨?_, ?_, ?_, ?_, h.justice, ?_, ?_⟩ <;> intro l hl x hx <;> obtain ⟨y, hy, rfl⟩ := List.mem_map.1 hl <;> simp only [List.mem_cons, List.not_mem_nil, or_false] at hx
    · subst hx; exact h.next y hy
    · subst hx; exact h.outputs _ hy
    · subst hx; exact h.bads _ hy
    · subst hx; exact h.constraints _ hy
    · subst hx; exact h.fairness _ hy
    · rcases hx with rfl | rfl
      · exact (h.ands y hy).1
      · exact (h.ands y hy).2
theorem mem_belowL {t : Tab} {y : Int} : ∀ ls : List Int, y ∈ belowL t ls ↔ ∃ l ∈ ls, kindAt t (l / 2) = 3 ∧ atOf t (l / 2) = y
  | [] => by simp [belowL]
  | l :: r => by
    unfold belowL
    split
    · rename_i h
      simp only [List.mem_cons, mem_belowL r, exists_eq_or_imp, h, true_and]
      constructor
      · rintro (rfl | h)
        · exact .inl rfl
        · exact .inr h
      · rintro (rfl | h)
        · exact .inl rfl
        · exact .inr h
    · rename_i h
      simp only [List.mem_cons, mem_belowL r, exists_eq_or_imp, h, false_and, false_or]
theorem TabOk.gate {c : Circ} {t : Tab} (h : TabOk c t) {v : Nat} (hk : kindAt t v = 3) : ∃ (j : Nat) (hj : j < c.ands.length), c.ands[j].1 = 2 * v ∧ atOf t v = j ∧ t[v]? = some (3, (j : Int)) := by
  have e : ((v : Int)).toNat = v := by omega
  cases ht : t[v]? with
  | none => unfold kindAt at hk; rw [e, ht] at hk; simp at hk
  | some m =>
    have g : t[((v : Int)).toNat]? = some m := by rw [e]; exact ht
    rw [kindAt_get g] at hk
    rcases h.only v m ht with rfl | ⟨j, hj, h1, rfl⟩ | ⟨j, hj, h1, rfl⟩ | ⟨j, hj, h1, rfl⟩
    · simp at hk
    · simp at hk
    · simp at hk
    · exact ⟨j, hj, h1, by rw [atOf_get g], rfl⟩
theorem TabOk.below {c : Circ} {t : Tab} (h : TabOk c t) (hu : UseAll c t) : ∀ y, rg c.ands.length y → ∀ x ∈ gateB t c y, rg c.ands.length x := by
  intro y hy x hx
  unfold rg at hy
  unfold gateB belowM at hx
  obtain ⟨l, hl, h1, h2⟩ := (mem_belowL _).1 hx
  have hlt : y.toNat < c.ands.length := by omega
  have e : c.ands.getD y.toNat (0, 0, 0) = c.ands[y.toNat] := by simp [hlt]
  have ha := hu.ands _ (List.getElem_mem hlt)
  rw [e] at hl
  have h0 : 0 ≤ l := by
    simp only [List.mem_cons, List.not_mem_nil, or_false] at hl
    rcases hl with rfl | rfl
    · exact ha.1.1
    · exact ha.2.1
  have e2 : l / 2 = (((l / 2).toNat : Nat) : Int) := by omega
  rw [e2] at h1 h2
  obtain ⟨j, hj, _, h3, _⟩ := h.gate h1
  rw [h3] at h2
  unfold rg
  omega
end SC
end Go.Proofs.YtclihihdgodloaaDoor
end
section
/- shape: symbols' small functions. -/
set_option linter.unusedVariables false
set_option linter.unusedSimpArgs false
namespace Go.Proofs.YtclihihdgodloaaDoor
namespace SC
open Go.Proofs
attribute [local irreducible] WC WL WX WS WO OX Does DoesU Enters CV Pure thenQ blockQ retQ Wants
set_option maxRecDepth 100000
def manyM (c : Circ) (k : Int) : Int :=
  if k = 105 then c.inputs.length else if k = 108 then c.latches.length else if k = 111 then c.outputs.length else if k = 98 then c.bads.length else if k = 99 then c.constraints.length
  else if k = 106 then c.justice.length else if k = 102 then c.fairness.length else -1
theorem many_cv {w : World} {c : Circ} {h : Hd} {k : Int} : CV Tryd.prog 114 [.agg (ccells c h).toArray, .int .u8 k] w fun v w' => v = nu (manyM c k) ∧ Chg w w' none_ := by
  have hN : Blk (w.alloc (.cells (ccells c h).toArray 29)) w.heap.size 29 (ccells c h) := Blk.new w _ _
  have hC := Chg.alloc w (.cells (ccells c h).toArray 29) none_
  refine enter 41 [4] Tryd.func114 rfl rfl rfl (by decide) rfl ?_
  repeat' (first
|(apply WC_seqK;intro K hK)
|(apply hK;clear hK)
|(apply WC_block)
|(apply WC_region)
|(apply WL_nil)
|(apply thenQ_normal)
|(apply thenQ_ret)
|(apply blockQ_ret)
|(apply blockQ_normal)
|(apply WC_ret)
|(apply WC_skip)
|(apply WC_if_true;eq_refl)
|(apply WC_if_false;eq_refl)
|(apply ret1;eq_refl)
|(apply WL_on0;eq_refl)
|(apply X_pv;eq_refl;first|exact trivial|omega)
|(apply X_field;eq_refl)
|(apply X_loadR;eq_refl;(first|assumption|(apply Blk.alloc;assumption)|apply Blk.new|apply Blk.newA|(apply Blk.alloc;first|apply Blk.newA|(apply Blk.alloc;first|assumption|apply Blk.newA)));eq_refl)
|(apply X_cmp;eq_refl;eq_refl;all_goals intro _)
|(apply X_len;eq_refl)
|(apply X_box;eq_refl))
  all_goals
    refine ⟨?_, hC⟩
    unfold manyM
    first
      | rw [if_pos (by assumption)]
      | rw [if_neg (by assumption), if_pos (by assumption)]
      | rw [if_neg (by assumption), if_neg (by assumption), if_pos (by assumption)]
      | rw [if_neg (by assumption), if_neg (by assumption), if_neg (by assumption), if_pos (by assumption)]
      | rw [if_neg (by assumption), if_neg (by assumption), if_neg (by assumption), if_neg (by assumption), if_pos (by assumption)]
      | rw [if_neg (by assumption), if_neg (by assumption), if_neg (by assumption), if_neg (by assumption), if_neg (by assumption), if_pos (by assumption)]
      | rw [if_neg (by assumption), if_neg (by assumption), if_neg (by assumption), if_neg (by assumption), if_neg (by assumption), if_neg (by assumption), if_pos (by assumption)]
      | (rw [if_neg (by assumption), if_neg (by assumption), if_neg (by assumption), if_neg (by assumption), if_neg (by assumption), if_neg (by assumption), if_neg (by assumption)]; try rfl)
end SC
end Go.Proofs.YtclihihdgodloaaDoor
end
section
/- shape: is a byte among bytes? -/
set_option linter.unusedVariables false
set_option linter.unusedSimpArgs false
namespace Go.Proofs.YtclihihdgodloaaDoor
namespace SC
open Go.Proofs
attribute [local irreducible] WC WL WX WS WO OX Does DoesU Enters CV Pure thenQ blockQ retQ Wants
set_option maxRecDepth 100000
def ucell (a : Int) : List Value := [.int .u8 a]
def indexM (x : Int) : List Int → Nat → Int
  | [], _ => -1
  | y :: r, i => if x = y then i else indexM x r (i + 1)
theorem indexM_step {x : Int} {ls : List Int} {k : Nat} (hk : k < ls.length) : indexM x (ls.drop k) k = if x = ls[k] then (k : Int) else indexM x (ls.drop (k + 1)) (k + 1) := by
  rw [List.drop_eq_getElem_cons hk]
  rfl
theorem indexB_cv {w : World} {A : Option Addr} {c : Nat} {ls : List Int} {x : Int} (R : RowA w ucell 1 A ls) (hl : ls.length ≤ 9223372036854775807) : CV Tryd.prog 115 [.slice A ls.length c, .int .u8 x] w fun v w' => v = nu (indexM x ls 0) ∧ w' = w := by
  refine enter 19 [4] Tryd.func115 rfl rfl rfl (by decide) rfl ?_
  repeat' (first
|(apply WC_seqK;intro K hK)
|(apply hK;clear hK)
|(apply WC_block)
|(apply WC_region)
|(apply WL_nil)
|(apply thenQ_normal)
|(apply WL_on0;eq_refl)
|(apply X_pv;eq_refl;first|exact trivial|omega)
|(apply X_len;eq_refl))
  refine WC_loop (fun k : Nat => [(0, .slice A ls.length c), (1, .int .u8 x), (7, nu ls.length), (8, nu k)]) (fun k w1 => w1 = w ∧ k ≤ ls.length ∧ indexM x (ls.drop k) k = indexM x ls 0) (fun k => ls.length - k) 0 ⟨rfl, rfl, rfl, rfl, trivial⟩ ⟨rfl, Nat.zero_le _, rfl⟩ ?_
  rintro k w1 ⟨rfl, hk, hgo⟩
  rcases Nat.lt_or_ge k ls.length with hlt | hge
  · obtain ⟨p, hp, hc⟩ := R.one hlt (v := .int .u8 ls[k]) rfl
    rw [indexM_step hlt] at hgo
    rw [hp]
    generalize hx : ls[k] = y at *
    repeat' (first
|(apply WC_seqK;intro K hK)
|(apply hK;clear hK)
|(apply WC_block)
|(apply WC_region)
|(apply WL_nil)
|(apply thenQ_normal)
|(apply thenQ_ret)
|(apply blockQ_ret)
|(apply blockQ_normal)
|(apply WC_ret)
|(apply WC_skip)
|(apply WC_if_true;eq_refl)
|(apply WC_if_false;eq_refl)
|(apply ret1;eq_refl)
|(apply WL_on0;eq_refl)
|(apply X_pv;eq_refl;first|exact trivial|omega)
|(apply X_loadC;eq_refl;(first|assumption|(apply cel;first|assumption|(apply cel;assumption))))
|(apply X_cmpT;eq_refl;eq_refl;omega)
|(apply X_cmp;eq_refl;eq_refl;all_goals intro _)
|(apply X_indexP;eq_refl;eq_refl;omega;omega))
    · rw [if_pos (by assumption)] at hgo
      exact ⟨by rw [← hgo], rfl⟩
    · rw [if_neg (by assumption)] at hgo
      exact ⟨k + 1, ⟨by first | rfl | (rw [hp]; rfl), rfl, rfl, rfl, trivial⟩, ⟨rfl, hlt, hgo⟩, by omega⟩
  · repeat' (first
|(apply WC_seqK;intro K hK)
|(apply hK;clear hK)
|(clear hK;apply hK;clear hK)
|(apply WC_region)
|(apply WL_nil)
|(apply thenQ_normal)
|(apply thenQ_exit)
|(apply blockQ_hit)
|(apply WC_ret)
|(apply WC_exit)
|(apply WC_if_false;eq_refl)
|(apply ret1;eq_refl)
|(apply WL_on0;eq_refl)
|(apply X_pv;eq_refl;first|exact trivial|omega)
|(apply X_cmpF;eq_refl;eq_refl;omega))
    rw [List.drop_eq_nil_of_le hge] at hgo
    exact ⟨by rw [← hgo]; rfl, rfl⟩
theorem indexM_ge (x : Int) : ∀ (ls : List Int) (k : Nat), 0 ≤ indexM x ls k ↔ x ∈ ls
  | [], _ => by simp [indexM]
  | y :: r, k => by
    unfold indexM
    split
    · rename_i h; subst h; simp
    · rename_i h; rw [indexM_ge x r (k + 1)]; simp [h]
theorem containsB_cv {w : World} {A : Option Addr} {c : Nat} {ls : List Int} {x : Int} (R : RowA w ucell 1 A ls) (hl : ls.length ≤ 9223372036854775807) : CV Tryd.prog 101 [.slice A ls.length c, .int .u8 x] w fun v w' => (v = .bool true ∧ x ∈ ls ∨ v = .bool false ∧ ¬ x ∈ ls) ∧ w' = w := by
  have hg := indexM_ge x ls 0
  refine enter 9 [4] Tryd.func101 rfl rfl rfl (by decide) rfl ?_
  repeat' (first
|(apply X_fn;eq_refl;exact indexB_cv R hl;rintro _ _ ⟨rfl, rfl⟩)
|(apply WC_seqK;intro K hK)
|(apply hK;clear hK)
|(apply WC_region)
|(apply WL_nil)
|(apply thenQ_normal)
|(apply WC_ret)
|(apply ret1;eq_refl)
|(apply WL_on0;eq_refl)
|(apply X_pv;eq_refl;first|exact trivial|omega)
|(apply X_cmp;eq_refl;eq_refl;all_goals intro _))
  · exact ⟨.inl ⟨rfl, hg.1 (by assumption)⟩, rfl⟩
  · exact ⟨.inr ⟨rfl, fun hh => by have := hg.2 hh; contradiction⟩, rfl⟩
end SC
end Go.Proofs.YtclihihdgodloaaDoor
end
section
/- shape: the map of named things. -/
set_option linter.unusedVariables false
set_option linter.unusedSimpArgs false
namespace Go.Proofs.YtclihihdgodloaaDoor
namespace SC
open Go.Proofs Go.Maps
set_option maxRecDepth 100000
theorem laidS : laidOutB Tryd.prog = true := by kernel_rfl
theorem row177 : (163 : TypeId) < Tryd.prog.types.size := of_decide_eq_true (by kernel_rfl)
theorem wide177 : (match Tryd.prog.underlying 163 with | some (.array _ _) | some (.struct _) => true | _ => false) = true := by rw [Tryd.underlying163]
theorem law177 : WideMaps.KeyLaw Tryd.prog 163 := deep_law_laid laidS (m := 2) (by omega) row177 (by kernel_rfl) wide177
theorem keyed177 : Keyed Tryd.prog 163 := Keyed.of_law law177
def fit64 (a : Int) : Prop := -9223372036854775808 ≤ a ∧ a ≤ 9223372036854775807
def fit8 (a : Int) : Prop := 0 ≤ a ∧ a ≤ 255
theorem wf64 {a : Int} (h : fit64 a) : (Lit.int .i64 a).wf = true := by
  unfold fit64 at h
  simp [Lit.wf, IntKind.min, IntKind.max, IntKind.signed, IntKind.bits]
  omega
theorem wf8 {a : Int} (h : fit8 a) : (Lit.int .u8 a).wf = true := by
  unfold fit8 at h
  simp [Lit.wf, IntKind.min, IntKind.max, IntKind.signed, IntKind.bits]
  omega
theorem formed177 {a b : Value} : (Value.agg #[a, b]).formed Tryd.prog 163 = true := by
  have : Tryd.prog.cellsOf 163 = 2 := by kernel_rfl
  simp [Value.formed, Tryd.underlying163, this]
def ks (p q : Int) : Lit := .string (keyBytes [.int .u8 p, .int .i64 q])
theorem key177 {p q : Int} (hp : fit8 p) (hq : fit64 q) : keyOf Tryd.prog 163 (.agg #[.int .u8 p, .int .i64 q]) = some (ks p q) := by
  have h1 : Tryd.prog.keyType 163 = true := by kernel_rfl
  have h2 : Tryd.prog.cellsOf 163 = 2 := by kernel_rfl
  have h3 : Tryd.prog.cellsOf 3 = 1 := by kernel_rfl
  have h5 : Tryd.prog.cellsOf 5 = 1 := by kernel_rfl
  have h4 : ∃ k, Tryd.prog.types.size = k + 1 := ⟨Tryd.prog.types.size - 1, by have : 0 < Tryd.prog.types.size := of_decide_eq_true (by kernel_rfl); omega⟩
  obtain ⟨k, hk⟩ := h4
  unfold keyOf
  rw [Tryd.underlying163]
  simp only [h1, formed177, Bool.and_self, if_true]
  rw [hk]
  simp [Program.keyLits, Tryd.underlying163, Tryd.underlying3, Tryd.underlying5, h2, h3, h5, Value.cells, wf8 hp, wf64 hq, ks]
theorem ks_inj {p q p' q' : Int} (hp : fit8 p) (hq : fit64 q) (hp' : fit8 p') (hq' : fit64 q') (h : ks p q = ks p' q') : p = p' ∧ q = q' := by
  have := keyed177.inj (key177 hp hq) (by rw [h]; exact key177 hp' hq')
  simpa using this
/-- Block b is a map of things that answers by f. -/
def Named (w : World) (b N : Nat) (f : Int → Int → Int) : Prop :=
  ∃ D : DataW Unit, w.ownsMap Tryd.prog 163 (plainElem Tryd.prog 3) b N D ∧ ∀ p q, fit8 p → fit64 q → D.atKey (ks p q) (.lit (.int .i64 0)) = .lit (.int .i64 (f p q))
theorem Named.made (w : World) : Named (w.alloc (.map #[] 0)) w.heap.size 0 (fun _ _ => 0) := ⟨_, World.ownsMap_made w _ _ _, fun _ _ _ _ => rfl⟩
theorem Named.chg {w w' : World} {b N : Nat} {f : Int → Int → Int} (h : Named w b N f) {S : Nat → Prop} (hc : Chg w w' S) (hn : ¬ S b) : Named w' b N f := by
  obtain ⟨D, h1, h2⟩ := h
  have hlt := h1.lt
  obtain ⟨es, clock, hb, F, hs, hD⟩ := h1
  exact ⟨D, ⟨es, clock, (hc.block b hlt hn).trans hb, F, hs, hD⟩, h2⟩
theorem does_lookupN {w : World} {e : Env} {x y : Operand} {ty : TypeId} {b N : Nat} {f : Int → Int → Int} {p q : Int} (h : ev e x = some (.map (some b))) (h1 : ev e y = some (.agg #[.int .u8 p, .int .i64 q])) (hm : Named w b N f) (hp : fit8 p) (hq : fit64 q) :
    Does Tryd.prog (.lookup 160 x y false) ty e w (.int .i64 (f p q)) w := by
  obtain ⟨D, h2, h3⟩ := hm
  obtain ⟨c, hrun, hat, _⟩ := h2.lookup_int keyed177 Tryd.underlying160 Tryd.underlying3 (Tryd.zeroValue3 w) (key177 hp hq)
  rw [h3 p q hp hq] at hat
  obtain rfl : f p q = c := by simpa using hat
  intro ρ dst pos af g hρ
  simp [execOp, hρ _ _ h, hρ _ _ h1, hrun]
theorem Named.more {w : World} {b N : Nat} {f : Int → Int → Int} (h : Named w b N f) : Named w b (N + 1) f := by
  obtain ⟨D, ⟨es, clock, hb, F, hs, hD⟩, h2⟩ := h
  exact ⟨D, ⟨es, clock, hb, F, Nat.le_succ_of_le hs, hD⟩, h2⟩
/-- Behind 'mapEntry' alone the map answers as before. -/
theorem entry_keeps {w w1 : World} {b N : Nat} {f : Int → Int → Int} {p q : Int} {v : Value} (hm : Named w b N f) (hp : fit8 p) (hq : fit64 q) (hN : N < maxLen)
    (hrun : (Instr.mapEntry 160 (.map (some b)) (.agg #[.int .u8 p, .int .i64 q])).run Tryd.prog w = .ok v w1) : Named w1 b (N + 1) f := by
  obtain ⟨D, h1, h2⟩ := hm
  have h1' := h1
  obtain ⟨es, clock, hb, F, hs, hD⟩ := h1
  have hkey := key177 hp hq
  have hu := Tryd.underlying160
  have hz : ∀ u, (zeroValue 3).run Tryd.prog u = .ok (.int .i64 0) u := fun u => Tryd.zeroValue3 u
  obtain ⟨s1, s2, _⟩ := F.stamped
  rcases law177.find w hkey es.toList F.keys with ⟨g1, g2⟩ | ⟨j, e0, g1, g2, g3⟩
  · obtain ⟨w', hrun', ho, hg⟩ := h1'.update keyed177 hu hN hkey (plainElem_int Tryd.underlying3 (wf64 (a := 0) (by unfold fit64; omega)))
    have e1 : w' = ChangeMaps.setBlock w b (.map (es.push ⟨.agg #[.int .u8 p, .int .i64 q], .int .i64 0, clock⟩) (clock + 1)) := by
      have : (Instr.mapUpdate 160 (.map (some b)) (.agg #[.int .u8 p, .int .i64 q]) (.int .i64 0)).run Tryd.prog w = .ok () (ChangeMaps.setBlock w b (.map (es.push ⟨.agg #[.int .u8 p, .int .i64 q], .int .i64 0, clock⟩) (clock + 1))) := by
        simp [Instr.mapUpdate, run_underlying hu, MapKept.run_getObj_map hb, law177.check w false hkey, g1, MapKept.run_setObj_map _ hb, Result.andThen, ChangeMaps.setBlock]
      rw [hrun'] at this
      simpa using this
    have e2 : w1 = w' := by
      rw [e1]
      simp [Instr.mapEntry, run_underlying hu, MapKept.run_getObj_map hb, law177.check w false hkey, g1, hz, MapKept.run_setObj_map _ hb, Result.andThen] at hrun
      rw [← hrun.2]; rfl
    obtain ⟨c, hl, hat, _⟩ := h1'.lookup_int keyed177 hu Tryd.underlying3 (Tryd.zeroValue3 w) hkey
    have hc : c = 0 := by
      simp [Instr.lookup, run_underlying hu, MapKept.run_getObj_map hb, law177.check w _ hkey, g1, Tryd.zeroValue3, Result.andThen] at hl
      exact hl.symm
    subst hc
    subst e2
    refine ⟨_, ho, fun p' q' hp' hq' => ?_⟩
    by_cases hc : p' = p ∧ q' = q
    · obtain ⟨rfl, rfl⟩ := hc
      rw [h2 _ _ hp hq] at hat
      rw [atKey_put_same _ (keyed177.key (key177 hp hq))]
      · exact hat.symm
      · exact ⟨_, hD⟩
    · rw [atKey_put_other (fun hh => hc (ks_inj hp' hq' hp hq hh)), h2 p' q' hp' hq']
  · have hj : es[j]? = some e0 := by simpa using g2
    have hsame : es.modify j (fun e => { e with key := .agg #[.int .u8 p, .int .i64 q] }) = es := by
      apply Array.ext'
      rw [Array.toList_modify, ChangeMaps.modify_eq_set _ _ _ _ g2]
      have : ({ e0 with key := .agg #[.int .u8 p, .int .i64 q] } : MapEntry) = e0 := by rw [← g3]
      rw [this]
      exact WideElems.set_self _ _ _ g2
    have e2 : w1 = ChangeMaps.setBlock w b (.map es clock) := by
      simp [Instr.mapEntry, run_underlying hu, MapKept.run_getObj_map hb, law177.check w false hkey, g1, hj, g3, law177.stays w hkey, hsame, MapKept.run_setObj_map _ hb, Result.andThen] at hrun
      rw [← hrun.2]; rfl
    subst e2
    exact ⟨D, ⟨es, clock, ChangeMaps.heap_setBlock_same hb _, F, Nat.le_succ_of_le hs, hD⟩, h2⟩
/-- 'mapEntry' and, behind it, 'entryStore': the map is updated. -/
theorem entry_store {w : World} {b N : Nat} {f : Int → Int → Int} {p q : Int} (hm : Named w b N f) (hp : fit8 p) (hq : fit64 q) (hN : N < maxLen) :
    ∃ (v0 st : Value) (w1 : World), (∀ (e : Env) (x y : Operand) (ty : TypeId), ev e x = some (.map (some b)) → ev e y = some (.agg #[.int .u8 p, .int .i64 q]) → Does Tryd.prog (.mapEntry 160 x y) ty e w (.tuple #[v0, st]) w1) ∧ Chg w w1 (fun k => k = b) ∧ Named w1 b (N + 1) f ∧
      ∀ v, fit64 v → ∃ w2, (∀ (e : Env) (x y z : Operand) (ty : TypeId), ev e x = some (.map (some b)) → ev e y = some st → ev e z = some (.int .i64 v) → DoesU Tryd.prog (.entryStore 160 x y z) ty e w1 w2) ∧ Chg w w2 (fun k => k = b) ∧
        Named w2 b (N + 1) (fun p' q' => if p' = p ∧ q' = q then v else f p' q') := by
  have hm' := hm
  obtain ⟨D, h1, h2⟩ := hm
  have h1' := h1
  obtain ⟨es, clock, hb, F, hs, hD⟩ := h1
  obtain ⟨v0, st, es1, clock1, he, _, hst⟩ := WideElems.entry_then_store law177 Tryd.underlying160 (z := .int .i64 0) (fun u => Tryd.zeroValue3 u) hb F (key177 hp hq)
  have hc1 : ∀ (o : Obj), Chg w (ChangeMaps.setBlock w b o) (fun k => k = b) := fun o => ⟨rfl, rfl, rfl, by simp [ChangeMaps.setBlock], fun i _ hi => ChangeMaps.heap_setBlock_other hb _ hi⟩
  refine ⟨v0, goInt st, ChangeMaps.setBlock w b (.map es1 clock1), fun e x y ty hx hy ρ dst pos af g hρ => by simp [execOp, hρ _ _ hx, hρ _ _ hy, he], hc1 _, entry_keeps hm' hp hq hN he, fun v hv => ?_⟩
  obtain ⟨es', clock', hrun, hup⟩ := hst (ChangeMaps.setBlock w b (.map es1 clock1)) (.int .i64 v) (ChangeMaps.heap_setBlock_same hb _)
  obtain ⟨w', hrun', ho, hg⟩ := h1'.update keyed177 Tryd.underlying160 hN (key177 hp hq) (plainElem_int Tryd.underlying3 (wf64 hv))
  have e1 : ChangeMaps.setBlock (ChangeMaps.setBlock w b (.map es1 clock1)) b (.map es' clock') = ChangeMaps.setBlock w b (.map es' clock') := by simp [ChangeMaps.setBlock]
  have e2 : w' = ChangeMaps.setBlock w b (.map es' clock') := by
    rw [hup] at hrun'
    simpa using hrun'.symm
  rw [e1, ← e2] at hrun
  refine ⟨w', fun e x y z ty hx hy hz ρ dst pos af g hρ => by simp [execOp, hρ _ _ hx, hρ _ _ hy, hρ _ _ hz, hrun], (Chg.of_grown hg).mono fun k hk => by simpa using hk.symm, _, ho, ?_⟩
  intro p' q' hp' hq'
  by_cases hc : p' = p ∧ q' = q
  · obtain ⟨rfl, rfl⟩ := hc
    rw [atKey_put_same _ (keyed177.key (key177 hp hq))]
    · simp
    · exact ⟨_, hD⟩
  · rw [atKey_put_other (fun hh => hc (ks_inj hp' hq' hp hq hh)), h2 p' q' hp' hq']
    simp only [if_neg hc]
end SC
end Go.Proofs.YtclihihdgodloaaDoor
end
section
/- shape: symbols. NOT DONE. -/
set_option linter.unusedVariables false
set_option linter.unusedSimpArgs false
namespace Go.Proofs.YtclihihdgodloaaDoor
namespace SC
open Go.Proofs Go.Maps
attribute [local irreducible] WC WL WX WS WO OX Does DoesU Enters CV Pure thenQ blockQ retQ Wants
set_option maxRecDepth 100000
def byteAt (s : ByteArray) (k : Nat) : Int := (s.data.toList.map fun b => (b.toNat : Int)).getD k 0
def lowName (s : ByteArray) : Prop := ∃ k, k < s.size ∧ byteAt s k < 32
def symBad (c : Circ) (f : Int → Int → Int) (s : Sym) : Prop := s.at_ < 0 ∨ manyM c s.kind ≤ s.at_ ∨ s.name = ByteArray.empty ∨ 64 < s.name.size ∨ 0 < f s.kind s.at_ ∨ lowName s.name
open Classical in
/-- The first symbol that may not be, or -1. -/
noncomputable def goSym (c : Circ) : List Sym → Nat → (Int → Int → Int) → Int
  | [], _, _ => -1
  | s :: r, i, f => if symBad c f s then i else goSym c r (i + 1) (fun p q => if p = s.kind ∧ q = s.at_ then f s.kind s.at_ + 1 else f p q)
theorem goSym_bad {c : Circ} {ls : List Sym} {k : Nat} {f : Int → Int → Int} (hk : k < ls.length) (h : symBad c f ls[k]) : goSym c (ls.drop k) k f = k := by
  rw [List.drop_eq_getElem_cons hk]
  unfold goSym
  rw [if_pos h]
theorem goSym_ok {c : Circ} {ls : List Sym} {k : Nat} {f : Int → Int → Int} (hk : k < ls.length) (h : ¬ symBad c f ls[k]) : goSym c (ls.drop k) k f = goSym c (ls.drop (k + 1)) (k + 1) (fun p q => if p = ls[k].kind ∧ q = ls[k].at_ then f ls[k].kind ls[k].at_ + 1 else f p q) := by
  rw [List.drop_eq_getElem_cons hk]
  conv => lhs; unfold goSym
  rw [if_neg h]
end SC
end Go.Proofs.YtclihihdgodloaaDoor
end
section
/- shape: symbols. -/
set_option linter.unusedVariables false
set_option linter.unusedSimpArgs false
namespace Go.Proofs.YtclihihdgodloaaDoor
namespace SC
open Go.Proofs Go.Maps
attribute [local irreducible] WC WL WX WS WO OX Does DoesU Enters CV Pure thenQ blockQ retQ Wants
set_option maxRecDepth 100000
section
variable {P : Program} {n : Nat} {all : List Oper} {K : Env → World → Prop} {S : World → Prop} {r : List (Nat × Bool)} {i : Nat} {e : Env} {w : World} {d : Option Tmp} {ty : TypeId} {x y : Operand} {t t' : TypeId}
theorem O_eqS {a b : ByteArray} (h : ev e x = some (.string a)) (h1 : ev e y = some (.string b)) (hS : S w) (ht : a = b → WS P n all S K r (push d (.bool true) e) w) (hf : ¬ a = b → WS P n all S K r (push d (.bool false) e) w) : OX P n all S K i true r d (.binOp .eql t x y t') ty e w := by
  by_cases hc : a = b
  · exact O_pure (p_eqS h h1 true (by subst hc; simp)) hS (ht hc)
  · refine O_pure (p_eqS h h1 false ?_) hS (hf hc)
    rw [beq_eq_false_iff_ne]
    intro hh
    exact hc (by rw [ByteArray.toList_eq, ByteArray.toList_eq] at hh; exact ByteArray.ext (Array.ext' hh))
variable {rest : List Oper} {sz by_ : Nat} {zv : Value} {ag : Bool}
theorem X_idxS {s : ByteArray} [T : Ty P t .string sz zv by_ ag] {k : IntKind} {i : Nat} (h : ev e x = some (.string s)) (h1 : ev e y = some (.int k i)) (h2 : (i : Int) < s.size) (hr : WL P n all K rest (push d (.int .u8 (byteAt s i)) e) w) : WX P n all K rest d (.index t x y) ty e w :=
  X_pure (p_indexS T.und h h1 (by omega) h2) hr
end
theorem Named.lt {w : World} {b N : Nat} {f : Int → Int → Int} (h : Named w b N f) : b < w.heap.size := by obtain ⟨D, h1, _⟩ := h; exact h1.lt
theorem symbols_cv {w : World} {c : Circ} {h js : Hd} (H : CirAt w c h js) (hs : c.Sane) : CV Tryd.prog 100 [.agg (ccells c h).toArray] w fun v w' => v = nu (goSym c c.symbols 0 fun _ _ => 0) ∧ Chg w w' none_ := by
  have hN : Blk (w.alloc (.cells (ccells c h).toArray 29)) w.heap.size 29 (ccells c h) := Blk.new w _ _
  have hC := Chg.alloc w (.cells (ccells c h).toArray 29) none_
  refine enter 74 [2] Tryd.func100 rfl rfl rfl (by decide) rfl ?_
  repeat' (first
|(apply WC_seqK;intro K hK)
|(apply hK;clear hK)
|(apply WC_block)
|(apply WC_region)
|(apply WL_nil)
|(apply thenQ_normal)
|(apply WL_on0;eq_refl)
|(apply X_pv;eq_refl;first|exact trivial|omega)
|(apply X_field;eq_refl)
|(apply X_loadR;eq_refl;(first|assumption|(apply Blk.alloc;assumption)|apply Blk.new|apply Blk.newA|(apply Blk.alloc;first|apply Blk.newA|(apply Blk.alloc;first|assumption|apply Blk.newA)));eq_refl)
|(apply X_len;eq_refl)
|(apply X_box;eq_refl)
|(apply X_makeMap))
  refine WC_loop (fun s : Nat × (Int → Int → Int) => [(1, .pointer (some ⟨w.heap.size, 0, none⟩)), (3, .map (some (w.heap.size + 1))), (9, .slice (h 9).1 c.symbols.length (h 9).2), (10, nu c.symbols.length), (11, nu s.1)])
    (fun s w1 => Chg w w1 none_ ∧ Blk w1 w.heap.size 29 (ccells c h) ∧ Named w1 (w.heap.size + 1) s.1 s.2 ∧ s.1 ≤ c.symbols.length ∧ (∀ p q, 0 ≤ s.2 p q ∧ s.2 p q ≤ s.1) ∧ goSym c (c.symbols.drop s.1) s.1 s.2 = goSym c c.symbols 0 fun _ _ => 0) (fun s => c.symbols.length - s.1) (0, fun _ _ => 0) ⟨rfl, ?_, rfl, rfl, rfl, trivial⟩ ?_ ?_
  · have e : (w.alloc (.cells (ccells c h).toArray 29)).heap.size = w.heap.size + 1 := by simp
    show some (Value.map (some (w.alloc (.cells (ccells c h).toArray 29)).heap.size)) = _
    rw [e]
  · have e : (w.alloc (.cells (ccells c h).toArray 29)).heap.size = w.heap.size + 1 := by simp
    refine ⟨hC.al _, hN.alloc _, ?_, Nat.zero_le _, fun _ _ => ⟨Int.le_refl _, Int.le_refl _⟩, rfl⟩
    have := Named.made (w.alloc (.cells (ccells c h).toArray 29))
    rwa [e] at this
  rintro ⟨k, f⟩ w1 ⟨hC1, hN1, hM1, hk, hf, hgo⟩
  simp only at hM1 hk hf hgo
  rcases Nat.lt_or_ge k c.symbols.length with hlt | hge
  · obtain ⟨p, hp, hc⟩ := (H.chg hC1).symbols k hlt
    rw [hp]
    have hbad := fun hb => goSym_bad (c := c) (f := f) hlt hb
    have hokk := fun hb => goSym_ok (c := c) (f := f) hlt hb
    have hkind := hs.kinds _ (List.getElem_mem hlt)
    have hats := hs.ats _ (List.getElem_mem hlt)
    have hnm := hs.names _ (List.getElem_mem hlt)
    generalize hx : c.symbols[k] = s at *
    repeat' (first
|(apply X_loadAP (scells s);eq_refl;eq_refl;exact hc)
|(apply WC_seqK;intro K hK)
|(apply hK;clear hK)
|(apply WC_block)
|(apply WC_region)
|(apply WL_nil)
|(apply thenQ_normal)
|(apply WC_skip)
|(apply WC_if_true;eq_refl)
|(apply WL_on0;eq_refl)
|(apply X_pv;eq_refl;first|exact trivial|omega)
|(apply X_cmpT;eq_refl;eq_refl;omega)
|(apply X_indexP;eq_refl;eq_refl;omega;omega)
|(apply X_alloc))
    refine X_doesU (does_storeA (vs := scells s) (o := 0) (b := w1.heap.size) (by eq_refl) (by eq_refl) (Blk.newA w1 _ _) rfl (by exact Nat.le_refl 3) (by simp [scells, Value.oneCell'])) ?_
    have hcc : Chg w1 ((w1.alloc (.cells #[.int .u8 0, nu 0, .string ⟨#[]⟩] 130)).setRow w1.heap.size (scells s).toArray) none_ := (Chg.alloc w1 _ none_).trans (Chg.setRow _ w1.heap.size _ (S := fun k => k = w1.heap.size) rfl) fun k hk h => by omega
    refine WL_turn (fun w2 => Chg w w2 none_ ∧ Blk w2 w.heap.size 29 (ccells c h) ∧ Named w2 (w.heap.size + 1) k f ∧ Blk w2 w1.heap.size 130 (scells s)) ⟨hC1.trans hcc fun _ _ h => h, hN1.chg hcc id, hM1.chg hcc id, (Blk.newA w1 _ 130).set (scells s)⟩ ?_
    rintro w2 ⟨hC2, hN2, hM2, hS2⟩
    repeat' (first
|(apply WC_seqK;intro K hK)
|(apply hK;clear hK)
|(apply WL_nil)
|(apply thenQ_normal))
    refine WC_draws [(0, true), (1, true), (2, true), (3, true), (4, true), (5, true), (6, true), (7, true), (8, true), (9, false), (10, true), (11, true), (12, true), (13, true), (14, true), (15, true), (16, true), (17, true), (18, true), (19, true), (20, true), (21, true), (22, true), (23, true), (24, true), (25, true), (26, true), (27, true), (28, true), (29, true), (30, true), (31, true), (32, true)] (fun W => Blk W w.heap.size 29 (ccells c h) ∧ Named W (w.heap.size + 1) k f ∧ Blk W w1.heap.size 130 (scells s)) mixed (by kernel_rfl) (by kernel_rfl) ?_
    have hS : Blk w2.drew w.heap.size 29 (ccells c h) ∧ Named w2.drew (w.heap.size + 1) k f ∧ Blk w2.drew w1.heap.size 130 (scells s) := ⟨hN2, hM2.chg (Chg.drew _ none_) id, hS2⟩
    have hk64 : fit64 s.at_ := hats
    have hk8 : fit8 s.kind := hkind
    repeat' (first
|(apply O_fn;eq_refl;exact many_cv (c := c) (h := h);rintro _ w3 ⟨rfl, hC3⟩;have hS3 : Blk w3 w.heap.size 29 (ccells c h) ∧ Named w3 (w.heap.size + 1) k f ∧ Blk w3 w1.heap.size 130 (scells s) := ⟨hS.1.chg hC3 id, hS.2.1.chg hC3 id, hS.2.2.chg hC3 id⟩;refine ⟨fun _ => hS3, ?_⟩)
|(apply O_eqS;eq_refl;eq_refl;assumption;all_goals intro _)
|(apply O_quiet;(intro w h;apply does_lookupN;eq_refl;eq_refl;exact h.2.1;assumption;assumption);assumption)
|(apply WC_seqK;intro K hK)
|(apply hK;clear hK)
|(apply WC_region)
|(apply WL_nil)
|(apply thenQ_normal)
|(apply thenQ_ret)
|(apply blockQ_ret)
|(apply WC_ret)
|(apply WC_skip)
|(apply WC_if_true;eq_refl)
|(apply WC_if_false;eq_refl)
|(apply ret1;eq_refl)
|(apply WS_nil)
|(apply WS_next;eq_refl)
|(apply WO_on0;eq_refl)
|(apply WO_onG;eq_refl;eq_refl;eq_refl;eq_refl)
|(apply WO_noG;eq_refl;eq_refl;eq_refl;eq_refl;(first|assumption|exact trivial))
|(apply O_pv;eq_refl;(first|exact trivial|omega);(first|assumption|exact trivial))
|(apply O_field;eq_refl;(first|assumption|exact trivial))
|(apply O_loadR;eq_refl;(first|(intro _ h;exact h)|(intro _ h;exact h.1)|(intro _ h;exact h.2)|(intro _ h;exact h.2.1)|(intro _ h;exact h.2.2)|(intro _ h;exact h.2.2.1)|(intro _ h;exact h.2.2.2));eq_refl;(first|assumption|exact trivial))
|(apply O_loadW;eq_refl;(first|(intro _ h;exact h)|(intro _ h;exact h.1)|(intro _ h;exact h.2)|(intro _ h;exact h.2.1)|(intro _ h;exact h.2.2)|(intro _ h;exact h.2.2.1)|(intro _ h;exact h.2.2.2));eq_refl;(first|assumption|exact trivial))
|(apply O_cmp;eq_refl;eq_refl;(first|assumption|exact trivial);all_goals intro _)
|(apply O_lenS;eq_refl;(first|assumption|exact trivial))
|(apply O_pure;apply build163_0_1 <;> eq_refl;(first|assumption|exact trivial))
|(apply WL_on0;eq_refl)
|(apply X_pv;eq_refl;first|exact trivial|omega)
|(apply X_field;eq_refl))
    any_goals (refine ⟨?_, ?_⟩; rotate_left; (first | exact hC2.dr | exact hC2.dr.trans hC3 fun _ _ h => h); rw [hbad (by unfold symBad; first | exact .inl (by assumption) | exact .inr (.inl (by assumption)) | exact .inr (.inr (.inl (by assumption))) | exact .inr (.inr (.inr (.inl (by omega)))) | exact .inr (.inr (.inr (.inr (.inl (by assumption))))))] at hgo; rw [← hgo])
    obtain ⟨hN3, hM3, hB3⟩ := hS3
    have hCw : Chg w w3 none_ := hC2.dr.trans hC3 fun _ _ h => h
    have hokk' : ¬ lowName s.name → _ := fun hl => hokk (by unfold symBad; rintro (g | g | g | g | g | g) <;> first | contradiction | omega)
    repeat' (first
|(apply hK;clear hK)
|(apply WC_block)
|(apply WL_nil)
|(apply thenQ_normal)
|(apply WL_on0;eq_refl)
|(apply X_pv;eq_refl;first|exact trivial|omega)
|(apply X_loadR;eq_refl;(first|assumption|(apply Blk.alloc;assumption)|apply Blk.new|apply Blk.newA|(apply Blk.alloc;first|apply Blk.newA|(apply Blk.alloc;first|assumption|apply Blk.newA)));eq_refl)
|(apply X_lenS;eq_refl))
    refine WC_loop (fun j : Nat => [(1, .pointer (some ⟨w.heap.size, 0, none⟩)), (3, .map (some (w.heap.size + 1))), (4, nu k), (5, .pointer (some ⟨w1.heap.size, 0, none⟩)), (9, .slice (some p) c.symbols.length (h 9).2), (10, nu c.symbols.length), (11, nu k), (52, nu s.name.size), (53, nu j)])
      (fun j w4 => w4 = w3 ∧ j ≤ s.name.size ∧ ∀ i, i < j → ¬ byteAt s.name i < 32) (fun j => s.name.size - j) 0 ⟨rfl, rfl, rfl, rfl, rfl, rfl, rfl, rfl, rfl, trivial⟩ ⟨rfl, Nat.zero_le _, fun i hi => by omega⟩ ?_
    rintro j w4 ⟨rfl, hj, hall⟩
    rcases Nat.lt_or_ge j s.name.size with hjl | hjg
    · repeat' (first
|(apply X_idxS;eq_refl;eq_refl;omega)
|(apply WC_seqK;intro K hK)
|(apply hK;clear hK)
|(apply WC_block)
|(apply WC_region)
|(apply WL_nil)
|(apply thenQ_normal)
|(apply thenQ_ret)
|(apply blockQ_ret)
|(apply blockQ_normal)
|(apply WC_ret)
|(apply WC_skip)
|(apply WC_if_true;eq_refl)
|(apply WC_if_false;eq_refl)
|(apply ret1;eq_refl)
|(apply WL_on0;eq_refl)
|(apply X_pv;eq_refl;first|exact trivial|omega)
|(apply X_field;eq_refl)
|(apply X_loadR;eq_refl;(first|assumption|(apply Blk.alloc;assumption)|apply Blk.new|apply Blk.newA|(apply Blk.alloc;first|apply Blk.newA|(apply Blk.alloc;first|assumption|apply Blk.newA)));eq_refl)
|(apply X_cmpT;eq_refl;eq_refl;omega)
|(apply X_cmp;eq_refl;eq_refl;all_goals intro _))
      · rw [hbad (by unfold symBad; exact .inr (.inr (.inr (.inr (.inr ⟨j, hjl, by assumption⟩)))))] at hgo
        exact ⟨by rw [← hgo], hCw⟩
      · exact ⟨j + 1, ⟨rfl, rfl, rfl, rfl, rfl, rfl, rfl, rfl, rfl, trivial⟩, ⟨rfl, hjl, fun i hi => by
          rcases Nat.lt_or_ge i j with hh | hh
          · exact hall i hh
          · obtain rfl : i = j := by omega
            assumption⟩, by omega⟩
    · have hl : ¬ lowName s.name := by rintro ⟨i, hi, hb⟩; exact hall i (by omega) hb
      rw [hokk' hl] at hgo
      repeat' (first
|(apply WC_seqK;intro K hK)
|(apply hK;clear hK)
|(clear hK;apply hK;clear hK)
|(apply WC_region)
|(apply WL_nil)
|(apply thenQ_normal)
|(apply thenQ_exit)
|(apply blockQ_hit)
|(apply WC_exit)
|(apply WC_if_false;eq_refl)
|(apply WL_on0;eq_refl)
|(apply X_cmpF;eq_refl;eq_refl;omega))
      refine WC_draws [(0, true), (1, true), (2, true), (3, true), (4, true), (5, true), (6, true), (7, true), (8, false), (9, true), (10, false)] (fun W => Blk W w1.heap.size 130 (scells s) ∧ ∃ N, Named W (w.heap.size + 1) N f) mixed (by kernel_rfl) (by kernel_rfl) ?_
      have hM' : Named w4.drew (w.heap.size + 1) k f := hM3.chg (Chg.drew _ none_) id
      have hk' := hs.lens.2.2.2.2.2.2.2.2.1
      obtain ⟨v0, st, w5, hd1, hc1, hm1, hst⟩ := entry_store hM' hk8 hk64 (by unfold maxLen; omega)
      have hfv := hf s.kind s.at_
      obtain ⟨w6, hd2, hc2, hm2⟩ := hst (f s.kind s.at_ + 1) (by unfold fit64; omega)
      have hS : Blk w4.drew w1.heap.size 130 (scells s) ∧ ∃ N, Named w4.drew (w.heap.size + 1) N f := ⟨hB3, k, hM'⟩
      have hne : w1.heap.size ≠ w.heap.size + 1 := by have := hM1.lt; omega
      have hS5 : Blk w5 w1.heap.size 130 (scells s) ∧ ∃ N, Named w5 (w.heap.size + 1) N f := ⟨hS.1.chg hc1 hne, k + 1, hm1⟩
      repeat' (first
|(apply O_quiet;(intro w h;obtain ⟨_, N, hh⟩ := h;apply does_lookupN;eq_refl;eq_refl;exact hh;assumption;assumption);assumption)
|(apply O_does;(apply hd1;eq_refl;eq_refl);(intro _;exact hS5))
|(apply O_doesU;(apply hd2;eq_refl;eq_refl;eq_refl);exact lo (by kernel_rfl))
|(apply hK;clear hK)
|(apply WC_region)
|(apply WL_nil)
|(apply thenQ_normal)
|(apply blockQ_normal)
|(apply WS_nil)
|(apply WS_next;eq_refl)
|(apply WO_on0;eq_refl)
|(apply O_pv;eq_refl;(first|exact trivial|omega);(first|assumption|exact trivial))
|(apply O_field;eq_refl;(first|assumption|exact trivial))
|(apply O_loadR;eq_refl;(first|(intro _ h;exact h)|(intro _ h;exact h.1)|(intro _ h;exact h.2)|(intro _ h;exact h.2.1)|(intro _ h;exact h.2.2)|(intro _ h;exact h.2.2.1)|(intro _ h;exact h.2.2.2));eq_refl;(first|assumption|exact trivial))
|(apply O_pure;apply build163_0_1 <;> eq_refl;(first|assumption|exact trivial))
|(apply WL_on0;eq_refl)
|(apply X_pv;eq_refl;first|exact trivial|omega))
      have hC6 : Chg w w6 none_ := hCw.dr.trans hc2 fun i hi hh => by omega
      refine ⟨(k + 1, fun p' q' => if p' = s.kind ∧ q' = s.at_ then f s.kind s.at_ + 1 else f p' q'), ⟨rfl, rfl, by first | rfl | (rw [hp]; rfl), rfl, rfl, trivial⟩, ⟨hC6, (hN3.chg (Chg.drew _ none_) id).chg hc2 (by omega), hm2, hlt, fun p' q' => ?_, hgo⟩, by simp only; omega⟩
      simp only
      have := hf p' q'
      split <;> omega
  · repeat' (first
|(apply WC_seqK;intro K hK)
|(apply hK;clear hK)
|(clear hK;apply hK;clear hK)
|(apply WC_region)
|(apply WL_nil)
|(apply thenQ_normal)
|(apply thenQ_exit)
|(apply blockQ_hit)
|(apply WC_ret)
|(apply WC_exit)
|(apply WC_if_false;eq_refl)
|(apply ret1;eq_refl)
|(apply WL_on0;eq_refl)
|(apply X_pv;eq_refl;first|exact trivial|omega)
|(apply X_cmpF;eq_refl;eq_refl;omega))
    rw [List.drop_eq_nil_of_le hge] at hgo
    exact ⟨by rw [← hgo]; rfl, hC1⟩
end SC
end Go.Proofs.YtclihihdgodloaaDoor
end
section
/- shape: look, Check, Order: the walks. -/
set_option linter.unusedVariables false
set_option linter.unusedSimpArgs false
namespace Go.Proofs.YtclihihdgodloaaDoor
namespace SC
open Go.Proofs
set_option maxRecDepth 100000
theorem CycOf.only {n : Nat} {B : Int → List Int} {r r' : Int} (h : CycOf n B r) (h' : CycOf n B r') : r = r' := by
  obtain ⟨out, ha, h⟩ := h
  obtain ⟨out', ha', h'⟩ := h'
  obtain rfl := ha.only ha'
  rcases h with ⟨h1, h2⟩ | ⟨h1, h2, h3, h4⟩
  · rcases h' with ⟨g1, g2⟩ | ⟨g1, g2, g3, g4⟩
    · omega
    · omega
  · rcases h' with ⟨g1, g2⟩ | ⟨g1, g2, g3, g4⟩
    · omega
    · rcases Int.lt_trichotomy r r' with hl | hl | hl
      · exact absurd h3 (g4 r h2 hl)
      · exact hl
      · exact absurd g3 (h4 r' g2 hl)
open Classical in
noncomputable def cycM (n : Nat) (B : Int → List Int) : Int := if h : ∃ r, CycOf n B r then h.choose else 0
theorem cycM_eq {n : Nat} {B : Int → List Int} {r : Int} (h : CycOf n B r) : cycM n B = r := by
  have hh : ∃ r, CycOf n B r := ⟨r, h⟩
  unfold cycM
  rw [dif_pos hh]
  exact hh.choose_spec.only h
def bytesI (s : ByteArray) : List Int := s.data.toList.map fun b => (b.toNat : Int)
theorem bytesI_len (s : ByteArray) : (bytesI s).length = s.size := by unfold bytesI ByteArray.size; rw [List.length_map, Array.length_toList]
def goCom : List ByteArray → Nat → Int
  | [], _ => -1
  | s :: r, i => if (10 : Int) ∈ bytesI s then (i : Int) else goCom r (i + 1)
theorem goCom_step {ls : List ByteArray} {k : Nat} (hk : k < ls.length) : goCom (ls.drop k) k = if (10 : Int) ∈ bytesI ls[k] then (k : Int) else goCom (ls.drop (k + 1)) (k + 1) := by
  rw [List.drop_eq_getElem_cons hk]
  rfl
def tabM (c : Circ) : Tab := (definesM c (T0 c)).2
noncomputable def lookM (c : Circ) : Int × Int :=
  if sizesM c ≠ 0 then (0, sizesM c)
  else if (definesM c (T0 c)).1.2 ≠ 0 then (definesM c (T0 c)).1
  else if (usesM c (tabM c)).2 ≠ 0 then usesM c (tabM c)
  else if 0 ≤ cycM c.ands.length (gateB (tabM c) c) then (cycM c.ands.length (gateB (tabM c) c), 34)
  else if 0 ≤ goSym c c.symbols 0 (fun _ _ => 0) then (goSym c c.symbols 0 (fun _ _ => 0), 35)
  else if 0 ≤ goCom c.comments 0 then (goCom c.comments 0, 36)
  else (0, 0)
theorem sizesM_ok {c : Circ} (h : sizesM c = 0) : 0 ≤ c.max ∧ c.max ≤ 16384 ∧ (∀ n ∈ c.lens, n ≤ 16384) ∧ sumW c.justice ≤ 16384 := by
  unfold sizesM at h
  split at h
  · cases h
  · split at h
    · cases h
    · rename_i h1 h2
      refine ⟨by omega, by omega, fun n hn => ?_, ?_⟩
      · exact Int.not_lt.1 fun hh => h2 (.inl ⟨n, hn, hh⟩)
      · exact Int.not_lt.1 fun hh => h2 (.inr hh)
theorem lookM_ok {c : Circ} (h : (lookM c).2 = 0) : lookM c = (0, 0) ∧ sizesM c = 0 ∧ (definesM c (T0 c)).1.2 = 0 ∧ (usesM c (tabM c)).2 = 0 ∧ cycM c.ands.length (gateB (tabM c) c) < 0 ∧ goSym c c.symbols 0 (fun _ _ => 0) < 0 ∧ goCom c.comments 0 < 0 := by
  unfold lookM at h ⊢
  split at h
  · rename_i hh; exact absurd h hh
  · rename_i h1
    rw [if_neg h1]
    split at h
    · rename_i hh; exact absurd h hh
    · rename_i h2
      rw [if_neg h2]
      split at h
      · rename_i hh; exact absurd h hh
      · rename_i h3
        rw [if_neg h3]
        split at h
        · simp at h
        · rename_i h4
          rw [if_neg h4]
          split at h
          · simp at h
          · rename_i h5
            rw [if_neg h5]
            split at h
            · simp at h
            · rename_i h6
              rw [if_neg h6]
              exact ⟨rfl, Classical.byContradiction h1, Classical.byContradiction h2, Classical.byContradiction h3, by omega, by omega, by omega⟩
theorem made_two (m : Nat) : (madeCells #[nu 0, nu 0] (m * 2)).toList = (List.replicate m ((0 : Int), (0 : Int))).flatMap mcells := by
  have e : ∀ m : Nat, (List.replicate m ((0 : Int), (0 : Int))).flatMap mcells = List.replicate (m * 2) (nu 0) := by
    intro m
    induction m with
    | zero => rfl
    | succ m ih =>
      rw [List.replicate_succ, List.flatMap_cons, ih]
      rw [show (m + 1) * 2 = m * 2 + 1 + 1 by omega, List.replicate_succ, List.replicate_succ]
      rfl
  rw [e]
  apply List.ext_getElem?
  intro j
  simp only [madeCells]
  by_cases hj : j < m * 2
  · have h2 : j % 2 = 0 ∨ j % 2 = 1 := by omega
    rcases h2 with h2 | h2 <;> simp [hj, h2]
  · simp [hj]
theorem T0_len {c : Circ} (h : 0 ≤ c.max) : ((T0 c).length : Int) = c.max + 1 := by unfold T0; rw [List.length_replicate]; omega
section
variable {n : Nat} {all rest : List Oper} {K : Env → World → Prop} {e : Env} {w : World} {d : Option Tmp} {ty : TypeId} {P : Program} {x y : Operand} {t t0 : TypeId} {td : TypeDesc} {sz sz1 by_ by1 : Nat} {zv z1 v : Value} {ag ag1 : Bool} {S : World → Prop} {r : List (Nat × Bool)} {i : Nat}
theorem O_make {m : Nat} {k : IntKind} [U : Ty P t (.slice t0) sz1 z1 by1 ag1] [T : Ty P t0 td sz zv by_ ag] (h : ev e x = some (.int k (m : Int))) (hn : (by_ : Int) * m ≤ 281474976710656) (h63 : (m : Int) ≤ 9223372036854775807)
    (hS : loose .any all.toArray i = false → S (w.alloc (.cells (madeCells zv.cells (m * sz)) t0)))
    (hr : WS P n all S K r (push d (.slice (some ⟨w.heap.size, 0, none⟩) m m) e) (w.alloc (.cells (madeCells zv.cells (m * sz)) t0))) : OX P n all S K i false r d (.makeSlice t x x) ty e w := O_does (does_makeSlice U.und T h hn h63) hS hr
theorem O_box (k : Nat) (hk : w.heap.size = k) (h : ev e x = some v) (hS : loose .any all.toArray i = false → S (w.alloc (.cells v.cells t))) (hr : WS P n all S K r (push d (.pointer (some ⟨k, 0, none⟩)) e) (w.alloc (.cells v.cells t))) : OX P n all S K i false r d (.box t x) ty e w := by subst hk; exact O_does (does_box h) hS hr
theorem X_toBytes {s : ByteArray} {sz2 by2 : Nat} {z2 : Value} {ag2 : Bool} {t2 : TypeId} [U : Ty P t .string sz z1 by_ ag] [V : Ty P t0 (.slice t2) sz1 zv by1 ag1] [W : Ty P t2 (.int .u8) sz2 z2 by2 ag2] (h : ev e x = some (.string s))
    (hr : ∀ w' cp, Chg w w' none_ → RowA w' ucell 1 (some ⟨w.heap.size, 0, none⟩) (bytesI s) → WL P n all K rest (push d (.slice (some ⟨w.heap.size, 0, none⟩) (bytesI s).length cp) e) w') : WX P n all K rest d (.convert t t0 x) ty e w := by
  have hrun := run_bytes_of_string (P := P) w t t0 t2 s U.und V.und W.und
  have hd : ∀ W', (convert t t0 (.string s)).run P w = .ok (.slice (some ⟨w.heap.size, 0, none⟩) s.size (grownCap w s.size 0 t2)) W' → Does P (.convert t t0 x) ty e w (.slice (some ⟨w.heap.size, 0, none⟩) (bytesI s).length (grownCap w s.size 0 t2)) W' := fun W' hW ρ dst pos af g hρ => by
    simp [execOp, hρ _ _ h, hW, bytesI_len]
  have hcell : ∀ k (hk : k < s.data.size), (bytesRow s (grownCap w s.size 0 t2))[k]? = some (.int .u8 (s.data[k].toNat : Int)) := fun k hk => by
    unfold bytesRow
    rw [Array.getElem?_append_left (by simpa using hk), Array.getElem?_map, Array.getElem?_eq_getElem hk]
    rfl
  generalize bytesRow s (grownCap w s.size 0 t2) = C at *
  refine X_does (hd _ hrun) (hr _ (grownCap w s.size 0 t2) ?_ ?_)
  · exact (Chg.drew w none_).al _
  · intro k hk
    refine ⟨_, rfl, fun j u hj => ?_⟩
    have hks : k < s.data.size := by rwa [bytesI_len] at hk
    have hj0 : j = 0 := by
      have := (List.getElem?_eq_some_iff.1 hj).1
      simpa [ucell] using this
    subst hj0
    simp only [ucell, List.getElem?_cons_zero, Option.some.injEq] at hj
    subst hj
    have e : ((k : Int).toNat * 1) = k := by omega
    rw [e, add_at, add_at, Nat.zero_add, show k + 0 = k from rfl, cell_of_row _ w.heap.size k C t2 _ (heap_alloc_new w.drew _), hcell k hks]
    simp [bytesI]
end
attribute [local irreducible] WC WL WX WS WO OX Does DoesU Enters CV Pure thenQ blockQ retQ Wants
/-- What look leaves. -/
def Looked (c : Circ) (h js : Hd) (w : World) (v : Value) (w' : World) : Prop :=
  Chg w w' none_ ∧ (((lookM c).2 ≠ 0 ∧ v = .tuple #[.pointer none, nu (lookM c).1, nu (lookM c).2]) ∨ (∃ q b, (lookM c).2 = 0 ∧ v = .tuple #[pt q, nu 0, nu 0] ∧ Lk w' q b c h js (tabM c) ∧ LkOk c (tabM c) ∧ ∃ out, All c.ands.length (gateB (tabM c) c) out ∧ out.length = c.ands.length))
theorem look_cv {w : World} {c : Circ} {h js : Hd} (H : CirAt w c h js) (hs : c.Sane) : CV Tryd.prog 77 [.agg (ccells c h).toArray] w (Looked c h js w) := by
  have hN : Blk (w.alloc (.cells (ccells c h).toArray 29)) w.heap.size 29 (ccells c h) := Blk.new w _ _
  have hC := Chg.alloc w (.cells (ccells c h).toArray 29) none_
  have H0 := H.chg hC
  have hszc := sizes_cv H0 hs
  refine enter 69 [2, 3, 4] Tryd.func77 rfl rfl rfl (by decide) rfl ?_
  repeat' (first
|(apply X_fn;eq_refl;exact hszc;rintro _ w1 ⟨rfl, hC1⟩)
|(apply WC_seqK;intro K hK)
|(apply hK;clear hK)
|(apply WC_region)
|(apply WL_nil)
|(apply thenQ_normal)
|(apply thenQ_ret)
|(apply WC_ret)
|(apply WC_skip)
|(apply WC_if_true;eq_refl)
|(apply WC_if_false;eq_refl)
|(apply ret3;eq_refl;eq_refl;eq_refl)
|(apply WL_on0;eq_refl)
|(apply X_pv;eq_refl;first|exact trivial|omega)
|(apply X_loadW;eq_refl;(first|assumption|(apply Blk.alloc;assumption)|apply Blk.new|apply Blk.newA|(apply Blk.alloc;first|apply Blk.newA|(apply Blk.alloc;first|assumption|apply Blk.newA)));eq_refl)
|(apply X_cmp;eq_refl;eq_refl;all_goals intro _)
|(apply X_box;eq_refl))
  · exact ⟨hC.trans hC1 fun _ _ h => h, .inl (by unfold lookM; rw [if_pos (by assumption)]; exact ⟨by assumption, rfl⟩)⟩
  have hsz : sizesM c = 0 := by omega
  obtain ⟨hm0, hm1, hln, hsum⟩ := sizesM_ok hsz
  have hC1' : Chg w w1 none_ := hC.trans hC1 fun _ _ h => h
  have hN1 := hN.chg hC1 id
  obtain ⟨m, hm⟩ : ∃ m : Nat, c.max + 1 = m := ⟨(c.max + 1).toNat, by omega⟩
  refine WC_draws [(0, true), (1, true), (2, true), (3, true), (4, false), (5, true), (6, false), (7, true)] (fun W => Blk W w.heap.size 29 (ccells c h)) mixed (by kernel_rfl) (by kernel_rfl) ?_
  have hS : Blk w1.drew w.heap.size 29 (ccells c h) := hN1
  repeat' (first
|(apply WS_next;eq_refl)
|(apply WO_on0;eq_refl)
|(apply O_pv;eq_refl;(first|exact trivial|omega);(first|assumption|exact trivial))
|(apply O_field;eq_refl;(first|assumption|exact trivial))
|(apply O_loadR;eq_refl;(first|(intro _ h;exact h)|(intro _ h;exact h.1)|(intro _ h;exact h.2)|(intro _ h;exact h.2.1)|(intro _ h;exact h.2.2)|(intro _ h;exact h.2.2.1)|(intro _ h;exact h.2.2.2));eq_refl;(first|assumption|exact trivial))
|(apply O_loadW;eq_refl;(first|(intro _ h;exact h)|(intro _ h;exact h.1)|(intro _ h;exact h.2)|(intro _ h;exact h.2.1)|(intro _ h;exact h.2.2)|(intro _ h;exact h.2.2.1)|(intro _ h;exact h.2.2.2));eq_refl;(first|assumption|exact trivial)))
  rw [hm]
  have hS2 : ∀ o, Blk (w1.drew.alloc o) w.heap.size 29 (ccells c h) := fun o => hS.alloc o
  have hS3 : ∀ o o', Blk ((w1.drew.alloc o).alloc o') w.heap.size 29 (ccells c h) := fun o o' => (hS.alloc o).alloc o'
  repeat' (first
|(apply O_make;eq_refl;omega;omega;intro _;exact hS2 _)
|(apply O_box (w1.heap.size + 1);(simp);eq_refl;intro _;exact hS3 _ _)
|(apply O_pure;apply build139_0_1 <;> eq_refl;exact hS2 _)
|(apply O_pv;eq_refl;exact trivial;exact hS3 _ _)
|(apply WC_seqK;intro K hK)
|(apply hK;clear hK)
|(apply WC_region)
|(apply thenQ_normal)
|(apply WS_nil)
|(apply WS_next;eq_refl)
|(apply WO_on0;eq_refl)
|(apply WL_on0;eq_refl)
|(apply X_pv;eq_refl;first|exact trivial|omega))
  have hl0 := T0_len hm0
  have hTl : (T0 c).length = m := by omega
  have hT0 : T0 c = List.replicate m (0, 0) := by unfold T0; rw [show (c.max + 1).toNat = m by omega]
  have hwz : w1.drew.heap.size = w1.heap.size := rfl
  have hLk : Lk ((w1.drew.alloc (.cells (madeCells (Value.agg #[nu 0, nu 0]).cells (m * 2)) 158)).alloc (.cells (ccells c h ++ [Value.slice (some ⟨w1.heap.size, 0, none⟩) m m]).toArray 139)) (w1.heap.size + 1) w1.heap.size c h js (T0 c) := by
    have es : (w1.drew.alloc (.cells (madeCells (Value.agg #[nu 0, nu 0]).cells (m * 2)) 158)).heap.size = w1.heap.size + 1 := by simp
    refine ⟨?_, ?_, fun w2 h2 => ?_⟩
    · rw [hTl]
      have := Blk.new (w1.drew.alloc (.cells (madeCells (Value.agg #[nu 0, nu 0]).cells (m * 2)) 158)) (ccells c h ++ [Value.slice (some ⟨w1.heap.size, 0, none⟩) m m]) 139
      rwa [es] at this
    · have := Blk.newA w1.drew (madeCells (Value.agg #[nu 0, nu 0]).cells (m * 2)) 158
      rw [show (Value.agg #[nu 0, nu 0]).cells = #[nu 0, nu 0] from rfl, made_two, ← hT0] at this
      exact this.alloc _
    · refine H.chg ((((hC1'.dr.al _).al _).trans h2 fun k hk hh => ?_))
      have := hC1'.size
      omega
  have hLO : LkOk c (T0 c) := ⟨hl0, hm0, hm1⟩
  have hC2 : Chg w ((w1.drew.alloc (.cells (madeCells (Value.agg #[nu 0, nu 0]).cells (m * 2)) 158)).alloc (.cells (ccells c h ++ [Value.slice (some ⟨w1.heap.size, 0, none⟩) m m]).toArray 139)) none_ := (hC1'.dr.al _).al _
  have hN2 := hS3 (.cells (madeCells (Value.agg #[nu 0, nu 0]).cells (m * 2)) 158) (.cells (ccells c h ++ [Value.slice (some ⟨w1.heap.size, 0, none⟩) m m]).toArray 139)
  refine WX_turn (fun w2 => Lk w2 (w1.heap.size + 1) w1.heap.size c h js (T0 c) ∧ Chg w w2 none_ ∧ Blk w2 w.heap.size 29 (ccells c h) ∧ w1.heap.size < w2.heap.size) ⟨hLk, hC2, hN2, by simp; omega⟩ ?_
  rintro w2 ⟨hLk2, hC2, hN2, hz2⟩
  clear hLk hS2 hS3
  have hdf := defines_cv hLk2 hLO hs
  have hC1z := hC1'.size
  repeat' (first
|(apply X_fn;eq_refl;exact hdf;rintro _ w3 ⟨rfl, hLk3, hLO3, hC3⟩)
|(apply WC_seqK;intro K hK)
|(apply hK;clear hK)
|(apply WC_region)
|(apply WL_nil)
|(apply thenQ_normal)
|(apply thenQ_ret)
|(apply WC_ret)
|(apply WC_skip)
|(apply WC_if_true;eq_refl)
|(apply WC_if_false;eq_refl)
|(apply ret3;eq_refl;eq_refl;eq_refl)
|(apply WL_on0;eq_refl)
|(apply X_pv;eq_refl;first|exact trivial|omega)
|(apply X_cmp;eq_refl;eq_refl;all_goals intro _))
  · have hd : (definesM c (T0 c)).1.2 ≠ 0 := by assumption
    have e : lookM c = (definesM c (T0 c)).1 := by unfold lookM; rw [if_neg (fun hh => hh hsz), if_pos hd]
    exact ⟨hC2.trans hC3 fun k hk hh => by unfold tabOf at hh; omega, .inl (by rw [e]; exact ⟨hd, rfl⟩)⟩
  have hd : (definesM c (T0 c)).1.2 = 0 := by omega
  have hC3' : Chg w w3 none_ := hC2.trans hC3 fun k hk hh => by unfold tabOf at hh; omega
  have hN3 : Blk w3 w.heap.size 29 (ccells c h) := hN2.chg hC3 fun hh => by
    unfold tabOf at hh
    have := hN1.lt
    have := hC.size
    have e1 := hLk2.tab
    have e2 := hN2
    rw [hh] at e2
    unfold Blk at e1 e2
    rw [e1] at e2
    simp at e2
  have hTO := definesM_spec hm0 hd
  have hus := uses_cv hLk3 hLO3 hs
  rw [show (definesM c (T0 c)).2 = tabM c from rfl] at hLk3 hLO3 hTO hus
  repeat' (first
|(apply X_fn;eq_refl;exact hus;rintro _ w4 ⟨rfl, hC4⟩)
|(apply WC_seqK;intro K hK)
|(apply hK;clear hK)
|(apply WC_region)
|(apply WL_nil)
|(apply thenQ_normal)
|(apply thenQ_ret)
|(apply WC_ret)
|(apply WC_skip)
|(apply WC_if_true;eq_refl)
|(apply WC_if_false;eq_refl)
|(apply ret3;eq_refl;eq_refl;eq_refl)
|(apply WL_on0;eq_refl)
|(apply X_pv;eq_refl;first|exact trivial|omega)
|(apply X_cmp;eq_refl;eq_refl;all_goals intro _))
  · have hu : (usesM c (tabM c)).2 ≠ 0 := by assumption
    have e : lookM c = usesM c (tabM c) := by unfold lookM; rw [if_neg (fun hh => hh hsz), if_neg (fun hh => hh hd), if_pos hu]
    exact ⟨hC3'.trans hC4 fun _ _ h => h, .inl (by rw [e]; exact ⟨hu, rfl⟩)⟩
  have hu : (usesM c (tabM c)).2 = 0 := by omega
  have hUA := usesM_spec.1 hu
  have hn : c.ands.length ≤ 16384 := by have := hln (c.ands.length : Int) (by simp [Circ.lens]); omega
  have hC4' : Chg w w4 none_ := hC3'.trans hC4 fun _ _ h => h
  have hcy := cycle_cv (hLk3.chg hC4) hLO3 hn (fun x hx => ⟨(hUA.ands x hx).1.1, (hUA.ands x hx).1.2.1, (hUA.ands x hx).2.1, (hUA.ands x hx).2.2.1⟩) (hTO.below hUA)
  repeat' (first
|(apply X_fn;eq_refl;exact hcy;rintro _ w5 ⟨r, rfl, hcr, hC5⟩)
|(apply WC_seqK;intro K hK)
|(apply hK;clear hK)
|(apply WC_region)
|(apply WL_nil)
|(apply thenQ_normal)
|(apply thenQ_ret)
|(apply WC_ret)
|(apply WC_skip)
|(apply WC_if_true;eq_refl)
|(apply WC_if_false;eq_refl)
|(apply ret3;eq_refl;eq_refl;eq_refl)
|(apply WL_on0;eq_refl)
|(apply X_pv;eq_refl;first|exact trivial|omega)
|(apply X_cmp;eq_refl;eq_refl;all_goals intro _))
  · have hc := cycM_eq hcr
    have e : lookM c = (r, 34) := by unfold lookM; rw [if_neg (fun hh => hh hsz), if_neg (fun hh => hh hd), if_neg (fun hh => hh hu), hc, if_pos (by assumption)]
    exact ⟨hC4'.trans hC5 fun _ _ h => h, .inl (by rw [e]; exact ⟨by simp, rfl⟩)⟩
  have hc := cycM_eq hcr
  have hr0 : ¬ 0 ≤ r := by omega
  have hC5' : Chg w w5 none_ := hC4'.trans hC5 fun _ _ h => h
  have hN5 := (hN3.chg hC4 id).chg hC5 id
  have hsy := symbols_cv (H.chg hC5') hs
  repeat' (first
|(apply X_fn;eq_refl;exact hsy;rintro _ w6 ⟨rfl, hC6⟩)
|(apply WC_seqK;intro K hK)
|(apply hK;clear hK)
|(apply WC_region)
|(apply WL_nil)
|(apply thenQ_normal)
|(apply thenQ_ret)
|(apply WC_ret)
|(apply WC_skip)
|(apply WC_if_true;eq_refl)
|(apply WC_if_false;eq_refl)
|(apply ret3;eq_refl;eq_refl;eq_refl)
|(apply WL_on0;eq_refl)
|(apply X_pv;eq_refl;first|exact trivial|omega)
|(apply X_field;eq_refl)
|(apply X_loadW;eq_refl;(first|assumption|(apply Blk.alloc;assumption)|apply Blk.new|apply Blk.newA|(apply Blk.alloc;first|apply Blk.newA|(apply Blk.alloc;first|assumption|apply Blk.newA)));eq_refl)
|(apply X_cmp;eq_refl;eq_refl;all_goals intro _))
  · have e : lookM c = (goSym c c.symbols 0 fun _ _ => 0, 35) := by unfold lookM; rw [if_neg (fun hh => hh hsz), if_neg (fun hh => hh hd), if_neg (fun hh => hh hu), hc, if_neg hr0, if_pos (by assumption)]
    exact ⟨hC5'.trans hC6 fun _ _ h => h, .inl (by rw [e]; exact ⟨by simp, rfl⟩)⟩
  have hsy0 : ¬ 0 ≤ goSym c c.symbols 0 fun _ _ => 0 := by omega
  have hC6' : Chg w w6 none_ := hC5'.trans hC6 fun _ _ h => h
  have hN6 := hN5.chg hC6 id
  have hLk6 := ((hLk3.chg hC4).chg hC5).chg hC6
  have hcl := hs.lens
  have htx := hs.texts
  repeat' (first
|(apply hK;clear hK)
|(apply WC_block)
|(apply WL_nil)
|(apply thenQ_normal)
|(apply WL_on0;eq_refl)
|(apply X_pv;eq_refl;first|exact trivial|omega)
|(apply X_loadR;eq_refl;(first|assumption|(apply Blk.alloc;assumption)|apply Blk.new|apply Blk.newA|(apply Blk.alloc;first|apply Blk.newA|(apply Blk.alloc;first|assumption|apply Blk.newA)));eq_refl)
|(apply X_len;eq_refl))
  refine WC_loop (fun i : Nat => [(6, pt (w1.heap.size + 1)), (56, .slice (h 10).1 c.comments.length (h 10).2), (57, nu c.comments.length), (58, nu i)])
    (fun i w' => Chg w w' none_ ∧ Lk w' (w1.heap.size + 1) w1.heap.size c h js (tabM c) ∧ i ≤ c.comments.length ∧ goCom (c.comments.drop i) i = goCom c.comments 0) (fun i => c.comments.length - i) 0 ⟨rfl, rfl, rfl, rfl, trivial⟩ ⟨hC6', hLk6, Nat.zero_le _, rfl⟩ ?_
  clear hC6' hLk6 hN6 hsy hcy hus hN5 hC5' hC4' hC3' hLk2 hLk3 hN3 hN2
  rintro i w7 ⟨hC7, hLk7, hi, hgo⟩
  rcases Nat.lt_or_ge i c.comments.length with hlt | hge
  · obtain ⟨p, hp, hpc⟩ := (H.chg hC7).comments.one hlt (v := .string c.comments[i]) rfl
    rw [goCom_step hlt] at hgo
    have htl := htx _ (List.getElem_mem hlt)
    rw [hp]
    generalize hx : c.comments[i] = s at *
    have hcl10 := hcl.2.2.2.2.2.2.2.2.2
    repeat' (first
|(apply X_toBytes;eq_refl;intro w8 cp hC8 hR8)
|(apply WC_seqK;intro K hK)
|(apply hK;clear hK)
|(apply WC_block)
|(apply WC_region)
|(apply WL_nil)
|(apply thenQ_normal)
|(apply WC_skip)
|(apply WC_if_true;eq_refl)
|(apply WL_on0;eq_refl)
|(apply X_pv;eq_refl;first|exact trivial|omega)
|(apply X_loadC;eq_refl;(first|assumption|(apply cel;first|assumption|(apply cel;assumption))))
|(apply X_cmpT;eq_refl;eq_refl;omega)
|(apply X_indexP;eq_refl;eq_refl;omega;omega))
    have hct := containsB_cv (x := 10) (c := cp) hR8 (by rw [bytesI_len]; exact htl)
    repeat' (first
|(apply X_fn;eq_refl;exact hct;rintro v9 w9 ⟨hv9, rfl⟩;rcases hv9 with ⟨rfl, hv9⟩|⟨rfl, hv9⟩)
|(apply WC_seqK;intro K hK)
|(apply hK;clear hK)
|(apply WC_region)
|(apply WL_nil)
|(apply thenQ_normal)
|(apply thenQ_ret)
|(apply blockQ_ret)
|(apply blockQ_normal)
|(apply WC_ret)
|(apply WC_skip)
|(apply WC_if_true;eq_refl)
|(apply WC_if_false;eq_refl)
|(apply ret3;eq_refl;eq_refl;eq_refl)
|(apply WL_on0;eq_refl)
|(apply X_pv;eq_refl;first|exact trivial|omega))
    · rw [if_pos hv9] at hgo
      have e : lookM c = ((i : Int), 36) := by unfold lookM; rw [if_neg (fun hh => hh hsz), if_neg (fun hh => hh hd), if_neg (fun hh => hh hu), hc, if_neg hr0, if_neg hsy0, ← hgo, if_pos (by omega)]
      exact ⟨hC7.trans hC8 fun _ _ h => h, .inl (by rw [e]; exact ⟨by simp, rfl⟩)⟩
    · rw [if_neg hv9] at hgo
      exact ⟨i + 1, ⟨rfl, by first | rfl | (rw [hp]; rfl), rfl, rfl, trivial⟩, ⟨hC7.trans hC8 fun _ _ h => h, hLk7.chg hC8, hlt, hgo⟩, by omega⟩
  · rw [List.drop_eq_nil_of_le hge] at hgo
    have e : lookM c = (0, 0) := by unfold lookM; rw [if_neg (fun hh => hh hsz), if_neg (fun hh => hh hd), if_neg (fun hh => hh hu), hc, if_neg hr0, if_neg hsy0, ← hgo, if_neg (by simp [goCom])]
    repeat' (first
|(apply WC_seqK;intro K hK)
|(apply hK;clear hK)
|(clear hK;apply hK;clear hK)
|(apply WC_region)
|(apply WL_nil)
|(apply thenQ_normal)
|(apply thenQ_exit)
|(apply blockQ_hit)
|(apply WC_ret)
|(apply WC_exit)
|(apply WC_if_false;eq_refl)
|(apply ret3;eq_refl;eq_refl;eq_refl)
|(apply WL_on0;eq_refl)
|(apply X_pv;eq_refl;first|exact trivial|omega)
|(apply X_cmpF;eq_refl;eq_refl;omega))
    obtain ⟨out, ha, hcr⟩ := hcr
    refine ⟨hC7, .inr ⟨_, _, by rw [e], rfl, hLk7, hLO3, out, ha, ?_⟩⟩
    rcases hcr with ⟨h1, _⟩ | ⟨_, h2, _⟩
    · exact h1
    · unfold rg at h2; omega
theorem Order_cv {w : World} {c : Circ} {h js : Hd} (H : CirAt w c h js) (hs : c.Sane) : CV Tryd.prog 75 [.agg (ccells c h).toArray] w fun v w' => Chg w w' none_ ∧
    (((lookM c).2 ≠ 0 ∧ v = .tuple #[.slice none 0 0, nu (lookM c).2]) ∨ ((lookM c).2 = 0 ∧ ∃ out u, v = .tuple #[u, nu 0] ∧ All c.ands.length (gateB (tabM c) c) out ∧ out.length = c.ands.length ∧ w'.ownsRow w.heap.size 3 1 u out.length (out.map nu))) := by
  have hC := Chg.alloc w (.cells (ccells c h).toArray 29) none_
  have hlk := look_cv (H.chg hC) hs
  refine enter 18 [2, 3] Tryd.func75 rfl rfl rfl (by decide) rfl ?_
  repeat' (first
|(apply X_fn;eq_refl;exact hlk;rintro _ w1 ⟨hC1, hv⟩;rcases hv with ⟨he, rfl⟩|⟨q, b, he, rfl, hLk, hLO, out0, ha0, hl0⟩)
|(apply WC_seqK;intro K hK)
|(apply hK;clear hK)
|(apply WC_region)
|(apply WL_nil)
|(apply thenQ_normal)
|(apply thenQ_ret)
|(apply WC_ret)
|(apply WC_skip)
|(apply WC_if_true;eq_refl)
|(apply WC_if_false;eq_refl)
|(apply ret2;eq_refl;eq_refl)
|(apply WL_on0;eq_refl)
|(apply X_pv;eq_refl;first|exact trivial|omega)
|(apply X_loadW;eq_refl;(first|assumption|(apply Blk.alloc;assumption)|apply Blk.new|apply Blk.newA|(apply Blk.alloc;first|apply Blk.newA|(apply Blk.alloc;first|assumption|apply Blk.newA)));eq_refl)
|(apply X_cmpT;eq_refl;eq_refl;omega)
|(apply X_cmpF;eq_refl;eq_refl;omega)
|(apply X_box;eq_refl))
  · exact ⟨hC.trans hC1 fun _ _ h => h, .inl ⟨he, rfl⟩⟩
  · obtain ⟨_, hsz, hd, hu, _⟩ := lookM_ok he
    obtain ⟨hm0, hm1, hln, hsum⟩ := sizesM_ok hsz
    have hTO : TabOk c (tabM c) := definesM_spec hm0 hd
    have hUA := usesM_spec.1 hu
    have hn : c.ands.length ≤ 16384 := by have := hln (c.ands.length : Int) (by simp [Circ.lens]); omega
    have hor := order_cv hLk hLO hn (fun x hx => ⟨(hUA.ands x hx).1.1, (hUA.ands x hx).1.2.1, (hUA.ands x hx).2.1, (hUA.ands x hx).2.2.1⟩) (hTO.below hUA)
    repeat' (first
|(apply X_fn;eq_refl;exact hor;rintro u w2 ⟨out, ha, hrow, hC2⟩)
|(apply hK;clear hK)
|(apply WL_nil)
|(apply thenQ_normal)
|(apply WC_ret)
|(apply ret2;eq_refl;eq_refl)
|(apply WL_on0;eq_refl)
|(apply X_pv;eq_refl;first|exact trivial|omega))
    have hs1 := hC1.size
    have hs0 := hC.size
    exact ⟨(hC.trans hC1 fun _ _ h => h).trans hC2 fun _ _ h => h, .inr ⟨he, out, u, rfl, ha, by rw [ha.only ha0]; exact hl0, own_mono hrow (Nat.le_trans hs0 hs1)⟩⟩
end SC
end Go.Proofs.YtclihihdgodloaaDoor
end
section
/- Functions whose result lies in a cell; slices.Clone. -/
set_option linter.unusedVariables false
set_option linter.unusedSimpArgs false
namespace Go.Proofs.YtclihihdgodloaaDoor
namespace SC
open Go.Proofs
section
variable {P : Program} {ty : TypeId} {e : Env} {w : World} {x y : Operand} {v : Value} {t t0 : TypeId} {td : TypeDesc} {sz by_ : Nat} {zv : Value} {ag : Bool}
theorem does_appendP (base : Nat) (hu : P.underlying t = some (.slice t0)) (T : Ty P t0 td sz zv by_ ag) (hzs : zv.cells.size = sz) (hsz : 0 < sz) {n : Nat} {xs : List Value} (h : ev e x = some v) (hown : w.ownsRow base t0 sz v n xs)
    {p : Addr} {m c : Nat} {news : List Value} (h1 : ev e y = some (.slice (some p) m c)) (hl : news.length = m * sz) (hb : ∀ j u, news[j]? = some u → w.cell? (p.add j) = some u) (ho : ∀ u ∈ news, u.oneCell' = true) (hby : (n + m) * by_ ≤ 140737488355328) (hby1 : 1 ≤ by_) (hbase : base ≤ w.heap.size) :
    ∃ v' w', Does P (.call { callee := .builtin .append, args := #[x, y], argTypes := #[t, t] }) ty e w v' w' ∧ w'.ownsRow base t0 sz v' (n + m) (xs ++ news) ∧ Chg w w' (fun k => v.ownBlock = some k) ∧ (v'.ownBlock = v.ownBlock ∨ v'.ownBlock = some w.heap.size) := by
  obtain ⟨i, hi, hzz⟩ := Option.map_eq_some_iff.1 T.info
  simp only [Prod.mk.injEq] at hzz
  have hle : n + m ≤ (n + m) * by_ := Nat.le_mul_of_pos_right _ hby1
  obtain ⟨v', w', hr, h2, h3, h4, h5⟩ := run_append_own_at (P := P) w base t ty t0 i zv sz by_ hu hi hzz.1 hzz.2.1 hzz.2.2 hzs hsz v n xs hown p m c news hl
    hb ho (by simp only [maxLen]; omega) hby hbase
  refine ⟨v', w', ?_, h2, (Chg.of_grown h3), h5⟩
  intro ρ dst pos af g hρ
  simp [execOp, resolve, hρ _ _ h, hρ _ _ h1, invoke, builtin, hr]
theorem X_appendP {n : Nat} {all rest : List Oper} {K : Env → World → Prop} {d : Option Tmp} (base : Nat) [U : Ty P t (.slice t0) 1 (.slice none 0 0) 24 false] [T : Ty P t0 td sz zv by_ ag] {m : Nat} {xs : List Value} {p : Addr} {j c : Nat} {news : List Value} (h : ev e x = some v) (h1 : ev e y = some (.slice (some p) j c)) (hown : w.ownsRow base t0 sz v m xs) (hb : ∀ i u, news[i]? = some u → w.cell? (p.add i) = some u)
    (hl : news.length = j * sz) (hzs : zv.cells.size = sz) (hsz : 0 < sz) (ho : ∀ u ∈ news, u.oneCell' = true) (hby : (m + j) * by_ ≤ 140737488355328) (hby1 : 1 ≤ by_) (hbase : base ≤ w.heap.size)
    (hr : ∀ v' w', w'.ownsRow base t0 sz v' (m + j) (xs ++ news) → Chg w w' (fun k => v.ownBlock = some k) → (v'.ownBlock = v.ownBlock ∨ v'.ownBlock = some w.heap.size) → WL P n all K rest (push d v' e) w') :
    WX P n all K rest d (.call { callee := .builtin .append, args := #[x, y], argTypes := #[t, t] }) ty e w := by
  obtain ⟨v', w', hd, h2, h3, h4⟩ := does_appendP (P := P) (ty := ty) base U.und T hzs hsz h hown h1 hl hb ho hby hby1 hbase
  exact X_does hd (hr v' w' h2 h3 h4)
/-- A function whose first result lies in a variable of a struct type. -/
def retQC (a : Nat) (sz : Nat) (rs : List Nat) (R : Value → World → Prop) : Post
  | .ret, e, w => ∃ (p : Addr) (cs vs : List Value), look e a = some (.pointer (some p)) ∧ (∀ j u, cs[j]? = some u → w.cell? (p.add j) = some u) ∧ cs.length = sz ∧ rs.map (look e) = vs.map some ∧ R (retVal (.agg cs.toArray :: vs)) w
  | .normal, e, w => ∃ (p : Addr) (cs vs : List Value), look e a = some (.pointer (some p)) ∧ (∀ j u, cs[j]? = some u → w.cell? (p.add j) = some u) ∧ cs.length = sz ∧ rs.map (look e) = vs.map some ∧ R (retVal (.agg cs.toArray :: vs)) w
  | _, _, _ => False
/-- A row of things is a row of cells. -/
theorem RowA.cells {α : Type} {enc : α → List Value} {sz : Nat} {A : Option Addr} {l : List α} (h : RowA w enc sz A l) (hsz : ∀ a, (enc a).length = sz) (h0 : 0 < sz) {p : Addr} (hp : A = some p) : ∀ j u, (l.flatMap enc)[j]? = some u → w.cell? (p.add j) = some u := by
  intro j u hj
  have hlt := (List.getElem?_eq_some_iff.1 hj).1
  rw [length_flatMap2 enc sz hsz] at hlt
  have hk : j / sz < l.length := Nat.div_lt_of_lt_mul (by rw [Nat.mul_comm]; exact hlt)
  obtain ⟨q, hq, hc⟩ := h (j / sz) hk
  rw [hp] at hq
  cases hq
  have hm : j % sz < sz := Nat.mod_lt _ h0
  have hd : j / sz * sz + j % sz = j := by rw [Nat.mul_comm]; exact Nat.div_add_mod j sz
  have := hc (j % sz) u (by rw [← flatMap_get enc sz hsz l (j / sz) hk (j % sz) hm, hd]; exact hj)
  rwa [Addr.add_add, Int.toNat_natCast, hd] at this
end
attribute [local irreducible] WC WL WX WS WO OX Does DoesU Enters CV Pure thenQ blockQ retQ Wants
set_option maxRecDepth 100000
theorem clone85_cv {w : World} {A : Option Addr} {n c : Nat} {cells : List Value} (hc : ∀ p, A = some p → ∀ j u, cells[j]? = some u → w.cell? (p.add j) = some u) (hn : A = none → n = 0) (hl : cells.length = n * 1) (ho : ∀ u ∈ cells, u.oneCell' = true) (hb : n * 8 ≤ 140737488355328) :
    CV Tryd.prog 44 [.slice A n c] w fun v w' => w'.ownsRow w.heap.size 3 1 v n cells ∧ Chg w w' none_ := by
  refine enter 8 [2] Tryd.func44 rfl rfl rfl (by decide) rfl ?_
  cases A with
  | none =>
    obtain rfl := hn rfl
    obtain rfl : cells = [] := List.length_eq_zero_iff.1 (by omega)
    repeat' (first
|(apply WC_seqK;intro K hK)
|(apply hK;clear hK)
|(apply WC_region)
|(apply WL_nil)
|(apply thenQ_normal)
|(apply thenQ_ret)
|(apply WC_ret)
|(apply WC_if_true;eq_refl)
|(apply ret1;eq_refl)
|(apply WL_on0;eq_refl)
|(apply X_pv;eq_refl;first|exact trivial|omega)
|(apply X_eqL;eq_refl;eq_refl))
    exact ⟨World.ownsRow_nil _ _ _ _, Chg.refl _ _⟩
  | some p =>
    repeat' (first
|(apply WC_seqK;intro K hK)
|(apply hK;clear hK)
|(apply WC_region)
|(apply WL_nil)
|(apply thenQ_normal)
|(apply WC_skip)
|(apply WC_if_false;eq_refl)
|(apply WL_on0;eq_refl)
|(apply X_pv;eq_refl;first|exact trivial|omega)
|(apply X_eqL;eq_refl;eq_refl)
|(apply X_does;apply buildS22_0))
    have hrow : (w.alloc (.cells #[] 3)).ownsRow w.heap.size 3 1 (.slice (some ⟨w.heap.size, 0, none⟩) 0 0) 0 [] := World.ownsRow_lit w #[] 0 (Nat.le_refl _) (Nat.zero_le _) (by simp)
    refine X_appendP w.heap.size (by eq_refl) (by eq_refl) hrow (fun i u hi => cel _ (hc p rfl i u hi)) hl rfl (by decide) ho (by omega) (by decide) (by simp) ?_
    intro v' w' hrow' hC' _
    repeat' (first
|(apply hK;clear hK)
|(apply WL_nil)
|(apply thenQ_normal)
|(apply WC_ret)
|(apply ret1;eq_refl)
|(apply WL_on0;eq_refl)
|(apply X_pv;eq_refl;first|exact trivial|omega))
    rw [Nat.zero_add, List.nil_append] at hrow'
    exact ⟨hrow', (Chg.alloc w _ none_).trans hC' fun k hk hh => by
      have := Option.some.inj hh
      have h2 : w.heap.size = k := this
      omega⟩
end SC
end Go.Proofs.YtclihihdgodloaaDoor
end
section
/- Rows in memory of their own, each apart from the others; a circuit of such rows. -/
set_option linter.unusedVariables false
set_option linter.unusedSimpArgs false
namespace Go.Proofs.YtclihihdgodloaaDoor
namespace SC
open Go.Proofs
structure Rw where
  v : Value
  t : TypeId
  sz : Nat
  n : Nat
  cells : List Value
def Rw.own (r : Rw) (w : World) (base : Nat) : Prop := w.ownsRow base r.t r.sz r.v r.n r.cells
def nilRw : Rw := ⟨.slice none 0 0, 3, 1, 0, []⟩
def upd (f : Nat → Rw) (i : Nat) (r : Rw) : Nat → Rw := fun j => if j = i then r else f j
structure Rows (w : World) (base : Nat) (f : Nat → Rw) : Prop where
  own : ∀ i, (f i).own w base
  apart : ∀ (i j k : Nat), i ≠ j → (f i).v.ownBlock = some k → (f j).v.ownBlock ≠ some k
section
variable {w w' : World} {base : Nat} {f : Nat → Rw}
theorem Rows.mono {b' : Nat} (h : Rows w base f) (hb : b' ≤ base) : Rows w b' f := ⟨fun i => own_mono (h.own i) hb, h.apart⟩
theorem Rows.nil (w : World) (base : Nat) : Rows w base fun _ => nilRw := ⟨fun _ => World.ownsRow_nil _ _ _ _, fun i j k _ h => by cases h⟩
theorem Rows.lt (h : Rows w base f) {i k : Nat} (hk : (f i).v.ownBlock = some k) : base ≤ k ∧ k < w.heap.size := World.ownsRow.lt (h.own i) k hk
theorem Rows.chg (h : Rows w base f) {T : Nat → Prop} (hc : Chg w w' T) (hT : ∀ i k, (f i).v.ownBlock = some k → ¬ T k) : Rows w' base f :=
  ⟨fun i => own_chg (h.own i) hc fun k hk => hT i k hk, h.apart⟩
theorem Rows.same (h : Rows w base f) (hc : Chg w w' none_) : Rows w' base f := h.chg hc fun _ _ _ => id
theorem Rows.put (h : Rows w base f) (i : Nat) (r : Rw) {T : Nat → Prop} (hc : Chg w w' T) (hT : ∀ j k, j ≠ i → (f j).v.ownBlock = some k → ¬ T k) (hr : r.own w' base) (ho : ∀ k, r.v.ownBlock = some k → (f i).v.ownBlock = some k ∨ w.heap.size ≤ k) : Rows w' base (upd f i r) := by
  refine ⟨fun j => ?_, fun j l k hjl hj => ?_⟩
  · unfold upd
    split
    · exact hr
    · rename_i hne
      exact own_chg (h.own j) hc fun k hk => hT j k hne hk
  · unfold upd at hj ⊢
    split at hj
    · rename_i e
      subst e
      rw [if_neg (fun e => hjl e.symm)]
      intro hl
      rcases ho k hj with hk | hk
      · exact h.apart j l k hjl hk hl
      · have := (h.lt hl).2; omega
    · split
      · rename_i _ e
        subst e
        intro hl
        rcases ho k hl with hk | hk
        · exact h.apart j l k hjl hj hk
        · have := (h.lt hj).2; omega
      · exact h.apart j l k hjl hj
/-- A row that has just been made. -/
theorem Rows.add (h : Rows w base f) (i : Nat) (r : Rw) (hc : Chg w w' none_) (hr : w'.ownsRow w.heap.size r.t r.sz r.v r.n r.cells) (hb : base ≤ w.heap.size) : Rows w' base (upd f i r) :=
  h.put i r hc (fun _ _ _ _ => id) (own_mono hr hb) fun k hk => .inr (World.ownsRow.lt hr k hk).1
end
def slc (h : Hd) (i n : Nat) : Value := .slice (h i).1 n (h i).2
/-- The rows of a circuit; of its lists of justice the first 'd' are new ones (jn). -/
def cirRows (c : Circ) (h js jn : Hd) (d : Nat) : Nat → Rw
  | 1 => ⟨slc h 1 c.inputs.length, 3, 1, c.inputs.length, c.inputs.flatMap icell⟩
  | 2 => ⟨slc h 2 c.latches.length, 59, 3, c.latches.length, c.latches.flatMap tcells⟩
  | 3 => ⟨slc h 3 c.outputs.length, 3, 1, c.outputs.length, c.outputs.flatMap icell⟩
  | 4 => ⟨slc h 4 c.bads.length, 3, 1, c.bads.length, c.bads.flatMap icell⟩
  | 5 => ⟨slc h 5 c.constraints.length, 3, 1, c.constraints.length, c.constraints.flatMap icell⟩
  | 6 => ⟨slc h 6 c.justice.length, 22, 1, c.justice.length, (List.range c.justice.length).map fun k => if k < d then slc jn k (c.justice.getD k []).length else slc js k (c.justice.getD k []).length⟩
  | 7 => ⟨slc h 7 c.fairness.length, 3, 1, c.fairness.length, c.fairness.flatMap icell⟩
  | 8 => ⟨slc h 8 c.ands.length, 61, 3, c.ands.length, c.ands.flatMap tcells⟩
  | 9 => ⟨slc h 9 c.symbols.length, 130, 3, c.symbols.length, c.symbols.flatMap scells⟩
  | 10 => ⟨slc h 10 c.comments.length, 9, 1, c.comments.length, c.comments.flatMap bcell⟩
  | k + 11 => if k < d then ⟨slc jn k (c.justice.getD k []).length, 3, 1, (c.justice.getD k []).length, (c.justice.getD k []).flatMap icell⟩ else nilRw
  | 0 => nilRw
/-- A circuit in memory of its own. -/
def CirOwn (w : World) (base : Nat) (c : Circ) (h js : Hd) : Prop := Rows w base (cirRows c h js js c.justice.length)
theorem ilen (a : Int) : (icell a).length = 1 := rfl
theorem slen (s : Sym) : (scells s).length = 3 := rfl
theorem blen (s : ByteArray) : (bcell s).length = 1 := rfl
theorem CirOwn.at {w : World} {base : Nat} {c : Circ} {h js : Hd} (H : CirOwn w base c h js) : CirAt w c h js := by
  refine ⟨RowA.own ilen (H.own 1), RowA.own tlen (H.own 2), RowA.own ilen (H.own 3), RowA.own ilen (H.own 4), RowA.own ilen (H.own 5), fun k hk => ?_, fun k hk => ?_, RowA.own ilen (H.own 7), RowA.own tlen (H.own 8), RowA.own slen (H.own 9), RowA.own blen (H.own 10)⟩
  · have h6 := H.own 6
    simp only [Rw.own, cirRows] at h6
    rcases h6.2 with ⟨hv, hn⟩ | ⟨g, cap, cur, hv, hb, hg, rest⟩
    · omega
    · simp only [slc, Value.slice.injEq] at hv
      refine ⟨⟨g, 0, none⟩, hv.1, ?_⟩
      have := h6.cells (g := g) (by simp [slc, hv.1, Value.ownBlock]) k (slc js k c.justice[k].length) (by simp [hk])
      rw [show (k : Int).toNat * 1 = k by omega]
      exact this
  · have := H.own (k + 11)
    simp only [cirRows, if_pos hk] at this
    have e : c.justice.getD k [] = c.justice[k] := by simp [hk]
    rw [e] at this
    exact RowA.own ilen this
/-- As many as memory holds. -/
structure Circ.Fits (c : Circ) : Prop where
  inputs : c.inputs.length * 8 ≤ 140737488355328
  latches : c.latches.length * 24 ≤ 140737488355328
  outputs : c.outputs.length * 8 ≤ 140737488355328
  bads : c.bads.length * 8 ≤ 140737488355328
  constraints : c.constraints.length * 8 ≤ 140737488355328
  justice : c.justice.length * 24 ≤ 140737488355328
  each : ∀ l ∈ c.justice, l.length * 8 ≤ 140737488355328
  fairness : c.fairness.length * 8 ≤ 140737488355328
  ands : c.ands.length * 24 ≤ 140737488355328
  symbols : c.symbols.length * 32 ≤ 140737488355328
  comments : c.comments.length * 16 ≤ 140737488355328
theorem cell1_icell (l : List Int) : ∀ u ∈ l.flatMap icell, u.oneCell' = true := by
  intro u hu
  obtain ⟨a, _, h⟩ := List.mem_flatMap.1 hu
  simp [icell] at h; subst h; rfl
theorem RowA.nil_of {α : Type} {w : World} {enc : α → List Value} {sz : Nat} {l : List α} (h : RowA w enc sz none l) : l.length = 0 := by
  cases l with
  | nil => rfl
  | cons a r => obtain ⟨p, hp, _⟩ := h 0 (by simp); cases hp
theorem take_set {α : Type} (l : List α) (m o : Nat) (v : α) : (l.set o v).take m = (l.take m).set o v := by rw [List.take_set]
section
variable {P : Program} {n : Nat} {all rest : List Oper} {K : Env → World → Prop} {e : Env} {w : World} {d : Option Tmp} {ty : TypeId} {x : Operand} {t : TypeId} {td : TypeDesc} {sz by_ : Nat} {zv v : Value} {ag : Bool}
end
end SC
end Go.Proofs.YtclihihdgodloaaDoor
end
section
/- Regions whose operations come in no order at all: each adds new memory alone; the last one waits for all. -/
set_option linter.unusedVariables false
set_option linter.unusedSimpArgs false
namespace Go.Proofs.YtclihihdgodloaaDoor
namespace SC
open Go.Proofs
/-- The operation leaves a value and a world of which R holds. -/
def Ex (P : Program) (o : Oper) (e : Env) (w : World) (R : Value → World → Prop) : Prop :=
  (∃ v w', Does P o.op o.type e w v w' ∧ R v w') ∨ (∃ f args, Enters P o.op o.type e f args ∧ CV P f args w R) ∨ (∃ w', DoesU P o.op o.type e w w' ∧ R undef w')
theorem Ex.mono {P : Program} {o : Oper} {e : Env} {w : World} {R R' : Value → World → Prop} (h : Ex P o e w R) (hr : ∀ v w', R v w' → R' v w') : Ex P o e w R' := by
  rcases h with ⟨v, w', h1, h2⟩ | ⟨f, args, h1, h2⟩ | ⟨w', h1, h2⟩
  · exact .inl ⟨v, w', h1, hr _ _ h2⟩
  · exact .inr (.inl ⟨f, args, h1, h2.mono hr⟩)
  · exact .inr (.inr ⟨w', h1, hr _ _ h2⟩)
theorem Ex.wpOp {P : Program} {n : Nat} {ops : Array Oper} {Q : Exit → Act → World → Prop} {i : Nat} {o : Oper} {e : Env} {a : Act} {w : World} {K : Act → World → Prop} {R : Value → World → Prop} (hi : ops[i]? = some o) (hg : o.guard = none) (ha : Agree n e a) (h : Ex P o e w R)
    (hr : ∀ v w', R v w' → K (a.put o.dst v) w') : wpOp P ops Q i K a w := by
  obtain ⟨d, op, ty, pos, af, g⟩ := o
  simp only at hg
  subst hg
  unfold Go.wpOp
  simp only [hi]
  rw [if_pos (by simp [Region.wanted])]
  refine .inl ?_
  unfold Oper.wp
  rcases h with ⟨v, w', h1, h2⟩ | ⟨f, args, h1, h2⟩ | ⟨w', h1, h2⟩
  · rw [h1 a.eval d pos af none (fun x u hx => ha.eval hx)]
    exact hr _ _ h2
  · rw [h1 a.eval d pos af none w (fun x u hx => ha.eval hx)]
    refine Calls.mono h2 fun x w' hx => ?_
    cases x with
    | returned v => exact hr v w' hx
    | panicked c => exact hx.elim
    | outgrown => exact hx.elim
  · rw [h1 a.eval d pos af none (fun x u hx => ha.eval hx)]
    exact hr _ _ h2
def keyFree (e : Env) (d : Option Nat) : Bool := match d with
  | none => true
  | some d => e.all fun p => !(Nat.beq p.1 d)
theorem keyFree_ne : ∀ {e : Env} {d t : Nat} {u : Value}, keyFree e (some d) = true → look e t = some u → t ≠ d
  | [], _, _, _, _, h => by simp [look] at h
  | (k, v) :: r, d, t, u, hk, h => by
    simp only [keyFree, List.all_cons, Bool.and_eq_true, Bool.not_eq_true'] at hk
    intro e
    subst e
    simp only [look, hk.1, cond_false] at h
    exact keyFree_ne (e := r) (d := t) (by simpa [keyFree] using hk.2) h rfl
theorem Agree.free {n : Nat} {e : Env} {a : Act} (h : Agree n e a) {d : Option Nat} (v : Value) (hk : keyFree e d = true) : Agree n e (a.put d v) := by
  cases d with
  | none => exact h
  | some d =>
    refine ⟨by simp [Act.put, h.size], h.defers, fun t u hu => ?_⟩
    have hne := keyFree_ne hk hu
    simp only [Act.put]
    rw [Array.getElem?_setIfInBounds_ne (fun e => hne e.symm)]
    exact h.tmps t u hu
theorem put_get {n : Nat} {a : Act} (hs : a.tmps.size = n) {d : Nat} (v : Value) (hd : slotOk n (some d) = true) : (a.put (some d) v).tmps[d]? = some v := by
  have hlt : d < n := by simpa [slotOk, Nat.blt_eq] using hd
  simp [Act.put, hs, hlt]
theorem put_ne {a : Act} {d d' : Nat} (v : Value) (h : d ≠ d') : (a.put (some d) v).tmps[d']? = a.tmps[d']? := by
  simp only [Act.put]
  rw [Array.getElem?_setIfInBounds_ne h]
section
variable {P : Program} {n : Nat} {e0 : Env} {l : List Oper} {ds : Nat → List Nat} {Φ : Nat → Value → World → Prop} {S : World → Prop} {Q : Exit → Act → World → Prop}
end
end SC
end Go.Proofs.YtclihihdgodloaaDoor
end
section
/- Regions that draw their order, over memory as a list of entries: quiet operations first, new memory whenever it comes, the others one behind the other. -/
set_option linter.unusedVariables false
set_option linter.unusedSimpArgs false
namespace Go.Proofs.YtclihihdgodloaaDoor
namespace SC
open Go.Proofs
/-- All others wait for it, or it for them. -/
def looseX (md : Region.Mode) (ops : Array Oper) (i : Nat) : Bool := loose md ops i || (List.range ops.size).all fun k => k == i || waits md ops 3 i k || waits md ops 3 k i || waits md ops 9 i k || waits md ops 9 k i
theorem not_looseX {md : Region.Mode} {ops : Array Oper} {listed : Array Bool} {i j : Nat} {oi : Oper} (hs : Shut md ops listed) (hi : ops[i]? = some oi) (hui : i ∈ Region.ready md ops listed) (hj : j ∈ Region.ready md ops listed) (hne : j ≠ i) : looseX md ops j = false := by
  have h0 := (mem_ready.1 hui).1
  have h0' := (mem_ready.1 hj).1
  have up : ∀ f, waits md ops f j i = true → False := fun f h => by
    have h1 := waits_ready hs hj h
    rcases Nat.lt_or_ge i listed.size with h' | h'
    · simp [h'] at h0 h1; rw [h0] at h1; cases h1
    · simp [Array.getElem?_eq_none h'] at h1
  have down : ∀ f, waits md ops f i j = true → False := fun f h => by
    have h1 := waits_ready hs hui h
    rcases Nat.lt_or_ge j listed.size with h' | h'
    · simp [h'] at h0' h1; rw [h0'] at h1; cases h1
    · simp [Array.getElem?_eq_none h'] at h1
  unfold looseX
  rw [not_loose hs hi hui hj hne, Bool.false_or]
  cases hl : (List.range ops.size).all fun k => k == j || waits md ops 3 j k || waits md ops 3 k j || waits md ops 9 j k || waits md ops 9 k j with
  | false => rfl
  | true =>
    exfalso
    simp only [List.all_eq_true, List.mem_range, Bool.or_eq_true, beq_iff_eq] at hl
    rcases hl i (Array.getElem?_eq_some_iff.1 hi).1 with (((h | h) | h) | h) | h
    · exact hne h.symm
    · exact up _ h
    · exact down _ h
    · exact up _ h
    · exact down _ h
def wpAnyM (P : Program) (md : Region.Mode) (ops : Array Oper) (Q : Exit → Act → World → Prop) : (World → Prop) → Nat → Array Bool → Act → World → Prop
  | _, 0, listed, a, w => Region.ready md ops listed = [] ∧ Q .normal a w
  | S, fuel + 1, listed, a, w =>
    (Region.ready md ops listed = [] → Q .normal a w) ∧
    ∀ i ∈ Region.ready md ops listed, wpOp P ops Q i (fun a' w' => ∃ S' : World → Prop, (looseX md ops i = false → ∀ W, S' W → S W) ∧ S' w' ∧ wpAnyM P md ops Q S' fuel (listed.setIfInBounds i true) a' w') a w
section
variable {P : Program} {ops : Array Oper} {Q : Exit → Act → World → Prop} {md : Region.Mode}
theorem wpAny_of_M : ∀ (fuel : Nat) (S : World → Prop) (listed : Array Bool) (a : Act) (w : World), wpAnyM P md ops Q S fuel listed a w → wpAny P md ops Q fuel listed a w
  | 0, _, _, _, _, h => h
  | fuel + 1, S, _, _, _, h => ⟨h.1, fun i hi => wpOp_mono (fun a' w' ⟨S', _, _, h2⟩ => wpAny_of_M fuel S' _ a' w' h2) (h.2 i hi)⟩
theorem YieldsS.sub {S S' : World → Prop} {o : Oper} {v : Value} {a : Act} (hy : YieldsS P ops S o v a) (h : ∀ W, S' W → S W) : YieldsS P ops S' o v a :=
  hy.imp (fun hh => ⟨hh.1, fun w hw => hh.2 w (h w hw)⟩) id
theorem wpAnyM_first {i : Nat} {oi : Oper} {v : Value} (hi : ops[i]? = some oi) (hsel : ∀ (j : Nat) (o : Oper) cs b, ops[j]? = some o → o.op ≠ .select cs b)
    (hQ : ∀ c a w, Q (.panic c) (a.put oi.dst v) w → Q (.panic c) a w) :
    ∀ (fuel : Nat) (S : World → Prop) (listed : Array Bool) (a : Act) (w : World),
      (∀ j oj, ops[j]? = some oj → j ≠ i → listed.getD j true = false → (∀ e ∈ oj.after, Region.binds md e = true → e.on ≠ i) → oi.apart ops oj = true) →
      i ∈ Region.ready md ops listed → Shut md ops listed → YieldsS P ops S oi v a → S w →
      wpAnyM P md ops Q S fuel (listed.setIfInBounds i true) (a.put oi.dst v) w → wpAnyM P md ops Q S (fuel + 1) listed a w := by
  intro fuel
  induction fuel with
  | zero =>
    intro S listed a w _ hr hsh hy hS H
    refine ⟨fun h => (by rw [h] at hr; cases hr), fun j hj => ?_⟩
    by_cases hji : j = i
    · subst hji; exact hy.wpOp hi hS ⟨S, fun _ _ h => h, hS, H⟩
    · have := ready_mono hj hji
      rw [H.1] at this
      cases this
  | succ fuel ih =>
    intro S listed a w hfree hr hsh hy hS H
    refine ⟨fun h => (by rw [h] at hr; cases hr), fun j hj => ?_⟩
    by_cases hji : j = i
    · subst hji; exact hy.wpOp hi hS ⟨S, fun _ _ h => h, hS, H⟩
    · have h1 := H.2 j (ready_mono hj hji)
      obtain ⟨hjun, oj, hoj, hall⟩ := mem_ready.1 hj
      have hnot : ∀ e ∈ oj.after, Region.binds md e = true → e.on ≠ i := fun e he hb heq => by
        have h1 := hall e he hb
        have h0 := (mem_ready.1 hr).1
        rw [heq] at h1
        rcases Nat.lt_or_ge i listed.size with h' | h'
        · simp [h'] at h0 h1; rw [h0] at h1; cases h1
        · simp [Array.getElem?_eq_none h'] at h1
      have h2 := wpOp_putS hoj (hfree j oj hoj hji hjun hnot) (fun cs b => hsel i oi cs b hi) (fun cs b => hsel j oj cs b hoj) hQ hy h1
      have hfree' : ∀ k ok, ops[k]? = some ok → k ≠ i → (listed.setIfInBounds j true).getD k true = false →
          (∀ e ∈ ok.after, Region.binds md e = true → e.on ≠ i) → oi.apart ops ok = true := fun k ok hk hki hun hno => by
        refine hfree k ok hk hki ?_ hno
        by_cases hjk : j = k
        · subst hjk; exact hjun
        · rw [getD_set_ne true hjk] at hun; exact hun
      have hnl := not_looseX hsh hi hr hj hji
      refine wpOp_mono (fun a' w' ⟨hy', S', hs1, hs2, hs3⟩ => ⟨S', hs1, hs2, ih S' (listed.setIfInBounds j true) a' w' hfree' (ready_mono hr (Ne.symm hji)) (hsh.set hj) (hy'.sub (hs1 hnl)) hs2 ?_⟩) h2
      rw [Array.setIfInBounds_comm _ _ hji]
      exact hs3
end
/-! ### new memory that comes at any time -/
structure Fl where
  i : Nat
  d : Nat
  val : Nat → Value
  t : TypeId
  cs : Array Value
  e0 : Env
abbrev Fls := List (Fl × Option Nat)
def flEnts : Fls → Mm
  | [] => []
  | (F, some b) :: r => .box b F.t F.cs.toList :: flEnts r
  | (_, none) :: r => flEnts r
def flList (listed : Array Bool) : Fls → Array Bool
  | [] => listed
  | (F, some _) :: r => (flList listed r).setIfInBounds F.i true
  | (_, none) :: r => flList listed r
def flDone : Fls → Nat
  | [] => 0
  | (_, some _) :: r => flDone r + 1
  | (_, none) :: r => flDone r
def setAll (listed : Array Bool) : List Nat → Array Bool
  | [] => listed
  | i :: r => (setAll listed r).setIfInBounds i true
inductive PStep where
  | q (i : Nat)
  | f (i : Nat)
  | c (i : Nat)
  | land
def planM (ops : Array Oper) : List PStep → Nat → Array Bool → List Nat → Bool
  | [], fuel, listed, A => A.isEmpty && (Region.ready .any ops listed).isEmpty && Nat.beq fuel 0
  | .q i :: r, fuel, listed, A => match fuel with
    | 0 => false
    | fuel + 1 => Region.free .any ops listed i && (Region.ready .any ops listed).contains i && !(A.contains i) && planM ops r fuel (listed.setIfInBounds i true) A
  | .f i :: r, fuel, listed, A => (Region.ready .any ops listed).contains i && !(A.contains i) && planM ops r fuel listed (i :: A)
  | .c j :: r, fuel, listed, A => match fuel with
    | 0 => false
    | fuel + 1 => (Region.ready .any ops (setAll listed A)) == [j] && (Region.ready .any ops listed).contains j && !(A.contains j) && planM ops r fuel (listed.setIfInBounds j true) A
  | .land :: r, fuel, listed, A => Nat.ble A.length fuel && (A.all fun k => (Region.ready .any ops (setAll listed (A.filter fun x => !(Nat.beq x k)))) == [k]) && planM ops r (fuel - A.length) (setAll listed A) []
/-- Its slot is free, and what it looks at is there. -/
def flKey (e : Env) (F : Fl) : Prop := keyFree e (some F.d) = true ∧ Sub F.e0 e
/-- New memory that may have come or not: what is known of its operations. -/
structure FlOk (P : Program) (n : Nat) (all : List Oper) (listed : Array Bool) (A : List Fl) (e : Env) : Prop where
  spec : ∀ F ∈ A, ∃ o, nth all F.i = some o ∧ o.guard = none ∧ o.dst = some F.d ∧ slotOk n (some F.d) = true ∧ F.i ∈ Region.ready .any all.toArray listed ∧ flKey e F ∧ ∀ w, Does P o.op o.type F.e0 w (F.val w.heap.size) (w.alloc (.cells F.cs F.t))
  nodup : (A.map Fl.i).Nodup
  slots : (A.map Fl.d).Nodup
def FlSlots (B : Fls) (a : Act) : Prop := ∀ F b, (F, some b) ∈ B → a.tmps[F.d]? = some (F.val b)
def GS (P : Program) (n : Nat) (all : List Oper) (K : Env → Mm → Prop) (A : List Fl) (Θ : Mm) (pl : List PStep) (e : Env) (Γ : Mm) : Prop :=
  ∀ (B : Fls) (a : Act) (Q : Exit → Act → World → Prop) (fuel : Nat) (listed : Array Bool) (w : World), B.map Prod.fst = A → Agree n e a → FlSlots B a → Mem w (flEnts B ++ (Θ ++ Γ)) →
    (∀ a' w' e' Γ', Agree n e' a' → Mem w' Γ' → K e' Γ' → Q .normal a' w') → (∀ c a w, ¬ Q (.panic c) a w) → Region.noSelect all.toArray = true → listed.size = all.length → Shut .any all.toArray (flList listed B) → FlOk P n all listed A e →
    planM all.toArray pl fuel listed (A.map Fl.i) = true → wpAnyM P .any all.toArray Q (fun W => Mem W (flEnts B ++ Γ)) (fuel - flDone B) (flList listed B) a w
theorem planM_le (ops : Array Oper) : ∀ (pl : List PStep) (fuel : Nat) (listed : Array Bool) (A : List Nat), planM ops pl fuel listed A = true → A.length ≤ fuel
  | [], fuel, listed, A, h => by simp only [planM, Bool.and_eq_true, List.isEmpty_iff] at h; rw [h.1.1]; exact Nat.zero_le _
  | .q i :: r, 0, listed, A, h => by simp [planM] at h
  | .q i :: r, fuel + 1, listed, A, h => by
    simp only [planM, Bool.and_eq_true] at h
    have := planM_le ops r _ _ _ h.2
    omega
  | .f i :: r, fuel, listed, A, h => by
    simp only [planM, Bool.and_eq_true] at h
    have := planM_le ops r _ _ _ h.2
    simp only [List.length_cons] at this
    omega
  | .c i :: r, 0, listed, A, h => by simp [planM] at h
  | .c i :: r, fuel + 1, listed, A, h => by
    simp only [planM, Bool.and_eq_true] at h
    have := planM_le ops r _ _ _ h.2
    omega
  | .land :: r, fuel, listed, A, h => by
    simp only [planM, Bool.and_eq_true] at h
    exact Nat.le_of_ble_eq_true h.1.1
theorem flDone_le : ∀ (B : Fls), flDone B ≤ B.length
  | [] => Nat.le_refl _
  | (_, some _) :: r => by have := flDone_le r; simp only [flDone, List.length_cons]; omega
  | (_, none) :: r => by have := flDone_le r; simp only [flDone, List.length_cons]; omega
theorem flDone_lt : ∀ (B : Fls) (F : Fl), (F, none) ∈ B → flDone B < B.length
  | (_, some _) :: r, F, h => by have := flDone_lt r F (by simpa using h); simp only [flDone, List.length_cons]; omega
  | (_, none) :: r, F, h => by have := flDone_le r; simp only [flDone, List.length_cons]; omega
theorem flList_size (listed : Array Bool) : ∀ (B : Fls), (flList listed B).size = listed.size
  | [] => rfl
  | (_, some _) :: r => by simp only [flList, Array.size_setIfInBounds, flList_size listed r]
  | (_, none) :: r => flList_size listed r
/-- Who is listed. -/
theorem flList_false (listed : Array Bool) (k : Nat) (hk : k < listed.size) : ∀ (B : Fls), (flList listed B).getD k true = false → listed.getD k true = false ∧ ∀ F b, (F, some b) ∈ B → F.i ≠ k
  | [], h => ⟨h, fun _ _ h => by cases h⟩
  | (F, some b) :: r, h => by
    simp only [flList] at h
    by_cases e : F.i = k
    · subst e
      have : F.i < (flList listed r).size := by rw [flList_size]; exact hk
      simp [this] at h
    · rw [getD_set_ne true e] at h
      obtain ⟨h1, h2⟩ := flList_false listed k hk r h
      exact ⟨h1, fun G c hG => by
        simp only [List.mem_cons, Prod.mk.injEq, Option.some.injEq] at hG
        rcases hG with ⟨rfl, _⟩ | hG
        · exact e
        · exact h2 G c hG⟩
  | (F, none) :: r, h => by
    obtain ⟨h1, h2⟩ := flList_false listed k hk r h
    exact ⟨h1, fun G c hG => h2 G c (by simpa using hG)⟩
theorem setAll_size (listed : Array Bool) : ∀ (A : List Nat), (setAll listed A).size = listed.size
  | [] => rfl
  | i :: r => by simp only [setAll, Array.size_setIfInBounds, setAll_size listed r]
theorem setAll_false (listed : Array Bool) (k : Nat) : ∀ (A : List Nat), k ∉ A → (setAll listed A).getD k true = listed.getD k true
  | [], _ => rfl
  | i :: r, h => by
    simp only [setAll]
    rw [getD_set_ne true (fun e => h (by simp [e])), setAll_false listed k r (fun e => h (by simp [e]))]
theorem setAll_true (listed : Array Bool) (k : Nat) : ∀ (A : List Nat), (listed.getD k false = true ∨ (k < listed.size ∧ k ∈ A)) → (setAll listed A).getD k false = true
  | [], h => by rcases h with h | ⟨_, h⟩; exact h; cases h
  | i :: r, h => by
    simp only [setAll]
    by_cases e : i = k
    · subst e
      rcases h with h | h
      · exact getD_set_true (setAll_true listed i r (.inl h))
      · simp [setAll_size, h.1]
    · rw [getD_set_ne false e]
      refine setAll_true listed k r (h.imp id fun h => ⟨h.1, ?_⟩)
      rcases List.mem_cons.1 h.2 with h2 | h2
      · exact absurd h2.symm e
      · exact h2
theorem flList_true (listed : Array Bool) (k : Nat) : ∀ (B : Fls), (flList listed B).getD k false = true → listed.getD k false = true ∨ (k < listed.size ∧ ∃ F b, (F, some b) ∈ B ∧ F.i = k)
  | [], h => .inl h
  | (F, some b) :: r, h => by
    simp only [flList] at h
    by_cases e : F.i = k
    · subst e
      rcases Nat.lt_or_ge F.i (flList listed r).size with h' | h'
      · exact .inr ⟨by rw [flList_size] at h'; exact h', F, b, by simp, rfl⟩
      · have hn : ((flList listed r).setIfInBounds F.i true)[F.i]? = none := Array.getElem?_eq_none (by simpa using h')
        rw [Array.getD_eq_getD_getElem?, hn] at h
        cases h
    · rw [getD_set_ne false e] at h
      exact (flList_true listed k r h).imp id fun ⟨h0, G, c, h1, h2⟩ => ⟨h0, G, c, by simp [h1], h2⟩
  | (F, none) :: r, h => (flList_true listed k r h).imp id fun ⟨h0, G, c, h1, h2⟩ => ⟨h0, G, c, by simp [h1], h2⟩
/-- Whoever is ready while some of A have come is one of A that has not, or ready when all have. -/
theorem ready_fl {ops : Array Oper} {listed : Array Bool} {B : Fls} {k : Nat} (hsz : listed.size = ops.size) (C : List Nat) (hC : ∀ F b, (F, some b) ∈ B → F.i ∈ C) (hk : k ∈ Region.ready .any ops (flList listed B)) (hn : k ∉ C) : k ∈ Region.ready .any ops (setAll listed C) := by
  obtain ⟨h0, o, ho, hall⟩ := mem_ready.1 hk
  have hlt : k < listed.size := by rw [hsz]; exact (Array.getElem?_eq_some_iff.1 ho).1
  obtain ⟨h1, h2⟩ := flList_false listed k hlt B h0
  refine mem_ready.2 ⟨by rw [setAll_false listed k C hn]; exact h1, o, ho, fun e he hb => setAll_true listed e.on C ?_⟩
  rcases flList_true listed e.on B (hall e he hb) with h | ⟨h, F, b, hF, e1⟩
  · exact .inl h
  · exact .inr ⟨h, by rw [← e1]; exact hC F b hF⟩
theorem ready_mono_fl {ops : Array Oper} {listed : Array Bool} {j : Nat} (hj : j ∈ Region.ready .any ops listed) : ∀ (B : Fls), (∀ F b, (F, some b) ∈ B → F.i ≠ j) → j ∈ Region.ready .any ops (flList listed B)
  | [], _ => hj
  | (F, some b) :: r, h => by
    simp only [flList]
    exact ready_mono (ready_mono_fl hj r fun G c hG => h G c (by simp [hG])) (fun e => h F b (by simp) e.symm)
  | (F, none) :: r, h => ready_mono_fl hj r fun G c hG => h G c (by simp [hG])
theorem flList_set (listed : Array Bool) (j : Nat) : ∀ (B : Fls), (∀ F b, (F, some b) ∈ B → F.i ≠ j) → flList (listed.setIfInBounds j true) B = (flList listed B).setIfInBounds j true
  | [], _ => rfl
  | (F, some b) :: r, h => by
    simp only [flList]
    rw [flList_set listed j r fun G c hG => h G c (by simp [hG]), Array.setIfInBounds_comm _ _ (fun e => h F b (by simp) e.symm)]
  | (F, none) :: r, h => flList_set listed j r fun G c hG => h G c (by simp [hG])
theorem flList_come (listed : Array Bool) (F : Fl) (b : Nat) (B2 : Fls) : ∀ (B1 : Fls), (∀ G c, (G, some c) ∈ B1 → G.i ≠ F.i) → flList listed (B1 ++ (F, some b) :: B2) = (flList listed (B1 ++ (F, none) :: B2)).setIfInBounds F.i true
  | [], _ => rfl
  | (G, some c) :: r, h => by
    simp only [List.cons_append, flList]
    rw [flList_come listed F b B2 r fun G c hG => h G c (by simp [hG]), Array.setIfInBounds_comm _ _ (fun e => h G c (by simp) e.symm)]
  | (G, none) :: r, h => flList_come listed F b B2 r fun G c hG => h G c (by simp [hG])
theorem flEnts_come (F : Fl) (b : Nat) (B2 : Fls) : ∀ (B1 : Fls), (flEnts (B1 ++ (F, some b) :: B2)).Perm (.box b F.t F.cs.toList :: flEnts (B1 ++ (F, none) :: B2))
  | [] => .refl _
  | (G, some c) :: r => by
    simp only [List.cons_append, flEnts]
    exact ((flEnts_come F b B2 r).cons _).trans (.swap ..)
  | (G, none) :: r => flEnts_come F b B2 r
theorem flDone_come (F : Fl) (b : Nat) (B2 : Fls) : ∀ (B1 : Fls), flDone (B1 ++ (F, some b) :: B2) = flDone (B1 ++ (F, none) :: B2) + 1
  | [] => rfl
  | (G, some c) :: r => by simp only [List.cons_append, flDone, flDone_come F b B2 r]
  | (G, none) :: r => flDone_come F b B2 r

section
variable {P : Program} {n : Nat} {all : List Oper} {K : Env → Mm → Prop} {A : List Fl} {Θ : Mm} {r : List PStep} {e : Env} {Γ : Mm} {i j : Nat} {d : Option Tmp} {op : Op} {ty : TypeId} {pos : String} {af : Array Edge} {g : Option (Nat × Bool)} {v : Value}
theorem GS_nil (h : K e Γ) : GS P n all K [] Θ [] e Γ := by
  intro B a Q fuel listed w hB ha hs M hQ hp hns hsz hsh hF hok
  obtain rfl : B = [] := by simpa using hB
  simp only [planM, Bool.and_eq_true, List.isEmpty_iff] at hok
  obtain rfl := Nat.eq_of_beq_eq_true hok.2
  exact ⟨hok.1.2, hQ a w e Γ ha (show Mem w (Θ ++ Γ) from M).right h⟩
/-- One that may come now comes. -/
theorem come {B : Fls} {a : Act} {Q : Exit → Act → World → Prop} {listed : Array Bool} {w : World} {F : Fl} {k : Nat} (hB : B.map Prod.fst = A) (ha : Agree n e a) (hs : FlSlots B a) (M : Mem w (flEnts B ++ (Θ ++ Γ))) (hF : FlOk P n all listed A e) (hmem : (F, none) ∈ B) (hk : F.i = k)
    {T : Act → World → Prop} (hT : ∀ B' a', B'.map Prod.fst = A → Agree n e a' → FlSlots B' a' → Mem (w.alloc (.cells F.cs F.t)) (flEnts B' ++ (Θ ++ Γ)) → flDone B' = flDone B + 1 → flList listed B' = (flList listed B).setIfInBounds k true → (∀ W, Mem W (flEnts B' ++ Γ) → Mem W (flEnts B ++ Γ)) → T a' (w.alloc (.cells F.cs F.t))) :
    wpOp P all.toArray Q k T a w := by
  subst hk
  obtain ⟨B1, B2, rfl⟩ := List.append_of_mem hmem
  have hA : A = B1.map Prod.fst ++ F :: B2.map Prod.fst := by rw [← hB]; simp
  have hFm : F ∈ A := by rw [hA]; simp
  obtain ⟨o, ho, hg, hd, hsl, hr, hkf, hdo⟩ := hF.spec F hFm
  have hi : all.toArray[F.i]? = some o := by rw [nth_eq] at ho; simpa using ho
  obtain ⟨d, op, ty, pos, af, g⟩ := o
  simp only at hg hd hdo
  subst hg hd
  have nd1 : ∀ G ∈ B1.map Prod.fst, G.i ≠ F.i := fun G hG e1 => by
    have := hF.nodup
    rw [hA, List.map_append, List.map_cons, List.nodup_append] at this
    exact this.2.2 _ (List.mem_map_of_mem hG) _ (List.mem_cons_self ..) e1
  have nds : ∀ G c, (G, some c) ∈ B1 ++ (F, none) :: B2 → G.d ≠ F.d := fun G c hG e1 => by
    have := hF.slots
    rw [hA, List.map_append, List.map_cons, List.nodup_append, List.nodup_cons] at this
    rcases List.mem_append.1 hG with h1 | h1
    · exact this.2.2 _ (List.mem_map_of_mem (List.mem_map_of_mem h1)) _ (List.mem_cons_self ..) e1
    · simp only [List.mem_cons, Prod.mk.injEq, reduceCtorEq, and_false, false_or] at h1
      exact this.2.1.1 (by rw [← e1]; exact List.mem_map_of_mem (List.mem_map_of_mem h1))
  unfold wpOp
  simp only [hi]
  rw [if_pos (by simp [Region.wanted])]
  refine .inl ?_
  unfold Oper.wp
  rw [hdo w a.eval (some F.d) pos af none (fun x u hx => (Agree.sub ha hkf.2).eval hx)]
  have p0 : ∀ X : Mm, (flEnts (B1 ++ (F, some w.heap.size) :: B2) ++ X).Perm (.box w.heap.size F.t F.cs.toList :: (flEnts (B1 ++ (F, none) :: B2) ++ X)) := fun X => (flEnts_come F w.heap.size B2 B1).append_right X
  refine hT (B1 ++ (F, some w.heap.size) :: B2) (a.put (some F.d) (F.val w.heap.size)) (by rw [hA]; simp) (ha.free _ hkf.1) ?_ ((M.new F.cs F.t).perm (p0 _).symm) (flDone_come ..) (flList_come _ _ _ _ _ fun G c hG => nd1 G (List.mem_map_of_mem hG)) fun W hW => (Mem.perm hW (p0 _)).tail
  intro G c hG
  by_cases hGF : (G, some c) = (F, some w.heap.size)
  · cases hGF
    exact put_get ha.size _ hsl
  · have hG' : (G, some c) ∈ B1 ++ (F, none) :: B2 := by
      rcases List.mem_append.1 hG with h1 | h1
      · simp [h1]
      · rcases List.mem_cons.1 h1 with h2 | h2
        · exact absurd h2 hGF
        · simp [h2]
    rw [put_ne _ (fun e1 => nds G c hG' e1.symm)]
    exact hs G c hG'
theorem FlOk.set {listed : Array Bool} {e' : Env} (hF : FlOk P n all listed A e) (hj : i ∉ A.map Fl.i) (he : ∀ F ∈ A, flKey e F → flKey e' F) : FlOk P n all (listed.setIfInBounds i true) A e' :=
  ⟨fun F h => by
    obtain ⟨o, h1, h2, h3, h4, h5, h6, h7⟩ := hF.spec F h
    exact ⟨o, h1, h2, h3, h4, ready_mono h5 (fun e1 => hj (by rw [← e1]; exact List.mem_map_of_mem h)), he F h h6, h7⟩, hF.nodup, hF.slots⟩
def offA (A : List Fl) (d : Option Tmp) : Bool := A.all fun F => match d with | some d => !(Nat.beq d F.d) && keyFree F.e0 (some d) | none => true
theorem Sub.push : ∀ {e0 e : Env} {d : Nat} {v : Value}, keyFree e0 (some d) = true → Sub e0 e → Sub e0 (push (some d) v e)
  | [], _, _, _, _, _ => trivial
  | (k, u) :: r, e, d, v, hk, h => by
    have h1 : (!(Nat.beq k d)) = true ∧ keyFree r (some d) = true := by simpa [keyFree] using hk
    refine ⟨?_, Sub.push h1.2 h.2⟩
    simp only [SC.push, SC.look]
    have : Nat.beq d k = false := by
      have := h1.1
      cases hb : Nat.beq d k with
      | false => rfl
      | true =>
        obtain rfl := Nat.eq_of_beq_eq_true hb
        simp at this
    rw [this]
    exact h.1
theorem keyFree_push (hd : offA A d = true) : ∀ F ∈ A, flKey e F → flKey (push d v e) F := by
  intro F hF ⟨h, hs⟩
  cases d with
  | none => exact ⟨h, hs⟩
  | some d =>
    have := List.all_eq_true.1 hd F hF
    simp only [Bool.and_eq_true] at this
    refine ⟨?_, Sub.push this.2 hs⟩
    simp only [push, keyFree, List.all_cons, Bool.and_eq_true]
    exact ⟨this.1, h⟩
theorem FlSlots.put {B : Fls} {a : Act} (hs : FlSlots B a) (hB : B.map Prod.fst = A) (hd : offA A d = true) : FlSlots B (a.put d v) := by
  intro F b hF
  cases d with
  | none => exact hs F b hF
  | some d =>
    have := List.all_eq_true.1 hd F (by rw [← hB]; exact List.mem_map_of_mem hF)
    simp only [Bool.and_eq_true, Bool.not_eq_true'] at this
    rw [put_ne _ (fun e1 => by rw [e1] at this; simp at this)]
    exact hs F b hF
theorem fl_ne {B : Fls} {k : Nat} (hB : B.map Prod.fst = A) (h : k ∉ A.map Fl.i) : ∀ F s, (F, s) ∈ B → F.i ≠ k := fun F s hF e1 => h (by rw [← e1, ← hB]; exact List.mem_map_of_mem (List.mem_map_of_mem hF))
theorem GS_quiet' {o : Oper} (ho : nth all i = some o) (hd : slotOk n o.dst = true) (ho2 : offA A o.dst = true) (hy : ∀ a, Agree n e a → YieldsS P all.toArray (fun w => Mem w Γ) o v a)
    (hr : GS P n all K A Θ r (push o.dst v e) Γ) : GS P n all K A Θ (.q i :: r) e Γ := by
  intro B a Q fuel listed w hB ha hs M hQ hp hns hsz hsh hF hok
  cases fuel with
  | zero => simp [planM] at hok
  | succ fuel =>
    simp only [planM, Bool.and_eq_true, Bool.not_eq_true'] at hok
    obtain ⟨⟨⟨h1, h2⟩, h3⟩, h4⟩ := hok
    have hi : all.toArray[i]? = some o := by rw [nth_eq] at ho; simpa using ho
    have hnA : i ∉ A.map Fl.i := by simpa using h3
    have hne := fl_ne hB hnA
    have hin : i ∈ Region.ready .any all.toArray listed := by simpa using h2
    have hle := planM_le _ _ _ _ _ h4
    have hdl : flDone B ≤ fuel := by have := flDone_le B; rw [← hB] at hle; simp at hle; omega
    rw [show fuel + 1 - flDone B = fuel - flDone B + 1 by omega]
    have hin' := ready_mono_fl hin B fun F b h => hne F _ h
    have hM : ∀ W, Mem W (flEnts B ++ Γ) → Mem W Γ := fun W h => h.right
    have MS := M.dropMid
    have hlt : ∀ k ok, all.toArray[k]? = some ok → (flList listed B).getD k true = false → listed.getD k true = false := fun k ok hk hf => by
      by_cases hkl : k < listed.size
      · exact (flList_false listed k hkl B hf).1
      · rw [Array.getD_eq_getD_getElem?, Array.getElem?_eq_none (by rw [flList_size]; omega)] at hf
        simp at hf
    refine wpAnyM_first hi (Region.noSelect_spec hns) (fun c a w h => absurd h (hp _ _ _)) _ _ _ _ _ (fun k ok hk hki hun hno => Region.free_spec hi h1 k ok hk hki (hlt k ok hk hun) hno) hin' hsh ((hy a ha).sub hM) MS ?_
    rw [← flList_set listed i B fun F b h => hne F _ h]
    exact hr B _ Q fuel _ w hB (ha.put _ v hd) (hs.put hB ho2) M hQ hp hns (by rw [Array.size_setIfInBounds]; exact hsz) (by rw [flList_set listed i B fun F b h => hne F _ h]; exact hsh.set hin') (hF.set hnA (keyFree_push ho2)) h4
theorem GS_quiet (ho : nth all i = some ⟨d, op, ty, pos, af, g⟩) (hg : Wants all e g true) (hd : slotOk n d = true) (ho2 : offA A d = true) (h : ∀ w, Mem w Γ → Does P op ty e w v w)
    (hr : GS P n all K A Θ r (push d v e) Γ) : GS P n all K A Θ (.q i :: r) e Γ :=
  GS_quiet' ho hd ho2 (fun a ha => .inl ⟨Wants.wanted ha (o := ⟨d, op, ty, pos, af, g⟩) hg, fun w hw => h w hw a.eval d pos af g fun x u hx => ha.eval hx⟩) hr
theorem GS_off (ho : nth all i = some ⟨d, op, ty, pos, af, g⟩) (hg : Wants all e g false) (hd : slotOk n d = true) (ho2 : offA A d = true) (hr : GS P n all K A Θ r (push d undef e) Γ) : GS P n all K A Θ (.q i :: r) e Γ :=
  GS_quiet' ho hd ho2 (fun a ha => .inr ⟨Wants.wanted ha (o := ⟨d, op, ty, pos, af, g⟩) hg, rfl⟩) hr
/-- The next one but for what may come at any time. -/
theorem GS_chain' {o : Oper} {R : Value → Mm → Mm → Prop} (ho : nth all j = some o) (hd : slotOk n o.dst = true) (ho2 : offA A o.dst = true)
    (h : ∀ (a : Act) (w : World) (Δ : Mm) (T : Act → World → Prop) (Q : Exit → Act → World → Prop), Agree n e a → Mem w (Δ ++ (Θ ++ Γ)) → (∀ v w' Θ' Γ', Mem w' (Δ ++ (Θ' ++ Γ')) → R v Θ' Γ' → (looseX .any all.toArray j = false → ∃ N, Γ' = N ++ Γ) → T (a.put o.dst v) w') → wpOp P all.toArray Q j T a w)
    (hr : ∀ v Θ' Γ', R v Θ' Γ' → GS P n all K A Θ' r (push o.dst v e) Γ') : GS P n all K A Θ (.c j :: r) e Γ := by
  intro B a Q fuel listed w hB ha hs M hQ hp hns hsz hsh hF hok
  cases fuel with
  | zero => simp [planM] at hok
  | succ fuel =>
    simp only [planM, Bool.and_eq_true, Bool.not_eq_true', beq_iff_eq] at hok
    obtain ⟨⟨⟨h1, h2⟩, h3⟩, h4⟩ := hok
    have hi : all.toArray[j]? = some o := by rw [nth_eq] at ho; simpa using ho
    have hnA : j ∉ A.map Fl.i := by simpa using h3
    have hin : j ∈ Region.ready .any all.toArray listed := by simpa using h2
    have hle := planM_le _ _ _ _ _ h4
    have key : ∀ (m : Nat) (B : Fls) (a : Act) (w : World), A.length - flDone B = m → B.map Prod.fst = A → Agree n e a → FlSlots B a → Mem w (flEnts B ++ (Θ ++ Γ)) → Shut .any all.toArray (flList listed B) → wpAnyM P .any all.toArray Q (fun W => Mem W (flEnts B ++ Γ)) (fuel + 1 - flDone B) (flList listed B) a w := by
      intro m
      induction m using Nat.strongRecOn with
      | _ m ih =>
        intro B a w hm hB ha hs M hsh
        have hne := fl_ne hB hnA
        have hlen : B.length = A.length := by rw [← hB]; simp
        have hdl : flDone B ≤ fuel := by have := flDone_le B; simp at hle; omega
        rw [show fuel + 1 - flDone B = fuel - flDone B + 1 by omega]
        have hin' := ready_mono_fl hin B fun F b h => hne F _ h
        refine ⟨fun h0 => (by rw [h0] at hin'; cases hin'), fun k hk => ?_⟩
        by_cases hkf : ∃ F, (F, none) ∈ B ∧ F.i = k
        · obtain ⟨F, hF1, hF2⟩ := hkf
          have hlt := flDone_lt B F hF1
          refine come hB ha hs M hF hF1 hF2 ?_
          intro B' a' hB' ha' hs' M' hd' hl' hsub
          refine ⟨fun W => Mem W (flEnts B' ++ Γ), fun _ => hsub, M'.dropMid, ?_⟩
          have := ih (A.length - flDone B') (by omega) B' a' _ rfl hB' ha' hs' M' (by rw [hl']; exact hsh.set hk)
          rw [hl', hd', show fuel + 1 - (flDone B + 1) = fuel - flDone B by omega] at this
          exact this
        · have hkA : k ∉ A.map Fl.i := fun hm => by
            rw [← hB, List.map_map] at hm
            obtain ⟨⟨F, s⟩, hp, e1⟩ := List.mem_map.1 hm
            simp only [Function.comp] at e1
            cases s with
            | none => exact hkf ⟨F, hp, e1⟩
            | some b =>
              have hk0 := (mem_ready.1 hk).1
              have hklt : k < listed.size := by
                obtain ⟨_, o', ho', _⟩ := mem_ready.1 hk
                rw [hsz]
                have := (Array.getElem?_eq_some_iff.1 ho').1
                simpa using this
              exact (flList_false listed k hklt B hk0).2 F b hp e1
          have hk2 := ready_fl (by simpa using hsz) (A.map Fl.i) (fun F b hFb => by rw [← hB]; exact List.mem_map_of_mem (List.mem_map_of_mem hFb)) hk hkA
          rw [h1] at hk2
          obtain rfl : k = j := by simpa using hk2
          refine h a w (flEnts B) _ Q ha M ?_
          intro v w' Θ' Γ' M' hR hN
          refine ⟨fun W => Mem W (flEnts B ++ Γ'), fun hl W hW => ?_, M'.dropMid, ?_⟩
          · obtain ⟨N, rfl⟩ := hN hl
            have p : (flEnts B ++ (N ++ Γ)).Perm (N ++ (flEnts B ++ Γ)) := by rw [← List.append_assoc, ← List.append_assoc]; exact (List.perm_append_comm).append_right _
            exact (hW.perm p).right
          · have e1 := flList_set listed k B fun F b h => hne F _ h
            have := hr v Θ' Γ' hR B (a.put o.dst v) Q fuel (listed.setIfInBounds k true) w' hB (ha.put _ v hd) (hs.put hB ho2) M' hQ hp hns (by rw [Array.size_setIfInBounds]; exact hsz) (by rw [e1]; exact hsh.set hk) (hF.set hnA (keyFree_push ho2)) h4
            rw [e1] at this
            exact this
    exact key _ B a w rfl hB ha hs M hsh
theorem wpOp_ex {o : Oper} {R : Value → World → Prop} {T : Act → World → Prop} {Q : Exit → Act → World → Prop} {a : Act} {w : World} (ho : nth all j = some o) (ha : Agree n e a) (hg : Wants all e o.guard true) (h : Ex P o e w R) (hr : ∀ v w', R v w' → T (a.put o.dst v) w') : wpOp P all.toArray Q j T a w := by
  have hi : all.toArray[j]? = some o := by rw [nth_eq] at ho; simpa using ho
  have hw := Wants.wanted ha hg
  obtain ⟨d, op, ty, pos, af, g⟩ := o
  unfold Go.wpOp
  simp only [hi]
  rw [if_pos hw]
  refine .inl ?_
  unfold Oper.wp
  rcases h with ⟨v, w', h1, h2⟩ | ⟨f, args, h1, h2⟩ | ⟨w', h1, h2⟩
  · rw [h1 a.eval d pos af g (fun x u hx => ha.eval hx)]
    exact hr _ _ h2
  · rw [h1 a.eval d pos af g w (fun x u hx => ha.eval hx)]
    refine Calls.mono h2 fun x w' hx => ?_
    cases x with
    | returned v => exact hr v w' hx
    | panicked c => exact hx.elim
    | outgrown => exact hx.elim
  · rw [h1 a.eval d pos af g (fun x u hx => ha.eval hx)]
    exact hr _ _ h2
/-- What an operation does to memory as a list of entries: Δ is what it does not look at. -/
def Acts (P : Program) (op : Op) (ty : TypeId) (e : Env) (Γ : Mm) (R : Value → Mm → Prop) : Prop := ∀ (Δ : Mm) (w : World), Mem w (Δ ++ Γ) → Ex P ⟨none, op, ty, "", #[], none⟩ e w fun v w' => ∃ Γ', Mem w' (Δ ++ Γ') ∧ R v Γ'
theorem GS_adds {R : Value → Mm → Prop} (ho : nth all j = some ⟨d, op, ty, pos, af, g⟩) (hg : Wants all e g true) (hd : slotOk n d = true) (ho2 : offA A d = true) (h : Acts P op ty e Γ fun v Γ' => ∃ N, Γ' = N ++ Γ ∧ R v N)
    (hr : ∀ v N, R v N → GS P n all K A Θ r (push d v e) (N ++ Γ)) : GS P n all K A Θ (.c j :: r) e Γ :=
  GS_chain' (R := fun v Θ' Γ' => Θ' = Θ ∧ ∃ N, Γ' = N ++ Γ ∧ R v N) ho hd ho2 (fun a w Δ T Q ha M hT => wpOp_ex (o := ⟨d, op, ty, pos, af, g⟩) ho ha hg (h (Δ ++ Θ) w (by rw [List.append_assoc]; exact M)) fun v w' ⟨Γ', M', N, e1, hR⟩ => hT v w' Θ Γ' (by rw [← List.append_assoc]; exact M') ⟨rfl, N, e1, hR⟩ fun _ => ⟨N, e1⟩) fun v Θ' Γ' ⟨e0, N, e1, hR⟩ => by rw [e0, e1]; exact hr v N hR
theorem GS_acts {R : Value → Mm → Prop} (ho : nth all j = some ⟨d, op, ty, pos, af, g⟩) (hl : looseX .any all.toArray j = true) (hg : Wants all e g true) (hd : slotOk n d = true) (ho2 : offA A d = true) (h : Acts P op ty e Γ R)
    (hr : ∀ v Γ', R v Γ' → GS P n all K A Θ r (push d v e) Γ') : GS P n all K A Θ (.c j :: r) e Γ :=
  GS_chain' (R := fun v Θ' Γ' => Θ' = Θ ∧ R v Γ') ho hd ho2 (fun a w Δ T Q ha M hT => wpOp_ex (o := ⟨d, op, ty, pos, af, g⟩) ho ha hg (h (Δ ++ Θ) w (by rw [List.append_assoc]; exact M)) fun v w' ⟨Γ', M', hR⟩ => hT v w' Θ Γ' (by rw [← List.append_assoc]; exact M') ⟨rfl, hR⟩ fun hh => (by rw [hl] at hh; cases hh)) fun v Θ' Γ' ⟨e0, hR⟩ => by rw [e0]; exact hr v Γ' hR
/-- Kept apart: entries at which no quiet operation looks. -/
theorem GS_priv {R : Value → Mm → Mm → Prop} (ho : nth all j = some ⟨d, op, ty, pos, af, g⟩) (hg : Wants all e g true) (hd : slotOk n d = true) (ho2 : offA A d = true)
    (h : ∀ (Δ : Mm) (w : World), Mem w (Δ ++ (Θ ++ Γ)) → Ex P ⟨none, op, ty, "", #[], none⟩ e w fun v w' => ∃ Θ' N, Mem w' (Δ ++ (Θ' ++ (N ++ Γ))) ∧ R v Θ' N) (hr : ∀ v Θ' N, R v Θ' N → GS P n all K A Θ' r (push d v e) (N ++ Γ)) : GS P n all K A Θ (.c j :: r) e Γ :=
  GS_chain' (R := fun v Θ' Γ' => ∃ N, Γ' = N ++ Γ ∧ R v Θ' N) ho hd ho2 (fun a w Δ T Q ha M hT => wpOp_ex (o := ⟨d, op, ty, pos, af, g⟩) ho ha hg (h Δ w M) fun v w' ⟨Θ', N, M', hR⟩ => hT v w' Θ' (N ++ Γ) M' ⟨N, rfl, hR⟩ fun _ => ⟨N, rfl⟩) fun v Θ' Γ' ⟨N, e1, hR⟩ => by rw [e1]; exact hr v Θ' N hR
theorem GS_offC (ho : nth all j = some ⟨d, op, ty, pos, af, g⟩) (hg : Wants all e g false) (hd : slotOk n d = true) (ho2 : offA A d = true) (hr : GS P n all K A Θ r (push d undef e) Γ) : GS P n all K A Θ (.c j :: r) e Γ :=
  GS_chain' (R := fun v Θ' Γ' => v = undef ∧ Θ' = Θ ∧ Γ' = Γ) ho hd ho2 (fun a w Δ T Q ha M hT => by
    have hi : all.toArray[j]? = some ⟨d, op, ty, pos, af, g⟩ := by rw [nth_eq] at ho; simpa using ho
    have hw : Region.wanted ⟨d, op, ty, pos, af, g⟩ (yielded all.toArray a.tmps) = false := Wants.wanted ha (o := ⟨d, op, ty, pos, af, g⟩) hg
    unfold wpOp
    simp only [hi, hw, Bool.false_eq_true, if_false]
    exact hT undef w Θ Γ M ⟨rfl, rfl, rfl⟩ fun _ => ⟨[], rfl⟩) fun v Θ' Γ' ⟨e1, e2, e3⟩ => by rw [e1, e2, e3]; exact hr
end
end SC
end Go.Proofs.YtclihihdgodloaaDoor
end
section
/- Code over memory as a list of entries: judgements that name no world. -/
set_option linter.unusedVariables false
set_option linter.unusedSimpArgs false
namespace Go.Proofs.YtclihihdgodloaaDoor
namespace SC
open Go.Proofs
abbrev PostG := Exit → Env → Mm → Prop
def liftG (Q : PostG) : Post := fun s e w => ∃ Γ, Mem w Γ ∧ Q s e Γ
def GC (P : Program) (n : Nat) (c : Code) (Q : PostG) (e : Env) (Γ : Mm) : Prop := ∀ w, Mem w Γ → WC P n c (liftG Q) e w
def thenG (K : Env → Mm → Prop) (Q : PostG) : PostG
  | .normal, e, Γ => K e Γ
  | s, e, Γ => Q s e Γ
def blockG (id : Nat) (Q : PostG) : PostG
  | .exit i, e, Γ => if i = id then Q .normal e Γ else Q (.exit i) e Γ
  | s, e, Γ => Q s e Γ
def retG (rs : List Nat) (R : Value → Mm → Prop) : PostG
  | .ret, e, Γ => ∃ vs, rs.map (look e) = vs.map some ∧ R (retVal vs) Γ
  | .normal, e, Γ => ∃ vs, rs.map (look e) = vs.map some ∧ R (retVal vs) Γ
  | _, _, _ => False
section code
variable {P : Program} {n : Nat} {Q : PostG} {e : Env} {Γ : Mm}
theorem GC.mono {c : Code} {Q' : PostG} (h : GC P n c Q e Γ) (hq : ∀ s e Γ, Q s e Γ → Q' s e Γ) : GC P n c Q' e Γ := fun w M => (h w M).mono fun s e w ⟨Γ, M, h⟩ => ⟨Γ, M, hq s e Γ h⟩
theorem thenG_normal {K : Env → Mm → Prop} (h : K e Γ) : thenG K Q .normal e Γ := h
theorem thenG_exit {K : Env → Mm → Prop} {i : Nat} (h : Q (.exit i) e Γ) : thenG K Q (.exit i) e Γ := h
theorem thenG_ret {K : Env → Mm → Prop} (h : Q .ret e Γ) : thenG K Q .ret e Γ := h
theorem blockG_hit {i : Nat} (h : Q .normal e Γ) : blockG i Q (.exit i) e Γ := by simpa [blockG] using h
theorem blockG_ret {i : Nat} (h : Q .ret e Γ) : blockG i Q .ret e Γ := h
theorem blockG_normal {i : Nat} (h : Q .normal e Γ) : blockG i Q .normal e Γ := h
theorem GC_skip (h : Q .normal e Γ) : GC P n .skip Q e Γ := fun w M => WC_skip ⟨Γ, M, h⟩
theorem GC_exit {i : Nat} (h : Q (.exit i) e Γ) : GC P n (.exit i) Q e Γ := fun w M => WC_exit ⟨Γ, M, h⟩
theorem GC_ret (h : Q .ret e Γ) : GC P n .ret Q e Γ := fun w M => WC_ret ⟨Γ, M, h⟩
theorem GC_seqK {x y : Code} (h : ∀ K : Env → Mm → Prop, (∀ e Γ, GC P n y Q e Γ → K e Γ) → GC P n x (thenG K Q) e Γ) : GC P n (.seq x y) Q e Γ := fun w M => by
  refine WC_seq ((h (fun e Γ => GC P n y Q e Γ) fun _ _ h => h) w M |>.mono ?_)
  intro s e w ⟨Γ, M, hq⟩
  cases s with
  | normal => exact hq w M
  | exit i => exact ⟨Γ, M, hq⟩
  | goto l => exact ⟨Γ, M, hq⟩
  | ret => exact ⟨Γ, M, hq⟩
  | panic c => exact ⟨Γ, M, hq⟩
  | outgrown => exact ⟨Γ, M, hq⟩
theorem GC_if_true {c : Operand} {x y : Code} (hc : ev e c = some (.bool true)) (h : GC P n x Q e Γ) : GC P n (.cond c x y) Q e Γ := fun w M => WC_if_true hc (h w M)
theorem GC_if_false {c : Operand} {x y : Code} (hc : ev e c = some (.bool false)) (h : GC P n y Q e Γ) : GC P n (.cond c x y) Q e Γ := fun w M => WC_if_false hc (h w M)
theorem GC_block {i : Nat} {c : Code} (h : GC P n c (blockG i Q) e Γ) : GC P n (.block i c) Q e Γ := fun w M => by
  refine WC_block ((h w M).mono ?_)
  intro s e w ⟨Γ, M, hq⟩
  cases s with
  | exit j =>
    simp only [blockG] at hq
    simp only [blockQ]
    split
    · rename_i hj; rw [if_pos hj] at hq; exact ⟨Γ, M, hq⟩
    · rename_i hj; rw [if_neg hj] at hq; exact ⟨Γ, M, hq⟩
  | normal => exact ⟨Γ, M, hq⟩
  | goto l => exact ⟨Γ, M, hq⟩
  | ret => exact ⟨Γ, M, hq⟩
  | panic c => exact ⟨Γ, M, hq⟩
  | outgrown => exact ⟨Γ, M, hq⟩
theorem GC_loop {c : Code} {σ : Type} (E : σ → Env) (G : σ → Mm) (I : σ → Prop) (m : σ → Nat) (s0 : σ) (h0 : Sub (E s0) e) (hG : Wk Γ (G s0)) (hI : I s0)
    (round : ∀ s, I s → GC P n c (thenG (fun e' Γ' => ∃ s', Sub (E s') e' ∧ Wk Γ' (G s') ∧ I s' ∧ m s' < m s) Q) (E s) (G s)) : GC P n (.loop c) Q e Γ := fun w M => by
  refine WC_loop E (fun s w => Mem w (G s) ∧ I s) m s0 h0 ⟨hG.mem w M, hI⟩ ?_
  intro s w1 ⟨M1, hI1⟩
  refine (round s hI1 w1 M1).mono ?_
  intro x e' w' ⟨Γ', M', hq⟩
  cases x with
  | normal => obtain ⟨s', h1, h2, h3, h4⟩ := hq; exact ⟨s', h1, ⟨h2.mem w' M', h3⟩, h4⟩
  | exit i => exact ⟨Γ', M', hq⟩
  | goto l => exact ⟨Γ', M', hq⟩
  | ret => exact ⟨Γ', M', hq⟩
  | panic c => exact ⟨Γ', M', hq⟩
  | outgrown => exact ⟨Γ', M', hq⟩
/-- The slots that stay. -/
inductive Pick : List Nat → Env → Env → Prop
  | nil {e : Env} : Pick [] e []
  | cons {k : Nat} {v : Value} {ks : List Nat} {e F : Env} : look e k = some v → Pick ks e F → Pick (k :: ks) e ((k, v) :: F)
theorem Pick.sub {ks : List Nat} {e F : Env} (h : Pick ks e F) : Sub F e := by
  induction h with
  | nil => exact trivial
  | cons h _ ih => exact ⟨h, ih⟩
theorem Sub.append : ∀ {a b e : Env}, Sub a e → Sub b e → Sub (a ++ b) e
  | [], _, _, _, h => h
  | (k, v) :: r, b, e, h1, h2 => ⟨h1.1, Sub.append h1.2 h2⟩
theorem GC_loopK {c : Code} {σ : Type} (ks : List Nat) {F : Env} (E : σ → Env) (G : σ → Mm) (I : σ → Prop) (m : σ → Nat) (s0 : σ) (hF : Pick ks e F) (h0 : Sub (E s0) e) (hG : Wk Γ (G s0)) (hI : I s0)
    (round : ∀ s, I s → GC P n c (thenG (fun e' Γ' => ∃ s', Sub (E s' ++ F) e' ∧ Wk Γ' (G s') ∧ I s' ∧ m s' < m s) Q) (E s ++ F) (G s)) : GC P n (.loop c) Q e Γ :=
  GC_loop (fun s => E s ++ F) G I m s0 (h0.append hF.sub) hG hI round
end code
section rets
variable {R : Value → Mm → Prop} {e : Env} {Γ : Mm} {a b c : Nat} {u v x : Value}
theorem retG1 (h : look e a = some v) (hr : R v Γ) : retG [a] R .ret e Γ := ⟨[v], by simp [h], hr⟩
theorem retG2 (h : look e a = some v) (h1 : look e b = some u) (hr : R (.tuple #[v, u]) Γ) : retG [a, b] R .ret e Γ := ⟨[v, u], by simp [h, h1], hr⟩
theorem retG3 (h : look e a = some v) (h1 : look e b = some u) (h2 : look e c = some x) (hr : R (.tuple #[v, u, x]) Γ) : retG [a, b, c] R .ret e Γ := ⟨[v, u, x], by simp [h, h1, h2], hr⟩
end rets
/-! ### calls -/
def CVN (P : Program) (f : FuncId) (args : List Value) (w : World) (R : Value → Mm → Prop) : Prop := CV P f args w fun v w' => ∃ N, Mem w' (N ++ [.old w none_]) ∧ R v N
/-- C: what it may change. -/
def CVM (P : Program) (f : FuncId) (args : List Value) (w : World) (C : Mm) (R : Value → Mm → Prop) : Prop := CV P f args w fun v w' => ∃ N, Mem w' (N ++ [.old w (owns C)]) ∧ R v N
section calls
variable {P : Program} {f : FuncId} {args : List Value} {w : World} {R R' : Value → Mm → Prop} {C : Mm}
theorem CVN.mono (h : CVN P f args w R) (hr : ∀ v N, R v N → R' v N) : CVN P f args w R' := CV.mono h fun v w' ⟨N, M, h⟩ => ⟨N, M, hr v N h⟩
theorem CVM.mono (h : CVM P f args w C R) (hr : ∀ v N, R v N → R' v N) : CVM P f args w C R' := CV.mono h fun v w' ⟨N, M, h⟩ => ⟨N, M, hr v N h⟩
theorem CVN.of {R0 : Value → World → Prop} {T : Value → Prop} (h : CV P f args w R0) (hr : ∀ v w', R0 v w' → Chg w w' none_ ∧ T v) : CVN P f args w fun v N => N = [] ∧ T v :=
  CV.mono h fun v w' h => ⟨[], .one (hr v w' h).1, rfl, (hr v w' h).2⟩
theorem CVN.chg (h : CVN P f args w R) : CV P f args w fun v w' => ∃ N, R v N ∧ Mem w' N ∧ Chg w w' none_ := CV.mono h fun v w' ⟨N, M, h⟩ => ⟨N, h, M.left, M.right.ok (.old w none_) (by simp)⟩
theorem CVN.enter {fn : Func} {c : Code} (n : Nat) (rs : List Nat) (hf : P.funcs[f]? = some fn) (hb : fn.body = some c)
    (hn : fn.ntmps = n) (hr : fn.results = (rs.map ResultVar.tmp).toArray) (hl : rs.length ≤ 4) (hs : Nat.ble args.length n = true) (h : GC P n c (retG rs fun v Γ => ∃ N, Wk Γ (N ++ [.old w none_]) ∧ R v N) (argEnv args 0) [.old w none_]) : CVN P f args w R := by
  refine SC.enter n rs hf hb hn hr hl hs ((h w (Mem.start w)).mono ?_)
  intro s e w' ⟨Γ, M, hq⟩
  cases s with
  | normal => obtain ⟨vs, h1, N, h2, h3⟩ := hq; exact ⟨vs, h1, N, h2.mem w' M, h3⟩
  | ret => obtain ⟨vs, h1, N, h2, h3⟩ := hq; exact ⟨vs, h1, N, h2.mem w' M, h3⟩
  | exit i => exact hq
  | goto l => exact hq
  | panic c => exact hq
  | outgrown => exact hq
theorem CVM.enter {fn : Func} {c : Code} (n : Nat) (rs : List Nat) (hf : P.funcs[f]? = some fn) (hb : fn.body = some c)
    (hn : fn.ntmps = n) (hr : fn.results = (rs.map ResultVar.tmp).toArray) (hl : rs.length ≤ 4) (hs : Nat.ble args.length n = true) (M : Mem w C) (h : GC P n c (retG rs fun v Γ => ∃ N, Wk Γ (N ++ [.old w (owns C)]) ∧ R v N) (argEnv args 0) (C ++ [.old w (owns C)])) : CVM P f args w C R := by
  refine SC.enter n rs hf hb hn hr hl hs ((h w M.startS).mono ?_)
  intro s e w' ⟨Γ, M, hq⟩
  cases s with
  | normal => obtain ⟨vs, h1, N, h2, h3⟩ := hq; exact ⟨vs, h1, N, h2.mem w' M, h3⟩
  | ret => obtain ⟨vs, h1, N, h2, h3⟩ := hq; exact ⟨vs, h1, N, h2.mem w' M, h3⟩
  | exit i => exact hq
  | goto l => exact hq
  | panic c => exact hq
  | outgrown => exact hq
end calls
/-! ### regions -/
def GL (P : Program) (n : Nat) (all : List Oper) (K : Env → Mm → Prop) (ops : List Oper) (e : Env) (Γ : Mm) : Prop := ∀ w, Mem w Γ → WL P n all (fun e w => ∃ Γ, Mem w Γ ∧ K e Γ) ops e w
def guardV (l : List Oper) (e : Env) : Option (Nat × Bool) → Option Bool
  | none => some true
  | some (j, b) => match gslot l j with
    | some d => match look e d with
      | some (.bool true) => some b
      | some (.bool false) => some (!b)
      | _ => none
    | none => none
theorem guardV_wants {l : List Oper} {e : Env} {g : Option (Nat × Bool)} {y : Bool} (h : guardV l e g = some y) : Wants l e g y := by
  unfold guardV at h
  split at h
  · simpa [Wants] using h.symm
  · rename_i j b
    split at h
    · rename_i d hd
      split at h
      · rename_i hl
        exact ⟨d, true, hd, hl, by have e1 := Option.some.inj h; rw [← e1]; cases b <;> rfl⟩
      · rename_i hl
        exact ⟨d, false, hd, hl, by have e1 := Option.some.inj h; rw [← e1]; cases b <;> rfl⟩
      · cases h
    · cases h
inductive Md where
  | p (rest : List Oper)
  | q (i : Nat) (A : List Fl) (Θ : Mm) (r : List PStep)
  | c (j : Nat) (A : List Fl) (Θ : Mm) (r : List PStep)
@[reducible] def GN (P : Program) (n : Nat) (all : List Oper) (K : Env → Mm → Prop) : Md → Env → Mm → Prop
  | .p rest => GL P n all K rest
  | .q _ A Θ r => GS P n all K A Θ r
  | .c _ A Θ r => GS P n all K A Θ r
def GX (P : Program) (n : Nat) (all : List Oper) (K : Env → Mm → Prop) (m : Md) (d : Option Tmp) (op : Op) (ty : TypeId) (e : Env) (Γ : Mm) : Prop :=
  match m with
  | .p rest => ∀ pos af g, Wants all e g true → slotOk n d = true → GL P n all K (⟨d, op, ty, pos, af, g⟩ :: rest) e Γ
  | .q i A Θ r => ∀ pos af g, nth all i = some ⟨d, op, ty, pos, af, g⟩ → Wants all e g true → slotOk n d = true → offA A d = true → GS P n all K A Θ (.q i :: r) e Γ
  | .c j A Θ r => ∀ pos af g, nth all j = some ⟨d, op, ty, pos, af, g⟩ → Wants all e g true → slotOk n d = true → offA A d = true → GS P n all K A Θ (.c j :: r) e Γ
def addOk : Md → Bool
  | .q .. => false
  | _ => true
def wrOk (all : List Oper) : Md → Bool
  | .p _ => true
  | .q .. => false
  | .c j _ _ _ => looseX .any all.toArray j
section regs
variable {P : Program} {n : Nat} {all rest : List Oper} {K : Env → Mm → Prop} {m : Md} {A : List Fl} {Θ : Mm} {r : List PStep} {e : Env} {Γ : Mm} {i j : Nat} {d : Option Tmp} {op : Op} {ty : TypeId} {pos : String} {af : Array Edge} {g : Option (Nat × Bool)} {v : Value}
theorem GL_nil (h : K e Γ) : GL P n all K [] e Γ := fun w M => WL_nil ⟨Γ, M, h⟩
theorem GL_on (hg : guardV all e g = some true) (hd : slotOk n d = true) (h : GX P n all K (.p rest) d op ty e Γ) : GL P n all K (⟨d, op, ty, pos, af, g⟩ :: rest) e Γ := h pos af g (guardV_wants hg) hd
theorem GL_off (hg : guardV all e g = some false) (hd : slotOk n d = true) (h : GL P n all K rest (push d undef e) Γ) : GL P n all K (⟨d, op, ty, pos, af, g⟩ :: rest) e Γ := fun w M => WL_off (guardV_wants hg) hd (h w M)
theorem GS_qon (ho : nth all i = some ⟨d, op, ty, pos, af, g⟩) (hg : guardV all e g = some true) (hd : slotOk n d = true) (hA : offA A d = true) (h : GX P n all K (.q i A Θ r) d op ty e Γ) : GS P n all K A Θ (.q i :: r) e Γ := h pos af g ho (guardV_wants hg) hd hA
theorem GS_qoff (ho : nth all i = some ⟨d, op, ty, pos, af, g⟩) (hg : guardV all e g = some false) (hd : slotOk n d = true) (hA : offA A d = true) (h : GS P n all K A Θ r (push d undef e) Γ) : GS P n all K A Θ (.q i :: r) e Γ := GS_off ho (guardV_wants hg) hd hA h
theorem GS_con (ho : nth all j = some ⟨d, op, ty, pos, af, g⟩) (hg : guardV all e g = some true) (hd : slotOk n d = true) (hA : offA A d = true) (h : GX P n all K (.c j A Θ r) d op ty e Γ) : GS P n all K A Θ (.c j :: r) e Γ := h pos af g ho (guardV_wants hg) hd hA
theorem GS_coff (ho : nth all j = some ⟨d, op, ty, pos, af, g⟩) (hg : guardV all e g = some false) (hd : slotOk n d = true) (hA : offA A d = true) (h : GS P n all K A Θ r (push d undef e) Γ) : GS P n all K A Θ (.c j :: r) e Γ := GS_offC ho (guardV_wants hg) hd hA h
theorem offU {a : Act} {j' d' : Nat} {b : Bool} (ha : Agree n e a) (h1 : gslot all j' = some d') (h2 : look e d' = some undef) : Region.wanted ⟨d, op, ty, pos, af, some (j', b)⟩ (yielded all.toArray a.tmps) = false := by
  unfold Region.wanted
  have ht := ha.tmps d' _ h2
  have hy : yielded all.toArray a.tmps j' = none := by
    unfold yielded
    unfold gslot at h1
    rw [nth_eq] at h1
    have : ((all.toArray[j']?).bind (·.dst)) = some d' := by simpa using h1
    rw [this]
    simp [ht, undef]
  simp only [hy]
  rfl
/-- A guard whose slot was itself left out. -/
theorem GL_offU {j' d' : Nat} {b : Bool} (h1 : gslot all j' = some d') (h2 : look e d' = some undef) (hd : slotOk n d = true) (h : GL P n all K rest (push d undef e) Γ) : GL P n all K (⟨d, op, ty, pos, af, some (j', b)⟩ :: rest) e Γ := fun w M a Q ha hQ => by
  unfold wpList
  rw [if_neg (by rw [offU ha h1 h2]; decide)]
  exact h w M _ Q (ha.put d undef hd) hQ
theorem wr_p : wrOk all (.p rest) = true := rfl
theorem Agree.lit {a : Act} {d : Nat} {t b : Bool} (ha : Agree n e a) (h : look e d = some (.bool t)) (hb : t = b) : Agree n (push (some d) (.bool b) e) a := by
  subst hb
  refine ⟨ha.size, ha.defers, fun k u hu => ?_⟩
  simp only [push, look] at hu
  cases hk : Nat.beq d k with
  | true =>
    rw [hk] at hu
    obtain rfl := Nat.eq_of_beq_eq_true hk
    simp only [cond_true, Option.some.injEq] at hu
    rw [← hu]
    exact ha.tmps d _ h
  | false => rw [hk] at hu; exact ha.tmps k u hu
theorem GX_acts {R : Value → Mm → Prop} (hm : wrOk all m = true) (h : Acts P op ty e Γ R) (hr : ∀ v Γ', R v Γ' → GN P n all K m (push d v e) Γ') : GX P n all K m d op ty e Γ := by
  cases m with
  | p rest =>
    intro pos af g hg hd w M
    rcases h [] w M with ⟨v, w', h1, Γ', M', h2⟩ | ⟨f, args, h1, h2⟩ | ⟨w', h1, Γ', M', h2⟩
    · exact WL_does hg hd h1 (hr v Γ' h2 w' M')
    · exact WL_call hg hd h1 h2 fun v w' ⟨Γ', M', h2⟩ => hr v Γ' h2 w' M'
    · exact WL_doesU hg hd h1 (hr _ Γ' h2 w' M')
  | q i A Θ r => cases hm
  | c j A Θ r => exact fun pos af g ho hg hd hA => GS_acts ho hm hg hd hA h hr
theorem GX_adds {R : Value → Mm → Prop} (hm : addOk m = true) (h : Acts P op ty e Γ fun v Γ' => ∃ N, Γ' = N ++ Γ ∧ R v N) (hr : ∀ v N, R v N → GN P n all K m (push d v e) (N ++ Γ)) : GX P n all K m d op ty e Γ := by
  cases m with
  | p rest => exact GX_acts rfl h fun v Γ' ⟨N, e1, h⟩ => by rw [e1]; exact hr v N h
  | q i A Θ r => cases hm
  | c j A Θ r => exact fun pos af g ho hg hd hA => GS_adds ho hg hd hA h hr
theorem GX_def (h : ∀ w, Mem w Γ → Does P op ty e w v w) (hr : GN P n all K m (push d v e) Γ) : GX P n all K m d op ty e Γ := by
  cases m with
  | p rest => exact fun pos af g hg hd w M => WL_does hg hd (h w M) (hr w M)
  | q i A Θ r => exact fun pos af g ho hg hd hA => GS_quiet ho hg hd hA h hr
  | c j A Θ r =>
    refine fun pos af g ho hg hd hA => GS_adds (R := fun u N => u = v ∧ N = []) ho hg hd hA (fun Δ w M => .inl ⟨v, w, h w M.right, Γ, M, [], rfl, rfl, rfl⟩) ?_
    intro u N ⟨e1, e2⟩
    rw [e1, e2]
    exact hr
theorem GX_pure (h : Pure P op ty e v) (hr : GN P n all K m (push d v e) Γ) : GX P n all K m d op ty e Γ := GX_def (fun w _ => h w) hr
theorem GC_region {id : Nat} {l : List Oper} {Q : PostG} (h : GL P n l (fun e Γ => Q .normal e Γ) l e Γ) : GC P n (.region id l.toArray false) Q e Γ := fun w M => WC_region (h w M)
theorem GC_draws {id : Nat} {l : List Oper} {Q : PostG} (pl : List PStep) (hm : P.follows .mixedOrders = true) (hns : Region.noSelect l.toArray = true) (hok : planM l.toArray pl l.toArray.size (Array.replicate l.toArray.size false) [] = true)
    (h : GS P n l (fun e Γ => Q .normal e Γ) [] [] pl e Γ) : GC P n (.region id l.toArray true) Q e Γ := fun w M a ha =>
  wp_region_any hm (wpAny_of_M _ _ _ _ _ (h [] a _ _ _ _ rfl ha (fun _ _ h => (by cases h)) M.drew (fun a' w' e' Γ' ha' M' hK => ⟨e', ha', Γ', M', hK⟩) lift_panic hns (by simp) (Shut.init _ _ _) ⟨fun _ h => (by cases h), List.Pairwise.nil, List.Pairwise.nil⟩ hok))
end regs
end SC
end Go.Proofs.YtclihihdgodloaaDoor
end
section
/- trestlebook: CopyInts, CopyLists, LendInts. -/
set_option linter.unusedVariables false
set_option linter.unusedSimpArgs false
namespace Go.Proofs.YtclihihdgodloaaDoor
namespace SC
open Go.Proofs
section
variable {P : Program} {ty : TypeId} {e : Env} {w : World} {x y : Operand} {v : Value} {t t0 : TypeId} {td : TypeDesc} {sz by_ : Nat} {zv : Value} {ag : Bool}
end
attribute [local irreducible] WC WL WX WS WO OX Does DoesU Enters CV Pure thenQ blockQ retQ Wants retQC
set_option maxRecDepth 100000
end SC
end Go.Proofs.YtclihihdgodloaaDoor
end
section
/- What single operations do to memory as a list of entries. -/
set_option linter.unusedVariables false
set_option linter.unusedSimpArgs false
namespace Go.Proofs.YtclihihdgodloaaDoor
namespace SC
open Go.Proofs
/-! ### entries, and what can be read -/
inductive In : Mm → Ent → Prop
  | here {E : Ent} {Γ : Mm} : In (E :: Γ) E
  | there {E D : Ent} {Γ : Mm} : In Γ E → In (D :: Γ) E
theorem In.mem {Γ : Mm} {E : Ent} (h : In Γ E) : E ∈ Γ := by
  induction h with
  | here => simp
  | there _ ih => simp [ih]
theorem In.ok {Γ : Mm} {E : Ent} {w : World} (h : In Γ E) (M : Mem w Γ) : E.ok w := M.ok E h.mem
/-- In every world of Γ the row can be read. -/
def Rd {α : Type} (Γ : Mm) (enc : α → List Value) (sz : Nat) (A : Option Addr) (l : List α) : Prop := ∀ w, Mem w Γ → RowA w enc sz A l
class Enc {α : Type} (enc : α → List Value) (sz : outParam Nat) : Prop where
  len : ∀ a, (enc a).length = sz
  one : ∀ a, ∀ u ∈ enc a, u.oneCell' = true
  pos : 0 < sz
def booc (b : Bool) : List Value := [.bool b]
instance : Enc icell 1 := ⟨fun _ => rfl, fun a u h => by simp [icell] at h; subst h; rfl, by decide⟩
instance : Enc booc 1 := ⟨fun _ => rfl, fun a u h => by simp [booc] at h; subst h; rfl, by decide⟩
instance : Enc tcells 3 := ⟨fun _ => rfl, fun a u h => by simp [tcells] at h; rcases h with rfl | rfl | rfl <;> rfl, by decide⟩
instance : Enc scells 3 := ⟨fun _ => rfl, fun a u h => by simp [scells] at h; rcases h with rfl | rfl | rfl <;> rfl, by decide⟩
instance : Enc bcell 1 := ⟨fun _ => rfl, fun a u h => by simp [bcell] at h; subst h; rfl, by decide⟩
theorem Rd.own {α : Type} {Γ : Mm} {enc : α → List Value} {sz : Nat} {t : TypeId} {A : Option Addr} {c : Nat} {l : List α} (h : In Γ (.vec enc sz t A c l)) (H : Enc enc sz) : Rd Γ enc sz A l := fun w M => RowA.own H.len (h.ok M)
theorem Rd.old {α : Type} {Γ : Mm} {enc : α → List Value} {sz : Nat} {A : Option Addr} {l : List α} {w0 : World} (h : In Γ (.old w0 none_)) (h0 : RowA w0 enc sz A l) : Rd Γ enc sz A l := fun w M => h0.chg (h.ok M)
theorem Rd.at {α : Type} {Γ : Mm} {enc : α → List Value} {sz : Nat} {A : Option Addr} {l : List α} {w : World} (h : Rd Γ enc sz A l) (M : Mem w Γ) : RowA w enc sz A l := h w M
/-- The i-th of a list. -/
def gt {α : Type} [Inhabited α] (l : List α) (i : Int) : α := l.getD i.toNat default
theorem gt_nat {α : Type} [Inhabited α] {l : List α} {i : Nat} (h : i < l.length) : gt l (i : Int) = l[i] := by unfold gt; simp [h]
theorem gt_get {α : Type} [Inhabited α] {l : List α} {i : Int} (h0 : 0 ≤ i) (h : i < l.length) : ∃ hl : i.toNat < l.length, gt l i = l[i.toNat] := ⟨by omega, by unfold gt; simp [show i.toNat < l.length by omega]⟩
theorem gt_mem {α : Type} [Inhabited α] {l : List α} {i : Int} (h0 : 0 ≤ i) (h : i < l.length) : gt l i ∈ l := by obtain ⟨h1, h2⟩ := gt_get h0 h; rw [h2]; exact List.getElem_mem h1
/-- An element's address. -/
def At (A : Option Addr) (k : Nat) : Addr := (A.getD ⟨0, 0, none⟩).add k
theorem RowA.at {α : Type} [Inhabited α] {w : World} {enc : α → List Value} {sz : Nat} {A : Option Addr} {l : List α} (h : RowA w enc sz A l) {i : Int} (h0 : 0 ≤ i) (h1 : i < l.length) {j : Nat} {u : Value} (hj : (enc (gt l i))[j]? = some u) : w.cell? ((At A (i.toNat * sz)).add j) = some u := by
  obtain ⟨hl, e⟩ := gt_get h0 h1
  obtain ⟨p, rfl, hp⟩ := h i.toNat hl
  rw [e] at hj
  have := hp j u hj
  rw [Int.toNat_natCast] at this
  exact this
theorem add_zero (p : Addr) : p.add 0 = p := by
  cases p with
  | mk b o s => unfold Addr.add; split <;> simp_all
section
variable {P : Program} {n : Nat} {all : List Oper} {K : Env → Mm → Prop} {m : Md} {e : Env} {Γ Γ' : Mm} {d : Option Tmp} {op : Op} {ty t t' t0 : TypeId} {v u : Value} {x y z : Operand} {td : TypeDesc} {sz sz1 by_ by1 : Nat} {zv z1 : Value} {ag ag1 : Bool}
/-! ### what looks at no memory -/
theorem G_pv {C : Prop} (h : pv op e = some (v, C)) (hc : C) (hr : GN P n all K m (push d v e) Γ) : GX P n all K m d op ty e Γ := GX_pure (pv_pure h hc) hr
theorem G_cmpT {E C : Prop} (h : cv op e = some (E, C)) (hE : E) (hc : C) (hr : GN P n all K m (push d (.bool true) e) Γ) : GX P n all K m d op ty e Γ := GX_pure ((cv_pure h hE).1 hc) hr
theorem G_cmpF {E C : Prop} (h : cv op e = some (E, C)) (hE : E) (hc : ¬ C) (hr : GN P n all K m (push d (.bool false) e) Γ) : GX P n all K m d op ty e Γ := GX_pure ((cv_pure h hE).2 hc) hr
theorem G_cmp {E C : Prop} (h : cv op e = some (E, C)) (hE : E) (ht : C → GN P n all K m (push d (.bool true) e) Γ) (hf : ¬ C → GN P n all K m (push d (.bool false) e) Γ) : GX P n all K m d op ty e Γ := by
  by_cases hc : C
  · exact G_cmpT h hE hc (ht hc)
  · exact G_cmpF h hE hc (hf hc)
/-- The test as a value. -/
theorem G_cmpD {E C : Prop} (h : cv op e = some (E, C)) (hE : E) (hd : Decidable C) (hr : GN P n all K m (push d (.bool (decide C)) e) Γ) : GX P n all K m d op ty e Γ := by
  by_cases hc : C
  · rw [decide_eq_true hc] at hr; exact G_cmpT h hE hc hr
  · rw [decide_eq_false hc] at hr; exact G_cmpF h hE hc hr
theorem G_field {i off : Nat} [F : Fld P t i off] {b o : Nat} (h : ev e x = some (.pointer (some ⟨b, o, none⟩))) (hr : GN P n all K m (push d (.pointer (some ⟨b, o + off, none⟩)) e) Γ) : GX P n all K m d (.fieldAddr t x i) ty e Γ := GX_pure (p_field h) hr
theorem G_fieldP {i off : Nat} [F : Fld P t i off] {p : Addr} (h : ev e x = some (.pointer (some p))) (hr : GN P n all K m (push d (.pointer (some (p.add off))) e) Γ) : GX P n all K m d (.fieldAddr t x i) ty e Γ := GX_pure (p_fieldP h) hr
theorem G_len {A : Option Addr} {k c : Nat} [T : Ty P t (.slice t0) sz zv by_ ag] (h : ev e x = some (.slice A k c)) (hr : GN P n all K m (push d (.int .i64 (k : Int)) e) Γ) : GX P n all K m d (.call { callee := .builtin .len, args := #[x], argTypes := #[t] }) ty e Γ := GX_pure (p_len T.und h) hr
theorem G_neqB {a b : Bool} [T : Ty P t .bool sz zv by_ ag] (h : ev e x = some (.bool a)) (h1 : ev e y = some (.bool b)) (hr : GN P n all K m (push d (.bool (a != b)) e) Γ) : GX P n all K m d (.binOp .neq t x y t') ty e Γ := GX_pure (p_neqB T.und h h1) hr
/-! ### an element's address -/
theorem does_ix {w : World} [U : Ty P t (.slice t0) sz1 z1 by1 ag1] [T : Ty P t0 td sz zv by_ ag] {A : Option Addr} {k c : Nat} {i : Int} {ik : IntKind} (h : ev e x = some (.slice A k c)) (h1 : ev e y = some (.int ik i)) (h0 : 0 ≤ i) (h2 : i < k) (hA : A ≠ none) : Does P (.indexAddr t x y) ty e w (.pointer (some (At A (i.toNat * sz)))) w := by
  cases A with
  | none => exact absurd rfl hA
  | some p => exact does_indexP U.und h h1 h0 h2
theorem G_ix {α : Type} {enc : α → List Value} [U : Ty P t (.slice t0) sz1 z1 by1 ag1] [T : Ty P t0 td sz zv by_ ag] {A : Option Addr} {k c : Nat} {i : Int} {ik : IntKind} {l : List α} (h : ev e x = some (.slice A k c)) (h1 : ev e y = some (.int ik i)) (hR : Rd Γ enc sz A l) (hk : k = l.length) (h0 : 0 ≤ i) (h2 : i < k)
    (hr : GN P n all K m (push d (.pointer (some (At A (i.toNat * sz)))) e) Γ) : GX P n all K m d (.indexAddr t x y) ty e Γ :=
  GX_def (fun w M => does_ix h h1 h0 h2 (by obtain ⟨p, hp, _⟩ := hR w M i.toNat (by omega); rw [hp]; simp)) hr
/-! ### loads -/
theorem G_ld {b o : Nat} {t1 : TypeId} {cs : List Value} [T : Ty P t td sz zv by_ false] (h : ev e x = some (.pointer (some ⟨b, o, none⟩))) (hi : In Γ (.box b t1 cs)) (hv : cs[o]? = some v) (hr : GN P n all K m (push d v e) Γ) : GX P n all K m d (.load t x) ty e Γ :=
  GX_def (fun w M => does_load1 h (hi.ok M) hv) hr
theorem G_ldW {b : Nat} {t1 : TypeId} {cs : List Value} [T : Ty P t td sz zv by_ true] (h : ev e x = some (.pointer (some ⟨b, 0, none⟩))) (hi : In Γ (.box b t1 cs)) (hl : cs.length = sz) (hr : GN P n all K m (push d (.agg cs.toArray) e) Γ) : GX P n all K m d (.load t x) ty e Γ :=
  GX_def (fun w M => does_loadB h (hi.ok M) hl) hr
theorem G_ldO {b o : Nat} {t1 : TypeId} {cs : List Value} {w0 : World} [T : Ty P t td sz zv by_ false] (h : ev e x = some (.pointer (some ⟨b, o, none⟩))) (hi : In Γ (.old w0 none_)) (hb : Blk w0 b t1 cs) (hv : cs[o]? = some v) (hr : GN P n all K m (push d v e) Γ) : GX P n all K m d (.load t x) ty e Γ :=
  GX_def (fun w M => does_load1 h (hb.chg (hi.ok M) id) hv) hr
theorem G_ldC {p : Addr} {w0 : World} [T : Ty P t td sz zv by_ false] (h : ev e x = some (.pointer (some p))) (hi : In Γ (.old w0 none_)) (hv : w0.cell? p = some v) (hr : GN P n all K m (push d v e) Γ) : GX P n all K m d (.load t x) ty e Γ :=
  GX_def (fun w M => does_loadC h (cel_chg hv (hi.ok M) id)) hr
theorem G_rd {α : Type} {enc : α → List Value} {A : Option Addr} {i : Int} {l : List α} [T : Ty P t td sz1 zv by_ false] (h : ev e x = some (.pointer (some (At A (i.toNat * sz))))) (hR : Rd Γ enc sz A l) (ih : Inhabited α) (h0 : 0 ≤ i) (h1 : i < l.length) (hv : (enc (gt l i))[0]? = some v) (hr : GN P n all K m (push d v e) Γ) : GX P n all K m d (.load t x) ty e Γ :=
  GX_def (fun w M => does_loadC h (by have := (hR w M).at h0 h1 hv; rwa [add_zero] at this)) hr
theorem G_rdW {α : Type} {enc : α → List Value} {A : Option Addr} {i : Int} {l : List α} [T : Ty P t td sz zv by_ true] (h : ev e x = some (.pointer (some (At A (i.toNat * sz))))) (hR : Rd Γ enc sz A l) (N : Enc enc sz) (ih : Inhabited α) (h0 : 0 ≤ i) (h1 : i < l.length) (hr : GN P n all K m (push d (.agg (enc (gt l i)).toArray) e) Γ) : GX P n all K m d (.load t x) ty e Γ :=
  GX_def (fun w M => does_loadRP _ h (N.len _) fun j u hj => (hR w M).at h0 h1 hj) hr
/-! ### stores -/
theorem G_st {b o : Nat} {t1 : TypeId} {cs : List Value} [T : Ty P t td 1 zv by_ ag] (hm : wrOk all m = true) (h : ev e x = some (.pointer (some ⟨b, o, none⟩))) (h1 : ev e y = some v) (hv : v.cells = #[v]) (h2 : v.oneCell' = true) (hU : Upd Γ (.box b t1 cs) (.box b t1 (cs.set o v)) Γ') (hlt : o < cs.length)
    (hr : GN P n all K m (push d undef e) Γ') : GX P n all K m d (.store t x y) ty e Γ :=
  GX_acts (R := fun v Γ1 => v = undef ∧ Γ1 = Γ') hm (fun Δ w M => by
    have hb : Blk w b t1 cs := by obtain ⟨R, p, _⟩ := hU.perm; exact M.right.ok (.box b t1 cs) (p.mem_iff.2 (by simp))
    refine .inr (.inr ⟨_, does_store1 h h1 hb hlt hv h2, Γ', ?_, rfl, rfl⟩)
    exact Mem.upd hU M (Chg.setRow w b _ (S := fun k => k = b) rfl) (fun k _ h => h) (hb.set _) fun k hk => .inl hk) fun v Γ1 ⟨e1, e2⟩ => by rw [e1, e2]; exact hr
theorem G_stA {b o : Nat} {t1 : TypeId} {cs vs : List Value} [T : Ty P t td sz zv by_ ag] (hm : wrOk all m = true) (h : ev e x = some (.pointer (some ⟨b, o, none⟩))) (h1 : ev e y = some (.agg vs.toArray)) (hl : vs.length = sz) (h2 : ∀ v ∈ vs, v.oneCell' = true) (hU : Upd Γ (.box b t1 cs) (.box b t1 (splice cs o vs)) Γ') (hlt : o + vs.length ≤ cs.length)
    (hr : GN P n all K m (push d undef e) Γ') : GX P n all K m d (.store t x y) ty e Γ :=
  GX_acts (R := fun v Γ1 => v = undef ∧ Γ1 = Γ') hm (fun Δ w M => by
    have hb : Blk w b t1 cs := by obtain ⟨R, p, _⟩ := hU.perm; exact M.right.ok (.box b t1 cs) (p.mem_iff.2 (by simp))
    refine .inr (.inr ⟨_, does_storeA h h1 hb hl hlt h2, Γ', ?_, rfl, rfl⟩)
    exact Mem.upd hU M (Chg.setRow w b _ (S := fun k => k = b) rfl) (fun k _ h => h) (hb.set _) fun k hk => .inl hk) fun v Γ1 ⟨e1, e2⟩ => by rw [e1, e2]; exact hr
/-- A whole struct is stored into its box. -/
theorem G_stW {b : Nat} {t1 : TypeId} {cs vs : List Value} [T : Ty P t td sz zv by_ ag] (hm : wrOk all m = true) (h : ev e x = some (.pointer (some ⟨b, 0, none⟩))) (h1 : ev e y = some (.agg vs.toArray)) (hl : vs.length = sz) (h2 : vs.all Value.oneCell' = true) (hU : Upd Γ (.box b t1 cs) (.box b t1 vs) Γ') (hlt : cs.length = sz)
    (hr : GN P n all K m (push d undef e) Γ') : GX P n all K m d (.store t x y) ty e Γ := by
  have e1 : splice cs 0 vs = vs := by unfold splice; simp; omega
  rw [← e1] at hU
  exact G_stA hm h h1 hl (fun v hv => List.all_eq_true.1 h2 v hv) hU (by omega) hr
/-- The j-th cell of the i-th element is stored. -/
theorem vec_set {α : Type} {enc : α → List Value} {sz j : Nat} (hsz : ∀ a, (enc a).length = sz) : ∀ (l : List α) (k : Nat) (a : α) (v : Value) (hk : k < l.length), enc a = (enc l[k]).set j v → j < sz → (l.flatMap enc).set (k * sz + j) v = (l.set k a).flatMap enc
  | [], k, a, v, hk, _, _ => by simp at hk
  | x :: r, 0, a, v, hk, h, hj => by
    simp only [List.flatMap_cons, List.set_cons_zero, Nat.zero_mul, Nat.zero_add]
    rw [List.set_append_left _ _ (by rw [hsz]; exact hj)]
    rw [h]
    rfl
  | x :: r, k + 1, a, v, hk, h, hj => by
    simp only [List.flatMap_cons, List.set_cons_succ]
    rw [List.set_append_right _ _ (by rw [hsz, Nat.succ_mul]; omega), hsz]
    have e1 : (k + 1) * sz + j - sz = k * sz + j := by rw [Nat.succ_mul]; omega
    rw [e1, vec_set hsz r k a v (by simpa using hk) (by simpa using h) hj]
theorem vec_store {α : Type} {enc : α → List Value} [N : Enc enc sz] {w : World} {A : Option Addr} {c : Nat} {l : List α} (h : w.ownsRow 0 t0 sz (.slice A l.length c) l.length (l.flatMap enc)) {k j : Nat} (hk : k < l.length) (hj : j < sz) (a : α) (v : Value) (ha : enc a = (enc l[k]).set j v) :
    ∃ (g : Nat) (cur : List Value), A = some ⟨g, 0, none⟩ ∧ Blk w g t0 cur ∧ k * sz + j < cur.length ∧ (w.setRow g (cur.set (k * sz + j) v).toArray).ownsRow 0 t0 sz (.slice A l.length c) l.length ((l.set k a).flatMap enc) := by
  rcases h.2 with ⟨hv, hn⟩ | ⟨g, cap, cur, hv, h0, hcur, hcap, hm, hs, ht⟩
  · omega
  · cases hv
    have hlt : k * sz + j < l.length * sz := by
      have : (k + 1) * sz ≤ l.length * sz := Nat.mul_le_mul_right sz hk
      rw [Nat.succ_mul] at this
      omega
    have hle : l.length * sz ≤ c * sz := Nat.mul_le_mul_right sz hcap
    refine ⟨g, cur.toList, rfl, by simpa [Blk] using hcur, by rw [Array.length_toList, hs]; omega, ?_, .inr ⟨g, c, (cur.toList.set (k * sz + j) v).toArray, rfl, Nat.zero_le _, setRow_heap w g cur _ t0 (0, 0) hcur, hcap, hm, by simp [hs], ?_⟩⟩
    · have := h.1
      rw [← vec_set N.len l k a v hk ha hj, List.length_set]
      exact this
    · simp only [List.toList_toArray]
      rw [List.take_set, ht, vec_set N.len l k a v hk ha hj]
theorem G_stV' {α : Type} [Inhabited α] {enc : α → List Value} [N : Enc enc sz] {A : Option Addr} {c j : Nat} {p : Addr} {i : Int} {l : List α} [T : Ty P t td 1 zv by_ ag] (a : α) (hm : wrOk all m = true) (h : ev e x = some (.pointer (some p))) (hp : p = (At A (i.toNat * sz)).add j) (h1 : ev e y = some v) (hv : v.cells = #[v]) (h2 : v.oneCell' = true)
    (hU : Upd Γ (.vec enc sz t0 A c l) (.vec enc sz t0 A c (l.set i.toNat a)) Γ') (h0 : 0 ≤ i) (hlt : i < l.length) (hj : j < sz) (ha : enc a = (enc (gt l i)).set j v)
    (hr : GN P n all K m (push d undef e) Γ') : GX P n all K m d (.store t x y) ty e Γ :=
  GX_acts (R := fun v Γ1 => v = undef ∧ Γ1 = Γ') hm (fun Δ w M => by
    have hb : (Ent.vec enc sz t0 A c l).ok w := by obtain ⟨R, p, _⟩ := hU.perm; exact M.right.ok _ (p.mem_iff.2 (by simp))
    obtain ⟨hl, e1⟩ := gt_get h0 hlt
    rw [e1] at ha
    obtain ⟨g, cur, rfl, hB, hlt2, hown⟩ := vec_store hb hl hj a v ha
    have e2 : p = ⟨g, i.toNat * sz + j, none⟩ := by rw [hp]; unfold At; simp [add_at]
    rw [e2] at h
    refine .inr (.inr ⟨_, does_store1 h h1 hB hlt2 hv h2, Γ', ?_, rfl, rfl⟩)
    have hown' : (Ent.vec enc sz t0 (some ⟨g, 0, none⟩) c (l.set i.toNat a)).ok (w.setRow g (cur.set (i.toNat * sz + j) v).toArray) := by
      show World.ownsRow _ _ _ _ _ _ _
      rw [List.length_set]
      exact hown
    exact Mem.upd hU M (Chg.setRow w g _ (S := fun k => k = g) rfl) (fun k _ h => by subst h; rfl) hown' fun k hk => .inl hk) fun v Γ1 ⟨e1, e2⟩ => by rw [e1, e2]; exact hr
theorem G_stV {α : Type} {enc : α → List Value} {A : Option Addr} {c : Nat} {i : Int} {l : List α} {a : α} [T : Ty P t td 1 zv by_ ag] (hm : wrOk all m = true) (h : ev e x = some (.pointer (some (At A (i.toNat * 1))))) (h1 : ev e y = some v) (hv : v.cells = #[v]) (h2 : v.oneCell' = true)
    (hU : Upd Γ (.vec enc 1 t0 A c l) (.vec enc 1 t0 A c (l.set i.toNat a)) Γ') (N : Enc enc 1) (ih : Inhabited α) (ha : enc a = [v]) (h0 : 0 ≤ i) (hlt : i < l.length)
    (hr : GN P n all K m (push d undef e) Γ') : GX P n all K m d (.store t x y) ty e Γ :=
  G_stV' (j := 0) a hm h (add_zero _).symm h1 hv h2 hU h0 hlt (by decide) (by
    have := N.len (gt l i)
    rcases hh : enc (gt l i) with _ | ⟨u, _ | ⟨u', r⟩⟩
    · rw [hh] at this; simp at this
    · rw [ha]; rfl
    · rw [hh] at this; simp at this) hr
/-! ### new memory -/
theorem acts_new {R : Value → Mm → Prop} (val : Nat → Value) (cs : Array Value) (h : ∀ w, Does P op ty e w (val w.heap.size) (w.alloc (.cells cs t0))) : Acts P op ty e Γ fun v Γ1 => ∃ N, Γ1 = N ++ Γ ∧ ∃ b, v = val b ∧ N = [.box b t0 cs.toList] := fun Δ w M =>
  .inl ⟨_, _, h w, .box w.heap.size t0 cs.toList :: Γ, ((M.new cs t0).perm List.perm_middle.symm), [_], rfl, _, rfl, rfl⟩
theorem G_new (val : Nat → Value) (cs : Array Value) (hm : addOk m = true) (h : ∀ w, Does P op ty e w (val w.heap.size) (w.alloc (.cells cs t0))) (hr : ∀ b, GN P n all K m (push d (val b) e) (.box b t0 cs.toList :: Γ)) : GX P n all K m d op ty e Γ :=
  GX_adds (R := fun v N => ∃ b, v = val b ∧ N = [.box b t0 cs.toList]) hm (acts_new (R := fun _ _ => True) val cs h) fun v N ⟨b, e1, e2⟩ => by rw [e1, e2]; exact hr b
theorem G_alloc [T : Ty P t td sz zv by_ ag] (hm : addOk m = true) (hr : ∀ b, GN P n all K m (push d (.pointer (some ⟨b, 0, none⟩)) e) (.box b t zv.cells.toList :: Γ)) : GX P n all K m d (.alloc t) ty e Γ :=
  G_new (fun b => .pointer (some ⟨b, 0, none⟩)) zv.cells hm (fun w => does_alloc) hr
theorem G_box (hm : addOk m = true) (h : ev e x = some v) (hr : ∀ b, GN P n all K m (push d (.pointer (some ⟨b, 0, none⟩)) e) (.box b t v.cells.toList :: Γ)) : GX P n all K m d (.box t x) ty e Γ :=
  G_new (fun b => .pointer (some ⟨b, 0, none⟩)) v.cells hm (fun w => does_box h) hr
/-- A box is a vector. -/
theorem box_vec {α : Type} {enc : α → List Value} [N : Enc enc sz] {w : World} {b : Nat} {l : List α} (hb : Blk w b t0 (l.flatMap enc)) (hl : l.length ≤ maxLen) : (Ent.vec enc sz t0 (some ⟨b, 0, none⟩) l.length l).ok w := by
  have hlen : (l.flatMap enc).length = l.length * sz := by
    clear hb hl
    induction l with
    | nil => simp
    | cons a r ih => rw [List.flatMap_cons, List.length_append, ih, N.len, List.length_cons, Nat.succ_mul, Nat.add_comm]
  exact ⟨hlen, .inr ⟨b, l.length, (l.flatMap enc).toArray, rfl, Nat.zero_le _, hb, Nat.le_refl _, hl, by simp [hlen], by rw [← hlen, List.toList_toArray, List.take_length]⟩⟩
theorem Wk.vec {α : Type} {enc : α → List Value} [N : Enc enc sz] {b : Nat} {l : List α} {cs : List Value} {Γ1 : Mm} (hcs : cs = l.flatMap enc) (hl : l.length ≤ maxLen) : Wk (.box b t0 cs :: Γ1) (.vec enc sz t0 (some ⟨b, 0, none⟩) l.length l :: Γ1) := by
  subst hcs
  refine ⟨fun w M => M.tail.cons (box_vec M.head hl) fun k hk ho => ?_, fun k hk => ?_⟩
  · obtain ⟨E, hE, h2⟩ := ho
    simp only [Ent.own, Value.ownBlock, Option.some.injEq] at hk
    exact (List.pairwise_cons.1 M.ap).1 E hE k hk.symm h2
  · rw [owns_cons] at hk ⊢
    refine hk.imp (fun h => ?_) id
    simp only [Ent.own, Value.ownBlock, Option.some.injEq] at h ⊢
    exact h.symm
end
/-! ### vectors made and grown -/
section
variable {P : Program} {n : Nat} {all : List Oper} {K : Env → Mm → Prop} {m : Md} {e : Env} {Γ Γ' : Mm} {d : Option Tmp} {op : Op} {ty t t' t0 : TypeId} {v u : Value} {x y z : Operand} {td : TypeDesc} {sz sz1 by_ by1 : Nat} {zv z1 : Value} {ag ag1 : Bool}
theorem acts_newV {α : Type} {enc : α → List Value} [N : Enc enc sz] (val : Nat → Value) (l : List α) (cs : Array Value) (hcs : cs.toList = l.flatMap enc) (hl : l.length ≤ maxLen) (h : ∀ w, Does P op ty e w (val w.heap.size) (w.alloc (.cells cs t0))) :
    Acts P op ty e Γ fun v Γ1 => ∃ N, Γ1 = N ++ Γ ∧ ∃ b, v = val b ∧ N = [.vec enc sz t0 (some ⟨b, 0, none⟩) l.length l] := fun Δ w M => by
  refine .inl ⟨_, _, h w, .vec enc sz t0 (some ⟨w.heap.size, 0, none⟩) l.length l :: Γ, ?_, [_], rfl, _, rfl, rfl⟩
  have M1 := M.new cs t0
  rw [hcs] at M1
  exact ((Wk.vec rfl hl).mem _ M1).perm List.perm_middle.symm
theorem G_make {α : Type} (enc : α → List Value) [N : Enc enc sz] {a : α} {k : Nat} {ik : IntKind} [U : Ty P t (.slice t0) sz1 z1 by1 ag1] [T : Ty P t0 td sz zv by_ ag] (hm : addOk m = true) (h : ev e x = some (.int ik (k : Int))) (ha : enc a = zv.cells.toList) (hn : by_ * k ≤ 281474976710656) (h1 : 1 ≤ by_)
    (hr : ∀ b, GN P n all K m (push d (.slice (some ⟨b, 0, none⟩) k k) e) (.vec enc sz t0 (some ⟨b, 0, none⟩) k (List.replicate k a) :: Γ)) : GX P n all K m d (.makeSlice t x x) ty e Γ := by
  have hk1 : k ≤ by_ * k := Nat.le_mul_of_pos_left _ h1
  have hcs : (madeCells zv.cells (k * sz)).toList = (List.replicate k a).flatMap enc := by
    have hz : zv.cells.size = sz := by rw [← Array.length_toList, ← ha, N.len]
    apply List.ext_getElem?
    intro j
    have hpos := N.pos
    have hlen : ∀ k : Nat, ((List.replicate k a).flatMap enc).length = k * sz := fun k => by
      induction k with
      | zero => simp
      | succ k ih => rw [List.replicate_succ, List.flatMap_cons, List.length_append, ih, N.len, Nat.succ_mul, Nat.add_comm]
    by_cases hj : j < k * sz
    · have h1 : (madeCells zv.cells (k * sz)).toList[j]? = zv.cells[j % sz]? := by
        simp only [madeCells]
        simp [hj, hz, Nat.mod_lt _ hpos]
      rw [h1]
      have h2 := flatMap_get enc sz N.len (List.replicate k a) (j / sz) (by rw [List.length_replicate]; exact Nat.div_lt_of_lt_mul (by rw [Nat.mul_comm]; exact hj)) (j % sz) (Nat.mod_lt _ hpos)
      rw [show j / sz * sz + j % sz = j by rw [Nat.mul_comm]; exact Nat.div_add_mod j sz] at h2
      rw [h2, List.getElem_replicate, ha]
      simp
    · rw [List.getElem?_eq_none (by simp [madeCells]; omega), List.getElem?_eq_none (by rw [hlen]; omega)]
  have e1 : (List.replicate k a).length = k := List.length_replicate
  refine GX_adds (R := fun v N => ∃ b, v = .slice (some ⟨b, 0, none⟩) k k ∧ N = [.vec enc sz t0 (some ⟨b, 0, none⟩) (List.replicate k a).length (List.replicate k a)]) hm (acts_newV (fun b => .slice (some ⟨b, 0, none⟩) k k) (List.replicate k a) _ hcs (by rw [e1]; unfold maxLen; omega) fun w => does_makeSlice U.und T h (by rw [← Int.natCast_mul]; exact Int.ofNat_le.2 hn) (by omega)) ?_
  intro v N ⟨b, e2, e3⟩
  rw [e2, e3, e1]
  exact hr b
theorem G_makeI {α : Type} (enc : α → List Value) [N : Enc enc sz] {a : α} {i : Int} {ik : IntKind} [U : Ty P t (.slice t0) sz1 z1 by1 ag1] [T : Ty P t0 td sz zv by_ ag] (hm : addOk m = true) (h : ev e x = some (.int ik i)) (h0 : 0 ≤ i) (ha : enc a = zv.cells.toList) (hn : by_ * i.toNat ≤ 281474976710656) (h1 : 1 ≤ by_)
    (hr : ∀ b, GN P n all K m (push d (.slice (some ⟨b, 0, none⟩) i.toNat i.toNat) e) (.vec enc sz t0 (some ⟨b, 0, none⟩) i.toNat (List.replicate i.toNat a) :: Γ)) : GX P n all K m d (.makeSlice t x x) ty e Γ :=
  G_make enc hm (k := i.toNat) (by rw [h]; congr 2; omega) ha hn h1 hr
/-- A nil slice is an empty vector. -/
theorem vec_nil {α : Type} {enc : α → List Value} {w : World} : (Ent.vec enc sz t0 none 0 ([] : List α)).ok w := ⟨by simp, .inl ⟨rfl, rfl⟩⟩
theorem Wk.nilv {α : Type} {enc : α → List Value} {Γ' : Mm} (h : Wk Γ Γ') : Wk Γ (.vec enc sz t0 none 0 ([] : List α) :: Γ') :=
  ⟨fun w M => (h.mem w M).cons vec_nil fun k hk => by simp [Ent.own, Value.ownBlock] at hk, fun k hk => by
    rw [owns_cons] at hk
    rcases hk with hk | hk
    · simp [Ent.own, Value.ownBlock] at hk
    · exact h.sub k hk⟩
/-! ### entries that are kept apart -/
/-! ### calls -/
theorem G_call {f : FuncId} [F : Go.Proofs.YtclihihdgodloaaDoor.SC.Fn P f] {args : Array Operand} {ats : Array TypeId} {vs : List Value} {R : Value → Mm → Prop} (hm : addOk m = true) (h : evs e args.toList = some vs) (hc : ∀ w, Mem w Γ → CVN P f vs w R) (hr : ∀ v N, R v N → GN P n all K m (push d v e) (N ++ Γ)) :
    GX P n all K m d (.call { callee := .value (.func f), args := args, argTypes := ats }) ty e Γ :=
  GX_adds (R := R) hm (fun Δ w M => .inr (.inl ⟨f, vs, enters (evs_map h), CV.mono (hc w M.right) fun v w' ⟨N, M', hR⟩ => ⟨N ++ Γ, by
    have := M.add M'
    rw [← List.append_assoc] at this ⊢
    exact this.perm ((List.perm_append_comm).append_right _), N, rfl, hR⟩⟩)) hr
/-- A call of a closure that changes nothing. -/
theorem G_callF {f : FuncId} {args : Array Operand} {ats : Array TypeId} {vs : List Value} {cap : Array Value} {R : Value → Mm → Prop} (hm : addOk m = true) (hx : ev e x = some (.func (.func f) #[] cap)) (F : Go.Proofs.YtclihihdgodloaaDoor.SC.Fn P f) (h : evs e args.toList = some vs) (hc : ∀ w, Mem w Γ → CVN P f (vs ++ cap.toList) w R) (hr : ∀ v N, R v N → GN P n all K m (push d v e) (N ++ Γ)) :
    GX P n all K m d (.call { callee := .value x, args := args, argTypes := ats }) ty e Γ :=
  GX_adds (R := R) hm (fun Δ w M => .inr (.inl ⟨f, vs ++ cap.toList, entersC hx (evs_map h), CV.mono (hc w M.right) fun v w' ⟨N, M', hR⟩ => ⟨N ++ Γ, by
    have := M.add M'
    rw [← List.append_assoc] at this ⊢
    exact this.perm ((List.perm_append_comm).append_right _), N, rfl, hR⟩⟩)) hr
theorem G_fun {fn : Go.Fn} {cap : Array Operand} {vs : List Value} (h : evs e cap.toList = some vs) (hr : GN P n all K m (push d (.func fn #[] vs.toArray) e) Γ) : GX P n all K m d (.makeFunc fn #[] cap) ty e Γ :=
  GX_def (fun w _ => does_makeFunc (evs_map h)) hr
end
end SC
end Go.Proofs.YtclihihdgodloaaDoor
end
section
/- Results in a cell; families of entries. -/
set_option linter.unusedVariables false
set_option linter.unusedSimpArgs false
namespace Go.Proofs.YtclihihdgodloaaDoor
namespace SC
open Go.Proofs
section
variable {P : Program} {f : FuncId} {args : List Value} {w : World} {R : Value → Mm → Prop} {C : Mm} {t : TypeId} {td : TypeDesc} {sz by_ : Nat} {zv : Value}
end
section rets
variable {R : Value → Mm → Prop} {e : Env} {Γ : Mm} {a a1 a2 sz b : Nat} {u v : Value} {t : TypeId} {cs : List Value}
end rets
/-! ### families -/
theorem In.skip {Δ Γ : Mm} {E : Ent} (h : In Γ E) : In (Δ ++ Γ) E := by
  induction Δ with
  | nil => exact h
  | cons D r ih => exact .there ih
theorem In.left {Δ Γ : Mm} {E : Ent} (h : In Δ E) : In (Δ ++ Γ) E := by
  induction h with
  | here => exact .here
  | there _ ih => exact .there ih
theorem In.of {Γ : Mm} {E : Ent} (h : E ∈ Γ) : In Γ E := by
  induction Γ with
  | nil => cases h
  | cons D r ih =>
    rcases List.mem_cons.1 h with rfl | h
    · exact .here
    · exact .there (ih h)
theorem Upd.skip {Δ Γ Γ' : Mm} {E F : Ent} (h : Upd Γ E F Γ') : Upd (Δ ++ Γ) E F (Δ ++ Γ') := by
  induction Δ with
  | nil => exact h
  | cons D r ih => exact .there ih
theorem Rem.skip {Δ Γ Γ' : Mm} {E : Ent} (h : Rem Γ E Γ') : Rem (Δ ++ Γ) E (Δ ++ Γ') := by
  induction Δ with
  | nil => exact h
  | cons D r ih => exact .there ih
theorem Wk.perm {Γ Γ' : Mm} (h : Γ.Perm Γ') : Wk Γ Γ' := ⟨fun w M => M.perm h, fun k hk => (owns_perm h).2 hk⟩
theorem Wk.drop {D : Ent} {Γ Γ' : Mm} (h : Wk Γ Γ') : Wk (D :: Γ) Γ' := ⟨fun w M => h.mem w M.tail, fun k hk => owns_cons.2 (.inr (h.sub k hk))⟩
theorem Wk.last {Γ Δ : Mm} {E : Ent} (h : Wk Γ (E :: Δ)) : Wk Γ (Δ ++ [E]) := h.trans (.perm (List.perm_append_comm (l₁ := [E])))
def fam {α : Type} (f : α → Mm) (l : List α) : Mm := l.reverse.flatMap f
theorem fam_app {α : Type} (f : α → Mm) (l r : List α) : fam f (l ++ r) = fam f r ++ fam f l := by unfold fam; simp
/-! ### what a call that changes something may still read -/
theorem In.one {Γ : Mm} {E : Ent} {w : World} (h : In Γ E) (M : Mem w Γ) : Mem w [E] := .one (h.ok M)
theorem Rd.oldR {α : Type} {Γ : Mm} {enc : α → List Value} {sz : Nat} {A : Option Addr} {l : List α} {w0 : World} {S : Nat → Prop} (h : In Γ (.old w0 S)) (h0 : Rd [.old w0 S] enc sz A l) : Rd Γ enc sz A l := fun w M => h0 w (h.one M)
theorem Rd.frame {α : Type} {C Γ : Mm} {enc : α → List Value} {sz : Nat} {A : Option Addr} {l : List α} {w : World} (M : Mem w (C ++ Γ)) (h : Rd Γ enc sz A l) : Rd [.old w (owns C)] enc sz A l :=
  fun w2 M2 => h w2 (M.right.chg (S := owns C) (M2.ok (.old w (owns C)) (by simp)) fun k hk hs => M.sep k hs hk)
/-- In every world of Γ the block has these cells. -/
def RdB (Γ : Mm) (b : Nat) (t : TypeId) (cs : List Value) : Prop := ∀ w, Mem w Γ → Blk w b t cs
theorem RdB.own {Γ : Mm} {b : Nat} {t : TypeId} {cs : List Value} (h : In Γ (.box b t cs)) : RdB Γ b t cs := fun w M => h.ok M
theorem RdB.old {Γ : Mm} {b : Nat} {t : TypeId} {cs : List Value} {w0 : World} (h : In Γ (.old w0 none_)) (h0 : Blk w0 b t cs) : RdB Γ b t cs := fun w M => h0.chg (h.ok M) id
theorem RdB.oldR {Γ : Mm} {b : Nat} {t : TypeId} {cs : List Value} {w0 : World} {S : Nat → Prop} (h : In Γ (.old w0 S)) (h0 : RdB [.old w0 S] b t cs) : RdB Γ b t cs := fun w M => h0 w (h.one M)
theorem RdB.frame {C Γ : Mm} {b : Nat} {t : TypeId} {cs : List Value} {w : World} (M : Mem w (C ++ Γ)) (h : RdB Γ b t cs) : RdB [.old w (owns C)] b t cs :=
  fun w2 M2 => h w2 (M.right.chg (S := owns C) (M2.ok (.old w (owns C)) (by simp)) fun k hk hs => M.sep k hs hk)
theorem Mem.takes {C Γ Γ' : Mm} {w : World} (h : Rems Γ C Γ') (M : Mem w Γ) : Mem w (C ++ Γ') := M.perm h.perm
/-- A slice of slices: each with its handle. -/
def encS {β : Type} (p : (Option Addr × Nat) × List β) : List Value := [.slice p.1.1 p.2.length p.1.2]
instance {β : Type} : Enc (encS (β := β)) 1 := ⟨fun _ => rfl, fun a u h => by simp [encS] at h; subst h; rfl, by decide⟩
theorem Rd.nil {α : Type} {Γ : Mm} {enc : α → List Value} {sz : Nat} {A : Option Addr} : Rd Γ enc sz A ([] : List α) := fun _ _ k hk => absurd hk (Nat.not_lt_zero _)
end SC
end Go.Proofs.YtclihihdgodloaaDoor
end
section
/- trestleref07: Lit, All, Next0. -/
set_option linter.unusedVariables false
set_option linter.unusedSimpArgs false
namespace Go.Proofs.YtclihihdgodloaaDoor
namespace SC
open Go.Proofs
/-- A literal's value. -/
def lv (v : List Bool) (l : Int) : Bool := gt v (l / 2) != decide (l % 2 = 1)
/-- The values have a literal. -/
def hasL (v : List Bool) (l : Int) : Prop := 0 ≤ l ∧ l / 2 < v.length ∧ l ≤ 9223372036854775807
attribute [local irreducible] WC WL WX WS WO OX Does DoesU Enters CV Pure thenQ blockQ retQ Wants retQC GC GL GS GX RdB thenG blockG retG Rd At gt CVN CVM
set_option maxRecDepth 100000
end SC
end Go.Proofs.YtclihihdgodloaaDoor
end
section
/- A circuit that comes in: what it reads as lies in memory as the plain word says. -/
set_option linter.unusedVariables false
set_option linter.unusedSimpArgs false
namespace Go.Proofs.YtclihihdgodloaaDoor
namespace SC
open Go.Proofs
set_option maxRecDepth 100000
theorem listOf {α : Type} : ∀ {n : Nat} {Q : Nat → α → Prop}, (∀ i, i < n → ∃ x, Q i x) → ∃ l : List α, l.length = n ∧ ∀ i (hi : i < l.length), Q i l[i]
  | 0, _, _ => ⟨[], rfl, fun i hi => absurd hi (Nat.not_lt_zero _)⟩
  | n + 1, Q, h => by
    obtain ⟨l, hl, hq⟩ := listOf (n := n) (Q := Q) fun i hi => h i (by omega)
    obtain ⟨x, hx⟩ := h n (by omega)
    refine ⟨l ++ [x], by simp [hl], fun i hi => ?_⟩
    rcases Nat.lt_or_ge i n with hlt | hge
    · rw [List.getElem_append_left (by omega)]
      exact hq i (by omega)
    · have e : i = n := by simp [hl] at hi; omega
      subst e
      rw [List.getElem_append_right (by omega)]
      simpa [hl] using hx
section
variable {H : Type} {enc : TypeId × Value → H} {W : World} {base : Nat} {spare : Nat → Bool} {held : Bool}
/-- A field of a struct whose fields have one cell each. -/
theorem openField {t : TypeId} {fs : Array Field} {fuel : Nat} {cs : List Value} {x : DataW H × List MemPlace} (ht : Tryd.prog.underlying t = some (.struct fs)) (hc : Tryd.prog.cellsOf t = fs.size) (h : DataW.trod enc Tryd.prog W base spare held fuel t cs = some x) :
    cs.length = fs.size ∧ ∃ n, ∀ (i : Nat) (f : Field) (hi : i < cs.length), fs[i]? = some f → f.offset = i → Tryd.prog.cellsOf f.type = 1 → ∃ y, DataW.trod enc Tryd.prog W base spare held n f.type [cs[i]] = some y := by
  obtain ⟨xs, n, _, _, hcl, hxl, hf⟩ := DataW.trod_struct ht h
  refine ⟨hcl.trans hc, n, fun i f hi hfi ho h1 => ?_⟩
  have := hf i f hfi
  have hx : i < xs.length := by rw [hxl, ← hc, ← hcl]; exact hi
  rw [ho, h1, List.drop_eq_getElem_cons hi, List.getElem?_eq_getElem hx] at this
  exact ⟨_, this⟩
theorem bounds8 {n : Int} (h : (Lit.int .u8 n).wf = true) : 0 ≤ n ∧ n ≤ 255 := by simp [Lit.wf, IntKind.min, IntKind.max, IntKind.signed, IntKind.bits] at h; omega
theorem openSym {fuel : Nat} {cs : List Value} {x : DataW H × List MemPlace} (h : DataW.trod enc Tryd.prog W base spare held fuel 130 cs = some x) :
    ∃ s, scells s = cs ∧ ((0 ≤ s.kind ∧ s.kind ≤ 255) ∧ (-9223372036854775808 ≤ s.at_ ∧ s.at_ ≤ 9223372036854775807) ∧ s.name.size ≤ maxLen) := by
  obtain ⟨hl, n, hfl⟩ := openField Tryd.underlying130 (by kernel_rfl) h
  have hl : cs.length = 3 := hl
  obtain ⟨y0, h0⟩ := hfl 0 _ (by omega) rfl rfl (by kernel_rfl)
  obtain ⟨y1, h1⟩ := hfl 1 _ (by omega) rfl rfl (by kernel_rfl)
  obtain ⟨y2, h2⟩ := hfl 2 _ (by omega) rfl rfl (by kernel_rfl)
  obtain ⟨p, e0, _, w0⟩ := DataW.trod_int Tryd.underlying5 h0
  obtain ⟨q, e1, _, w1⟩ := DataW.trod_int Tryd.underlying3 h1
  obtain ⟨r, e2, _, w2⟩ := DataW.trod_string Tryd.underlying9 h2
  refine ⟨⟨p, q, r⟩, ?_, bounds8 w0, ?_, w2⟩
  · apply List.ext_getElem (by rw [hl]; rfl)
    intro i hi1 hi2
    match i, hi2 with
    | 0, _ => exact (List.cons.inj e0).1.symm
    | 1, _ => exact (List.cons.inj e1).1.symm
    | 2, _ => exact (List.cons.inj e2).1.symm
  · simp [Lit.wf, IntKind.min, IntKind.max, IntKind.signed, IntKind.bits] at w1; simp only; omega
theorem openTxt {fuel : Nat} {cs : List Value} {x : DataW H × List MemPlace} (h : DataW.trod enc Tryd.prog W base spare held fuel 9 cs = some x) : ∃ s, bcell s = cs ∧ s.size ≤ maxLen := by
  obtain ⟨r, rfl, _, w⟩ := DataW.trod_string Tryd.underlying9 h
  exact ⟨r, rfl, w⟩
/-- A list within a list: where it lies, and what it holds. -/
structure Lst where
  A : Option Addr
  cp : Nat
  l : List Int
def lcell (x : Lst) : List Value := [.slice x.A x.l.length x.cp]
end
end SC
end Go.Proofs.YtclihihdgodloaaDoor
end
section
/- trestlebook: CopyLists, SameInts, KeptInts, SpoilInts. -/
set_option linter.unusedVariables false
set_option linter.unusedSimpArgs false
namespace Go.Proofs.YtclihihdgodloaaDoor
namespace SC
open Go.Proofs
attribute [local irreducible] WC WL WX WS WO OX Does DoesU Enters CV Pure thenQ blockQ retQ Wants retQC
set_option maxRecDepth 100000
end SC
end Go.Proofs.YtclihihdgodloaaDoor
end
section
/- The builders of hash: plain words and their laws; what is known of their memory. -/
set_option linter.unusedVariables false
set_option linter.unusedSimpArgs false
namespace Go.Proofs.YtclihihdgodloaaDoor
namespace SC
open Go.Proofs Go.Maps

/-! ### plain words -/
abbrev Gate := Int × Int × Int
def outOf : List Gate → Int → Int → Int
  | [], _, _ => 0
  | g :: r, p, q => if g.2.1 = p ∧ g.2.2 = q then g.1 else outOf r p q
structure Inv (n : Int) (gs : List Gate) : Prop where
  nn : 0 ≤ n
  top : n + gs.length ≤ 16384
  outs : ∀ g ∈ gs, 2 ≤ g.1 ∧ g.1 ≤ 2 * (n + gs.length)
  fit : ∀ g ∈ gs, 0 ≤ g.2.1 ∧ g.2.1 ≤ 40000 ∧ 0 ≤ g.2.2 ∧ g.2.2 ≤ 40000
section
variable {n : Int} {gs : List Gate} {p q : Int}
end
def okM (n : Int) (gs : List Gate) (x : Int) : Prop := 0 ≤ x ∧ x ≤ 2 * (n + gs.length) + 1
instance (n : Int) (gs : List Gate) (x : Int) : Decidable (okM n gs x) := by unfold okM; infer_instance
theorem outOf_mem : ∀ (gs : List Gate) (p q : Int), outOf gs p q = 0 ∨ ∃ g ∈ gs, outOf gs p q = g.1
  | [], _, _ => .inl rfl
  | g :: r, p, q => by
    unfold outOf
    split
    · exact .inr ⟨g, by simp, rfl⟩
    · rcases outOf_mem r p q with h | ⟨g', hg, h⟩
      · exact .inl h
      · exact .inr ⟨g', by simp [hg], h⟩
theorem Inv.out {n : Int} {gs : List Gate} (h : Inv n gs) (p q : Int) : 0 ≤ outOf gs p q ∧ outOf gs p q ≤ 2 * (n + gs.length) := by
  rcases outOf_mem gs p q with h1 | ⟨g, hg, h1⟩
  · have := h.nn; omega
  · have := h.outs g hg; omega
/-- What 'andM' answers. -/
structure Good (n : Int) (gs : List Gate) (r : Int × Int × List Gate) : Prop where
  inv : Inv n r.2.2
  ok : okM n r.2.2 r.1
  more : gs.length ≤ r.2.2.length
/-! ### the map of gates -/
def fits (a : Int) : Prop := -9223372036854775808 ≤ a ∧ a ≤ 9223372036854775807
end SC
end Go.Proofs.YtclihihdgodloaaDoor
end
section
/- trestlebook: are two lists of things the same? -/
set_option linter.unusedVariables false
set_option linter.unusedSimpArgs false
namespace Go.Proofs.YtclihihdgodloaaDoor
namespace SC
open Go.Proofs Go.Maps
set_option maxRecDepth 100000
def TriFits (x : Tri) : Prop := fits x.1 ∧ fits x.2.1 ∧ fits x.2.2
section
variable {e : Env} {x y : Operand} {ty t : TypeId}
end
attribute [local irreducible] WC WL WX WS WO OX Does DoesU Enters CV Pure thenQ blockQ retQ Wants retQC
end SC
end Go.Proofs.YtclihihdgodloaaDoor
end
section
/- trestlebook: symbols, texts, lists: the same? -/
set_option linter.unusedVariables false
set_option linter.unusedSimpArgs false
namespace Go.Proofs.YtclihihdgodloaaDoor
namespace SC
open Go.Proofs Go.Maps
set_option maxRecDepth 100000
def SymFits (s : Sym) : Prop := fit8 s.kind ∧ fit64 s.at_ ∧ s.name.size ≤ 9223372036854775807
section
variable {P : Program} {n : Nat} {all rest : List Oper} {K : Env → World → Prop} {S : World → Prop} {r : List (Nat × Bool)} {i : Nat} {e : Env} {w : World} {d : Option Tmp} {ty : TypeId} {x y : Operand} {t t' : TypeId}
end
attribute [local irreducible] WC WL WX WS WO OX Does DoesU Enters CV Pure thenQ blockQ retQ Wants retQC
end SC
end Go.Proofs.YtclihihdgodloaaDoor
end
section
/- trestlebook: SameLists, SameCircuit. -/
set_option linter.unusedVariables false
set_option linter.unusedSimpArgs false
namespace Go.Proofs.YtclihihdgodloaaDoor
namespace SC
open Go.Proofs
attribute [local irreducible] WC WL WX WS WO OX Does DoesU Enters CV Pure thenQ blockQ retQ Wants retQC
set_option maxRecDepth 100000
/-- The numbers and texts of a circuit fit. -/
structure Circ.Okay (c : Circ) : Prop where
  lens : ∀ n ∈ c.lens, n ≤ 9223372036854775807
  just : ∀ l ∈ c.justice, l.length ≤ 9223372036854775807
  latches : ∀ x ∈ c.latches, TriFits x
  ands : ∀ x ∈ c.ands, TriFits x
  symbols : ∀ x ∈ c.symbols, SymFits x
theorem Circ.same {c d : Circ} (h0 : c.max = d.max) (h1 : c.inputs = d.inputs) (h2 : c.latches = d.latches) (h3 : c.outputs = d.outputs) (h4 : c.bads = d.bads) (h5 : c.constraints = d.constraints) (h6 : c.justice = d.justice) (h7 : c.fairness = d.fairness) (h8 : c.ands = d.ands) (h9 : c.symbols = d.symbols) (h10 : c.comments = d.comments) : c = d := by
  cases c; cases d
  simp at h0 h1 h2 h3 h4 h5 h6 h7 h8 h9 h10
  simp [h0, h1, h2, h3, h4, h5, h6, h7, h8, h9, h10]
end SC
end Go.Proofs.YtclihihdgodloaaDoor
end
section
/- trestlebook: KeptInts, SpoilInts; names. -/
set_option linter.unusedVariables false
set_option linter.unusedSimpArgs false
namespace Go.Proofs.YtclihihdgodloaaDoor
namespace SC
open Go.Proofs
attribute [local irreducible] WC WL WX WS WO OX Does DoesU Enters CV Pure thenQ blockQ retQ Wants retQC
set_option maxRecDepth 100000
theorem RowA.left {α : Type} {w : World} {enc : α → List Value} {sz : Nat} {A : Option Addr} {l m : List α} (h : RowA w enc sz A (l ++ m)) : RowA w enc sz A l := fun k hk => by
  obtain ⟨p, h1, h2⟩ := h k (by simp; omega)
  refine ⟨p, h1, fun j u hj => h2 j u ?_⟩
  rwa [List.getElem_append_left hk]
end SC
end Go.Proofs.YtclihihdgodloaaDoor
end
section
/- trestlebook: CopyCircuit. -/
set_option linter.unusedVariables false
set_option linter.unusedSimpArgs false
namespace Go.Proofs.YtclihihdgodloaaDoor
namespace SC
open Go.Proofs
section
variable {P : Program} {d : Option Tmp} {op : Op} {ty : TypeId} {pos : String} {af : Array Edge} {g : Option (Nat × Bool)} {e : Env} {w : World} {R : Value → World → Prop}
theorem Ex.does {v : Value} {w' : World} (h : Does P op ty e w v w') (hr : R v w') : Ex P ⟨d, op, ty, pos, af, g⟩ e w R := .inl ⟨v, w', h, hr⟩
theorem Ex.fn {f : FuncId} [F : Go.Proofs.YtclihihdgodloaaDoor.SC.Fn P f] {args : Array Operand} {ats : Array TypeId} {vs : List Value} {R' : Value → World → Prop} (h : evs e args.toList = some vs) (hc : CV P f vs w R') (hr : ∀ v w', R' v w' → R v w') :
    Ex P ⟨d, .call { callee := .value (.func f), args := args, argTypes := ats }, ty, pos, af, g⟩ e w R := .inr (.inl ⟨f, vs, enters (evs_map h), hc.mono hr⟩)
end
/-- Where there is no row there is no room. -/
def Nils (h js : Hd) : Prop := (∀ i, (h i).1 = none → (h i).2 = 0) ∧ ∀ i, (js i).1 = none → (js i).2 = 0
attribute [local irreducible] WC WL WX WS WO OX Does DoesU Enters CV Pure thenQ blockQ retQ Wants retQC
set_option maxRecDepth 100000
end SC
end Go.Proofs.YtclihihdgodloaaDoor
end
section
/- trestlebook: LendCircuit. -/
set_option linter.unusedVariables false
set_option linter.unusedSimpArgs false
namespace Go.Proofs.YtclihihdgodloaaDoor
namespace SC
open Go.Proofs
/-- As many as memory holds, one more in each list. -/
structure Circ.Fits1 (c : Circ) : Prop extends c.Fits where
  inputs1 : (c.inputs.length + 1) * 8 ≤ 140737488355328
  latches1 : (c.latches.length + 1) * 24 ≤ 140737488355328
  outputs1 : (c.outputs.length + 1) * 8 ≤ 140737488355328
  bads1 : (c.bads.length + 1) * 8 ≤ 140737488355328
  constraints1 : (c.constraints.length + 1) * 8 ≤ 140737488355328
  fairness1 : (c.fairness.length + 1) * 8 ≤ 140737488355328
  ands1 : (c.ands.length + 1) * 24 ≤ 140737488355328
def lintRow (h : Hd) (i : Nat) (l : List Int) : Rw := ⟨slc h i (l.length + 1), 3, 1, l.length + 1, (l ++ [-77]).flatMap icell⟩
def ltriRow (h : Hd) (i : Nat) (t : TypeId) (l : List Tri) : Rw := ⟨slc h i (l.length + 1), t, 3, l.length + 1, (l ++ [(-77, 0, 0)]).flatMap tcells⟩
/-- The rows of a circuit that is lent: one more behind the end. -/
def lentRow (c : Circ) (h js : Hd) : Nat → Rw
  | 1 => lintRow h 1 c.inputs
  | 2 => ltriRow h 2 59 c.latches
  | 3 => lintRow h 3 c.outputs
  | 4 => lintRow h 4 c.bads
  | 5 => lintRow h 5 c.constraints
  | 7 => lintRow h 7 c.fairness
  | 8 => ltriRow h 8 61 c.ands
  | k => cirRows c h js js c.justice.length k
def Has (w : World) (base : Nat) (f : Nat → Rw) : Prop := ∀ i, (f i).own w base
def CirLent (w : World) (base : Nat) (c : Circ) (h js : Hd) : Prop := Has w base (lentRow c h js)
theorem Has.chg {w w' : World} {base : Nat} {f : Nat → Rw} {T : Nat → Prop} (H : Has w base f) (hc : Chg w w' T) (hT : ∀ i k, (f i).v.ownBlock = some k → ¬ T k) : Has w' base f := fun i => own_chg (H i) hc (hT i)
theorem Has.put {w w' : World} {base : Nat} {f : Nat → Rw} {T : Nat → Prop} (H : Has w base f) (i : Nat) (r : Rw) (hc : Chg w w' T) (hT : ∀ j k, j ≠ i → (f j).v.ownBlock = some k → ¬ T k) (hr : r.own w' base) : Has w' base (upd f i r) := fun j => by
  unfold upd
  split
  · exact hr
  · rename_i hne
    exact own_chg (H j) hc fun k hk => hT j k hne hk
theorem Has.lt {w : World} {base : Nat} {f : Nat → Rw} (H : Has w base f) {i k : Nat} (hk : (f i).v.ownBlock = some k) : base ≤ k ∧ k < w.heap.size := World.ownsRow.lt (H i) k hk
section
variable {P : Program} {n : Nat} {all : List Oper} {S : World → Prop} {K : Env → World → Prop} {i : Nat} {r : List (Nat × Bool)} {d : Option Tmp} {ty t t0 : TypeId} {e : Env} {w : World} {x y : Operand} {td : TypeDesc} {sz by_ sz1 by1 : Nat} {zv z1 : Value} {ag ag1 : Bool}
end
attribute [local irreducible] WC WL WX WS WO OX Does DoesU Enters CV Pure thenQ blockQ retQ Wants retQC
set_option maxRecDepth 100000
end SC
end Go.Proofs.YtclihihdgodloaaDoor
end
section
/- trestlebook: KeptCircuit. -/
set_option linter.unusedVariables false
set_option linter.unusedSimpArgs false
namespace Go.Proofs.YtclihihdgodloaaDoor
namespace SC
open Go.Proofs
theorem lint_at {w : World} {base : Nat} {h : Hd} {i : Nat} {l : List Int} (H : (lintRow h i l).own w base) : RowA w icell 1 (h i).1 (l ++ [-77]) ∧ l.length + 1 ≤ (h i).2 := by
  have H1 : w.ownsRow base 3 1 (.slice (h i).1 (l ++ [-77]).length (h i).2) (l ++ [-77]).length ((l ++ [-77]).flatMap icell) := by
    have e : (l ++ [(-77 : Int)]).length = l.length + 1 := by simp
    rw [e]; exact H
  have hc := own_cap H1
  exact ⟨RowA.own ilen H1, by simpa using hc⟩
theorem ltri_at {w : World} {base : Nat} {h : Hd} {i : Nat} {t : TypeId} {l : List Tri} (H : (ltriRow h i t l).own w base) : RowA w tcells 3 (h i).1 (l ++ [(-77, 0, 0)]) ∧ l.length + 1 ≤ (h i).2 := by
  have H1 : w.ownsRow base t 3 (.slice (h i).1 (l ++ [(-77, 0, 0)]).length (h i).2) (l ++ [(-77, 0, 0)]).length ((l ++ [(-77, 0, 0)]).flatMap tcells) := by
    have e : (l ++ [((-77, 0, 0) : Tri)]).length = l.length + 1 := by simp
    rw [e]; exact H
  have hc := own_cap H1
  exact ⟨RowA.own tlen H1, by simpa using hc⟩
theorem CirLent.chg {w w' : World} {base : Nat} {c : Circ} {h js : Hd} (H : CirLent w base c h js) (hc : Chg w w' none_) : CirLent w' base c h js := fun i => own_chg (H i) hc fun _ _ => id
theorem CirLent.at {w : World} {base : Nat} {c : Circ} {h js : Hd} (H : CirLent w base c h js) : CirAt w c h js := by
  refine ⟨(lint_at (H 1)).1.left, (ltri_at (H 2)).1.left, (lint_at (H 3)).1.left, (lint_at (H 4)).1.left, (lint_at (H 5)).1.left, fun k hk => ?_, fun k hk => ?_, (lint_at (H 7)).1.left, (ltri_at (H 8)).1.left, RowA.own slen (H 9), RowA.own blen (H 10)⟩
  · have h6 := H 6
    simp only [Rw.own, lentRow, cirRows] at h6
    rcases h6.2 with ⟨hv, hn⟩ | ⟨g, cap, cur, hv, hb, hg, rest⟩
    · omega
    · simp only [slc, Value.slice.injEq] at hv
      refine ⟨⟨g, 0, none⟩, hv.1, ?_⟩
      have := h6.cells (g := g) (by simp [slc, hv.1, Value.ownBlock]) k (slc js k c.justice[k].length) (by simp [hk])
      rw [show (k : Int).toNat * 1 = k by omega]
      exact this
  · have := H (k + 11)
    simp only [lentRow, cirRows, if_pos hk] at this
    have e : c.justice.getD k [] = c.justice[k] := by simp [hk]
    rw [e] at this
    exact RowA.own ilen this
section
variable {e : Env} {x y : Operand} {ty t : TypeId}
end
attribute [local irreducible] WC WL WX WS WO OX Does DoesU Enters CV Pure thenQ blockQ retQ Wants retQC
set_option maxRecDepth 100000
end SC
end Go.Proofs.YtclihihdgodloaaDoor
end
