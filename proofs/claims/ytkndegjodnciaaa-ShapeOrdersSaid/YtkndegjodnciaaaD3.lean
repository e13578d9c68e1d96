/- shape: what defines each variable. -/
import Derived.Test.YtkndegjodnciaaaD2
set_option linter.unusedVariables false
set_option linter.unusedSimpArgs false
namespace Go.Proofs.Ytkndegjodnciaaa
namespace SC
open Go.Proofs
attribute [local irreducible] WC WL WX WS WO OX Does DoesU Enters CV Pure thenQ blockQ retQ Wants
set_option maxRecDepth 100000
theorem mixed : Try.prog.follows .mixedOrders = true := by kernel_rfl
abbrev pt (g : Nat) : Value := .pointer (some ⟨g, 0, none⟩)
/-- Of each variable: what defines it, and its number. -/
abbrev Tab := List (Int × Int)
def mcells (m : Int × Int) : List Value := [nu m.1, nu m.2]
def kindAt (t : Tab) (v : Int) : Int := ((t[v.toNat]?).map (·.1)).getD 0
theorem mlen (m : Int × Int) : (mcells m).length = 2 := rfl
theorem length_flatMap2 {α : Type} (enc : α → List Value) (sz : Nat) (hsz : ∀ a, (enc a).length = sz) : ∀ l : List α, (l.flatMap enc).length = l.length * sz
  | [] => by simp
  | a :: r => by simp only [List.flatMap_cons, List.length_append, length_flatMap2 enc sz hsz r, hsz, List.length_cons, Nat.succ_mul]; omega
theorem splice_set {α : Type} (enc : α → List Value) (sz : Nat) (hsz : ∀ a, (enc a).length = sz) : ∀ (l : List α) (k : Nat) (a : α), k < l.length → splice (l.flatMap enc) (k * sz) (enc a) = (l.set k a).flatMap enc
  | x :: r, 0, a, _ => by
    unfold splice
    simp only [Nat.zero_mul, List.take_zero, List.nil_append, Nat.zero_add, List.set_cons_zero, List.flatMap_cons]
    rw [hsz, List.drop_append_of_le_length (by rw [hsz]; exact Nat.le_refl _), List.drop_of_length_le (by rw [hsz]; exact Nat.le_refl _), List.nil_append]
  | x :: r, k + 1, a, hk => by
    have ih := splice_set enc sz hsz r k a (by simpa using hk)
    unfold splice at *
    simp only [List.flatMap_cons, List.set_cons_succ]
    rw [← ih]
    have e1 : (k + 1) * sz = (enc x).length + k * sz := by rw [hsz, Nat.succ_mul]; omega
    rw [e1, List.take_length_add_append, show (enc x).length + k * sz + (enc a).length = (enc x).length + (k * sz + (enc a).length) by omega, List.drop_length_add_append]
    simp
/-- A looker. -/
structure Lk (w : World) (k b : Nat) (c : Circ) (h js : Hd) (t : Tab) : Prop where
  head : Blk w k 150 (ccells c h ++ [.slice (some ⟨b, 0, none⟩) t.length t.length])
  tab : Blk w b 173 (t.flatMap mcells)
  cir : ∀ w', Chg w w' (fun q => q = b) → CirAt w' c h js
/-- What is known of its numbers. -/
structure LkOk (c : Circ) (t : Tab) : Prop where
  len : (t.length : Int) = c.max + 1
  lo : 0 ≤ c.max
  hi : c.max ≤ 16384
theorem Lk.chg {w w' : World} {k b : Nat} {c : Circ} {h js : Hd} {t : Tab} (H : Lk w k b c h js t) (hc : Chg w w' none_) : Lk w' k b c h js t := ⟨H.head.chg hc id, H.tab.chg hc id, fun w2 h2 => H.cir w2 (hc.any.trans h2 fun _ _ h => h)⟩
def defBad (max : Int) (l : Int) : Prop := l < 2 ∨ l % 2 = 1 ∨ 2 * max < l
instance (max l : Int) : Decidable (defBad max l) := by unfold defBad; infer_instance
/-- A definition: an error's number, and the table behind it. -/
def defM (max : Int) (t : Tab) (l : Int) (m : Int × Int) : Int × Tab :=
  if defBad max l then (30, t) else if kindAt t (l / 2) ≠ 0 then (31, t) else (0, t.set (l / 2).toNat m)
theorem tab_get {t : Tab} {v : Int} (h0 : 0 ≤ v) (h1 : v < t.length) : (t.flatMap mcells)[0 + v.toNat * 2 + 0]? = some (nu (kindAt t v)) ∧ ∃ m, t[v.toNat]? = some m ∧ (t.flatMap mcells)[0 + v.toNat * 2 + 1]? = some (nu m.2) := by
  have hlt : v.toNat < t.length := by omega
  have e : t[v.toNat]? = some t[v.toNat] := List.getElem?_eq_getElem hlt
  refine ⟨?_, t[v.toNat], e, ?_⟩
  · rw [Nat.zero_add, flatMap_get mcells 2 mlen t v.toNat hlt 0 (by decide)]
    simp [kindAt, e, mcells]
  · rw [Nat.zero_add, flatMap_get mcells 2 mlen t v.toNat hlt 1 (by decide)]
    rfl
/-- Two blocks alone have been turned: the looker's table. -/
def tabOf (b : Nat) : Nat → Prop := fun q => q = b
theorem define_cv {w : World} {k b : Nat} {c : Circ} {h js : Hd} {t : Tab} {l m1 m2 : Int} (H : Lk w k b c h js t) (O : LkOk c t) :
    CV Try.prog 154 [pt k, nu l, .agg #[nu m1, nu m2]] w fun v w' => v = nu (defM c.max t l (m1, m2)).1 ∧ Lk w' k b c h js (defM c.max t l (m1, m2)).2 ∧ Chg w w' (tabOf b) := by
  have hN : Blk (w.alloc (.cells #[nu m1, nu m2] 173)) w.heap.size 173 [nu m1, nu m2] := Blk.newA w _ _
  have hC := Chg.alloc w (.cells #[nu m1, nu m2] 173) none_
  have H1 := H.chg hC
  have hH := H1.head
  have hT := H1.tab
  have hlen := O.len
  have hlo := O.lo
  have hhi := O.hi
  have hbk : b ≠ k := by
    rintro rfl
    have e1 := H.head
    have e2 := H.tab
    unfold Blk at e1 e2
    rw [e1] at e2
    simp at e2
  by_cases hbad : defBad c.max l
  · have hbad' := hbad
    unfold defBad at hbad'
    refine enter 42 [6] Try.func154 rfl rfl rfl (by decide) rfl ?_
    repeat' (first
      | (apply WC_seqK; intro K hK)
      | (apply hK; clear hK)
      | (clear hK; apply hK; clear hK)
      | (clear hK; clear hK; apply hK; clear hK)
      | (clear hK; clear hK; clear hK; apply hK; clear hK)
      | (apply WC_block)
      | (apply WC_region)
      | (apply WL_nil)
      | (apply thenQ_normal)
      | (apply thenQ_ret)
      | (apply thenQ_exit)
      | (apply blockQ_hit)
      | (apply blockQ_miss; eq_refl)
      | (apply blockQ_ret)
      | (apply blockQ_normal)
      | (apply WC_ret)
      | (apply WC_exit)
      | (apply WC_skip)
      | (apply WC_if_true; eq_refl)
      | (apply WC_if_false; eq_refl)
      | (apply ret1; eq_refl)
      | (apply ret2; eq_refl; eq_refl)
      | (apply ret3; eq_refl; eq_refl; eq_refl)
      | (apply ret0)
      | (apply ret0n)
      | (apply WL_on0; eq_refl)
      | (apply WL_onG; eq_refl; eq_refl; eq_refl; eq_refl)
      | (apply WL_noG; eq_refl; eq_refl; eq_refl; eq_refl)
      | (apply X_pv; eq_refl; first | exact trivial | omega)
      | (apply X_field; eq_refl)
      | (apply X_loadR; eq_refl; (first | assumption | (apply Blk.alloc; assumption) | apply Blk.new | apply Blk.newA | (apply Blk.alloc; first | apply Blk.newA | (apply Blk.alloc; first | assumption | apply Blk.newA))); eq_refl)
      | (apply X_loadW; eq_refl; (first | assumption | (apply Blk.alloc; assumption) | apply Blk.new | apply Blk.newA | (apply Blk.alloc; first | apply Blk.newA | (apply Blk.alloc; first | assumption | apply Blk.newA))); eq_refl)
      | (apply X_loadC; eq_refl; (first | assumption | (apply cel; first | assumption | (apply cel; assumption))))
      | (apply X_cmpT; eq_refl; eq_refl; omega)
      | (apply X_cmpF; eq_refl; eq_refl; omega)
      | (apply X_cmp; eq_refl; eq_refl; all_goals intro _)
      | (apply X_index; eq_refl; eq_refl; omega; omega)
      | (apply X_indexP; eq_refl; eq_refl; omega; omega)
      | (apply X_fieldP; eq_refl)
      | (apply X_eqB; eq_refl; eq_refl)
      | (apply X_neqB; eq_refl; eq_refl)
      | (apply X_eqP; eq_refl; eq_refl)
      | (apply X_eqL; eq_refl; eq_refl)
      | (apply X_box; eq_refl))
    all_goals exact ⟨by unfold defM; rw [if_pos hbad], by unfold defM; rw [if_pos hbad]; exact H1, hC.any⟩
  have hnb := hbad
  unfold defBad at hnb
  have hr0 : 0 ≤ l / 2 := by omega
  have hr1 : l / 2 < t.length := by omega
  obtain ⟨g0, m, _, g1⟩ := tab_get hr0 hr1
  by_cases hk : kindAt t (l / 2) ≠ 0
  · refine enter 42 [6] Try.func154 rfl rfl rfl (by decide) rfl ?_
    repeat' (first
      | (apply X_loadR; eq_refl; assumption; exact g0)
      | (apply WC_seqK; intro K hK)
      | (apply hK; clear hK)
      | (clear hK; apply hK; clear hK)
      | (clear hK; clear hK; apply hK; clear hK)
      | (clear hK; clear hK; clear hK; apply hK; clear hK)
      | (apply WC_block)
      | (apply WC_region)
      | (apply WL_nil)
      | (apply thenQ_normal)
      | (apply thenQ_ret)
      | (apply thenQ_exit)
      | (apply blockQ_hit)
      | (apply blockQ_miss; eq_refl)
      | (apply blockQ_ret)
      | (apply blockQ_normal)
      | (apply WC_ret)
      | (apply WC_exit)
      | (apply WC_skip)
      | (apply WC_if_true; eq_refl)
      | (apply WC_if_false; eq_refl)
      | (apply ret1; eq_refl)
      | (apply ret2; eq_refl; eq_refl)
      | (apply ret3; eq_refl; eq_refl; eq_refl)
      | (apply ret0)
      | (apply ret0n)
      | (apply WL_on0; eq_refl)
      | (apply WL_onG; eq_refl; eq_refl; eq_refl; eq_refl)
      | (apply WL_noG; eq_refl; eq_refl; eq_refl; eq_refl)
      | (apply X_pv; eq_refl; first | exact trivial | omega)
      | (apply X_field; eq_refl)
      | (apply X_loadR; eq_refl; (first | assumption | (apply Blk.alloc; assumption) | apply Blk.new | apply Blk.newA | (apply Blk.alloc; first | apply Blk.newA | (apply Blk.alloc; first | assumption | apply Blk.newA))); eq_refl)
      | (apply X_loadW; eq_refl; (first | assumption | (apply Blk.alloc; assumption) | apply Blk.new | apply Blk.newA | (apply Blk.alloc; first | apply Blk.newA | (apply Blk.alloc; first | assumption | apply Blk.newA))); eq_refl)
      | (apply X_loadC; eq_refl; (first | assumption | (apply cel; first | assumption | (apply cel; assumption))))
      | (apply X_cmpT; eq_refl; eq_refl; omega)
      | (apply X_cmpF; eq_refl; eq_refl; omega)
      | (apply X_cmp; eq_refl; eq_refl; all_goals intro _)
      | (apply X_index; eq_refl; eq_refl; omega; omega)
      | (apply X_indexP; eq_refl; eq_refl; omega; omega)
      | (apply X_fieldP; eq_refl)
      | (apply X_eqB; eq_refl; eq_refl)
      | (apply X_neqB; eq_refl; eq_refl)
      | (apply X_eqP; eq_refl; eq_refl)
      | (apply X_eqL; eq_refl; eq_refl)
      | (apply X_box; eq_refl))
    exact ⟨by unfold defM; rw [if_neg hbad, if_pos hk], by unfold defM; rw [if_neg hbad, if_pos hk]; exact H1, hC.any⟩
  refine enter 42 [6] Try.func154 rfl rfl rfl (by decide) rfl ?_
  repeat' (first
      | (apply X_loadR; eq_refl; assumption; exact g0)
      | (apply WC_seqK; intro K hK)
      | (apply hK; clear hK)
      | (clear hK; apply hK; clear hK)
      | (clear hK; clear hK; apply hK; clear hK)
      | (clear hK; clear hK; clear hK; apply hK; clear hK)
      | (apply WC_block)
      | (apply WC_region)
      | (apply WL_nil)
      | (apply thenQ_normal)
      | (apply thenQ_ret)
      | (apply thenQ_exit)
      | (apply blockQ_hit)
      | (apply blockQ_miss; eq_refl)
      | (apply blockQ_ret)
      | (apply blockQ_normal)
      | (apply WC_ret)
      | (apply WC_exit)
      | (apply WC_skip)
      | (apply WC_if_true; eq_refl)
      | (apply WC_if_false; eq_refl)
      | (apply ret1; eq_refl)
      | (apply ret2; eq_refl; eq_refl)
      | (apply ret3; eq_refl; eq_refl; eq_refl)
      | (apply ret0)
      | (apply ret0n)
      | (apply WL_on0; eq_refl)
      | (apply WL_onG; eq_refl; eq_refl; eq_refl; eq_refl)
      | (apply WL_noG; eq_refl; eq_refl; eq_refl; eq_refl)
      | (apply X_pv; eq_refl; first | exact trivial | omega)
      | (apply X_field; eq_refl)
      | (apply X_loadR; eq_refl; (first | assumption | (apply Blk.alloc; assumption) | apply Blk.new | apply Blk.newA | (apply Blk.alloc; first | apply Blk.newA | (apply Blk.alloc; first | assumption | apply Blk.newA))); eq_refl)
      | (apply X_loadW; eq_refl; (first | assumption | (apply Blk.alloc; assumption) | apply Blk.new | apply Blk.newA | (apply Blk.alloc; first | apply Blk.newA | (apply Blk.alloc; first | assumption | apply Blk.newA))); eq_refl)
      | (apply X_loadC; eq_refl; (first | assumption | (apply cel; first | assumption | (apply cel; assumption))))
      | (apply X_cmpT; eq_refl; eq_refl; omega)
      | (apply X_cmpF; eq_refl; eq_refl; omega)
      | (apply X_cmp; eq_refl; eq_refl; all_goals intro _)
      | (apply X_index; eq_refl; eq_refl; omega; omega)
      | (apply X_indexP; eq_refl; eq_refl; omega; omega)
      | (apply X_fieldP; eq_refl)
      | (apply X_eqB; eq_refl; eq_refl)
      | (apply X_neqB; eq_refl; eq_refl)
      | (apply X_eqP; eq_refl; eq_refl)
      | (apply X_eqL; eq_refl; eq_refl)
      | (apply X_box; eq_refl))
  refine WC_draws [(0, true), (1, true), (2, true), (3, true), (4, true), (5, true), (6, true), (7, true), (8, false)] (fun w1 => Blk w1 k 150 (ccells c h ++ [.slice (some ⟨b, 0, none⟩) t.length t.length]) ∧ Blk w1 w.heap.size 173 [nu m1, nu m2]) mixed (by kernel_rfl) (by kernel_rfl) ?_
  have hS : Blk (w.alloc (.cells #[nu m1, nu m2] 173)).drew k 150 (ccells c h ++ [.slice (some ⟨b, 0, none⟩) t.length t.length]) ∧ Blk (w.alloc (.cells #[nu m1, nu m2] 173)).drew w.heap.size 173 [nu m1, nu m2] := ⟨hH, hN⟩
  repeat' (first
      | (apply WC_seqK; intro K hK)
      | (apply hK; clear hK)
      | (clear hK; apply hK; clear hK)
      | (clear hK; clear hK; apply hK; clear hK)
      | (clear hK; clear hK; clear hK; apply hK; clear hK)
      | (apply WC_block)
      | (apply WC_region)
      | (apply WL_nil)
      | (apply thenQ_normal)
      | (apply thenQ_ret)
      | (apply thenQ_exit)
      | (apply blockQ_hit)
      | (apply blockQ_miss; eq_refl)
      | (apply blockQ_ret)
      | (apply blockQ_normal)
      | (apply WC_ret)
      | (apply WC_exit)
      | (apply WC_skip)
      | (apply WC_if_true; eq_refl)
      | (apply WC_if_false; eq_refl)
      | (apply ret1; eq_refl)
      | (apply ret2; eq_refl; eq_refl)
      | (apply ret3; eq_refl; eq_refl; eq_refl)
      | (apply ret0)
      | (apply ret0n)
      | (apply WS_nil)
      | (apply WS_next; eq_refl)
      | (apply WO_on0; eq_refl)
      | (apply WO_onG; eq_refl; eq_refl; eq_refl; eq_refl)
      | (apply WO_noG; eq_refl; eq_refl; eq_refl; eq_refl; (first | assumption | exact trivial))
      | (apply O_pv; eq_refl; (first | exact trivial | omega); (first | assumption | exact trivial))
      | (apply O_field; eq_refl; (first | assumption | exact trivial))
      | (apply O_loadR; eq_refl; (first | (intro _ h; exact h) | (intro _ h; exact h.1) | (intro _ h; exact h.2) | (intro _ h; exact h.2.1) | (intro _ h; exact h.2.2) | (intro _ h; exact h.2.2.1) | (intro _ h; exact h.2.2.2)); eq_refl; (first | assumption | exact trivial))
      | (apply O_loadW; eq_refl; (first | (intro _ h; exact h) | (intro _ h; exact h.1) | (intro _ h; exact h.2) | (intro _ h; exact h.2.1) | (intro _ h; exact h.2.2) | (intro _ h; exact h.2.2.1) | (intro _ h; exact h.2.2.2)); eq_refl; (first | assumption | exact trivial))
      | (apply O_loadC; eq_refl; (first | (intro _ h; exact h) | (intro _ h; exact h.1) | (intro _ h; exact h.2) | (intro _ h; exact h.2.1) | (intro _ h; exact h.2.2) | (intro _ h; exact h.2.2.1) | (intro _ h; exact h.2.2.2)); (first | assumption | exact trivial))
      | (apply O_cmpT; eq_refl; eq_refl; omega; (first | assumption | exact trivial))
      | (apply O_cmpF; eq_refl; eq_refl; omega; (first | assumption | exact trivial))
      | (apply O_cmp; eq_refl; eq_refl; (first | assumption | exact trivial); all_goals intro _)
      | (apply O_index; eq_refl; eq_refl; omega; omega; (first | assumption | exact trivial))
      | (apply O_indexP; eq_refl; eq_refl; omega; omega; (first | assumption | exact trivial))
      | (apply O_fieldP; eq_refl; (first | assumption | exact trivial))
      | (apply O_eqB; eq_refl; eq_refl; (first | assumption | exact trivial))
      | (apply O_neqB; eq_refl; eq_refl; (first | assumption | exact trivial))
      | (apply O_pvL; eq_refl; (first | exact trivial | omega); (first | (intro _; assumption) | exact lo (by kernel_rfl)))
      | (apply WL_on0; eq_refl)
      | (apply WL_onG; eq_refl; eq_refl; eq_refl; eq_refl)
      | (apply WL_noG; eq_refl; eq_refl; eq_refl; eq_refl)
      | (apply X_pv; eq_refl; first | exact trivial | omega)
      | (apply X_field; eq_refl)
      | (apply X_loadR; eq_refl; (first | assumption | (apply Blk.alloc; assumption) | apply Blk.new | apply Blk.newA | (apply Blk.alloc; first | apply Blk.newA | (apply Blk.alloc; first | assumption | apply Blk.newA))); eq_refl)
      | (apply X_loadW; eq_refl; (first | assumption | (apply Blk.alloc; assumption) | apply Blk.new | apply Blk.newA | (apply Blk.alloc; first | apply Blk.newA | (apply Blk.alloc; first | assumption | apply Blk.newA))); eq_refl)
      | (apply X_loadC; eq_refl; (first | assumption | (apply cel; first | assumption | (apply cel; assumption))))
      | (apply X_cmpT; eq_refl; eq_refl; omega)
      | (apply X_cmpF; eq_refl; eq_refl; omega)
      | (apply X_cmp; eq_refl; eq_refl; all_goals intro _)
      | (apply X_index; eq_refl; eq_refl; omega; omega)
      | (apply X_indexP; eq_refl; eq_refl; omega; omega)
      | (apply X_fieldP; eq_refl)
      | (apply X_eqB; eq_refl; eq_refl)
      | (apply X_neqB; eq_refl; eq_refl)
      | (apply X_eqP; eq_refl; eq_refl)
      | (apply X_eqL; eq_refl; eq_refl)
      | (apply X_box; eq_refl))
  refine O_doesU (does_storeA (vs := mcells (m1, m2)) (o := 0 + (l / 2).toNat * 2) (b := b) (by eq_refl) (by eq_refl) (w := (w.alloc (.cells #[nu m1, nu m2] 173)).drew) hT rfl (by rw [length_flatMap2 mcells 2 mlen, mlen]; omega) (by simp [mcells, Value.oneCell'])) (lo (by kernel_rfl)) ?_
  have hsp : splice (t.flatMap mcells) (0 + (l / 2).toNat * 2) (mcells (m1, m2)) = (t.set (l / 2).toNat (m1, m2)).flatMap mcells := by rw [Nat.zero_add]; exact splice_set mcells 2 mlen t _ _ (by omega)
  rw [hsp]
  have hC5 : Chg w ((w.alloc (.cells #[nu m1, nu m2] 173)).drew.setRow b ((t.set (l / 2).toNat (m1, m2)).flatMap mcells).toArray) (tabOf b) := hC.dr.any.trans (Chg.setRow _ b _ (S := tabOf b) rfl) fun _ _ h => h
  have hL : Lk ((w.alloc (.cells #[nu m1, nu m2] 173)).drew.setRow b ((t.set (l / 2).toNat (m1, m2)).flatMap mcells).toArray) k b c h js (t.set (l / 2).toNat (m1, m2)) := by
    refine ⟨?_, Blk.set (w := (w.alloc (.cells #[nu m1, nu m2] 173)).drew) hT _, fun w2 h2 => H.cir w2 (hC5.trans h2 fun _ _ h => h)⟩
    rw [List.length_set]
    exact Blk.chg (w := (w.alloc (.cells #[nu m1, nu m2] 173)).drew) hH (Chg.setRow _ b _ (S := fun q => q = b) rfl) (fun hh => hbk hh.symm)
  repeat' (first
      | (apply WC_seqK; intro K hK)
      | (apply hK; clear hK)
      | (clear hK; apply hK; clear hK)
      | (clear hK; clear hK; apply hK; clear hK)
      | (clear hK; clear hK; clear hK; apply hK; clear hK)
      | (apply WC_block)
      | (apply WC_region)
      | (apply WL_nil)
      | (apply thenQ_normal)
      | (apply thenQ_ret)
      | (apply thenQ_exit)
      | (apply blockQ_hit)
      | (apply blockQ_miss; eq_refl)
      | (apply blockQ_ret)
      | (apply blockQ_normal)
      | (apply WC_ret)
      | (apply WC_exit)
      | (apply WC_skip)
      | (apply WC_if_true; eq_refl)
      | (apply WC_if_false; eq_refl)
      | (apply ret1; eq_refl)
      | (apply ret2; eq_refl; eq_refl)
      | (apply ret3; eq_refl; eq_refl; eq_refl)
      | (apply ret0)
      | (apply ret0n)
      | (apply WS_nil)
      | (apply WS_next; eq_refl)
      | (apply WO_on0; eq_refl)
      | (apply WO_onG; eq_refl; eq_refl; eq_refl; eq_refl)
      | (apply WO_noG; eq_refl; eq_refl; eq_refl; eq_refl; (first | assumption | exact trivial))
      | (apply O_pv; eq_refl; (first | exact trivial | omega); (first | assumption | exact trivial))
      | (apply O_field; eq_refl; (first | assumption | exact trivial))
      | (apply O_loadR; eq_refl; (first | (intro _ h; exact h) | (intro _ h; exact h.1) | (intro _ h; exact h.2) | (intro _ h; exact h.2.1) | (intro _ h; exact h.2.2) | (intro _ h; exact h.2.2.1) | (intro _ h; exact h.2.2.2)); eq_refl; (first | assumption | exact trivial))
      | (apply O_loadW; eq_refl; (first | (intro _ h; exact h) | (intro _ h; exact h.1) | (intro _ h; exact h.2) | (intro _ h; exact h.2.1) | (intro _ h; exact h.2.2) | (intro _ h; exact h.2.2.1) | (intro _ h; exact h.2.2.2)); eq_refl; (first | assumption | exact trivial))
      | (apply O_loadC; eq_refl; (first | (intro _ h; exact h) | (intro _ h; exact h.1) | (intro _ h; exact h.2) | (intro _ h; exact h.2.1) | (intro _ h; exact h.2.2) | (intro _ h; exact h.2.2.1) | (intro _ h; exact h.2.2.2)); (first | assumption | exact trivial))
      | (apply O_cmpT; eq_refl; eq_refl; omega; (first | assumption | exact trivial))
      | (apply O_cmpF; eq_refl; eq_refl; omega; (first | assumption | exact trivial))
      | (apply O_cmp; eq_refl; eq_refl; (first | assumption | exact trivial); all_goals intro _)
      | (apply O_index; eq_refl; eq_refl; omega; omega; (first | assumption | exact trivial))
      | (apply O_indexP; eq_refl; eq_refl; omega; omega; (first | assumption | exact trivial))
      | (apply O_fieldP; eq_refl; (first | assumption | exact trivial))
      | (apply O_eqB; eq_refl; eq_refl; (first | assumption | exact trivial))
      | (apply O_neqB; eq_refl; eq_refl; (first | assumption | exact trivial))
      | (apply O_pvL; eq_refl; (first | exact trivial | omega); (first | (intro _; assumption) | exact lo (by kernel_rfl)))
      | (apply WL_on0; eq_refl)
      | (apply WL_onG; eq_refl; eq_refl; eq_refl; eq_refl)
      | (apply WL_noG; eq_refl; eq_refl; eq_refl; eq_refl)
      | (apply X_pv; eq_refl; first | exact trivial | omega)
      | (apply X_field; eq_refl)
      | (apply X_loadR; eq_refl; (first | assumption | (apply Blk.alloc; assumption) | apply Blk.new | apply Blk.newA | (apply Blk.alloc; first | apply Blk.newA | (apply Blk.alloc; first | assumption | apply Blk.newA))); eq_refl)
      | (apply X_loadW; eq_refl; (first | assumption | (apply Blk.alloc; assumption) | apply Blk.new | apply Blk.newA | (apply Blk.alloc; first | apply Blk.newA | (apply Blk.alloc; first | assumption | apply Blk.newA))); eq_refl)
      | (apply X_loadC; eq_refl; (first | assumption | (apply cel; first | assumption | (apply cel; assumption))))
      | (apply X_cmpT; eq_refl; eq_refl; omega)
      | (apply X_cmpF; eq_refl; eq_refl; omega)
      | (apply X_cmp; eq_refl; eq_refl; all_goals intro _)
      | (apply X_index; eq_refl; eq_refl; omega; omega)
      | (apply X_indexP; eq_refl; eq_refl; omega; omega)
      | (apply X_fieldP; eq_refl)
      | (apply X_eqB; eq_refl; eq_refl)
      | (apply X_neqB; eq_refl; eq_refl)
      | (apply X_eqP; eq_refl; eq_refl)
      | (apply X_eqL; eq_refl; eq_refl)
      | (apply X_box; eq_refl))
  exact ⟨by unfold defM; rw [if_neg hbad, if_neg hk], by unfold defM; rw [if_neg hbad, if_neg hk]; exact hL, hC5⟩
end SC
end Go.Proofs.Ytkndegjodnciaaa
