/- shape: the closure that pushes. -/
import Derived.Test.YtkndegjodnciaaaD9
set_option linter.unusedVariables false
set_option linter.unusedSimpArgs false
namespace Go.Proofs.Ytkndegjodnciaaa
namespace SC
open Go.Proofs
attribute [local irreducible] WC WL WX WS WO OX Does DoesU Enters CV Pure thenQ blockQ retQ Wants
set_option maxRecDepth 100000
/-- Where x comes into a list that goes down. -/
def pushM (xs : List Int) (x : Int) : List Int := xs.takeWhile (fun y => decide (x < y)) ++ x :: xs.dropWhile (fun y => decide (x < y))
theorem push_at {xs : List Int} {x : Int} {i : Nat} (hi : i ≤ xs.length) (h1 : ∀ j (hj : j < xs.length), j < i → x < xs[j]) (h2 : ∀ j (hj : j < xs.length), i ≤ j → xs[j] ≤ x) : xs.take i ++ x :: xs.drop i = pushM xs x := by
  induction xs generalizing i with
  | nil => simp [pushM]
  | cons y r ih =>
    unfold pushM
    cases i with
    | zero =>
      have := h2 0 (by simp) (Nat.le_refl _)
      simp only [List.getElem_cons_zero] at this
      have e : decide (x < y) = false := decide_eq_false (by omega)
      simp [List.takeWhile_cons, List.dropWhile_cons, e]
    | succ i =>
      have h0 := h1 0 (by simp) (by omega)
      simp only [List.getElem_cons_zero] at h0
      have e : decide (x < y) = true := decide_eq_true h0
      have := ih (i := i) (by simpa using hi) (fun j hj hlt => by have := h1 (j + 1) (by simp; omega) (by omega); simpa using this) (fun j hj hle => by have := h2 (j + 1) (by simp; omega) (by omega); simpa using this)
      simp only [List.takeWhile_cons, List.dropWhile_cons, e, if_true, List.take_succ_cons, List.drop_succ_cons, List.cons_append]
      unfold pushM at this
      rw [← this]
theorem ic_len (a : Int) : (icell a).length = 1 := rfl
theorem flat_icell : ∀ xs : List Int, xs.flatMap icell = xs.map nu
  | [] => rfl
  | a :: r => by simp only [List.flatMap_cons, flat_icell r]; rfl
theorem rowI {w : World} {base : Nat} {A : Option Addr} {c : Nat} {xs : List Int} (h : w.ownsRow base 3 1 (.slice A xs.length c) xs.length (xs.map nu)) : RowA w icell 1 A xs := RowA.own ic_len (by rw [flat_icell]; exact h)
theorem push_cv {w : World} {base rb : Nat} {v : Value} {xs : List Int} {x : Int} (hb : Blk w rb 45 [v]) (hown : w.ownsRow base 3 1 v xs.length (xs.map nu)) (hbase : base ≤ w.heap.size) (hn : xs.length ≤ 100000) (hx : 0 ≤ x ∧ x ≤ 100000) (hxs : ∀ y ∈ xs, 0 ≤ y ∧ y ≤ 100000) (hd : ∀ (i j : Nat) (hi : i < xs.length) (hj : j < xs.length), i ≤ j → xs[j] ≤ xs[i]) :
    CV Try.prog 139 [nu x, pt rb] w fun u w' => ∃ v', Blk w' rb 45 [v'] ∧ w'.ownsRow base 3 1 v' (xs.length + 1) ((pushM xs x).map nu) ∧ Chg w w' (fun k => k = rb ∨ v.ownBlock = some k) ∧ (v'.ownBlock = v.ownBlock ∨ ∃ k, v'.ownBlock = some k ∧ w.heap.size ≤ k) := by
  obtain ⟨A, c, rfl⟩ := row_form' hown
  have hrl := rowI hown
  have hvr : (Value.slice A xs.length c).ownBlock ≠ some rb := by
    rcases hown.2 with ⟨hv, _⟩ | ⟨g, _, _, hv, _, hg, _⟩
    · rw [hv]; simp [Value.ownBlock]
    · rw [hv]
      intro hh
      simp only [Value.ownBlock, Option.some.injEq] at hh
      subst hh
      unfold Blk at hb
      rw [hg] at hb
      simp at hb
  refine enter 16 [] Try.func139 rfl rfl rfl (by decide) rfl ?_
  repeat' (first
      | (apply X_fn; eq_refl; exact bsearch_cv hrl hn hx hxs hd; rintro _ _ ⟨rfl, i, f, rfl, hi, h1, h2⟩)
      | (apply WC_seqK; intro K hK)
      | (apply hK; clear hK)
      | (clear hK; apply hK; clear hK)
      | (clear hK; clear hK; apply hK; clear hK)
      | (clear hK; clear hK; clear hK; apply hK; clear hK)
      | (apply WC_block)
      | (apply WC_region)
      | (apply WL_nil)
      | (apply thenQ_normal)
      | (apply thenQ_ret)
      | (apply thenQ_exit)
      | (apply blockQ_hit)
      | (apply blockQ_miss; eq_refl)
      | (apply blockQ_ret)
      | (apply blockQ_normal)
      | (apply WC_ret)
      | (apply WC_exit)
      | (apply WC_skip)
      | (apply WC_if_true; eq_refl)
      | (apply WC_if_false; eq_refl)
      | (apply ret1; eq_refl)
      | (apply ret2; eq_refl; eq_refl)
      | (apply ret3; eq_refl; eq_refl; eq_refl)
      | (apply ret0)
      | (apply ret0n)
      | (apply WL_on0; eq_refl)
      | (apply X_pv; eq_refl; first | exact trivial | omega)
      | (apply X_loadR; eq_refl; (first | assumption | (apply Blk.alloc; assumption) | apply Blk.new | apply Blk.newA | (apply Blk.alloc; first | apply Blk.newA | (apply Blk.alloc; first | assumption | apply Blk.newA))); eq_refl)
      | (apply X_loadW; eq_refl; (first | assumption | (apply Blk.alloc; assumption) | apply Blk.new | apply Blk.newA | (apply Blk.alloc; first | apply Blk.newA | (apply Blk.alloc; first | assumption | apply Blk.newA))); eq_refl)
      | (apply X_loadC; eq_refl; (first | assumption | (apply cel; first | assumption | (apply cel; assumption))))
      | (apply X_does; apply buildS45_1 <;> eq_refl))
  rename_i w0
  have hown1 := hown.alloc (.cells #[nu x] 3)
  have hins := insert_cv (w := w0.alloc (.cells #[nu x] 3)) (base := base) (i := i) (x := x) hown1 hi (Blk.newA w0 #[nu x] 3) (fun hh => by have := (hown.lt _ hh).2; omega) (by omega) (by simp; omega)
  refine X_fn (by eq_refl) hins ?_
  rintro v' w2 ⟨hrow2, hC2, hown2⟩
  have hb2 : Blk w2 rb 45 [.slice A xs.length c] := (hb.alloc _).chg hC2 (fun hh => hvr hh)
  obtain ⟨A', c', rfl⟩ := row_form' hrow2
  have hpe := push_at hi h1 h2
  rw [hpe] at hrow2
  have hvr2 : (Value.slice A' (xs.length + 1) c').ownBlock ≠ some rb := by
    rcases hrow2.2 with ⟨hv, _⟩ | ⟨g, _, _, hv, _, hg, _⟩
    · rw [hv]; simp [Value.ownBlock]
    · rw [hv]
      intro hh
      simp only [Value.ownBlock, Option.some.injEq] at hh
      subst hh
      unfold Blk at hb2
      rw [hg] at hb2
      simp at hb2
  repeat' (first
      | (apply WC_seqK; intro K hK)
      | (apply hK; clear hK)
      | (clear hK; apply hK; clear hK)
      | (clear hK; clear hK; apply hK; clear hK)
      | (clear hK; clear hK; clear hK; apply hK; clear hK)
      | (apply WC_block)
      | (apply WC_region)
      | (apply WL_nil)
      | (apply thenQ_normal)
      | (apply thenQ_ret)
      | (apply thenQ_exit)
      | (apply blockQ_hit)
      | (apply blockQ_miss; eq_refl)
      | (apply blockQ_ret)
      | (apply blockQ_normal)
      | (apply WC_ret)
      | (apply WC_exit)
      | (apply WC_skip)
      | (apply WC_if_true; eq_refl)
      | (apply WC_if_false; eq_refl)
      | (apply ret1; eq_refl)
      | (apply ret2; eq_refl; eq_refl)
      | (apply ret3; eq_refl; eq_refl; eq_refl)
      | (apply ret0)
      | (apply ret0n)
      | (apply WL_on0; eq_refl)
      | (apply X_pv; eq_refl; first | exact trivial | omega)
      | (apply X_loadR; eq_refl; (first | assumption | (apply Blk.alloc; assumption) | apply Blk.new | apply Blk.newA | (apply Blk.alloc; first | apply Blk.newA | (apply Blk.alloc; first | assumption | apply Blk.newA))); eq_refl)
      | (apply X_loadW; eq_refl; (first | assumption | (apply Blk.alloc; assumption) | apply Blk.new | apply Blk.newA | (apply Blk.alloc; first | apply Blk.newA | (apply Blk.alloc; first | assumption | apply Blk.newA))); eq_refl)
      | (apply X_loadC; eq_refl; (first | assumption | (apply cel; first | assumption | (apply cel; assumption))))
      | (apply X_does; apply buildS45_1 <;> eq_refl))
  refine X_doesU (does_store1 (b := rb) (o := 0) (v := .slice A' (xs.length + 1) c') (by eq_refl) (by eq_refl) hb2 (by simp) rfl rfl) ?_
  have hC3 : Chg w0 (w2.setRow rb ([Value.slice A xs.length c].set 0 (.slice A' (xs.length + 1) c')).toArray) (fun k => k = rb ∨ (Value.slice A xs.length c).ownBlock = some k) :=
    ((Chg.alloc w0 _ _).trans hC2 fun k _ hh => .inr hh).trans (Chg.setRow _ rb _ (S := fun k => k = rb) rfl) fun k _ hh => .inl hh
  have hb3 := hb2.set ([Value.slice A xs.length c].set 0 (.slice A' (xs.length + 1) c'))
  have hrow3 := own_chg hrow2 (Chg.setRow w2 rb ([Value.slice A xs.length c].set 0 (.slice A' (xs.length + 1) c')).toArray (S := fun k => k = rb) rfl) fun k hk hh => hvr2 (hh ▸ hk)
  repeat' (first
      | (apply WC_seqK; intro K hK)
      | (apply hK; clear hK)
      | (clear hK; apply hK; clear hK)
      | (clear hK; clear hK; apply hK; clear hK)
      | (clear hK; clear hK; clear hK; apply hK; clear hK)
      | (apply WC_block)
      | (apply WC_region)
      | (apply WL_nil)
      | (apply thenQ_normal)
      | (apply thenQ_ret)
      | (apply thenQ_exit)
      | (apply blockQ_hit)
      | (apply blockQ_miss; eq_refl)
      | (apply blockQ_ret)
      | (apply blockQ_normal)
      | (apply WC_ret)
      | (apply WC_exit)
      | (apply WC_skip)
      | (apply WC_if_true; eq_refl)
      | (apply WC_if_false; eq_refl)
      | (apply ret1; eq_refl)
      | (apply ret2; eq_refl; eq_refl)
      | (apply ret3; eq_refl; eq_refl; eq_refl)
      | (apply ret0)
      | (apply ret0n)
      | (apply WL_on0; eq_refl)
      | (apply X_pv; eq_refl; first | exact trivial | omega)
      | (apply X_loadR; eq_refl; (first | assumption | (apply Blk.alloc; assumption) | apply Blk.new | apply Blk.newA | (apply Blk.alloc; first | apply Blk.newA | (apply Blk.alloc; first | assumption | apply Blk.newA))); eq_refl)
      | (apply X_loadW; eq_refl; (first | assumption | (apply Blk.alloc; assumption) | apply Blk.new | apply Blk.newA | (apply Blk.alloc; first | apply Blk.newA | (apply Blk.alloc; first | assumption | apply Blk.newA))); eq_refl)
      | (apply X_loadC; eq_refl; (first | assumption | (apply cel; first | assumption | (apply cel; assumption))))
      | (apply X_does; apply buildS45_1 <;> eq_refl))
  refine ⟨_, hb3, hrow3, hC3, hown2.imp id fun hh => ⟨_, hh, by simp⟩⟩
end SC
end Go.Proofs.Ytkndegjodnciaaa
