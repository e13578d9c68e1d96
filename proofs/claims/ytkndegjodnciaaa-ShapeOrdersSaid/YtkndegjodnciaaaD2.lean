/- shape: how much there is. -/
import Derived.Test.YtkndegjodnciaaaD1
set_option linter.unusedVariables false
set_option linter.unusedSimpArgs false
namespace Go.Proofs.Ytkndegjodnciaaa
namespace SC
open Go.Proofs
attribute [local irreducible] WC WL WX WS WO OX Does DoesU Enters CV Pure thenQ blockQ retQ Wants
set_option maxRecDepth 100000
section
variable {P : Program} {ty : TypeId} {e : Env} {w : World} {x y : Operand} {t t0 : TypeId} {d0 : TypeDesc} {zv v : Value} {by_ m sz by1 : Nat} {z1 : Value} {n : Nat} {all rest : List Oper} {K : Env → World → Prop} {d : Option Tmp}
theorem p_indexArr (hu : P.underlying t = some (.array m t0)) (T : Ty P t0 d0 1 zv by_ false) {vs : Array Value} {k : IntKind} {i : Int} (h : ev e x = some (.agg vs)) (h1 : ev e y = some (.int k i)) (h0 : 0 ≤ i) (h2 : i < m) (hv : vs.toList[i.toNat]? = some v) : Pure P (.index t x y) ty e v := by
  unfold Pure Does
  intro w ρ dst pos af g hρ
  have hv' : vs[i.toNat]? = some v := by rw [← Array.getElem?_toList]; exact hv
  simp [execOp, hρ _ _ h, hρ _ _ h1, Instr.index, asIntOf, run_underlying hu, h0, h2, T.size, part, T.agg, hv']
theorem X_indexArr [U : Ty P t (.array m t0) sz z1 by1 true] [T : Ty P t0 d0 1 zv by_ false] {vs : Array Value} {k : IntKind} {i : Int} (h : ev e x = some (.agg vs)) (h1 : ev e y = some (.int k i)) (h0 : 0 ≤ i) (h2 : i < m) (hv : vs.toList[i.toNat]? = some v) (hr : WL P n all K rest (push d v e) w) :
    WX P n all K rest d (.index t x y) ty e w := X_pure (p_indexArr U.und T h h1 h0 h2 hv) hr
end
def sumL (l : List (List Int)) : Nat := (l.map List.length).sum
theorem sumL_take {l : List (List Int)} {k : Nat} (hk : k < l.length) : sumL (l.take (k + 1)) = sumL (l.take k) + l[k].length := by
  unfold sumL
  rw [List.take_succ_eq_append_getElem hk, List.map_append, List.sum_append]
  rfl
theorem sumL_le {l : List (List Int)} {M : Nat} (h : ∀ x ∈ l, x.length ≤ M) : sumL l ≤ l.length * M := by
  induction l with
  | nil => simp [sumL]
  | cons a r ih =>
    have h1 := ih fun x hx => h x (by simp [hx])
    have h2 := h a (by simp)
    simp only [sumL, List.map_cons, List.sum_cons, List.length_cons, Nat.succ_mul] at *
    omega
/-- The row of lists. -/
def JusAt (w : World) (A : Option Addr) (ls : List (List Int)) (js : Hd) : Prop := ∀ k (hk : k < ls.length), ∃ p, A = some p ∧ w.cell? (p.add ((k : Int).toNat * 1)) = some (.slice (js k).1 ls[k].length (js k).2)
/-- The sum as the machine has it. -/
def sumW (l : List (List Int)) : Int := IntKind.i64.wrap (sumL l)
theorem sumW_take {l : List (List Int)} {k : Nat} (hk : k < l.length) : IntKind.i64.wrap (sumW (l.take k) + l[k].length) = sumW (l.take (k + 1)) := by
  unfold sumW
  rw [sumL_take hk]
  simp only [IntKind.wrap_i64]
  omega
theorem total_cv {w : World} {A : Option Addr} {c : Nat} {ls : List (List Int)} {js : Hd} (hj : JusAt w A ls js) (hn : ls.length ≤ 16384) :
    CV Try.prog 153 [.slice A ls.length c] w fun v w' => v = nu (sumW ls) ∧ w' = w := by
  refine enter 18 [2] Try.func153 rfl rfl rfl (by decide) rfl ?_
  repeat' (first
      | (apply WC_seqK; intro K hK)
      | (apply hK; clear hK)
      | (clear hK; apply hK; clear hK)
      | (clear hK; clear hK; apply hK; clear hK)
      | (clear hK; clear hK; clear hK; apply hK; clear hK)
      | (apply WC_block)
      | (apply WC_region)
      | (apply WL_nil)
      | (apply thenQ_normal)
      | (apply thenQ_ret)
      | (apply thenQ_exit)
      | (apply blockQ_hit)
      | (apply blockQ_miss; eq_refl)
      | (apply blockQ_ret)
      | (apply blockQ_normal)
      | (apply WC_ret)
      | (apply WC_exit)
      | (apply WC_skip)
      | (apply WC_if_true; eq_refl)
      | (apply WC_if_false; eq_refl)
      | (apply ret1; eq_refl)
      | (apply ret2; eq_refl; eq_refl)
      | (apply ret3; eq_refl; eq_refl; eq_refl)
      | (apply ret0)
      | (apply ret0n)
      | (apply WL_on0; eq_refl)
      | (apply X_pv; eq_refl; first | exact trivial | omega)
      | (apply X_loadR; eq_refl; (first | assumption | (apply Blk.alloc; assumption) | apply Blk.new | apply Blk.newA | (apply Blk.alloc; first | apply Blk.newA | (apply Blk.alloc; first | assumption | apply Blk.newA))); eq_refl)
      | (apply X_loadW; eq_refl; (first | assumption | (apply Blk.alloc; assumption) | apply Blk.new | apply Blk.newA | (apply Blk.alloc; first | apply Blk.newA | (apply Blk.alloc; first | assumption | apply Blk.newA))); eq_refl)
      | (apply X_loadC; eq_refl; (first | assumption | (apply cel; first | assumption | (apply cel; assumption))))
      | (apply X_cmpT; eq_refl; eq_refl; omega)
      | (apply X_cmpF; eq_refl; eq_refl; omega)
      | (apply X_cmp; eq_refl; eq_refl; all_goals intro _)
      | (apply X_len; eq_refl)
      | (apply X_lenS; eq_refl)
      | (apply X_index; eq_refl; eq_refl; omega; omega)
      | (apply X_indexP; eq_refl; eq_refl; omega; omega))
  refine WC_loop (fun k : Nat => [(6, .slice A ls.length c), (7, nu ls.length), (8, nu k), (3, nu (sumW (ls.take k)))]) (fun k w1 => w1 = w ∧ k ≤ ls.length) (fun k => ls.length - k) 0 ⟨rfl, rfl, rfl, rfl, trivial⟩ ⟨rfl, Nat.zero_le _⟩ ?_
  rintro k w1 ⟨rfl, hk⟩
  rcases Nat.lt_or_ge k ls.length with hlt | hge
  · obtain ⟨p, rfl, hc⟩ := hj k hlt
    have h3 := sumW_take hlt
    repeat' (first
      | (apply X_pure; apply (p_addW (a := sumW (ls.take k)) (b := (ls[k].length : Int))); eq_refl; eq_refl)
      | (apply WC_seqK; intro K hK)
      | (apply hK; clear hK)
      | (clear hK; apply hK; clear hK)
      | (clear hK; clear hK; apply hK; clear hK)
      | (clear hK; clear hK; clear hK; apply hK; clear hK)
      | (apply WC_block)
      | (apply WC_region)
      | (apply WL_nil)
      | (apply thenQ_normal)
      | (apply thenQ_ret)
      | (apply thenQ_exit)
      | (apply blockQ_hit)
      | (apply blockQ_miss; eq_refl)
      | (apply blockQ_ret)
      | (apply blockQ_normal)
      | (apply WC_ret)
      | (apply WC_exit)
      | (apply WC_skip)
      | (apply WC_if_true; eq_refl)
      | (apply WC_if_false; eq_refl)
      | (apply ret1; eq_refl)
      | (apply ret2; eq_refl; eq_refl)
      | (apply ret3; eq_refl; eq_refl; eq_refl)
      | (apply ret0)
      | (apply ret0n)
      | (apply WL_on0; eq_refl)
      | (apply X_pv; eq_refl; first | exact trivial | omega)
      | (apply X_loadR; eq_refl; (first | assumption | (apply Blk.alloc; assumption) | apply Blk.new | apply Blk.newA | (apply Blk.alloc; first | apply Blk.newA | (apply Blk.alloc; first | assumption | apply Blk.newA))); eq_refl)
      | (apply X_loadW; eq_refl; (first | assumption | (apply Blk.alloc; assumption) | apply Blk.new | apply Blk.newA | (apply Blk.alloc; first | apply Blk.newA | (apply Blk.alloc; first | assumption | apply Blk.newA))); eq_refl)
      | (apply X_loadC; eq_refl; (first | assumption | (apply cel; first | assumption | (apply cel; assumption))))
      | (apply X_cmpT; eq_refl; eq_refl; omega)
      | (apply X_cmpF; eq_refl; eq_refl; omega)
      | (apply X_cmp; eq_refl; eq_refl; all_goals intro _)
      | (apply X_len; eq_refl)
      | (apply X_lenS; eq_refl)
      | (apply X_index; eq_refl; eq_refl; omega; omega)
      | (apply X_indexP; eq_refl; eq_refl; omega; omega))
    exact ⟨k + 1, ⟨rfl, rfl, rfl, by rw [← h3]; rfl, trivial⟩, ⟨rfl, hlt⟩, by omega⟩
  · repeat' (first
      | (apply WC_seqK; intro K hK)
      | (apply hK; clear hK)
      | (clear hK; apply hK; clear hK)
      | (clear hK; clear hK; apply hK; clear hK)
      | (clear hK; clear hK; clear hK; apply hK; clear hK)
      | (apply WC_block)
      | (apply WC_region)
      | (apply WL_nil)
      | (apply thenQ_normal)
      | (apply thenQ_ret)
      | (apply thenQ_exit)
      | (apply blockQ_hit)
      | (apply blockQ_miss; eq_refl)
      | (apply blockQ_ret)
      | (apply blockQ_normal)
      | (apply WC_ret)
      | (apply WC_exit)
      | (apply WC_skip)
      | (apply WC_if_true; eq_refl)
      | (apply WC_if_false; eq_refl)
      | (apply ret1; eq_refl)
      | (apply ret2; eq_refl; eq_refl)
      | (apply ret3; eq_refl; eq_refl; eq_refl)
      | (apply ret0)
      | (apply ret0n)
      | (apply WL_on0; eq_refl)
      | (apply X_pv; eq_refl; first | exact trivial | omega)
      | (apply X_loadR; eq_refl; (first | assumption | (apply Blk.alloc; assumption) | apply Blk.new | apply Blk.newA | (apply Blk.alloc; first | apply Blk.newA | (apply Blk.alloc; first | assumption | apply Blk.newA))); eq_refl)
      | (apply X_loadW; eq_refl; (first | assumption | (apply Blk.alloc; assumption) | apply Blk.new | apply Blk.newA | (apply Blk.alloc; first | apply Blk.newA | (apply Blk.alloc; first | assumption | apply Blk.newA))); eq_refl)
      | (apply X_loadC; eq_refl; (first | assumption | (apply cel; first | assumption | (apply cel; assumption))))
      | (apply X_cmpT; eq_refl; eq_refl; omega)
      | (apply X_cmpF; eq_refl; eq_refl; omega)
      | (apply X_cmp; eq_refl; eq_refl; all_goals intro _)
      | (apply X_len; eq_refl)
      | (apply X_lenS; eq_refl)
      | (apply X_index; eq_refl; eq_refl; omega; omega)
      | (apply X_indexP; eq_refl; eq_refl; omega; omega))
    rw [List.take_of_length_le hge]
    exact ⟨rfl, rfl⟩
/-- What is wrong with how much there is. -/
def Circ.lens (c : Circ) : List Int := [c.inputs.length, c.latches.length, c.outputs.length, c.bads.length, c.constraints.length, c.justice.length, c.fairness.length, c.ands.length, c.symbols.length, c.comments.length]
def sizesM (c : Circ) : Int :=
  if c.max < 0 ∨ 16384 < c.max then 1
  else if (∃ n ∈ c.lens, 16384 < n) ∨ 16384 < sumW c.justice then 2 else 0
theorem len_lens (c : Circ) : c.lens.length = 10 := rfl
theorem sizes_cv {w : World} {c : Circ} {h js : Hd} (H : CirAt w c h js) (hs : c.Sane) : CV Try.prog 129 [.agg (ccells c h).toArray] w fun v w' => v = nu (sizesM c) ∧ Chg w w' none_ := by
  have hN : Blk (w.alloc (.cells (ccells c h).toArray 51)) w.heap.size 51 (ccells c h) := Blk.new w _ _
  have hC := Chg.alloc w (.cells (ccells c h).toArray 51) none_
  have H1 := H.chg hC
  by_cases hm : c.max < 0 ∨ 16384 < c.max
  · refine enter 54 [2] Try.func129 rfl rfl rfl (by decide) rfl ?_
    repeat' (first
      | (apply WC_seqK; intro K hK)
      | (apply hK; clear hK)
      | (clear hK; apply hK; clear hK)
      | (clear hK; clear hK; apply hK; clear hK)
      | (clear hK; clear hK; clear hK; apply hK; clear hK)
      | (apply WC_block)
      | (apply WC_region)
      | (apply WL_nil)
      | (apply thenQ_normal)
      | (apply thenQ_ret)
      | (apply thenQ_exit)
      | (apply blockQ_hit)
      | (apply blockQ_miss; eq_refl)
      | (apply blockQ_ret)
      | (apply blockQ_normal)
      | (apply WC_ret)
      | (apply WC_exit)
      | (apply WC_skip)
      | (apply WC_if_true; eq_refl)
      | (apply WC_if_false; eq_refl)
      | (apply ret1; eq_refl)
      | (apply ret2; eq_refl; eq_refl)
      | (apply ret3; eq_refl; eq_refl; eq_refl)
      | (apply ret0)
      | (apply ret0n)
      | (apply WL_on0; eq_refl)
      | (apply WL_onG; eq_refl; eq_refl; eq_refl; eq_refl)
      | (apply WL_noG; eq_refl; eq_refl; eq_refl; eq_refl)
      | (apply X_pv; eq_refl; first | exact trivial | omega)
      | (apply X_field; eq_refl)
      | (apply X_loadR; eq_refl; (first | assumption | (apply Blk.alloc; assumption) | apply Blk.new | apply Blk.newA | (apply Blk.alloc; first | apply Blk.newA | (apply Blk.alloc; first | assumption | apply Blk.newA))); eq_refl)
      | (apply X_loadW; eq_refl; (first | assumption | (apply Blk.alloc; assumption) | apply Blk.new | apply Blk.newA | (apply Blk.alloc; first | apply Blk.newA | (apply Blk.alloc; first | assumption | apply Blk.newA))); eq_refl)
      | (apply X_loadC; eq_refl; (first | assumption | (apply cel; first | assumption | (apply cel; assumption))))
      | (apply X_cmpT; eq_refl; eq_refl; omega)
      | (apply X_cmpF; eq_refl; eq_refl; omega)
      | (apply X_cmp; eq_refl; eq_refl; all_goals intro _)
      | (apply X_len; eq_refl)
      | (apply X_lenS; eq_refl)
      | (apply X_fieldP; eq_refl)
      | (apply X_box; eq_refl)
      | (apply X_pure; apply build169_0_1_2_3_4_5_6_7_8_9 <;> eq_refl))
    all_goals exact ⟨by unfold sizesM; rw [if_pos hm], hC⟩
  refine enter 54 [2] Try.func129 rfl rfl rfl (by decide) rfl ?_
  repeat' (first
      | (apply WC_seqK; intro K hK)
      | (apply hK; clear hK)
      | (clear hK; apply hK; clear hK)
      | (clear hK; clear hK; apply hK; clear hK)
      | (clear hK; clear hK; clear hK; apply hK; clear hK)
      | (apply WC_block)
      | (apply WC_region)
      | (apply WL_nil)
      | (apply thenQ_normal)
      | (apply thenQ_ret)
      | (apply thenQ_exit)
      | (apply blockQ_hit)
      | (apply blockQ_miss; eq_refl)
      | (apply blockQ_ret)
      | (apply blockQ_normal)
      | (apply WC_ret)
      | (apply WC_exit)
      | (apply WC_skip)
      | (apply WC_if_true; eq_refl)
      | (apply WC_if_false; eq_refl)
      | (apply ret1; eq_refl)
      | (apply ret2; eq_refl; eq_refl)
      | (apply ret3; eq_refl; eq_refl; eq_refl)
      | (apply ret0)
      | (apply ret0n)
      | (apply WL_on0; eq_refl)
      | (apply WL_onG; eq_refl; eq_refl; eq_refl; eq_refl)
      | (apply WL_noG; eq_refl; eq_refl; eq_refl; eq_refl)
      | (apply X_pv; eq_refl; first | exact trivial | omega)
      | (apply X_field; eq_refl)
      | (apply X_loadR; eq_refl; (first | assumption | (apply Blk.alloc; assumption) | apply Blk.new | apply Blk.newA | (apply Blk.alloc; first | apply Blk.newA | (apply Blk.alloc; first | assumption | apply Blk.newA))); eq_refl)
      | (apply X_loadW; eq_refl; (first | assumption | (apply Blk.alloc; assumption) | apply Blk.new | apply Blk.newA | (apply Blk.alloc; first | apply Blk.newA | (apply Blk.alloc; first | assumption | apply Blk.newA))); eq_refl)
      | (apply X_loadC; eq_refl; (first | assumption | (apply cel; first | assumption | (apply cel; assumption))))
      | (apply X_cmpT; eq_refl; eq_refl; omega)
      | (apply X_cmpF; eq_refl; eq_refl; omega)
      | (apply X_cmp; eq_refl; eq_refl; all_goals intro _)
      | (apply X_len; eq_refl)
      | (apply X_lenS; eq_refl)
      | (apply X_fieldP; eq_refl)
      | (apply X_box; eq_refl)
      | (apply X_pure; apply build169_0_1_2_3_4_5_6_7_8_9 <;> eq_refl))
  refine WC_loop (fun k : Nat => [(1, .pointer (some ⟨w.heap.size, 0, none⟩)), (43, .agg (c.lens.map nu).toArray), (44, nu k)]) (fun k w1 => w1 = w.alloc (.cells (ccells c h).toArray 51) ∧ k ≤ 10 ∧ ∀ n ∈ c.lens.take k, n ≤ 16384) (fun k => 10 - k) 0 ⟨rfl, rfl, rfl, trivial⟩ ⟨rfl, by decide, by simp⟩ ?_
  rintro k w1 ⟨rfl, hk, hall⟩
  rcases Nat.lt_or_ge k 10 with hlt | hge
  · have hkl : k < c.lens.length := hlt
    have hv : (c.lens.map nu).toArray.toList[(k : Int).toNat]? = some (nu c.lens[k]) := by
      have e : (k : Int).toNat = k := by omega
      simp [e, hkl]
    repeat' (first
      | (apply X_indexArr; eq_refl; eq_refl; omega; omega; exact hv)
      | (apply WC_seqK; intro K hK)
      | (apply hK; clear hK)
      | (clear hK; apply hK; clear hK)
      | (clear hK; clear hK; apply hK; clear hK)
      | (clear hK; clear hK; clear hK; apply hK; clear hK)
      | (apply WC_block)
      | (apply WC_region)
      | (apply WL_nil)
      | (apply thenQ_normal)
      | (apply thenQ_ret)
      | (apply thenQ_exit)
      | (apply blockQ_hit)
      | (apply blockQ_miss; eq_refl)
      | (apply blockQ_ret)
      | (apply blockQ_normal)
      | (apply WC_ret)
      | (apply WC_exit)
      | (apply WC_skip)
      | (apply WC_if_true; eq_refl)
      | (apply WC_if_false; eq_refl)
      | (apply ret1; eq_refl)
      | (apply ret2; eq_refl; eq_refl)
      | (apply ret3; eq_refl; eq_refl; eq_refl)
      | (apply ret0)
      | (apply ret0n)
      | (apply WL_on0; eq_refl)
      | (apply WL_onG; eq_refl; eq_refl; eq_refl; eq_refl)
      | (apply WL_noG; eq_refl; eq_refl; eq_refl; eq_refl)
      | (apply X_pv; eq_refl; first | exact trivial | omega)
      | (apply X_field; eq_refl)
      | (apply X_loadR; eq_refl; (first | assumption | (apply Blk.alloc; assumption) | apply Blk.new | apply Blk.newA | (apply Blk.alloc; first | apply Blk.newA | (apply Blk.alloc; first | assumption | apply Blk.newA))); eq_refl)
      | (apply X_loadW; eq_refl; (first | assumption | (apply Blk.alloc; assumption) | apply Blk.new | apply Blk.newA | (apply Blk.alloc; first | apply Blk.newA | (apply Blk.alloc; first | assumption | apply Blk.newA))); eq_refl)
      | (apply X_loadC; eq_refl; (first | assumption | (apply cel; first | assumption | (apply cel; assumption))))
      | (apply X_cmpT; eq_refl; eq_refl; omega)
      | (apply X_cmpF; eq_refl; eq_refl; omega)
      | (apply X_cmp; eq_refl; eq_refl; all_goals intro _)
      | (apply X_len; eq_refl)
      | (apply X_lenS; eq_refl)
      | (apply X_fieldP; eq_refl)
      | (apply X_box; eq_refl)
      | (apply X_pure; apply build169_0_1_2_3_4_5_6_7_8_9 <;> eq_refl))
    · refine ⟨?_, hC⟩
      unfold sizesM
      rw [if_neg hm, if_pos (.inl ⟨c.lens[k], List.getElem_mem hkl, by assumption⟩)]
    · refine ⟨k + 1, ⟨rfl, rfl, rfl, trivial⟩, ⟨rfl, hlt, ?_⟩, by omega⟩
      intro n hn
      rw [List.take_succ_eq_append_getElem hkl] at hn
      simp only [List.mem_append, List.mem_singleton] at hn
      rcases hn with hn | rfl
      · exact hall n hn
      · omega
  · have hall' : ∀ n ∈ c.lens, n ≤ 16384 := by rwa [List.take_of_length_le (by rw [len_lens]; exact hge)] at hall
    have hjl : c.justice.length ≤ 16384 := by have := hall' c.justice.length (by simp [Circ.lens]); omega
    have hno : ¬ ∃ n ∈ c.lens, 16384 < n := fun ⟨n, hn, hh⟩ => by have := hall' n hn; omega
    have hj : JusAt (w.alloc (.cells (ccells c h).toArray 51)) (h 6).1 c.justice js := H1.justice
    have ht : ∀ {cc : Nat}, CV Try.prog 153 [.slice (h 6).1 c.justice.length cc] (w.alloc (.cells (ccells c h).toArray 51)) fun v w' => v = nu (sumW c.justice) ∧ w' = w.alloc (.cells (ccells c h).toArray 51) := total_cv hj hjl
    repeat' (first
      | (apply X_fn; eq_refl; exact ht; rintro _ _ ⟨rfl, rfl⟩)
      | (apply WC_seqK; intro K hK)
      | (apply hK; clear hK)
      | (clear hK; apply hK; clear hK)
      | (clear hK; clear hK; apply hK; clear hK)
      | (clear hK; clear hK; clear hK; apply hK; clear hK)
      | (apply WC_block)
      | (apply WC_region)
      | (apply WL_nil)
      | (apply thenQ_normal)
      | (apply thenQ_ret)
      | (apply thenQ_exit)
      | (apply blockQ_hit)
      | (apply blockQ_miss; eq_refl)
      | (apply blockQ_ret)
      | (apply blockQ_normal)
      | (apply WC_ret)
      | (apply WC_exit)
      | (apply WC_skip)
      | (apply WC_if_true; eq_refl)
      | (apply WC_if_false; eq_refl)
      | (apply ret1; eq_refl)
      | (apply ret2; eq_refl; eq_refl)
      | (apply ret3; eq_refl; eq_refl; eq_refl)
      | (apply ret0)
      | (apply ret0n)
      | (apply WL_on0; eq_refl)
      | (apply WL_onG; eq_refl; eq_refl; eq_refl; eq_refl)
      | (apply WL_noG; eq_refl; eq_refl; eq_refl; eq_refl)
      | (apply X_pv; eq_refl; first | exact trivial | omega)
      | (apply X_field; eq_refl)
      | (apply X_loadR; eq_refl; (first | assumption | (apply Blk.alloc; assumption) | apply Blk.new | apply Blk.newA | (apply Blk.alloc; first | apply Blk.newA | (apply Blk.alloc; first | assumption | apply Blk.newA))); eq_refl)
      | (apply X_loadW; eq_refl; (first | assumption | (apply Blk.alloc; assumption) | apply Blk.new | apply Blk.newA | (apply Blk.alloc; first | apply Blk.newA | (apply Blk.alloc; first | assumption | apply Blk.newA))); eq_refl)
      | (apply X_loadC; eq_refl; (first | assumption | (apply cel; first | assumption | (apply cel; assumption))))
      | (apply X_cmpT; eq_refl; eq_refl; omega)
      | (apply X_cmpF; eq_refl; eq_refl; omega)
      | (apply X_cmp; eq_refl; eq_refl; all_goals intro _)
      | (apply X_len; eq_refl)
      | (apply X_lenS; eq_refl)
      | (apply X_fieldP; eq_refl)
      | (apply X_box; eq_refl)
      | (apply X_pure; apply build169_0_1_2_3_4_5_6_7_8_9 <;> eq_refl))
    · refine ⟨?_, hC⟩
      unfold sizesM
      rw [if_neg hm, if_pos (.inr (by omega))]
    · refine ⟨?_, hC⟩
      unfold sizesM
      rw [if_neg hm, if_neg (fun hh => hh.elim hno (by omega))]
end SC
end Go.Proofs.Ytkndegjodnciaaa
