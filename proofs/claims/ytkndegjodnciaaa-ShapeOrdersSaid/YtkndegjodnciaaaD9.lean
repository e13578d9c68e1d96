/- slices.BinarySearchFunc under order's closure; the closure that pushes. -/
import Derived.Test.YtkndegjodnciaaaD8
set_option linter.unusedVariables false
set_option linter.unusedSimpArgs false
namespace Go.Proofs.Ytkndegjodnciaaa
namespace SC
open Go.Proofs
attribute [local irreducible] WC WL WX WS WO OX Does DoesU Enters CV Pure thenQ blockQ retQ Wants
set_option maxRecDepth 100000
instance : SC.Fn Try.prog 139 := ⟨fun args w => Try.call139 args w⟩
instance : SC.Fn Try.prog 140 := ⟨fun args w => Try.call140 args w⟩
instance : SC.Fn Try.prog 141 := ⟨fun args w => Try.call141 args w⟩
instance : SC.Fn Try.prog 142 := ⟨fun args w => Try.call142 args w⟩
theorem minus_cv {w : World} {a b : Int} (h1 : -9223372036854775808 ≤ b - a) (h2 : b - a ≤ 9223372036854775807) : CV Try.prog 141 [nu a, nu b] w fun v w' => v = nu (b - a) ∧ w' = w := by
  refine enter 8 [4] Try.func141 rfl rfl rfl (by decide) rfl ?_
  repeat' (first
      | (apply WC_seqK; intro K hK)
      | (apply hK; clear hK)
      | (clear hK; apply hK; clear hK)
      | (clear hK; clear hK; apply hK; clear hK)
      | (clear hK; clear hK; clear hK; apply hK; clear hK)
      | (apply WC_block)
      | (apply WC_region)
      | (apply WL_nil)
      | (apply thenQ_normal)
      | (apply thenQ_ret)
      | (apply thenQ_exit)
      | (apply blockQ_hit)
      | (apply blockQ_miss; eq_refl)
      | (apply blockQ_ret)
      | (apply blockQ_normal)
      | (apply WC_ret)
      | (apply WC_exit)
      | (apply WC_skip)
      | (apply WC_if_true; eq_refl)
      | (apply WC_if_false; eq_refl)
      | (apply ret1; eq_refl)
      | (apply ret2; eq_refl; eq_refl)
      | (apply ret3; eq_refl; eq_refl; eq_refl)
      | (apply ret0)
      | (apply ret0n)
      | (apply WL_on0; eq_refl)
      | (apply X_pv; eq_refl; first | exact trivial | omega)
      | (apply X_cmpT; eq_refl; eq_refl; omega)
      | (apply X_cmpF; eq_refl; eq_refl; omega)
      | (apply X_cmp; eq_refl; eq_refl; all_goals intro _))
  exact ⟨rfl, rfl⟩
section
variable {e : Env} {x y : Operand} {ty t t' : TypeId}
theorem p_toU {a : Int} (h : ev e x = some (nu a)) (h0 : 0 ≤ a) (h1 : a ≤ 9223372036854775807) : Pure Try.prog (.convert 3 125 x) ty e (.int .u64 a) := by
  unfold Pure Does
  intro w ρ dst pos af g hρ
  have hw : IntKind.u64.wrap a = a := by rw [IntKind.wrap_u64]; omega
  simp [execOp, hρ _ _ h, convert, Conv.intToInt, run_underlying Try.underlying3, run_underlying Try.underlying125, hw]
theorem p_ofU {a : Int} (h : ev e x = some (.int .u64 a)) (h0 : 0 ≤ a) (h1 : a ≤ 9223372036854775807) : Pure Try.prog (.convert 125 3 x) ty e (nu a) := by
  unfold Pure Does
  intro w ρ dst pos af g hρ
  simp [execOp, hρ _ _ h, convert, Conv.intToInt, run_underlying Try.underlying3, run_underlying Try.underlying125, wrap64_id (n := a) (by omega) (by omega)]
theorem p_shrU {a : Int} {k : IntKind} (h : ev e x = some (.int .u64 a)) (h1 : ev e y = some (.int k 1)) (h0 : 0 ≤ a) : Pure Try.prog (.binOp .shr t x y t') ty e (.int .u64 (a / 2)) := by
  unfold Pure Does
  intro w ρ dst pos af g hρ
  have : a.fdiv 2 = a / 2 := Int.fdiv_eq_ediv_of_nonneg a (by decide)
  simp [execOp, hρ _ _ h, hρ _ _ h1, eqGuard, binOp, Op.shift, IntKind.bits, this]
end
theorem X_clo {n : Nat} {all rest : List Oper} {K : Env → World → Prop} {e : Env} {w : World} {d : Option Tmp} {ty : TypeId} {x : Operand} {f : FuncId} [F : SC.Fn Try.prog f] {args : Array Operand} {ats : Array TypeId} {vs : List Value} {cap : Array Value} {R : Value → World → Prop} (hx : ev e x = some (.func (.func f) #[] cap)) (h : evs e args.toList = some vs) (hc : CV Try.prog f (vs ++ cap.toList) w R) (hr : ∀ v w', R v w' → WL Try.prog n all K rest (push d v e) w') : WX Try.prog n all K rest d (.call { callee := .value x, args := args, argTypes := ats }) ty e w := X_fnC hx h hc hr
/-- Where x comes into a list that goes down. -/
theorem bsearch_cv {w : World} {A : Option Addr} {c : Nat} {xs : List Int} {x : Int} (R : RowA w icell 1 A xs) (hn : xs.length ≤ 100000) (hx : 0 ≤ x ∧ x ≤ 100000) (hxs : ∀ y ∈ xs, 0 ≤ y ∧ y ≤ 100000) (hd : ∀ (i j : Nat) (hi : i < xs.length) (hj : j < xs.length), i ≤ j → xs[j] ≤ xs[i]) :
    CV Try.prog 140 [.slice A xs.length c, nu x, .func (.func 141) #[] #[]] w fun v w' => w' = w ∧ ∃ (i : Nat) (f : Bool), v = .tuple #[nu i, .bool f] ∧ i ≤ xs.length ∧ (∀ j (hj : j < xs.length), j < i → x < xs[j]) ∧ (∀ j (hj : j < xs.length), i ≤ j → xs[j] ≤ x) := by
  refine enter 49 [6, 7] Try.func140 rfl rfl rfl (by decide) rfl ?_
  repeat' (first
      | (apply WC_seqK; intro K hK)
      | (apply hK; clear hK)
      | (clear hK; apply hK; clear hK)
      | (clear hK; clear hK; apply hK; clear hK)
      | (clear hK; clear hK; clear hK; apply hK; clear hK)
      | (apply WC_block)
      | (apply WC_region)
      | (apply WL_nil)
      | (apply thenQ_normal)
      | (apply thenQ_ret)
      | (apply thenQ_exit)
      | (apply blockQ_hit)
      | (apply blockQ_miss; eq_refl)
      | (apply blockQ_ret)
      | (apply blockQ_normal)
      | (apply WC_ret)
      | (apply WC_exit)
      | (apply WC_skip)
      | (apply WC_if_true; eq_refl)
      | (apply WC_if_false; eq_refl)
      | (apply ret1; eq_refl)
      | (apply ret2; eq_refl; eq_refl)
      | (apply ret3; eq_refl; eq_refl; eq_refl)
      | (apply ret0)
      | (apply ret0n)
      | (apply WL_on0; eq_refl)
      | (apply WL_onG; eq_refl; eq_refl; eq_refl; eq_refl)
      | (apply WL_noG; eq_refl; eq_refl; eq_refl; eq_refl)
      | (apply X_pv; eq_refl; first | exact trivial | omega)
      | (apply X_loadR; eq_refl; (first | assumption | (apply Blk.alloc; assumption) | apply Blk.new | apply Blk.newA | (apply Blk.alloc; first | apply Blk.newA | (apply Blk.alloc; first | assumption | apply Blk.newA))); eq_refl)
      | (apply X_loadW; eq_refl; (first | assumption | (apply Blk.alloc; assumption) | apply Blk.new | apply Blk.newA | (apply Blk.alloc; first | apply Blk.newA | (apply Blk.alloc; first | assumption | apply Blk.newA))); eq_refl)
      | (apply X_loadC; eq_refl; (first | assumption | (apply cel; first | assumption | (apply cel; assumption))))
      | (apply X_cmpT; eq_refl; eq_refl; omega)
      | (apply X_cmpF; eq_refl; eq_refl; omega)
      | (apply X_cmp; eq_refl; eq_refl; all_goals intro _)
      | (apply X_len; eq_refl)
      | (apply X_lenS; eq_refl)
      | (apply X_index; eq_refl; eq_refl; omega; omega)
      | (apply X_indexP; eq_refl; eq_refl; omega; omega)
      | (apply X_eqB; eq_refl; eq_refl)
      | (apply X_eqP; eq_refl; eq_refl)
      | (apply X_eqL; eq_refl; eq_refl))
  refine WC_loop (fun s : Nat × Nat => [(0, .slice A xs.length c), (1, nu x), (2, .func (.func 141) #[] #[]), (8, nu xs.length), (9, nu s.1), (10, nu s.2)])
    (fun s w1 => w1 = w ∧ s.1 ≤ s.2 ∧ s.2 ≤ xs.length ∧ (∀ j (hj : j < xs.length), j < s.1 → x < xs[j]) ∧ (∀ j (hj : j < xs.length), s.2 ≤ j → xs[j] ≤ x)) (fun s => s.2 - s.1) (0, xs.length) ⟨rfl, rfl, rfl, rfl, rfl, rfl, trivial⟩ ⟨rfl, Nat.zero_le _, Nat.le_refl _, fun _ _ h => absurd h (Nat.not_lt_zero _), fun j hj h => by simp only at h; omega⟩ ?_
  rintro ⟨a, b⟩ w1 ⟨rfl, hab, hb, hlo, hhi⟩
  simp only at hab hb hlo hhi
  rcases Nat.lt_or_ge a b with hlt | hge
  · have hm : (a + b) / 2 < xs.length := by omega
    have em : ((a : Int) + b) / 2 = (((a + b) / 2 : Nat) : Int) := by omega
    obtain ⟨p, hp, hc⟩ := R.one hm (v := nu xs[(a + b) / 2]) rfl
    rw [← em] at hc
    have hy := hxs xs[(a + b) / 2] (List.getElem_mem hm)
    rw [hp]
    repeat' (first
      | (apply X_pure; apply p_toU; eq_refl; omega; omega)
      | (apply X_pure; apply p_ofU; eq_refl; omega; omega)
      | (apply X_pure; apply p_shrU; eq_refl; eq_refl; omega)
      | (apply X_clo (f := 141); eq_refl; eq_refl; (apply minus_cv; omega; omega); rintro _ _ ⟨rfl, rfl⟩)
      | (apply WC_seqK; intro K hK)
      | (apply hK; clear hK)
      | (clear hK; apply hK; clear hK)
      | (clear hK; clear hK; apply hK; clear hK)
      | (clear hK; clear hK; clear hK; apply hK; clear hK)
      | (apply WC_block)
      | (apply WC_region)
      | (apply WL_nil)
      | (apply thenQ_normal)
      | (apply thenQ_ret)
      | (apply thenQ_exit)
      | (apply blockQ_hit)
      | (apply blockQ_miss; eq_refl)
      | (apply blockQ_ret)
      | (apply blockQ_normal)
      | (apply WC_ret)
      | (apply WC_exit)
      | (apply WC_skip)
      | (apply WC_if_true; eq_refl)
      | (apply WC_if_false; eq_refl)
      | (apply ret1; eq_refl)
      | (apply ret2; eq_refl; eq_refl)
      | (apply ret3; eq_refl; eq_refl; eq_refl)
      | (apply ret0)
      | (apply ret0n)
      | (apply WL_on0; eq_refl)
      | (apply WL_onG; eq_refl; eq_refl; eq_refl; eq_refl)
      | (apply WL_noG; eq_refl; eq_refl; eq_refl; eq_refl)
      | (apply X_pv; eq_refl; first | exact trivial | omega)
      | (apply X_loadR; eq_refl; (first | assumption | (apply Blk.alloc; assumption) | apply Blk.new | apply Blk.newA | (apply Blk.alloc; first | apply Blk.newA | (apply Blk.alloc; first | assumption | apply Blk.newA))); eq_refl)
      | (apply X_loadW; eq_refl; (first | assumption | (apply Blk.alloc; assumption) | apply Blk.new | apply Blk.newA | (apply Blk.alloc; first | apply Blk.newA | (apply Blk.alloc; first | assumption | apply Blk.newA))); eq_refl)
      | (apply X_loadC; eq_refl; (first | assumption | (apply cel; first | assumption | (apply cel; assumption))))
      | (apply X_cmpT; eq_refl; eq_refl; omega)
      | (apply X_cmpF; eq_refl; eq_refl; omega)
      | (apply X_cmp; eq_refl; eq_refl; all_goals intro _)
      | (apply X_len; eq_refl)
      | (apply X_lenS; eq_refl)
      | (apply X_index; eq_refl; eq_refl; omega; omega)
      | (apply X_indexP; eq_refl; eq_refl; omega; omega)
      | (apply X_eqB; eq_refl; eq_refl)
      | (apply X_eqP; eq_refl; eq_refl)
      | (apply X_eqL; eq_refl; eq_refl))
    · refine ⟨((a + b) / 2 + 1, b), ⟨by first | rfl | (rw [hp]; rfl), rfl, rfl, rfl, by first | rfl | (simp only [em]; rfl), rfl, trivial⟩, ⟨rfl, by simp only; omega, hb, ?_, hhi⟩, by simp only; omega⟩
      · intro j hj hlt2
        have := hd j ((a + b) / 2) hj hm (by simp only at hlt2; omega)
        omega
    · refine ⟨(a, (a + b) / 2), ⟨by first | rfl | (rw [hp]; rfl), rfl, rfl, rfl, rfl, by first | rfl | (simp only [em]; rfl), trivial⟩, ⟨rfl, by simp only; omega, by simp only; omega, hlo, ?_⟩, by simp only; omega⟩
      · intro j hj hle
        have := hd ((a + b) / 2) j hm hj (by simp only at hle; omega)
        omega
  · obtain rfl : a = b := by omega
    by_cases ha : a < xs.length
    · obtain ⟨p, hp, hc⟩ := R.one ha (v := nu xs[a]) rfl
      have hy := hxs xs[a] (List.getElem_mem ha)
      rw [hp]
      repeat' (first
      | (apply X_clo (f := 141); eq_refl; eq_refl; (apply minus_cv; omega; omega); rintro _ _ ⟨rfl, rfl⟩)
      | (apply WC_seqK; intro K hK)
      | (apply hK; clear hK)
      | (clear hK; apply hK; clear hK)
      | (clear hK; clear hK; apply hK; clear hK)
      | (clear hK; clear hK; clear hK; apply hK; clear hK)
      | (apply WC_block)
      | (apply WC_region)
      | (apply WL_nil)
      | (apply thenQ_normal)
      | (apply thenQ_ret)
      | (apply thenQ_exit)
      | (apply blockQ_hit)
      | (apply blockQ_miss; eq_refl)
      | (apply blockQ_ret)
      | (apply blockQ_normal)
      | (apply WC_ret)
      | (apply WC_exit)
      | (apply WC_skip)
      | (apply WC_if_true; eq_refl)
      | (apply WC_if_false; eq_refl)
      | (apply ret1; eq_refl)
      | (apply ret2; eq_refl; eq_refl)
      | (apply ret3; eq_refl; eq_refl; eq_refl)
      | (apply ret0)
      | (apply ret0n)
      | (apply WL_on0; eq_refl)
      | (apply WL_onG; eq_refl; eq_refl; eq_refl; eq_refl)
      | (apply WL_noG; eq_refl; eq_refl; eq_refl; eq_refl)
      | (apply X_pv; eq_refl; first | exact trivial | omega)
      | (apply X_loadR; eq_refl; (first | assumption | (apply Blk.alloc; assumption) | apply Blk.new | apply Blk.newA | (apply Blk.alloc; first | apply Blk.newA | (apply Blk.alloc; first | assumption | apply Blk.newA))); eq_refl)
      | (apply X_loadW; eq_refl; (first | assumption | (apply Blk.alloc; assumption) | apply Blk.new | apply Blk.newA | (apply Blk.alloc; first | apply Blk.newA | (apply Blk.alloc; first | assumption | apply Blk.newA))); eq_refl)
      | (apply X_loadC; eq_refl; (first | assumption | (apply cel; first | assumption | (apply cel; assumption))))
      | (apply X_cmpT; eq_refl; eq_refl; omega)
      | (apply X_cmpF; eq_refl; eq_refl; omega)
      | (apply X_cmp; eq_refl; eq_refl; all_goals intro _)
      | (apply X_len; eq_refl)
      | (apply X_lenS; eq_refl)
      | (apply X_index; eq_refl; eq_refl; omega; omega)
      | (apply X_indexP; eq_refl; eq_refl; omega; omega)
      | (apply X_eqB; eq_refl; eq_refl)
      | (apply X_eqP; eq_refl; eq_refl)
      | (apply X_eqL; eq_refl; eq_refl))
      all_goals exact ⟨rfl, a, _, rfl, by omega, hlo, hhi⟩
    · repeat' (first
      | (apply WC_seqK; intro K hK)
      | (apply hK; clear hK)
      | (clear hK; apply hK; clear hK)
      | (clear hK; clear hK; apply hK; clear hK)
      | (clear hK; clear hK; clear hK; apply hK; clear hK)
      | (apply WC_block)
      | (apply WC_region)
      | (apply WL_nil)
      | (apply thenQ_normal)
      | (apply thenQ_ret)
      | (apply thenQ_exit)
      | (apply blockQ_hit)
      | (apply blockQ_miss; eq_refl)
      | (apply blockQ_ret)
      | (apply blockQ_normal)
      | (apply WC_ret)
      | (apply WC_exit)
      | (apply WC_skip)
      | (apply WC_if_true; eq_refl)
      | (apply WC_if_false; eq_refl)
      | (apply ret1; eq_refl)
      | (apply ret2; eq_refl; eq_refl)
      | (apply ret3; eq_refl; eq_refl; eq_refl)
      | (apply ret0)
      | (apply ret0n)
      | (apply WL_on0; eq_refl)
      | (apply WL_onG; eq_refl; eq_refl; eq_refl; eq_refl)
      | (apply WL_noG; eq_refl; eq_refl; eq_refl; eq_refl)
      | (apply X_pv; eq_refl; first | exact trivial | omega)
      | (apply X_loadR; eq_refl; (first | assumption | (apply Blk.alloc; assumption) | apply Blk.new | apply Blk.newA | (apply Blk.alloc; first | apply Blk.newA | (apply Blk.alloc; first | assumption | apply Blk.newA))); eq_refl)
      | (apply X_loadW; eq_refl; (first | assumption | (apply Blk.alloc; assumption) | apply Blk.new | apply Blk.newA | (apply Blk.alloc; first | apply Blk.newA | (apply Blk.alloc; first | assumption | apply Blk.newA))); eq_refl)
      | (apply X_loadC; eq_refl; (first | assumption | (apply cel; first | assumption | (apply cel; assumption))))
      | (apply X_cmpT; eq_refl; eq_refl; omega)
      | (apply X_cmpF; eq_refl; eq_refl; omega)
      | (apply X_cmp; eq_refl; eq_refl; all_goals intro _)
      | (apply X_len; eq_refl)
      | (apply X_lenS; eq_refl)
      | (apply X_index; eq_refl; eq_refl; omega; omega)
      | (apply X_indexP; eq_refl; eq_refl; omega; omega)
      | (apply X_eqB; eq_refl; eq_refl)
      | (apply X_eqP; eq_refl; eq_refl)
      | (apply X_eqL; eq_refl; eq_refl))
      all_goals exact ⟨rfl, a, _, rfl, by omega, hlo, hhi⟩
end SC
end Go.Proofs.Ytkndegjodnciaaa
