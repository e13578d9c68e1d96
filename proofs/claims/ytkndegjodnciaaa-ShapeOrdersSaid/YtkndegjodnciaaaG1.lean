/- Functions whose result lies in a cell; slices.Clone. -/
import Derived.Test.YtkndegjodnciaaaF7
import Derived.DataElems
set_option linter.unusedVariables false
set_option linter.unusedSimpArgs false
namespace Go.Proofs.Ytkndegjodnciaaa
namespace SC
open Go.Proofs
section
variable {P : Program} {ty : TypeId} {e : Env} {w : World} {x y : Operand} {v : Value} {t t0 : TypeId} {td : TypeDesc} {sz by_ : Nat} {zv : Value} {ag : Bool}
theorem does_appendP (base : Nat) (hu : P.underlying t = some (.slice t0)) (T : Ty P t0 td sz zv by_ ag) (hzs : zv.cells.size = sz) (hsz : 0 < sz) {n : Nat} {xs : List Value} (h : ev e x = some v) (hown : w.ownsRow base t0 sz v n xs)
    {p : Addr} {m c : Nat} {news : List Value} (h1 : ev e y = some (.slice (some p) m c)) (hl : news.length = m * sz) (hb : ∀ j u, news[j]? = some u → w.cell? (p.add j) = some u) (ho : ∀ u ∈ news, u.oneCell' = true) (hby : (n + m) * by_ ≤ 140737488355328) (hby1 : 1 ≤ by_) (hbase : base ≤ w.heap.size) :
    ∃ v' w', Does P (.call { callee := .builtin .append, args := #[x, y], argTypes := #[t, t] }) ty e w v' w' ∧ w'.ownsRow base t0 sz v' (n + m) (xs ++ news) ∧ Chg w w' (fun k => v.ownBlock = some k) ∧ (v'.ownBlock = v.ownBlock ∨ v'.ownBlock = some w.heap.size) := by
  obtain ⟨i, hi, hzz⟩ := Option.map_eq_some_iff.1 T.info
  simp only [Prod.mk.injEq] at hzz
  have hle : n + m ≤ (n + m) * by_ := Nat.le_mul_of_pos_right _ hby1
  obtain ⟨v', w', hr, h2, h3, h4, h5⟩ := run_append_own_at (P := P) w base t ty t0 i zv sz by_ hu hi hzz.1 hzz.2.1 hzz.2.2 hzs hsz v n xs hown p m c news hl
    hb ho (by simp only [maxLen]; omega) hby hbase
  refine ⟨v', w', ?_, h2, (Chg.of_grown h3), h5⟩
  intro ρ dst pos af g hρ
  simp [execOp, resolve, hρ _ _ h, hρ _ _ h1, invoke, builtin, hr]
theorem X_appendP {n : Nat} {all rest : List Oper} {K : Env → World → Prop} {d : Option Tmp} (base : Nat) [U : Ty P t (.slice t0) 1 (.slice none 0 0) 24 false] [T : Ty P t0 td sz zv by_ ag] {m : Nat} {xs : List Value} {p : Addr} {j c : Nat} {news : List Value} (h : ev e x = some v) (h1 : ev e y = some (.slice (some p) j c)) (hown : w.ownsRow base t0 sz v m xs) (hb : ∀ i u, news[i]? = some u → w.cell? (p.add i) = some u)
    (hl : news.length = j * sz) (hzs : zv.cells.size = sz) (hsz : 0 < sz) (ho : ∀ u ∈ news, u.oneCell' = true) (hby : (m + j) * by_ ≤ 140737488355328) (hby1 : 1 ≤ by_) (hbase : base ≤ w.heap.size)
    (hr : ∀ v' w', w'.ownsRow base t0 sz v' (m + j) (xs ++ news) → Chg w w' (fun k => v.ownBlock = some k) → (v'.ownBlock = v.ownBlock ∨ v'.ownBlock = some w.heap.size) → WL P n all K rest (push d v' e) w') :
    WX P n all K rest d (.call { callee := .builtin .append, args := #[x, y], argTypes := #[t, t] }) ty e w := by
  obtain ⟨v', w', hd, h2, h3, h4⟩ := does_appendP (P := P) (ty := ty) base U.und T hzs hsz h hown h1 hl hb ho hby hby1 hbase
  exact X_does hd (hr v' w' h2 h3 h4)
/-- A function whose first result lies in a variable of a struct type. -/
def retQC (a : Nat) (sz : Nat) (rs : List Nat) (R : Value → World → Prop) : Post
  | .ret, e, w => ∃ (p : Addr) (cs vs : List Value), look e a = some (.pointer (some p)) ∧ (∀ j u, cs[j]? = some u → w.cell? (p.add j) = some u) ∧ cs.length = sz ∧ rs.map (look e) = vs.map some ∧ R (retVal (.agg cs.toArray :: vs)) w
  | .normal, e, w => ∃ (p : Addr) (cs vs : List Value), look e a = some (.pointer (some p)) ∧ (∀ j u, cs[j]? = some u → w.cell? (p.add j) = some u) ∧ cs.length = sz ∧ rs.map (look e) = vs.map some ∧ R (retVal (.agg cs.toArray :: vs)) w
  | _, _, _ => False
theorem results_ofC {fn : Func} {n : Nat} {a : Act} {ta : Nat} [T : Ty P t td sz zv by_ true] (ha : Agree n e a) (rs : List Nat) (hl : rs.length = 0 ∨ rs.length = 2) (hr : fn.results = (.cell ta t :: rs.map ResultVar.tmp).toArray) {p : Addr} {cs vs : List Value} (h0 : look e ta = some (.pointer (some p)))
    (hc : ∀ j u, cs[j]? = some u → w.cell? (p.add j) = some u) (hs : cs.length = sz) (h : rs.map (look e) = vs.map some) : (results fn a.tmps).run P w = .ok (retVal (.agg cs.toArray :: vs)) w := by
  have ht : ∀ t v, look e t = some v → a.tmps[t]? = some v := ha.tmps
  have hr0 := run_loadCells_list (P := P) w p cs hc
  subst hs
  rcases rs with _ | ⟨r1, _ | ⟨r2, _ | ⟨r3, rr⟩⟩⟩
  · obtain rfl : vs = [] := by simpa using h.symm
    simp [results, hr, retVal, ht _ _ h0, asAddr, loadVar, T.agg, T.size, hr0, Result.andThen]
  · simp at hl
  · rcases vs with _ | ⟨v1, _ | ⟨v2, _ | ⟨v3, vv⟩⟩⟩ <;> simp at h
    simp [results, hr, retVal, ht _ _ h0, ht _ _ h.1, ht _ _ h.2, asAddr, loadVar, T.agg, T.size, hr0, Result.andThen]
  · simp at hl
theorem enterC {f : FuncId} {fn : Func} {c : Code} {args : List Value} {R : Value → World → Prop} (n a : Nat) (rs : List Nat) [T : Ty P t td sz zv by_ true] (hf : P.funcs[f]? = some fn) (hb : fn.body = some c)
    (hn : fn.ntmps = n) (hr : fn.results = (.cell a t :: rs.map ResultVar.tmp).toArray) (hl : rs.length = 0 ∨ rs.length = 2) (hs : Nat.ble args.length n = true) (h : WC P n c (retQC a sz rs R) (argEnv args 0) w) : CV P f args w R := by
  refine calls_of_wp hf hb ?_
  have hA : Agree n (argEnv args 0) { tmps := args.toArray ++ Array.replicate (fn.ntmps - args.toArray.size) undef, defers := [] } := by
    have hs' := Nat.le_of_ble_eq_true hs
    refine ⟨by simp [hn]; omega, rfl, fun t v hv => ?_⟩
    obtain ⟨_, h2⟩ := argEnv_look args 0 t v hv
    have hlt : t < args.length := (List.getElem?_eq_some_iff.1 h2).1
    rw [Array.getElem?_append_left (by simpa using hlt)]
    simpa using h2
  refine wp_mono (h _ hA) ?_
  intro s b w' hq
  cases s with
  | normal => obtain ⟨e, ha, p, cs, vs, h0, hc, hs, h1, h2⟩ := hq; exact ⟨ha.defers, _, results_ofC ha rs hl hr h0 hc hs h1, h2⟩
  | ret => obtain ⟨e, ha, p, cs, vs, h0, hc, hs, h1, h2⟩ := hq; exact ⟨ha.defers, _, results_ofC ha rs hl hr h0 hc hs h1, h2⟩
  | exit i => obtain ⟨e, _, h⟩ := hq; exact h
  | goto l => obtain ⟨e, _, h⟩ := hq; exact h
  | panic c => exact hq.elim
  | outgrown => exact hq.elim
theorem retC0 {a sz : Nat} {R : Value → World → Prop} {p : Addr} {cs : List Value} {s : Exit} (hs : s = .ret ∨ s = .normal) (h0 : look e a = some (.pointer (some p))) (hc : ∀ j u, cs[j]? = some u → w.cell? (p.add j) = some u) (hz : cs.length = sz) (hr : R (.agg cs.toArray) w) : retQC a sz [] R s e w := by
  rcases hs with rfl | rfl <;> exact ⟨p, cs, [], h0, hc, hz, rfl, hr⟩
theorem retC2 {a sz b c : Nat} {R : Value → World → Prop} {p : Addr} {cs : List Value} {u v : Value} {s : Exit} (hs : s = .ret ∨ s = .normal) (h0 : look e a = some (.pointer (some p))) (h1 : look e b = some u) (h2 : look e c = some v) (hc : ∀ j u, cs[j]? = some u → w.cell? (p.add j) = some u) (hz : cs.length = sz) (hr : R (.tuple #[.agg cs.toArray, u, v]) w) : retQC a sz [b, c] R s e w := by
  rcases hs with rfl | rfl <;> exact ⟨p, cs, [u, v], h0, hc, hz, by simp [h1, h2], hr⟩
/-- A row of things is a row of cells. -/
theorem RowA.cells {α : Type} {enc : α → List Value} {sz : Nat} {A : Option Addr} {l : List α} (h : RowA w enc sz A l) (hsz : ∀ a, (enc a).length = sz) (h0 : 0 < sz) {p : Addr} (hp : A = some p) : ∀ j u, (l.flatMap enc)[j]? = some u → w.cell? (p.add j) = some u := by
  intro j u hj
  have hlt := (List.getElem?_eq_some_iff.1 hj).1
  rw [length_flatMap2 enc sz hsz] at hlt
  have hk : j / sz < l.length := Nat.div_lt_of_lt_mul (by rw [Nat.mul_comm]; exact hlt)
  obtain ⟨q, hq, hc⟩ := h (j / sz) hk
  rw [hp] at hq
  cases hq
  have hm : j % sz < sz := Nat.mod_lt _ h0
  have hd : j / sz * sz + j % sz = j := by rw [Nat.mul_comm]; exact Nat.div_add_mod j sz
  have := hc (j % sz) u (by rw [← flatMap_get enc sz hsz l (j / sz) hk (j % sz) hm, hd]; exact hj)
  rwa [Addr.add_add, Int.toNat_natCast, hd] at this
end
attribute [local irreducible] WC WL WX WS WO OX Does DoesU Enters CV Pure thenQ blockQ retQ Wants
set_option maxRecDepth 100000
theorem clone85_cv {w : World} {A : Option Addr} {n c : Nat} {cells : List Value} (hc : ∀ p, A = some p → ∀ j u, cells[j]? = some u → w.cell? (p.add j) = some u) (hn : A = none → n = 0) (hl : cells.length = n * 1) (ho : ∀ u ∈ cells, u.oneCell' = true) (hb : n * 8 ≤ 140737488355328) :
    CV Try.prog 85 [.slice A n c] w fun v w' => w'.ownsRow w.heap.size 3 1 v n cells ∧ Chg w w' none_ := by
  refine enter 8 [2] Try.func85 rfl rfl rfl (by decide) rfl ?_
  cases A with
  | none =>
    obtain rfl := hn rfl
    obtain rfl : cells = [] := List.length_eq_zero_iff.1 (by omega)
    repeat' (first
      | (apply WC_seqK; intro K hK)
      | (apply hK; clear hK)
      | (clear hK; apply hK; clear hK)
      | (clear hK; clear hK; apply hK; clear hK)
      | (clear hK; clear hK; clear hK; apply hK; clear hK)
      | (apply WC_block)
      | (apply WC_region)
      | (apply WL_nil)
      | (apply thenQ_normal)
      | (apply thenQ_ret)
      | (apply thenQ_exit)
      | (apply blockQ_hit)
      | (apply blockQ_miss; eq_refl)
      | (apply blockQ_ret)
      | (apply blockQ_normal)
      | (apply WC_ret)
      | (apply WC_exit)
      | (apply WC_skip)
      | (apply WC_if_true; eq_refl)
      | (apply WC_if_false; eq_refl)
      | (apply ret1; eq_refl)
      | (apply ret2; eq_refl; eq_refl)
      | (apply ret3; eq_refl; eq_refl; eq_refl)
      | (apply ret0)
      | (apply ret0n)
      | (apply WL_on0; eq_refl)
      | (apply X_pv; eq_refl; first | exact trivial | omega)
      | (apply X_cmpT; eq_refl; eq_refl; omega)
      | (apply X_cmpF; eq_refl; eq_refl; omega)
      | (apply X_cmp; eq_refl; eq_refl; all_goals intro _)
      | (apply X_eqB; eq_refl; eq_refl)
      | (apply X_eqP; eq_refl; eq_refl)
      | (apply X_eqL; eq_refl; eq_refl)
      | (apply X_does; apply buildS45_0))
    exact ⟨World.ownsRow_nil _ _ _ _, Chg.refl _ _⟩
  | some p =>
    repeat' (first
      | (apply WC_seqK; intro K hK)
      | (apply hK; clear hK)
      | (clear hK; apply hK; clear hK)
      | (clear hK; clear hK; apply hK; clear hK)
      | (clear hK; clear hK; clear hK; apply hK; clear hK)
      | (apply WC_block)
      | (apply WC_region)
      | (apply WL_nil)
      | (apply thenQ_normal)
      | (apply thenQ_ret)
      | (apply thenQ_exit)
      | (apply blockQ_hit)
      | (apply blockQ_miss; eq_refl)
      | (apply blockQ_ret)
      | (apply blockQ_normal)
      | (apply WC_ret)
      | (apply WC_exit)
      | (apply WC_skip)
      | (apply WC_if_true; eq_refl)
      | (apply WC_if_false; eq_refl)
      | (apply ret1; eq_refl)
      | (apply ret2; eq_refl; eq_refl)
      | (apply ret3; eq_refl; eq_refl; eq_refl)
      | (apply ret0)
      | (apply ret0n)
      | (apply WL_on0; eq_refl)
      | (apply X_pv; eq_refl; first | exact trivial | omega)
      | (apply X_cmpT; eq_refl; eq_refl; omega)
      | (apply X_cmpF; eq_refl; eq_refl; omega)
      | (apply X_cmp; eq_refl; eq_refl; all_goals intro _)
      | (apply X_eqB; eq_refl; eq_refl)
      | (apply X_eqP; eq_refl; eq_refl)
      | (apply X_eqL; eq_refl; eq_refl)
      | (apply X_does; apply buildS45_0))
    have hrow : (w.alloc (.cells #[] 3)).ownsRow w.heap.size 3 1 (.slice (some ⟨w.heap.size, 0, none⟩) 0 0) 0 [] := World.ownsRow_lit w #[] 0 (Nat.le_refl _) (Nat.zero_le _) (by simp)
    refine X_appendP w.heap.size (by eq_refl) (by eq_refl) hrow (fun i u hi => cel _ (hc p rfl i u hi)) hl rfl (by decide) ho (by omega) (by decide) (by simp) ?_
    intro v' w' hrow' hC' _
    repeat' (first
      | (apply WC_seqK; intro K hK)
      | (apply hK; clear hK)
      | (clear hK; apply hK; clear hK)
      | (clear hK; clear hK; apply hK; clear hK)
      | (clear hK; clear hK; clear hK; apply hK; clear hK)
      | (apply WC_block)
      | (apply WC_region)
      | (apply WL_nil)
      | (apply thenQ_normal)
      | (apply thenQ_ret)
      | (apply thenQ_exit)
      | (apply blockQ_hit)
      | (apply blockQ_miss; eq_refl)
      | (apply blockQ_ret)
      | (apply blockQ_normal)
      | (apply WC_ret)
      | (apply WC_exit)
      | (apply WC_skip)
      | (apply WC_if_true; eq_refl)
      | (apply WC_if_false; eq_refl)
      | (apply ret1; eq_refl)
      | (apply ret2; eq_refl; eq_refl)
      | (apply ret3; eq_refl; eq_refl; eq_refl)
      | (apply ret0)
      | (apply ret0n)
      | (apply WL_on0; eq_refl)
      | (apply X_pv; eq_refl; first | exact trivial | omega)
      | (apply X_cmpT; eq_refl; eq_refl; omega)
      | (apply X_cmpF; eq_refl; eq_refl; omega)
      | (apply X_cmp; eq_refl; eq_refl; all_goals intro _)
      | (apply X_eqB; eq_refl; eq_refl)
      | (apply X_eqP; eq_refl; eq_refl)
      | (apply X_eqL; eq_refl; eq_refl)
      | (apply X_does; apply buildS45_0))
    rw [Nat.zero_add, List.nil_append] at hrow'
    exact ⟨hrow', (Chg.alloc w _ none_).trans hC' fun k hk hh => by
      have := Option.some.inj hh
      have h2 : w.heap.size = k := this
      omega⟩
theorem clone86_cv {w : World} {A : Option Addr} {n c : Nat} {cells : List Value} (hc : ∀ p, A = some p → ∀ j u, cells[j]? = some u → w.cell? (p.add j) = some u) (hn : A = none → n = 0) (hl : cells.length = n * 3) (ho : ∀ u ∈ cells, u.oneCell' = true) (hb : n * 24 ≤ 140737488355328) :
    CV Try.prog 86 [.slice A n c] w fun v w' => w'.ownsRow w.heap.size 70 3 v n cells ∧ Chg w w' none_ := by
  refine enter 8 [2] Try.func86 rfl rfl rfl (by decide) rfl ?_
  cases A with
  | none =>
    obtain rfl := hn rfl
    obtain rfl : cells = [] := List.length_eq_zero_iff.1 (by omega)
    repeat' (first
      | (apply WC_seqK; intro K hK)
      | (apply hK; clear hK)
      | (clear hK; apply hK; clear hK)
      | (clear hK; clear hK; apply hK; clear hK)
      | (clear hK; clear hK; clear hK; apply hK; clear hK)
      | (apply WC_block)
      | (apply WC_region)
      | (apply WL_nil)
      | (apply thenQ_normal)
      | (apply thenQ_ret)
      | (apply thenQ_exit)
      | (apply blockQ_hit)
      | (apply blockQ_miss; eq_refl)
      | (apply blockQ_ret)
      | (apply blockQ_normal)
      | (apply WC_ret)
      | (apply WC_exit)
      | (apply WC_skip)
      | (apply WC_if_true; eq_refl)
      | (apply WC_if_false; eq_refl)
      | (apply ret1; eq_refl)
      | (apply ret2; eq_refl; eq_refl)
      | (apply ret3; eq_refl; eq_refl; eq_refl)
      | (apply ret0)
      | (apply ret0n)
      | (apply WL_on0; eq_refl)
      | (apply X_pv; eq_refl; first | exact trivial | omega)
      | (apply X_cmpT; eq_refl; eq_refl; omega)
      | (apply X_cmpF; eq_refl; eq_refl; omega)
      | (apply X_cmp; eq_refl; eq_refl; all_goals intro _)
      | (apply X_eqB; eq_refl; eq_refl)
      | (apply X_eqP; eq_refl; eq_refl)
      | (apply X_eqL; eq_refl; eq_refl)
      | (apply X_does; apply buildS46_0))
    exact ⟨World.ownsRow_nil _ _ _ _, Chg.refl _ _⟩
  | some p =>
    repeat' (first
      | (apply WC_seqK; intro K hK)
      | (apply hK; clear hK)
      | (clear hK; apply hK; clear hK)
      | (clear hK; clear hK; apply hK; clear hK)
      | (clear hK; clear hK; clear hK; apply hK; clear hK)
      | (apply WC_block)
      | (apply WC_region)
      | (apply WL_nil)
      | (apply thenQ_normal)
      | (apply thenQ_ret)
      | (apply thenQ_exit)
      | (apply blockQ_hit)
      | (apply blockQ_miss; eq_refl)
      | (apply blockQ_ret)
      | (apply blockQ_normal)
      | (apply WC_ret)
      | (apply WC_exit)
      | (apply WC_skip)
      | (apply WC_if_true; eq_refl)
      | (apply WC_if_false; eq_refl)
      | (apply ret1; eq_refl)
      | (apply ret2; eq_refl; eq_refl)
      | (apply ret3; eq_refl; eq_refl; eq_refl)
      | (apply ret0)
      | (apply ret0n)
      | (apply WL_on0; eq_refl)
      | (apply X_pv; eq_refl; first | exact trivial | omega)
      | (apply X_cmpT; eq_refl; eq_refl; omega)
      | (apply X_cmpF; eq_refl; eq_refl; omega)
      | (apply X_cmp; eq_refl; eq_refl; all_goals intro _)
      | (apply X_eqB; eq_refl; eq_refl)
      | (apply X_eqP; eq_refl; eq_refl)
      | (apply X_eqL; eq_refl; eq_refl)
      | (apply X_does; apply buildS46_0))
    have hrow : (w.alloc (.cells #[] 70)).ownsRow w.heap.size 70 3 (.slice (some ⟨w.heap.size, 0, none⟩) 0 0) 0 [] := World.ownsRow_lit w #[] 0 (Nat.le_refl _) (Nat.zero_le _) (by simp)
    refine X_appendP w.heap.size (by eq_refl) (by eq_refl) hrow (fun i u hi => cel _ (hc p rfl i u hi)) hl rfl (by decide) ho (by omega) (by decide) (by simp) ?_
    intro v' w' hrow' hC' _
    repeat' (first
      | (apply WC_seqK; intro K hK)
      | (apply hK; clear hK)
      | (clear hK; apply hK; clear hK)
      | (clear hK; clear hK; apply hK; clear hK)
      | (clear hK; clear hK; clear hK; apply hK; clear hK)
      | (apply WC_block)
      | (apply WC_region)
      | (apply WL_nil)
      | (apply thenQ_normal)
      | (apply thenQ_ret)
      | (apply thenQ_exit)
      | (apply blockQ_hit)
      | (apply blockQ_miss; eq_refl)
      | (apply blockQ_ret)
      | (apply blockQ_normal)
      | (apply WC_ret)
      | (apply WC_exit)
      | (apply WC_skip)
      | (apply WC_if_true; eq_refl)
      | (apply WC_if_false; eq_refl)
      | (apply ret1; eq_refl)
      | (apply ret2; eq_refl; eq_refl)
      | (apply ret3; eq_refl; eq_refl; eq_refl)
      | (apply ret0)
      | (apply ret0n)
      | (apply WL_on0; eq_refl)
      | (apply X_pv; eq_refl; first | exact trivial | omega)
      | (apply X_cmpT; eq_refl; eq_refl; omega)
      | (apply X_cmpF; eq_refl; eq_refl; omega)
      | (apply X_cmp; eq_refl; eq_refl; all_goals intro _)
      | (apply X_eqB; eq_refl; eq_refl)
      | (apply X_eqP; eq_refl; eq_refl)
      | (apply X_eqL; eq_refl; eq_refl)
      | (apply X_does; apply buildS46_0))
    rw [Nat.zero_add, List.nil_append] at hrow'
    exact ⟨hrow', (Chg.alloc w _ none_).trans hC' fun k hk hh => by
      have := Option.some.inj hh
      have h2 : w.heap.size = k := this
      omega⟩
theorem clone72_cv {w : World} {A : Option Addr} {n c : Nat} {cells : List Value} (hc : ∀ p, A = some p → ∀ j u, cells[j]? = some u → w.cell? (p.add j) = some u) (hn : A = none → n = 0) (hl : cells.length = n * 3) (ho : ∀ u ∈ cells, u.oneCell' = true) (hb : n * 24 ≤ 140737488355328) :
    CV Try.prog 72 [.slice A n c] w fun v w' => w'.ownsRow w.heap.size 43 3 v n cells ∧ Chg w w' none_ := by
  refine enter 8 [2] Try.func72 rfl rfl rfl (by decide) rfl ?_
  cases A with
  | none =>
    obtain rfl := hn rfl
    obtain rfl : cells = [] := List.length_eq_zero_iff.1 (by omega)
    repeat' (first
      | (apply WC_seqK; intro K hK)
      | (apply hK; clear hK)
      | (clear hK; apply hK; clear hK)
      | (clear hK; clear hK; apply hK; clear hK)
      | (clear hK; clear hK; clear hK; apply hK; clear hK)
      | (apply WC_block)
      | (apply WC_region)
      | (apply WL_nil)
      | (apply thenQ_normal)
      | (apply thenQ_ret)
      | (apply thenQ_exit)
      | (apply blockQ_hit)
      | (apply blockQ_miss; eq_refl)
      | (apply blockQ_ret)
      | (apply blockQ_normal)
      | (apply WC_ret)
      | (apply WC_exit)
      | (apply WC_skip)
      | (apply WC_if_true; eq_refl)
      | (apply WC_if_false; eq_refl)
      | (apply ret1; eq_refl)
      | (apply ret2; eq_refl; eq_refl)
      | (apply ret3; eq_refl; eq_refl; eq_refl)
      | (apply ret0)
      | (apply ret0n)
      | (apply WL_on0; eq_refl)
      | (apply X_pv; eq_refl; first | exact trivial | omega)
      | (apply X_cmpT; eq_refl; eq_refl; omega)
      | (apply X_cmpF; eq_refl; eq_refl; omega)
      | (apply X_cmp; eq_refl; eq_refl; all_goals intro _)
      | (apply X_eqB; eq_refl; eq_refl)
      | (apply X_eqP; eq_refl; eq_refl)
      | (apply X_eqL; eq_refl; eq_refl)
      | (apply X_does; apply buildS37_0))
    exact ⟨World.ownsRow_nil _ _ _ _, Chg.refl _ _⟩
  | some p =>
    repeat' (first
      | (apply WC_seqK; intro K hK)
      | (apply hK; clear hK)
      | (clear hK; apply hK; clear hK)
      | (clear hK; clear hK; apply hK; clear hK)
      | (clear hK; clear hK; clear hK; apply hK; clear hK)
      | (apply WC_block)
      | (apply WC_region)
      | (apply WL_nil)
      | (apply thenQ_normal)
      | (apply thenQ_ret)
      | (apply thenQ_exit)
      | (apply blockQ_hit)
      | (apply blockQ_miss; eq_refl)
      | (apply blockQ_ret)
      | (apply blockQ_normal)
      | (apply WC_ret)
      | (apply WC_exit)
      | (apply WC_skip)
      | (apply WC_if_true; eq_refl)
      | (apply WC_if_false; eq_refl)
      | (apply ret1; eq_refl)
      | (apply ret2; eq_refl; eq_refl)
      | (apply ret3; eq_refl; eq_refl; eq_refl)
      | (apply ret0)
      | (apply ret0n)
      | (apply WL_on0; eq_refl)
      | (apply X_pv; eq_refl; first | exact trivial | omega)
      | (apply X_cmpT; eq_refl; eq_refl; omega)
      | (apply X_cmpF; eq_refl; eq_refl; omega)
      | (apply X_cmp; eq_refl; eq_refl; all_goals intro _)
      | (apply X_eqB; eq_refl; eq_refl)
      | (apply X_eqP; eq_refl; eq_refl)
      | (apply X_eqL; eq_refl; eq_refl)
      | (apply X_does; apply buildS37_0))
    have hrow : (w.alloc (.cells #[] 43)).ownsRow w.heap.size 43 3 (.slice (some ⟨w.heap.size, 0, none⟩) 0 0) 0 [] := World.ownsRow_lit w #[] 0 (Nat.le_refl _) (Nat.zero_le _) (by simp)
    refine X_appendP w.heap.size (by eq_refl) (by eq_refl) hrow (fun i u hi => cel _ (hc p rfl i u hi)) hl rfl (by decide) ho (by omega) (by decide) (by simp) ?_
    intro v' w' hrow' hC' _
    repeat' (first
      | (apply WC_seqK; intro K hK)
      | (apply hK; clear hK)
      | (clear hK; apply hK; clear hK)
      | (clear hK; clear hK; apply hK; clear hK)
      | (clear hK; clear hK; clear hK; apply hK; clear hK)
      | (apply WC_block)
      | (apply WC_region)
      | (apply WL_nil)
      | (apply thenQ_normal)
      | (apply thenQ_ret)
      | (apply thenQ_exit)
      | (apply blockQ_hit)
      | (apply blockQ_miss; eq_refl)
      | (apply blockQ_ret)
      | (apply blockQ_normal)
      | (apply WC_ret)
      | (apply WC_exit)
      | (apply WC_skip)
      | (apply WC_if_true; eq_refl)
      | (apply WC_if_false; eq_refl)
      | (apply ret1; eq_refl)
      | (apply ret2; eq_refl; eq_refl)
      | (apply ret3; eq_refl; eq_refl; eq_refl)
      | (apply ret0)
      | (apply ret0n)
      | (apply WL_on0; eq_refl)
      | (apply X_pv; eq_refl; first | exact trivial | omega)
      | (apply X_cmpT; eq_refl; eq_refl; omega)
      | (apply X_cmpF; eq_refl; eq_refl; omega)
      | (apply X_cmp; eq_refl; eq_refl; all_goals intro _)
      | (apply X_eqB; eq_refl; eq_refl)
      | (apply X_eqP; eq_refl; eq_refl)
      | (apply X_eqL; eq_refl; eq_refl)
      | (apply X_does; apply buildS37_0))
    rw [Nat.zero_add, List.nil_append] at hrow'
    exact ⟨hrow', (Chg.alloc w _ none_).trans hC' fun k hk hh => by
      have := Option.some.inj hh
      have h2 : w.heap.size = k := this
      omega⟩
theorem clone87_cv {w : World} {A : Option Addr} {n c : Nat} {cells : List Value} (hc : ∀ p, A = some p → ∀ j u, cells[j]? = some u → w.cell? (p.add j) = some u) (hn : A = none → n = 0) (hl : cells.length = n * 3) (ho : ∀ u ∈ cells, u.oneCell' = true) (hb : n * 32 ≤ 140737488355328) :
    CV Try.prog 87 [.slice A n c] w fun v w' => w'.ownsRow w.heap.size 117 3 v n cells ∧ Chg w w' none_ := by
  refine enter 8 [2] Try.func87 rfl rfl rfl (by decide) rfl ?_
  cases A with
  | none =>
    obtain rfl := hn rfl
    obtain rfl : cells = [] := List.length_eq_zero_iff.1 (by omega)
    repeat' (first
      | (apply WC_seqK; intro K hK)
      | (apply hK; clear hK)
      | (clear hK; apply hK; clear hK)
      | (clear hK; clear hK; apply hK; clear hK)
      | (clear hK; clear hK; clear hK; apply hK; clear hK)
      | (apply WC_block)
      | (apply WC_region)
      | (apply WL_nil)
      | (apply thenQ_normal)
      | (apply thenQ_ret)
      | (apply thenQ_exit)
      | (apply blockQ_hit)
      | (apply blockQ_miss; eq_refl)
      | (apply blockQ_ret)
      | (apply blockQ_normal)
      | (apply WC_ret)
      | (apply WC_exit)
      | (apply WC_skip)
      | (apply WC_if_true; eq_refl)
      | (apply WC_if_false; eq_refl)
      | (apply ret1; eq_refl)
      | (apply ret2; eq_refl; eq_refl)
      | (apply ret3; eq_refl; eq_refl; eq_refl)
      | (apply ret0)
      | (apply ret0n)
      | (apply WL_on0; eq_refl)
      | (apply X_pv; eq_refl; first | exact trivial | omega)
      | (apply X_cmpT; eq_refl; eq_refl; omega)
      | (apply X_cmpF; eq_refl; eq_refl; omega)
      | (apply X_cmp; eq_refl; eq_refl; all_goals intro _)
      | (apply X_eqB; eq_refl; eq_refl)
      | (apply X_eqP; eq_refl; eq_refl)
      | (apply X_eqL; eq_refl; eq_refl)
      | (apply X_does; apply buildS48_0))
    exact ⟨World.ownsRow_nil _ _ _ _, Chg.refl _ _⟩
  | some p =>
    repeat' (first
      | (apply WC_seqK; intro K hK)
      | (apply hK; clear hK)
      | (clear hK; apply hK; clear hK)
      | (clear hK; clear hK; apply hK; clear hK)
      | (clear hK; clear hK; clear hK; apply hK; clear hK)
      | (apply WC_block)
      | (apply WC_region)
      | (apply WL_nil)
      | (apply thenQ_normal)
      | (apply thenQ_ret)
      | (apply thenQ_exit)
      | (apply blockQ_hit)
      | (apply blockQ_miss; eq_refl)
      | (apply blockQ_ret)
      | (apply blockQ_normal)
      | (apply WC_ret)
      | (apply WC_exit)
      | (apply WC_skip)
      | (apply WC_if_true; eq_refl)
      | (apply WC_if_false; eq_refl)
      | (apply ret1; eq_refl)
      | (apply ret2; eq_refl; eq_refl)
      | (apply ret3; eq_refl; eq_refl; eq_refl)
      | (apply ret0)
      | (apply ret0n)
      | (apply WL_on0; eq_refl)
      | (apply X_pv; eq_refl; first | exact trivial | omega)
      | (apply X_cmpT; eq_refl; eq_refl; omega)
      | (apply X_cmpF; eq_refl; eq_refl; omega)
      | (apply X_cmp; eq_refl; eq_refl; all_goals intro _)
      | (apply X_eqB; eq_refl; eq_refl)
      | (apply X_eqP; eq_refl; eq_refl)
      | (apply X_eqL; eq_refl; eq_refl)
      | (apply X_does; apply buildS48_0))
    have hrow : (w.alloc (.cells #[] 117)).ownsRow w.heap.size 117 3 (.slice (some ⟨w.heap.size, 0, none⟩) 0 0) 0 [] := World.ownsRow_lit w #[] 0 (Nat.le_refl _) (Nat.zero_le _) (by simp)
    refine X_appendP w.heap.size (by eq_refl) (by eq_refl) hrow (fun i u hi => cel _ (hc p rfl i u hi)) hl rfl (by decide) ho (by omega) (by decide) (by simp) ?_
    intro v' w' hrow' hC' _
    repeat' (first
      | (apply WC_seqK; intro K hK)
      | (apply hK; clear hK)
      | (clear hK; apply hK; clear hK)
      | (clear hK; clear hK; apply hK; clear hK)
      | (clear hK; clear hK; clear hK; apply hK; clear hK)
      | (apply WC_block)
      | (apply WC_region)
      | (apply WL_nil)
      | (apply thenQ_normal)
      | (apply thenQ_ret)
      | (apply thenQ_exit)
      | (apply blockQ_hit)
      | (apply blockQ_miss; eq_refl)
      | (apply blockQ_ret)
      | (apply blockQ_normal)
      | (apply WC_ret)
      | (apply WC_exit)
      | (apply WC_skip)
      | (apply WC_if_true; eq_refl)
      | (apply WC_if_false; eq_refl)
      | (apply ret1; eq_refl)
      | (apply ret2; eq_refl; eq_refl)
      | (apply ret3; eq_refl; eq_refl; eq_refl)
      | (apply ret0)
      | (apply ret0n)
      | (apply WL_on0; eq_refl)
      | (apply X_pv; eq_refl; first | exact trivial | omega)
      | (apply X_cmpT; eq_refl; eq_refl; omega)
      | (apply X_cmpF; eq_refl; eq_refl; omega)
      | (apply X_cmp; eq_refl; eq_refl; all_goals intro _)
      | (apply X_eqB; eq_refl; eq_refl)
      | (apply X_eqP; eq_refl; eq_refl)
      | (apply X_eqL; eq_refl; eq_refl)
      | (apply X_does; apply buildS48_0))
    rw [Nat.zero_add, List.nil_append] at hrow'
    exact ⟨hrow', (Chg.alloc w _ none_).trans hC' fun k hk hh => by
      have := Option.some.inj hh
      have h2 : w.heap.size = k := this
      omega⟩
theorem clone88_cv {w : World} {A : Option Addr} {n c : Nat} {cells : List Value} (hc : ∀ p, A = some p → ∀ j u, cells[j]? = some u → w.cell? (p.add j) = some u) (hn : A = none → n = 0) (hl : cells.length = n * 1) (ho : ∀ u ∈ cells, u.oneCell' = true) (hb : n * 16 ≤ 140737488355328) :
    CV Try.prog 88 [.slice A n c] w fun v w' => w'.ownsRow w.heap.size 9 1 v n cells ∧ Chg w w' none_ := by
  refine enter 8 [2] Try.func88 rfl rfl rfl (by decide) rfl ?_
  cases A with
  | none =>
    obtain rfl := hn rfl
    obtain rfl : cells = [] := List.length_eq_zero_iff.1 (by omega)
    repeat' (first
      | (apply WC_seqK; intro K hK)
      | (apply hK; clear hK)
      | (clear hK; apply hK; clear hK)
      | (clear hK; clear hK; apply hK; clear hK)
      | (clear hK; clear hK; clear hK; apply hK; clear hK)
      | (apply WC_block)
      | (apply WC_region)
      | (apply WL_nil)
      | (apply thenQ_normal)
      | (apply thenQ_ret)
      | (apply thenQ_exit)
      | (apply blockQ_hit)
      | (apply blockQ_miss; eq_refl)
      | (apply blockQ_ret)
      | (apply blockQ_normal)
      | (apply WC_ret)
      | (apply WC_exit)
      | (apply WC_skip)
      | (apply WC_if_true; eq_refl)
      | (apply WC_if_false; eq_refl)
      | (apply ret1; eq_refl)
      | (apply ret2; eq_refl; eq_refl)
      | (apply ret3; eq_refl; eq_refl; eq_refl)
      | (apply ret0)
      | (apply ret0n)
      | (apply WL_on0; eq_refl)
      | (apply X_pv; eq_refl; first | exact trivial | omega)
      | (apply X_cmpT; eq_refl; eq_refl; omega)
      | (apply X_cmpF; eq_refl; eq_refl; omega)
      | (apply X_cmp; eq_refl; eq_refl; all_goals intro _)
      | (apply X_eqB; eq_refl; eq_refl)
      | (apply X_eqP; eq_refl; eq_refl)
      | (apply X_eqL; eq_refl; eq_refl)
      | (apply X_does; apply buildS49_0))
    exact ⟨World.ownsRow_nil _ _ _ _, Chg.refl _ _⟩
  | some p =>
    repeat' (first
      | (apply WC_seqK; intro K hK)
      | (apply hK; clear hK)
      | (clear hK; apply hK; clear hK)
      | (clear hK; clear hK; apply hK; clear hK)
      | (clear hK; clear hK; clear hK; apply hK; clear hK)
      | (apply WC_block)
      | (apply WC_region)
      | (apply WL_nil)
      | (apply thenQ_normal)
      | (apply thenQ_ret)
      | (apply thenQ_exit)
      | (apply blockQ_hit)
      | (apply blockQ_miss; eq_refl)
      | (apply blockQ_ret)
      | (apply blockQ_normal)
      | (apply WC_ret)
      | (apply WC_exit)
      | (apply WC_skip)
      | (apply WC_if_true; eq_refl)
      | (apply WC_if_false; eq_refl)
      | (apply ret1; eq_refl)
      | (apply ret2; eq_refl; eq_refl)
      | (apply ret3; eq_refl; eq_refl; eq_refl)
      | (apply ret0)
      | (apply ret0n)
      | (apply WL_on0; eq_refl)
      | (apply X_pv; eq_refl; first | exact trivial | omega)
      | (apply X_cmpT; eq_refl; eq_refl; omega)
      | (apply X_cmpF; eq_refl; eq_refl; omega)
      | (apply X_cmp; eq_refl; eq_refl; all_goals intro _)
      | (apply X_eqB; eq_refl; eq_refl)
      | (apply X_eqP; eq_refl; eq_refl)
      | (apply X_eqL; eq_refl; eq_refl)
      | (apply X_does; apply buildS49_0))
    have hrow : (w.alloc (.cells #[] 9)).ownsRow w.heap.size 9 1 (.slice (some ⟨w.heap.size, 0, none⟩) 0 0) 0 [] := World.ownsRow_lit w #[] 0 (Nat.le_refl _) (Nat.zero_le _) (by simp)
    refine X_appendP w.heap.size (by eq_refl) (by eq_refl) hrow (fun i u hi => cel _ (hc p rfl i u hi)) hl rfl (by decide) ho (by omega) (by decide) (by simp) ?_
    intro v' w' hrow' hC' _
    repeat' (first
      | (apply WC_seqK; intro K hK)
      | (apply hK; clear hK)
      | (clear hK; apply hK; clear hK)
      | (clear hK; clear hK; apply hK; clear hK)
      | (clear hK; clear hK; clear hK; apply hK; clear hK)
      | (apply WC_block)
      | (apply WC_region)
      | (apply WL_nil)
      | (apply thenQ_normal)
      | (apply thenQ_ret)
      | (apply thenQ_exit)
      | (apply blockQ_hit)
      | (apply blockQ_miss; eq_refl)
      | (apply blockQ_ret)
      | (apply blockQ_normal)
      | (apply WC_ret)
      | (apply WC_exit)
      | (apply WC_skip)
      | (apply WC_if_true; eq_refl)
      | (apply WC_if_false; eq_refl)
      | (apply ret1; eq_refl)
      | (apply ret2; eq_refl; eq_refl)
      | (apply ret3; eq_refl; eq_refl; eq_refl)
      | (apply ret0)
      | (apply ret0n)
      | (apply WL_on0; eq_refl)
      | (apply X_pv; eq_refl; first | exact trivial | omega)
      | (apply X_cmpT; eq_refl; eq_refl; omega)
      | (apply X_cmpF; eq_refl; eq_refl; omega)
      | (apply X_cmp; eq_refl; eq_refl; all_goals intro _)
      | (apply X_eqB; eq_refl; eq_refl)
      | (apply X_eqP; eq_refl; eq_refl)
      | (apply X_eqL; eq_refl; eq_refl)
      | (apply X_does; apply buildS49_0))
    rw [Nat.zero_add, List.nil_append] at hrow'
    exact ⟨hrow', (Chg.alloc w _ none_).trans hC' fun k hk hh => by
      have := Option.some.inj hh
      have h2 : w.heap.size = k := this
      omega⟩
theorem clone89_cv {w : World} {A : Option Addr} {n c : Nat} {cells : List Value} (hc : ∀ p, A = some p → ∀ j u, cells[j]? = some u → w.cell? (p.add j) = some u) (hn : A = none → n = 0) (hl : cells.length = n * 1) (ho : ∀ u ∈ cells, u.oneCell' = true) (hb : n * 24 ≤ 140737488355328) :
    CV Try.prog 89 [.slice A n c] w fun v w' => w'.ownsRow w.heap.size 45 1 v n cells ∧ Chg w w' none_ := by
  refine enter 8 [2] Try.func89 rfl rfl rfl (by decide) rfl ?_
  cases A with
  | none =>
    obtain rfl := hn rfl
    obtain rfl : cells = [] := List.length_eq_zero_iff.1 (by omega)
    repeat' (first
      | (apply WC_seqK; intro K hK)
      | (apply hK; clear hK)
      | (clear hK; apply hK; clear hK)
      | (clear hK; clear hK; apply hK; clear hK)
      | (clear hK; clear hK; clear hK; apply hK; clear hK)
      | (apply WC_block)
      | (apply WC_region)
      | (apply WL_nil)
      | (apply thenQ_normal)
      | (apply thenQ_ret)
      | (apply thenQ_exit)
      | (apply blockQ_hit)
      | (apply blockQ_miss; eq_refl)
      | (apply blockQ_ret)
      | (apply blockQ_normal)
      | (apply WC_ret)
      | (apply WC_exit)
      | (apply WC_skip)
      | (apply WC_if_true; eq_refl)
      | (apply WC_if_false; eq_refl)
      | (apply ret1; eq_refl)
      | (apply ret2; eq_refl; eq_refl)
      | (apply ret3; eq_refl; eq_refl; eq_refl)
      | (apply ret0)
      | (apply ret0n)
      | (apply WL_on0; eq_refl)
      | (apply X_pv; eq_refl; first | exact trivial | omega)
      | (apply X_cmpT; eq_refl; eq_refl; omega)
      | (apply X_cmpF; eq_refl; eq_refl; omega)
      | (apply X_cmp; eq_refl; eq_refl; all_goals intro _)
      | (apply X_eqB; eq_refl; eq_refl)
      | (apply X_eqP; eq_refl; eq_refl)
      | (apply X_eqL; eq_refl; eq_refl)
      | (apply X_does; apply buildS47_0))
    exact ⟨World.ownsRow_nil _ _ _ _, Chg.refl _ _⟩
  | some p =>
    repeat' (first
      | (apply WC_seqK; intro K hK)
      | (apply hK; clear hK)
      | (clear hK; apply hK; clear hK)
      | (clear hK; clear hK; apply hK; clear hK)
      | (clear hK; clear hK; clear hK; apply hK; clear hK)
      | (apply WC_block)
      | (apply WC_region)
      | (apply WL_nil)
      | (apply thenQ_normal)
      | (apply thenQ_ret)
      | (apply thenQ_exit)
      | (apply blockQ_hit)
      | (apply blockQ_miss; eq_refl)
      | (apply blockQ_ret)
      | (apply blockQ_normal)
      | (apply WC_ret)
      | (apply WC_exit)
      | (apply WC_skip)
      | (apply WC_if_true; eq_refl)
      | (apply WC_if_false; eq_refl)
      | (apply ret1; eq_refl)
      | (apply ret2; eq_refl; eq_refl)
      | (apply ret3; eq_refl; eq_refl; eq_refl)
      | (apply ret0)
      | (apply ret0n)
      | (apply WL_on0; eq_refl)
      | (apply X_pv; eq_refl; first | exact trivial | omega)
      | (apply X_cmpT; eq_refl; eq_refl; omega)
      | (apply X_cmpF; eq_refl; eq_refl; omega)
      | (apply X_cmp; eq_refl; eq_refl; all_goals intro _)
      | (apply X_eqB; eq_refl; eq_refl)
      | (apply X_eqP; eq_refl; eq_refl)
      | (apply X_eqL; eq_refl; eq_refl)
      | (apply X_does; apply buildS47_0))
    have hrow : (w.alloc (.cells #[] 45)).ownsRow w.heap.size 45 1 (.slice (some ⟨w.heap.size, 0, none⟩) 0 0) 0 [] := World.ownsRow_lit w #[] 0 (Nat.le_refl _) (Nat.zero_le _) (by simp)
    refine X_appendP w.heap.size (by eq_refl) (by eq_refl) hrow (fun i u hi => cel _ (hc p rfl i u hi)) hl rfl (by decide) ho (by omega) (by decide) (by simp) ?_
    intro v' w' hrow' hC' _
    repeat' (first
      | (apply WC_seqK; intro K hK)
      | (apply hK; clear hK)
      | (clear hK; apply hK; clear hK)
      | (clear hK; clear hK; apply hK; clear hK)
      | (clear hK; clear hK; clear hK; apply hK; clear hK)
      | (apply WC_block)
      | (apply WC_region)
      | (apply WL_nil)
      | (apply thenQ_normal)
      | (apply thenQ_ret)
      | (apply thenQ_exit)
      | (apply blockQ_hit)
      | (apply blockQ_miss; eq_refl)
      | (apply blockQ_ret)
      | (apply blockQ_normal)
      | (apply WC_ret)
      | (apply WC_exit)
      | (apply WC_skip)
      | (apply WC_if_true; eq_refl)
      | (apply WC_if_false; eq_refl)
      | (apply ret1; eq_refl)
      | (apply ret2; eq_refl; eq_refl)
      | (apply ret3; eq_refl; eq_refl; eq_refl)
      | (apply ret0)
      | (apply ret0n)
      | (apply WL_on0; eq_refl)
      | (apply X_pv; eq_refl; first | exact trivial | omega)
      | (apply X_cmpT; eq_refl; eq_refl; omega)
      | (apply X_cmpF; eq_refl; eq_refl; omega)
      | (apply X_cmp; eq_refl; eq_refl; all_goals intro _)
      | (apply X_eqB; eq_refl; eq_refl)
      | (apply X_eqP; eq_refl; eq_refl)
      | (apply X_eqL; eq_refl; eq_refl)
      | (apply X_does; apply buildS47_0))
    rw [Nat.zero_add, List.nil_append] at hrow'
    exact ⟨hrow', (Chg.alloc w _ none_).trans hC' fun k hk hh => by
      have := Option.some.inj hh
      have h2 : w.heap.size = k := this
      omega⟩
end SC
end Go.Proofs.Ytkndegjodnciaaa
