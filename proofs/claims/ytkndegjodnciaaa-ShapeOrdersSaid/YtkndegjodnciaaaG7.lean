/- shape: works. -/
import Derived.Test.YtkndegjodnciaaaG6
import Derived.Test.YtkndegjodnciaaaB1
set_option linter.unusedVariables false
set_option linter.unusedSimpArgs false
namespace Go.Proofs.Ytkndegjodnciaaa
namespace SC
open Go.Proofs
attribute [local irreducible] WC WL WX WS WO OX Does DoesU Enters CV Pure thenQ blockQ retQ Wants retQC
set_option maxRecDepth 100000
def cOne : Circ := ⟨3, [2, 4], [], [], [], [], [], [], [(6, 2, 4)], [], []⟩
def cTwo : Circ := ⟨3, [3], [], [], [], [], [], [], [], [], []⟩
theorem cOne_sizes : sizesM cOne = 0 := by
  unfold sizesM
  rw [if_neg (by simp [cOne]), if_neg]
  simp [cOne, Circ.lens, sumW, sumL]; decide
theorem cOne_defs : definesM cOne (T0 cOne) = ((0, 0), [(0, 0), (1, 0), (1, 1), (3, 0)]) := by decide
theorem cOne_tab : tabM cOne = [(0, 0), (1, 0), (1, 1), (3, 0)] := by unfold tabM; rw [cOne_defs]
theorem cOne_uses : usesM cOne (tabM cOne) = (0, 0) := by rw [cOne_tab]; decide
theorem cOne_below : gateB (tabM cOne) cOne 0 = [] := by rw [cOne_tab]; decide
theorem cOne_all : All 1 (gateB (tabM cOne) cOne) [0] := by
  have h0 : ∀ x, rg 1 x → x = 0 := fun x hx => by unfold rg at hx; omega
  refine ⟨?_, fun x hx => hx.new (by rw [h0 x hx.rg]; simp)⟩
  have : Told 1 (gateB (tabM cOne) cOne) ([] ++ [0]) := .snoc .nil ⟨by unfold rg; omega, by simp, by rw [cOne_below]; simp⟩ fun y hy => by rw [h0 y hy.rg]; exact Int.le_refl _
  exact this
theorem cOne_look : lookM cOne = (0, 0) := by
  have hc : cycM cOne.ands.length (gateB (tabM cOne) cOne) = -1 := cycM_eq ⟨[0], cOne_all, .inl ⟨rfl, rfl⟩⟩
  unfold lookM
  rw [cOne_sizes, cOne_defs, cOne_uses, hc]
  simp [cOne, goSym, goCom]
theorem cTwo_look : lookM cTwo = (0, 30) := by
  have h1 : sizesM cTwo = 0 := by
    unfold sizesM
    rw [if_neg (by simp [cTwo]), if_neg]
    simp [cTwo, Circ.lens, sumW, sumL]; decide
  have h2 : (definesM cTwo (T0 cTwo)).1 = (0, 30) := by decide
  unfold lookM
  rw [h1, h2]
  simp
theorem cOne_map : mapOf 3 (defsOf cOne [0]) = [0, 2, 4, 6] := by decide
theorem cOne_ren : (renM cOne [0]).ands = [(6, 4, 2)] := by decide
theorem RowA.emp {α : Type} {w : World} {enc : α → List Value} {sz : Nat} {A : Option Addr} : RowA w enc sz A ([] : List α) := fun k hk => absurd hk (Nat.not_lt_zero _)
theorem RowA.blk {α : Type} {w : World} {enc : α → List Value} {sz b : Nat} {t : TypeId} {l : List α} (hsz : ∀ a, (enc a).length = sz) (h : Blk w b t (l.flatMap enc)) : RowA w enc sz (some ⟨b, 0, none⟩) l := fun k hk => by
  refine ⟨_, rfl, fun j u hj => ?_⟩
  have hjl : j < sz := by have := (List.getElem?_eq_some_iff.1 hj).1; rwa [hsz] at this
  rw [add_at, add_at, Nat.zero_add, h.cell, Int.toNat_natCast, flatMap_get enc sz hsz l k hk j hjl]
  exact hj
theorem cOne_sane : cOne.Sane := ⟨by simp [cOne], by simp [cOne], by simp [cOne], by simp [cOne], by simp [cOne], by simp [cOne]⟩
theorem cTwo_sane : cTwo.Sane := ⟨by simp [cTwo], by simp [cTwo], by simp [cTwo], by simp [cTwo], by simp [cTwo], by simp [cTwo]⟩
def hOne (a b : Nat) : Hd := fun | 1 => (some ⟨a, 0, none⟩, 2) | 8 => (some ⟨b, 0, none⟩, 1) | _ => (none, 0)
def hTwo (a : Nat) : Hd := fun | 1 => (some ⟨a, 0, none⟩, 1) | _ => (none, 0)
def hNil : Hd := fun _ => (none, 0)
theorem cOne_at {w : World} {h js : Hd} {a b : Nat} (h1 : (h 1).1 = some ⟨a, 0, none⟩) (h8 : (h 8).1 = some ⟨b, 0, none⟩) (ha : Blk w a 3 [nu 2, nu 4]) (hb : Blk w b 43 [nu 6, nu 2, nu 4]) : CirAt w cOne h js :=
  ⟨by rw [h1]; exact RowA.blk (l := [2, 4]) ilen ha, RowA.emp, RowA.emp, RowA.emp, RowA.emp, fun k hk => absurd hk (Nat.not_lt_zero _), fun k hk => absurd hk (Nat.not_lt_zero _), RowA.emp, by rw [h8]; exact RowA.blk (l := [(6, 2, 4)]) tlen hb, RowA.emp, RowA.emp⟩
theorem cTwo_at {w : World} {h js : Hd} {a : Nat} (h1 : (h 1).1 = some ⟨a, 0, none⟩) (ha : Blk w a 3 [nu 3]) : CirAt w cTwo h js :=
  ⟨by rw [h1]; exact RowA.blk (l := [3]) ilen ha, RowA.emp, RowA.emp, RowA.emp, RowA.emp, fun k hk => absurd hk (Nat.not_lt_zero _), fun k hk => absurd hk (Nat.not_lt_zero _), RowA.emp, RowA.emp, RowA.emp, RowA.emp⟩
theorem ren_one {w w' : World} {v : Value} (h : RenAns cOne w v w') : Chg w w' none_ ∧ ∃ (h' : Hd) (p m : Addr) (cp : Nat), v = .tuple #[.agg (ccells (renM cOne [0]) h').toArray, .slice (some m) 4 cp, nu 0] ∧ (ccells (renM cOne [0]) h')[0 + 8]? = some (.slice (some p) 1 (h' 8).2) ∧
    (∀ j u, [nu 6, nu 4, nu 2][j]? = some u → w'.cell? ((p.add (0 * 3)).add j) = some u) ∧ w'.cell? (m.add (3 * 1)) = some (nu 6) := by
  obtain ⟨hC, h⟩ := h
  refine ⟨hC, ?_⟩
  rw [cOne_look] at h
  rcases h with ⟨he, _⟩ | ⟨_, ord, h', js', u, ha, hol, rfl, hown, hrow⟩
  · simp at he
  · obtain rfl := ha.only cOne_all
    rw [show cOne.max = 3 from rfl, cOne_map] at hrow
    obtain ⟨A, cp, rfl⟩ := row_form' hrow
    have hA := (CirOwn.at hown).ands
    have hr := rowI hrow
    obtain ⟨m, rfl, hm⟩ := hr 3 (by decide)
    rw [cOne_ren] at hA
    obtain ⟨p, hp, hc⟩ := hA 0 (by decide)
    refine ⟨h', p, m, cp, rfl, ?_, hc, hm 0 (nu 6) rfl⟩
    rw [← hp]
    show some (Value.slice (h' 8).1 (renM cOne [0]).ands.length (h' 8).2) = _
    rw [cOne_ren]
    rfl
theorem eq43t {e : Env} {x y : Operand} {ty : TypeId} {a b c : Int} (h : ev e x = some (.agg #[nu a, nu b, nu c])) (h1 : ev e y = some (.agg #[nu a, nu b, nu c])) (ha : fits a) (hb : fits b) (hc : fits c) : Pure Try.prog (.binOp .eql 43 x y 43) ty e (.bool true) := by
  unfold Pure Does
  intro w ρ dst pos af g hρ
  simp [execOp, hρ _ _ h, hρ _ _ h1, eqGuard, binOp, equal43 ha hb hc w]
theorem works_cv {w : World} : CV Try.prog 31 [] w fun v w' => v = .bool true ∧ Chg w w' none_ := by
  refine enter 69 [0] Try.func31 rfl rfl rfl (by decide) rfl ?_
  repeat' (first
      | (apply X_allocK (w.heap.size + 2); exact (sz_alloc _ _).trans (congrArg (· + 1) (sz_alloc _ _)))
      | (apply WC_seqK; intro K hK)
      | (apply hK; clear hK)
      | (clear hK; apply hK; clear hK)
      | (clear hK; clear hK; apply hK; clear hK)
      | (clear hK; clear hK; clear hK; apply hK; clear hK)
      | (apply WC_block)
      | (apply WC_region)
      | (apply WL_nil)
      | (apply thenQ_normal)
      | (apply thenQ_ret)
      | (apply thenQ_exit)
      | (apply blockQ_hit)
      | (apply blockQ_miss; eq_refl)
      | (apply blockQ_ret)
      | (apply blockQ_normal)
      | (apply WC_ret)
      | (apply WC_exit)
      | (apply WC_skip)
      | (apply WC_if_true; eq_refl)
      | (apply WC_if_false; eq_refl)
      | (apply ret1; eq_refl)
      | (apply ret2; eq_refl; eq_refl)
      | (apply ret3; eq_refl; eq_refl; eq_refl)
      | (apply ret0)
      | (apply ret0n)
      | (apply WL_on0; eq_refl)
      | (apply WL_onG; eq_refl; eq_refl; eq_refl; eq_refl)
      | (apply WL_noG; eq_refl; eq_refl; eq_refl; eq_refl)
      | (apply X_pv; eq_refl; first | exact trivial | omega)
      | (apply X_field; eq_refl)
      | (apply X_loadR; eq_refl; (first | assumption | (apply Blk.alloc; assumption) | apply Blk.new | apply Blk.newA | (apply Blk.alloc; first | apply Blk.newA | (apply Blk.alloc; first | assumption | apply Blk.newA))); eq_refl)
      | (apply X_loadW; eq_refl; (first | assumption | (apply Blk.alloc; assumption) | apply Blk.new | apply Blk.newA | (apply Blk.alloc; first | apply Blk.newA | (apply Blk.alloc; first | assumption | apply Blk.newA))); eq_refl)
      | (apply X_loadC; eq_refl; (first | assumption | (apply cel; first | assumption | (apply cel; assumption))))
      | (apply X_cmpT; eq_refl; eq_refl; omega)
      | (apply X_cmpF; eq_refl; eq_refl; omega)
      | (apply X_cmp; eq_refl; eq_refl; all_goals intro _)
      | (apply X_len; eq_refl)
      | (apply X_lenS; eq_refl)
      | (apply X_index; eq_refl; eq_refl; omega; omega)
      | (apply X_indexP; eq_refl; eq_refl; omega; omega)
      | (apply X_fieldP; eq_refl)
      | (apply X_eqB; eq_refl; eq_refl)
      | (apply X_eqP; eq_refl; eq_refl)
      | (apply X_eqL; eq_refl; eq_refl)
      | (apply X_alloc)
      | (apply X_pure; apply build43_0_1_2 <;> eq_refl)
      | (apply X_pure; apply build51_0_1_8 <;> eq_refl)
      | (apply X_pure; apply build51_0_1 <;> eq_refl)
      | (apply X_does; apply buildS45_2 <;> eq_refl)
      | (apply X_does; apply buildS37_1 <;> eq_refl)
      | (apply X_does; apply buildS45_1 <;> eq_refl))
  have sz1 : (w.alloc (.cells #[nu 2, nu 4] 3)).heap.size = w.heap.size + 1 := sz_alloc _ _
  have b1 := Blk.newA w #[nu 2, nu 4] 3
  have b2 := Blk.newA (w.alloc (.cells #[nu 2, nu 4] 3)) #[nu 6, nu 2, nu 4] 43
  have b3 := Blk.newA ((w.alloc (.cells #[nu 2, nu 4] 3)).alloc (.cells #[nu 6, nu 2, nu 4] 43)) Zc.toArray 51
  rw [sz1] at b2
  rw [sz_alloc, sz1] at b3
  refine X_doesU (does_storeA (t1 := 51) (vs := ccells cOne (hOne w.heap.size (w.alloc (.cells #[nu 2, nu 4] 3)).heap.size)) (o := 0) (b := w.heap.size + 2) (by eq_refl) (by eq_refl) b3 rfl (by exact Nat.le_refl 11) (by simp [ccells, Value.oneCell'])) ?_
  rw [sz1]
  refine WL_turn (fun W => Chg w W none_ ∧ CirAt W cOne (hOne w.heap.size (w.heap.size + 1)) hNil ∧ Blk W (w.heap.size + 2) 51 (ccells cOne (hOne w.heap.size (w.heap.size + 1)))) ?_ ?_
  · have hcc := Chg.setRow (((w.alloc (.cells #[nu 2, nu 4] 3)).alloc (.cells #[nu 6, nu 2, nu 4] 43)).alloc (.cells Zc.toArray 51)) (w.heap.size + 2) (ccells cOne (hOne w.heap.size (w.heap.size + 1))).toArray (S := fun k => k = w.heap.size + 2) rfl
    exact ⟨(((Chg.alloc w _ none_).al _).al _).trans hcc fun k hk hh => by omega, cOne_at rfl rfl (((b1.alloc _).alloc _).chg hcc (by omega)) ((b2.alloc _).chg hcc (by omega)), b3.set _⟩
  rintro w1 ⟨hC1, hA1, hB1⟩
  have hck : CV Try.prog 24 [.agg (ccells cOne (hOne w.heap.size (w.heap.size + 1))).toArray] w1 fun v w' => v = .tuple #[nu 0, nu 0] ∧ Chg w1 w' none_ := by
    have := check_cv hA1 cOne_sane
    rw [cOne_look] at this
    exact this
  repeat' (first
      | (apply X_fn; eq_refl; exact hck; rintro _ w2 ⟨rfl, hC2⟩)
      | (apply WC_seqK; intro K hK)
      | (apply hK; clear hK)
      | (clear hK; apply hK; clear hK)
      | (clear hK; clear hK; apply hK; clear hK)
      | (clear hK; clear hK; clear hK; apply hK; clear hK)
      | (apply WC_block)
      | (apply WC_region)
      | (apply WL_nil)
      | (apply thenQ_normal)
      | (apply thenQ_ret)
      | (apply thenQ_exit)
      | (apply blockQ_hit)
      | (apply blockQ_miss; eq_refl)
      | (apply blockQ_ret)
      | (apply blockQ_normal)
      | (apply WC_ret)
      | (apply WC_exit)
      | (apply WC_skip)
      | (apply WC_if_true; eq_refl)
      | (apply WC_if_false; eq_refl)
      | (apply ret1; eq_refl)
      | (apply ret2; eq_refl; eq_refl)
      | (apply ret3; eq_refl; eq_refl; eq_refl)
      | (apply ret0)
      | (apply ret0n)
      | (apply WL_on0; eq_refl)
      | (apply WL_onG; eq_refl; eq_refl; eq_refl; eq_refl)
      | (apply WL_noG; eq_refl; eq_refl; eq_refl; eq_refl)
      | (apply X_pv; eq_refl; first | exact trivial | omega)
      | (apply X_field; eq_refl)
      | (apply X_loadR; eq_refl; (first | assumption | (apply Blk.alloc; assumption) | apply Blk.new | apply Blk.newA | (apply Blk.alloc; first | apply Blk.newA | (apply Blk.alloc; first | assumption | apply Blk.newA))); eq_refl)
      | (apply X_loadW; eq_refl; (first | assumption | (apply Blk.alloc; assumption) | apply Blk.new | apply Blk.newA | (apply Blk.alloc; first | apply Blk.newA | (apply Blk.alloc; first | assumption | apply Blk.newA))); eq_refl)
      | (apply X_loadC; eq_refl; (first | assumption | (apply cel; first | assumption | (apply cel; assumption))))
      | (apply X_cmpT; eq_refl; eq_refl; omega)
      | (apply X_cmpF; eq_refl; eq_refl; omega)
      | (apply X_cmp; eq_refl; eq_refl; all_goals intro _)
      | (apply X_len; eq_refl)
      | (apply X_lenS; eq_refl)
      | (apply X_index; eq_refl; eq_refl; omega; omega)
      | (apply X_indexP; eq_refl; eq_refl; omega; omega)
      | (apply X_fieldP; eq_refl)
      | (apply X_eqB; eq_refl; eq_refl)
      | (apply X_eqP; eq_refl; eq_refl)
      | (apply X_eqL; eq_refl; eq_refl)
      | (apply X_alloc)
      | (apply X_pure; apply build43_0_1_2 <;> eq_refl)
      | (apply X_pure; apply build51_0_1_8 <;> eq_refl)
      | (apply X_pure; apply build51_0_1 <;> eq_refl)
      | (apply X_does; apply buildS45_2 <;> eq_refl)
      | (apply X_does; apply buildS37_1 <;> eq_refl)
      | (apply X_does; apply buildS45_1 <;> eq_refl))
  have hC2' := hC1.trans hC2 fun _ _ h => h
  have hB2 := hB1.chg hC2 id
  have hrn : CV Try.prog 37 [.agg (ccells cOne (hOne w.heap.size (w.heap.size + 1))).toArray] w2 (RenAns cOne w2) := Renumber_cv (hA1.chg hC2) cOne_sane (by decide)
  repeat' (first
      | (apply X_fn; eq_refl; exact hrn; rintro _ w3 hv; obtain ⟨hC3, h', p, m, cp, rfl, k8, hp, hm⟩ := ren_one hv)
      | (apply WC_seqK; intro K hK)
      | (apply hK; clear hK)
      | (clear hK; apply hK; clear hK)
      | (clear hK; clear hK; apply hK; clear hK)
      | (clear hK; clear hK; clear hK; apply hK; clear hK)
      | (apply WC_block)
      | (apply WC_region)
      | (apply WL_nil)
      | (apply thenQ_normal)
      | (apply thenQ_ret)
      | (apply thenQ_exit)
      | (apply blockQ_hit)
      | (apply blockQ_miss; eq_refl)
      | (apply blockQ_ret)
      | (apply blockQ_normal)
      | (apply WC_ret)
      | (apply WC_exit)
      | (apply WC_skip)
      | (apply WC_if_true; eq_refl)
      | (apply WC_if_false; eq_refl)
      | (apply ret1; eq_refl)
      | (apply ret2; eq_refl; eq_refl)
      | (apply ret3; eq_refl; eq_refl; eq_refl)
      | (apply ret0)
      | (apply ret0n)
      | (apply WL_on0; eq_refl)
      | (apply WL_onG; eq_refl; eq_refl; eq_refl; eq_refl)
      | (apply WL_noG; eq_refl; eq_refl; eq_refl; eq_refl)
      | (apply X_pv; eq_refl; first | exact trivial | omega)
      | (apply X_field; eq_refl)
      | (apply X_loadR; eq_refl; (first | assumption | (apply Blk.alloc; assumption) | apply Blk.new | apply Blk.newA | (apply Blk.alloc; first | apply Blk.newA | (apply Blk.alloc; first | assumption | apply Blk.newA))); eq_refl)
      | (apply X_loadW; eq_refl; (first | assumption | (apply Blk.alloc; assumption) | apply Blk.new | apply Blk.newA | (apply Blk.alloc; first | apply Blk.newA | (apply Blk.alloc; first | assumption | apply Blk.newA))); eq_refl)
      | (apply X_loadC; eq_refl; (first | assumption | (apply cel; first | assumption | (apply cel; assumption))))
      | (apply X_cmpT; eq_refl; eq_refl; omega)
      | (apply X_cmpF; eq_refl; eq_refl; omega)
      | (apply X_cmp; eq_refl; eq_refl; all_goals intro _)
      | (apply X_len; eq_refl)
      | (apply X_lenS; eq_refl)
      | (apply X_index; eq_refl; eq_refl; omega; omega)
      | (apply X_indexP; eq_refl; eq_refl; omega; omega)
      | (apply X_fieldP; eq_refl)
      | (apply X_eqB; eq_refl; eq_refl)
      | (apply X_eqP; eq_refl; eq_refl)
      | (apply X_eqL; eq_refl; eq_refl)
      | (apply X_alloc)
      | (apply X_pure; apply build43_0_1_2 <;> eq_refl)
      | (apply X_pure; apply build51_0_1_8 <;> eq_refl)
      | (apply X_pure; apply build51_0_1 <;> eq_refl)
      | (apply X_does; apply buildS45_2 <;> eq_refl)
      | (apply X_does; apply buildS37_1 <;> eq_refl)
      | (apply X_does; apply buildS45_1 <;> eq_refl))
  refine X_doesU (does_storeA (t1 := 51) (vs := ccells (renM cOne [0]) h') (o := 0) (b := w3.heap.size) (by eq_refl) (by eq_refl) (Blk.newA w3 Zc.toArray 51) rfl (by exact Nat.le_refl 11) (by simp [ccells, Value.oneCell'])) ?_
  refine WL_turn (fun W => Chg w W none_ ∧ Blk W w3.heap.size 51 (ccells (renM cOne [0]) h') ∧ (∀ j u, [nu 6, nu 4, nu 2][j]? = some u → W.cell? ((p.add (0 * 3)).add j) = some u) ∧ W.cell? (m.add (3 * 1)) = some (nu 6)) ?_ ?_
  · have hcc : Chg w3 ((w3.alloc (.cells Zc.toArray 51)).setRow w3.heap.size (ccells (renM cOne [0]) h').toArray) none_ := (Chg.alloc w3 _ none_).trans (Chg.setRow _ w3.heap.size _ (S := fun k => k = w3.heap.size) rfl) fun k hk h => by omega
    exact ⟨(hC2'.trans hC3 fun _ _ h => h).trans hcc fun _ _ h => h, (Blk.newA w3 Zc.toArray 51).set _, fun j u hj => cel_chg (hp j u hj) hcc id, cel_chg hm hcc id⟩
  rintro w4 ⟨hC4, hB4, hp4, hm4⟩
  have hck2 : CV Try.prog 24 [.agg (ccells cTwo (hTwo w4.heap.size)).toArray] (w4.alloc (.cells #[nu 3] 3)) fun v w' => v = .tuple #[nu 0, nu 30] ∧ Chg (w4.alloc (.cells #[nu 3] 3)) w' none_ := by
    have := check_cv (cTwo_at (h := hTwo w4.heap.size) (js := hNil) rfl (Blk.newA w4 #[nu 3] 3)) cTwo_sane
    rw [cTwo_look] at this
    exact this
  repeat' (first
      | (apply X_fn; eq_refl; exact hck2; rintro _ w5 ⟨rfl, hC5⟩)
      | (apply WC_seqK; intro K hK)
      | (apply hK; clear hK)
      | (clear hK; apply hK; clear hK)
      | (clear hK; clear hK; apply hK; clear hK)
      | (clear hK; clear hK; clear hK; apply hK; clear hK)
      | (apply WC_block)
      | (apply WC_region)
      | (apply WL_nil)
      | (apply thenQ_normal)
      | (apply thenQ_ret)
      | (apply thenQ_exit)
      | (apply blockQ_hit)
      | (apply blockQ_miss; eq_refl)
      | (apply blockQ_ret)
      | (apply blockQ_normal)
      | (apply WC_ret)
      | (apply WC_exit)
      | (apply WC_skip)
      | (apply WC_if_true; eq_refl)
      | (apply WC_if_false; eq_refl)
      | (apply ret1; eq_refl)
      | (apply ret2; eq_refl; eq_refl)
      | (apply ret3; eq_refl; eq_refl; eq_refl)
      | (apply ret0)
      | (apply ret0n)
      | (apply WL_on0; eq_refl)
      | (apply WL_onG; eq_refl; eq_refl; eq_refl; eq_refl)
      | (apply WL_noG; eq_refl; eq_refl; eq_refl; eq_refl)
      | (apply X_pv; eq_refl; first | exact trivial | omega)
      | (apply X_field; eq_refl)
      | (apply X_loadR; eq_refl; (first | assumption | (apply Blk.alloc; assumption) | apply Blk.new | apply Blk.newA | (apply Blk.alloc; first | apply Blk.newA | (apply Blk.alloc; first | assumption | apply Blk.newA))); eq_refl)
      | (apply X_loadW; eq_refl; (first | assumption | (apply Blk.alloc; assumption) | apply Blk.new | apply Blk.newA | (apply Blk.alloc; first | apply Blk.newA | (apply Blk.alloc; first | assumption | apply Blk.newA))); eq_refl)
      | (apply X_loadC; eq_refl; (first | assumption | (apply cel; first | assumption | (apply cel; assumption))))
      | (apply X_cmpT; eq_refl; eq_refl; omega)
      | (apply X_cmpF; eq_refl; eq_refl; omega)
      | (apply X_cmp; eq_refl; eq_refl; all_goals intro _)
      | (apply X_len; eq_refl)
      | (apply X_lenS; eq_refl)
      | (apply X_index; eq_refl; eq_refl; omega; omega)
      | (apply X_indexP; eq_refl; eq_refl; omega; omega)
      | (apply X_fieldP; eq_refl)
      | (apply X_eqB; eq_refl; eq_refl)
      | (apply X_eqP; eq_refl; eq_refl)
      | (apply X_eqL; eq_refl; eq_refl)
      | (apply X_alloc)
      | (apply X_pure; apply build43_0_1_2 <;> eq_refl)
      | (apply X_pure; apply build51_0_1_8 <;> eq_refl)
      | (apply X_pure; apply build51_0_1 <;> eq_refl)
      | (apply X_does; apply buildS45_2 <;> eq_refl)
      | (apply X_does; apply buildS37_1 <;> eq_refl)
      | (apply X_does; apply buildS45_1 <;> eq_refl))
  have hC45 : Chg w4 w5 none_ := (Chg.alloc w4 _ none_).trans hC5 fun _ _ h => h
  have hB5 := hB4.chg hC45 id
  have hp5 : ∀ j u, [nu 6, nu 4, nu 2][j]? = some u → w5.cell? ((p.add (0 * 3)).add j) = some u := fun j u hj => cel_chg (hp4 j u hj) hC45 id
  have hm5 := cel_chg hm4 hC45 id
  have hf6 : fits 6 := by unfold fits; omega
  have hf4 : fits 4 := by unfold fits; omega
  have hf2 : fits 2 := by unfold fits; omega
  repeat' (first
      | (apply X_loadR; eq_refl; exact hB5; exact k8)
      | (apply X_indexP; eq_refl; eq_refl; decide; decide)
      | (apply X_loadAP [nu 6, nu 4, nu 2]; eq_refl; eq_refl; exact hp5)
      | (apply X_pure; (apply eq43t; eq_refl; eq_refl; (assumption); (assumption); (assumption)))
      | (apply WC_seqK; intro K hK)
      | (apply hK; clear hK)
      | (clear hK; apply hK; clear hK)
      | (clear hK; clear hK; apply hK; clear hK)
      | (clear hK; clear hK; clear hK; apply hK; clear hK)
      | (apply WC_block)
      | (apply WC_region)
      | (apply WL_nil)
      | (apply thenQ_normal)
      | (apply thenQ_ret)
      | (apply thenQ_exit)
      | (apply blockQ_hit)
      | (apply blockQ_miss; eq_refl)
      | (apply blockQ_ret)
      | (apply blockQ_normal)
      | (apply WC_ret)
      | (apply WC_exit)
      | (apply WC_skip)
      | (apply WC_if_true; eq_refl)
      | (apply WC_if_false; eq_refl)
      | (apply ret1; eq_refl)
      | (apply ret2; eq_refl; eq_refl)
      | (apply ret3; eq_refl; eq_refl; eq_refl)
      | (apply ret0)
      | (apply ret0n)
      | (apply WL_on0; eq_refl)
      | (apply WL_onG; eq_refl; eq_refl; eq_refl; eq_refl)
      | (apply WL_noG; eq_refl; eq_refl; eq_refl; eq_refl)
      | (apply X_pv; eq_refl; first | exact trivial | omega)
      | (apply X_field; eq_refl)
      | (apply X_loadR; eq_refl; (first | assumption | (apply Blk.alloc; assumption) | apply Blk.new | apply Blk.newA | (apply Blk.alloc; first | apply Blk.newA | (apply Blk.alloc; first | assumption | apply Blk.newA))); eq_refl)
      | (apply X_loadW; eq_refl; (first | assumption | (apply Blk.alloc; assumption) | apply Blk.new | apply Blk.newA | (apply Blk.alloc; first | apply Blk.newA | (apply Blk.alloc; first | assumption | apply Blk.newA))); eq_refl)
      | (apply X_loadC; eq_refl; (first | assumption | (apply cel; first | assumption | (apply cel; assumption))))
      | (apply X_cmpT; eq_refl; eq_refl; omega)
      | (apply X_cmpF; eq_refl; eq_refl; omega)
      | (apply X_cmp; eq_refl; eq_refl; all_goals intro _)
      | (apply X_len; eq_refl)
      | (apply X_lenS; eq_refl)
      | (apply X_index; eq_refl; eq_refl; omega; omega)
      | (apply X_indexP; eq_refl; eq_refl; omega; omega)
      | (apply X_fieldP; eq_refl)
      | (apply X_eqB; eq_refl; eq_refl)
      | (apply X_eqP; eq_refl; eq_refl)
      | (apply X_eqL; eq_refl; eq_refl)
      | (apply X_alloc)
      | (apply X_pure; apply build43_0_1_2 <;> eq_refl)
      | (apply X_pure; apply build51_0_1_8 <;> eq_refl)
      | (apply X_pure; apply build51_0_1 <;> eq_refl)
      | (apply X_does; apply buildS45_2 <;> eq_refl)
      | (apply X_does; apply buildS37_1 <;> eq_refl)
      | (apply X_does; apply buildS45_1 <;> eq_refl))
  exact ⟨rfl, hC4.trans hC45 fun _ _ h => h⟩
end SC
end Go.Proofs.Ytkndegjodnciaaa
