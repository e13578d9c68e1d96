/- shape: Renumber's closures. -/
import Derived.Test.YtkndegjodnciaaaG3
set_option linter.unusedVariables false
set_option linter.unusedSimpArgs false
namespace Go.Proofs.Ytkndegjodnciaaa
namespace SC
open Go.Proofs
attribute [local irreducible] WC WL WX WS WO OX Does DoesU Enters CV Pure thenQ blockQ retQ Wants retQC
set_option maxRecDepth 100000
instance : SC.Fn Try.prog 101 := ⟨fun args w => Try.call101 args w⟩
instance : SC.Fn Try.prog 102 := ⟨fun args w => Try.call102 args w⟩
instance : SC.Fn Try.prog 103 := ⟨fun args w => Try.call103 args w⟩
/-- A literal by a map of variables. -/
def litM (to : List Int) (l : Int) : Int := L to (l / 2) + l % 2
/-- The map's variable and its row. -/
structure MapAt (w : World) (tb tr : Nat) (to : List Int) : Prop where
  var : Blk w tb 45 [.slice (some ⟨tr, 0, none⟩) to.length to.length]
  row : Blk w tr 3 (to.map nu)
theorem MapAt.chg {w w' : World} {tb tr : Nat} {to : List Int} {T : Nat → Prop} (h : MapAt w tb tr to) (hc : Chg w w' T) (h1 : ¬ T tb) (h2 : ¬ T tr) : MapAt w' tb tr to := ⟨h.var.chg hc h1, h.row.chg hc h2⟩
/-- Even numbers that fit. -/
structure MapOk (to : List Int) : Prop where
  all : ∀ v, rg to.length v → 0 ≤ L to v ∧ L to v ≤ 100000 ∧ L to v % 2 = 0
theorem give_cv {w : World} {nb tb tr : Nat} {to : List Int} {l nx : Int} (hN : Blk w nb 3 [nu nx]) (hM : MapAt w tb tr to) (hl : rg to.length (l / 2)) (hx : 0 ≤ nx ∧ nx ≤ 100000) (hne : nb ≠ tr ∧ tb ≠ tr ∧ nb ≠ tb) :
    CV Try.prog 101 [nu l, pt nb, pt tb] w fun v w' => Blk w' nb 3 [nu (nx + 2)] ∧ MapAt w' tb tr (to.set (l / 2).toNat (nx + 2)) ∧ Chg w w' (fun k => k = nb ∨ k = tr) := by
  obtain ⟨hv, hr⟩ := hM
  unfold rg at hl
  refine enter 11 [] Try.func101 rfl rfl rfl (by decide) rfl ?_
  repeat' (first
      | (apply WC_seqK; intro K hK)
      | (apply hK; clear hK)
      | (clear hK; apply hK; clear hK)
      | (clear hK; clear hK; apply hK; clear hK)
      | (clear hK; clear hK; clear hK; apply hK; clear hK)
      | (apply WC_block)
      | (apply WC_region)
      | (apply WL_nil)
      | (apply thenQ_normal)
      | (apply thenQ_ret)
      | (apply thenQ_exit)
      | (apply blockQ_hit)
      | (apply blockQ_miss; eq_refl)
      | (apply blockQ_ret)
      | (apply blockQ_normal)
      | (apply WC_ret)
      | (apply WC_exit)
      | (apply WC_skip)
      | (apply WC_if_true; eq_refl)
      | (apply WC_if_false; eq_refl)
      | (apply ret1; eq_refl)
      | (apply ret2; eq_refl; eq_refl)
      | (apply ret3; eq_refl; eq_refl; eq_refl)
      | (apply ret0)
      | (apply ret0n)
      | (apply WL_on0; eq_refl)
      | (apply X_pv; eq_refl; first | exact trivial | omega)
      | (apply X_loadR; eq_refl; (first | assumption | (apply Blk.alloc; assumption) | apply Blk.new | apply Blk.newA | (apply Blk.alloc; first | apply Blk.newA | (apply Blk.alloc; first | assumption | apply Blk.newA))); eq_refl)
      | (apply X_loadW; eq_refl; (first | assumption | (apply Blk.alloc; assumption) | apply Blk.new | apply Blk.newA | (apply Blk.alloc; first | apply Blk.newA | (apply Blk.alloc; first | assumption | apply Blk.newA))); eq_refl)
      | (apply X_loadC; eq_refl; (first | assumption | (apply cel; first | assumption | (apply cel; assumption))))
      | (apply X_cmpT; eq_refl; eq_refl; omega)
      | (apply X_cmpF; eq_refl; eq_refl; omega)
      | (apply X_cmp; eq_refl; eq_refl; all_goals intro _)
      | (apply X_index; eq_refl; eq_refl; omega; omega)
      | (apply X_indexP; eq_refl; eq_refl; omega; omega))
  refine X_doesU (does_store1 (t1 := 3) (b := nb) (o := 0) (v := nu (nx + 2)) (by eq_refl) (by eq_refl) hN (by simp) rfl rfl) ?_
  have hc1 : Chg w (w.setRow nb ([nu nx].set 0 (nu (nx + 2))).toArray) (fun k => k = nb) := Chg.setRow _ _ _ rfl
  have hN1 := hN.set ([nu nx].set 0 (nu (nx + 2)))
  have hv1 := hv.chg hc1 (fun h => hne.2.2 h.symm)
  have hr1 := hr.chg hc1 (fun h => hne.1 h.symm)
  generalize w.setRow nb ([nu nx].set 0 (nu (nx + 2))).toArray = w1 at *
  have hN1 : Blk w1 nb 3 [nu (nx + 2)] := hN1
  repeat' (first
      | (apply WC_seqK; intro K hK)
      | (apply hK; clear hK)
      | (clear hK; apply hK; clear hK)
      | (clear hK; clear hK; apply hK; clear hK)
      | (clear hK; clear hK; clear hK; apply hK; clear hK)
      | (apply WC_block)
      | (apply WC_region)
      | (apply WL_nil)
      | (apply thenQ_normal)
      | (apply thenQ_ret)
      | (apply thenQ_exit)
      | (apply blockQ_hit)
      | (apply blockQ_miss; eq_refl)
      | (apply blockQ_ret)
      | (apply blockQ_normal)
      | (apply WC_ret)
      | (apply WC_exit)
      | (apply WC_skip)
      | (apply WC_if_true; eq_refl)
      | (apply WC_if_false; eq_refl)
      | (apply ret1; eq_refl)
      | (apply ret2; eq_refl; eq_refl)
      | (apply ret3; eq_refl; eq_refl; eq_refl)
      | (apply ret0)
      | (apply ret0n)
      | (apply WL_on0; eq_refl)
      | (apply X_pv; eq_refl; first | exact trivial | omega)
      | (apply X_loadR; eq_refl; (first | assumption | (apply Blk.alloc; assumption) | apply Blk.new | apply Blk.newA | (apply Blk.alloc; first | apply Blk.newA | (apply Blk.alloc; first | assumption | apply Blk.newA))); eq_refl)
      | (apply X_loadW; eq_refl; (first | assumption | (apply Blk.alloc; assumption) | apply Blk.new | apply Blk.newA | (apply Blk.alloc; first | apply Blk.newA | (apply Blk.alloc; first | assumption | apply Blk.newA))); eq_refl)
      | (apply X_loadC; eq_refl; (first | assumption | (apply cel; first | assumption | (apply cel; assumption))))
      | (apply X_cmpT; eq_refl; eq_refl; omega)
      | (apply X_cmpF; eq_refl; eq_refl; omega)
      | (apply X_cmp; eq_refl; eq_refl; all_goals intro _)
      | (apply X_index; eq_refl; eq_refl; omega; omega)
      | (apply X_indexP; eq_refl; eq_refl; omega; omega))
  refine X_doesU (does_store1 (t1 := 3) (b := tr) (o := 0 + (l / 2).toNat * 1) (v := nu (nx + 2)) (by eq_refl) (by eq_refl) hr1 (by simp; omega) rfl rfl) ?_
  rw [set_nu, show 0 + (l / 2).toNat * 1 = (l / 2).toNat by omega]
  have hc2 : Chg w1 (w1.setRow tr ((to.set (l / 2).toNat (nx + 2)).map nu).toArray) (fun k => k = tr) := Chg.setRow _ _ _ rfl
  have hr2 := hr1.set ((to.set (l / 2).toNat (nx + 2)).map nu)
  repeat' (first
      | (apply WC_seqK; intro K hK)
      | (apply hK; clear hK)
      | (clear hK; apply hK; clear hK)
      | (clear hK; clear hK; apply hK; clear hK)
      | (clear hK; clear hK; clear hK; apply hK; clear hK)
      | (apply WC_block)
      | (apply WC_region)
      | (apply WL_nil)
      | (apply thenQ_normal)
      | (apply thenQ_ret)
      | (apply thenQ_exit)
      | (apply blockQ_hit)
      | (apply blockQ_miss; eq_refl)
      | (apply blockQ_ret)
      | (apply blockQ_normal)
      | (apply WC_ret)
      | (apply WC_exit)
      | (apply WC_skip)
      | (apply WC_if_true; eq_refl)
      | (apply WC_if_false; eq_refl)
      | (apply ret1; eq_refl)
      | (apply ret2; eq_refl; eq_refl)
      | (apply ret3; eq_refl; eq_refl; eq_refl)
      | (apply ret0)
      | (apply ret0n)
      | (apply WL_on0; eq_refl)
      | (apply X_pv; eq_refl; first | exact trivial | omega)
      | (apply X_loadR; eq_refl; (first | assumption | (apply Blk.alloc; assumption) | apply Blk.new | apply Blk.newA | (apply Blk.alloc; first | apply Blk.newA | (apply Blk.alloc; first | assumption | apply Blk.newA))); eq_refl)
      | (apply X_loadW; eq_refl; (first | assumption | (apply Blk.alloc; assumption) | apply Blk.new | apply Blk.newA | (apply Blk.alloc; first | apply Blk.newA | (apply Blk.alloc; first | assumption | apply Blk.newA))); eq_refl)
      | (apply X_loadC; eq_refl; (first | assumption | (apply cel; first | assumption | (apply cel; assumption))))
      | (apply X_cmpT; eq_refl; eq_refl; omega)
      | (apply X_cmpF; eq_refl; eq_refl; omega)
      | (apply X_cmp; eq_refl; eq_refl; all_goals intro _)
      | (apply X_index; eq_refl; eq_refl; omega; omega)
      | (apply X_indexP; eq_refl; eq_refl; omega; omega))
  exact ⟨hN1.chg hc2 hne.1, ⟨by rw [List.length_set]; exact hv1.chg hc2 hne.2.1, hr2⟩, (hc1.mono fun _ h => .inl h).trans hc2 fun _ _ h => .inr h⟩
theorem lit_cv {w : World} {tb tr : Nat} {to : List Int} {l : Int} (hM : MapAt w tb tr to) (hO : MapOk to) (hl : rg to.length (l / 2)) :
    CV Try.prog 102 [nu l, pt tb] w fun v w' => v = nu (litM to l) ∧ w' = w := by
  obtain ⟨hv, hr⟩ := hM
  have hcell := L_cell hl
  obtain ⟨h0, h1, h2⟩ := hO.all _ hl
  unfold rg at hl
  have hb0 : 0 ≤ l % 2 := by omega
  have hb1 : l % 2 ≤ 1 := by omega
  unfold litM
  generalize hL : L to (l / 2) = a at *
  refine enter 12 [3] Try.func102 rfl rfl rfl (by decide) rfl ?_
  repeat' (first
      | (apply X_loadR; eq_refl; exact hr; exact hcell)
      | (apply X_pure; apply p_or01; eq_refl; eq_refl; assumption; assumption; assumption; omega; omega)
      | (apply WC_seqK; intro K hK)
      | (apply hK; clear hK)
      | (clear hK; apply hK; clear hK)
      | (clear hK; clear hK; apply hK; clear hK)
      | (clear hK; clear hK; clear hK; apply hK; clear hK)
      | (apply WC_block)
      | (apply WC_region)
      | (apply WL_nil)
      | (apply thenQ_normal)
      | (apply thenQ_ret)
      | (apply thenQ_exit)
      | (apply blockQ_hit)
      | (apply blockQ_miss; eq_refl)
      | (apply blockQ_ret)
      | (apply blockQ_normal)
      | (apply WC_ret)
      | (apply WC_exit)
      | (apply WC_skip)
      | (apply WC_if_true; eq_refl)
      | (apply WC_if_false; eq_refl)
      | (apply ret1; eq_refl)
      | (apply ret2; eq_refl; eq_refl)
      | (apply ret3; eq_refl; eq_refl; eq_refl)
      | (apply ret0)
      | (apply ret0n)
      | (apply WL_on0; eq_refl)
      | (apply X_pv; eq_refl; first | exact trivial | omega)
      | (apply X_loadR; eq_refl; (first | assumption | (apply Blk.alloc; assumption) | apply Blk.new | apply Blk.newA | (apply Blk.alloc; first | apply Blk.newA | (apply Blk.alloc; first | assumption | apply Blk.newA))); eq_refl)
      | (apply X_loadW; eq_refl; (first | assumption | (apply Blk.alloc; assumption) | apply Blk.new | apply Blk.newA | (apply Blk.alloc; first | apply Blk.newA | (apply Blk.alloc; first | assumption | apply Blk.newA))); eq_refl)
      | (apply X_loadC; eq_refl; (first | assumption | (apply cel; first | assumption | (apply cel; assumption))))
      | (apply X_cmpT; eq_refl; eq_refl; omega)
      | (apply X_cmpF; eq_refl; eq_refl; omega)
      | (apply X_cmp; eq_refl; eq_refl; all_goals intro _)
      | (apply X_index; eq_refl; eq_refl; omega; omega)
      | (apply X_indexP; eq_refl; eq_refl; omega; omega))
  exact ⟨rfl, rfl⟩
theorem take_set_succ (os : List Int) (i : Nat) (v : Int) (h : i < os.length) : (os.set i v).take (i + 1) = os.take i ++ [v] := by
  apply List.ext_getElem?
  intro j
  rcases Nat.lt_trichotomy j i with hj | hj | hj
  · rw [List.getElem?_take_of_lt (by omega), List.getElem?_set_ne (by omega), List.getElem?_append_left (by simp; omega), List.getElem?_take_of_lt hj]
  · subst hj
    rw [List.getElem?_take_of_lt (by omega), List.getElem?_set_self h, List.getElem?_append_right (by simp; omega)]
    simp [Nat.min_eq_left (Nat.le_of_lt h)]
  · rw [List.getElem?_eq_none (by simp; omega), List.getElem?_eq_none (by simp; omega)]
theorem lits_cv {w : World} {tb tr lb : Nat} {to ls : List Int} {A : Option Addr} {c : Nat} (hM : MapAt w tb tr to) (hO : MapOk to) (hV : Blk w lb 127 [.func (.func 102) #[] #[pt tb]]) (R : RowA w icell 1 A ls) (hn : ls.length ≤ 1000000) (hl : ∀ l ∈ ls, rg to.length (l / 2)) :
    CV Try.prog 103 [.slice A ls.length c, pt lb] w fun v w' => w'.ownsRow w.heap.size 3 1 v ls.length ((ls.map (litM to)).flatMap icell) ∧ Chg w w' none_ := by
  refine enter 25 [3] Try.func103 rfl rfl rfl (by decide) rfl ?_
  repeat' (first
      | (apply X_make; eq_refl; omega; omega)
      | (apply WC_seqK; intro K hK)
      | (apply hK; clear hK)
      | (clear hK; apply hK; clear hK)
      | (clear hK; clear hK; apply hK; clear hK)
      | (clear hK; clear hK; clear hK; apply hK; clear hK)
      | (apply WC_block)
      | (apply WC_region)
      | (apply WL_nil)
      | (apply thenQ_normal)
      | (apply thenQ_ret)
      | (apply thenQ_exit)
      | (apply blockQ_hit)
      | (apply blockQ_miss; eq_refl)
      | (apply blockQ_ret)
      | (apply blockQ_normal)
      | (apply WC_ret)
      | (apply WC_exit)
      | (apply WC_skip)
      | (apply WC_if_true; eq_refl)
      | (apply WC_if_false; eq_refl)
      | (apply ret1; eq_refl)
      | (apply ret2; eq_refl; eq_refl)
      | (apply ret3; eq_refl; eq_refl; eq_refl)
      | (apply ret0)
      | (apply ret0n)
      | (apply WL_on0; eq_refl)
      | (apply X_pv; eq_refl; first | exact trivial | omega)
      | (apply X_loadR; eq_refl; (first | assumption | (apply Blk.alloc; assumption) | apply Blk.new | apply Blk.newA | (apply Blk.alloc; first | apply Blk.newA | (apply Blk.alloc; first | assumption | apply Blk.newA))); eq_refl)
      | (apply X_loadW; eq_refl; (first | assumption | (apply Blk.alloc; assumption) | apply Blk.new | apply Blk.newA | (apply Blk.alloc; first | apply Blk.newA | (apply Blk.alloc; first | assumption | apply Blk.newA))); eq_refl)
      | (apply X_loadC; eq_refl; (first | assumption | (apply cel; first | assumption | (apply cel; assumption))))
      | (apply X_cmpT; eq_refl; eq_refl; omega)
      | (apply X_cmpF; eq_refl; eq_refl; omega)
      | (apply X_cmp; eq_refl; eq_refl; all_goals intro _)
      | (apply X_len; eq_refl)
      | (apply X_lenS; eq_refl)
      | (apply X_index; eq_refl; eq_refl; omega; omega)
      | (apply X_indexP; eq_refl; eq_refl; omega; omega))
  have e1 : (madeCells (Value.int .i64 0).cells (ls.length * 1)).toList = (List.replicate ls.length (0 : Int)).map nu := by rw [Nat.mul_one, show (Value.int .i64 0).cells = #[nu 0] from rfl, made_one, List.map_replicate]
  have h1 := Blk.newA w (madeCells (Value.int .i64 0).cells (ls.length * 1)) 3
  rw [e1] at h1
  refine WC_loop (fun s : Nat × List Int => [(1, pt lb), (4, .slice (some ⟨w.heap.size, 0, none⟩) ls.length ls.length), (10, .slice A ls.length c), (11, nu ls.length), (12, nu s.1)])
    (fun s W => Chg w W none_ ∧ Blk W w.heap.size 3 (s.2.map nu) ∧ s.2.length = ls.length ∧ s.2.take s.1 = (ls.take s.1).map (litM to) ∧ s.1 ≤ ls.length) (fun s => ls.length - s.1) (0, List.replicate ls.length 0) ⟨rfl, rfl, rfl, rfl, rfl, trivial⟩ ⟨Chg.alloc _ _ _, h1, by simp, by simp, Nat.zero_le _⟩ ?_
  rintro ⟨i, os⟩ w1 ⟨hC1, hB1, hol, hot, hi⟩
  simp only at hB1 hol hot hi
  rcases Nat.lt_or_ge i ls.length with hlt | hge
  · obtain ⟨p, hp, hc⟩ := (R.chg hC1).one hlt (v := nu ls[i]) rfl
    have hli := hl _ (List.getElem_mem hlt)
    have hcv := lit_cv (hM.chg hC1 id id) hO hli
    have hV1 := hV.chg hC1 id
    have htk := List.take_succ_eq_append_getElem hlt
    rw [hp]
    generalize hx : ls[i] = x at *
    repeat' (first
      | (apply X_clo (f := 102); eq_refl; eq_refl; exact hcv; rintro _ w2 ⟨rfl, hw2⟩; obtain rfl := hw2.symm)
      | (apply WC_seqK; intro K hK)
      | (apply hK; clear hK)
      | (clear hK; apply hK; clear hK)
      | (clear hK; clear hK; apply hK; clear hK)
      | (clear hK; clear hK; clear hK; apply hK; clear hK)
      | (apply WC_block)
      | (apply WC_region)
      | (apply WL_nil)
      | (apply thenQ_normal)
      | (apply thenQ_ret)
      | (apply thenQ_exit)
      | (apply blockQ_hit)
      | (apply blockQ_miss; eq_refl)
      | (apply blockQ_ret)
      | (apply blockQ_normal)
      | (apply WC_ret)
      | (apply WC_exit)
      | (apply WC_skip)
      | (apply WC_if_true; eq_refl)
      | (apply WC_if_false; eq_refl)
      | (apply ret1; eq_refl)
      | (apply ret2; eq_refl; eq_refl)
      | (apply ret3; eq_refl; eq_refl; eq_refl)
      | (apply ret0)
      | (apply ret0n)
      | (apply WL_on0; eq_refl)
      | (apply X_pv; eq_refl; first | exact trivial | omega)
      | (apply X_loadR; eq_refl; (first | assumption | (apply Blk.alloc; assumption) | apply Blk.new | apply Blk.newA | (apply Blk.alloc; first | apply Blk.newA | (apply Blk.alloc; first | assumption | apply Blk.newA))); eq_refl)
      | (apply X_loadW; eq_refl; (first | assumption | (apply Blk.alloc; assumption) | apply Blk.new | apply Blk.newA | (apply Blk.alloc; first | apply Blk.newA | (apply Blk.alloc; first | assumption | apply Blk.newA))); eq_refl)
      | (apply X_loadC; eq_refl; (first | assumption | (apply cel; first | assumption | (apply cel; assumption))))
      | (apply X_cmpT; eq_refl; eq_refl; omega)
      | (apply X_cmpF; eq_refl; eq_refl; omega)
      | (apply X_cmp; eq_refl; eq_refl; all_goals intro _)
      | (apply X_len; eq_refl)
      | (apply X_lenS; eq_refl)
      | (apply X_index; eq_refl; eq_refl; omega; omega)
      | (apply X_indexP; eq_refl; eq_refl; omega; omega))
    refine X_doesU (does_store1 (t1 := 3) (b := w.heap.size) (o := 0 + (i : Int).toNat * 1) (v := nu (litM to x)) (by eq_refl) (by eq_refl) hB1 (by simp; omega) rfl rfl) ?_
    rw [set_nu, show 0 + (i : Int).toNat * 1 = i by omega]
    have hcc := Chg.setRow w1 w.heap.size ((os.set i (litM to x)).map nu).toArray (S := fun k => k = w.heap.size) rfl
    have hB2 := hB1.set ((os.set i (litM to x)).map nu)
    repeat' (first
      | (apply WC_seqK; intro K hK)
      | (apply hK; clear hK)
      | (clear hK; apply hK; clear hK)
      | (clear hK; clear hK; apply hK; clear hK)
      | (clear hK; clear hK; clear hK; apply hK; clear hK)
      | (apply WC_block)
      | (apply WC_region)
      | (apply WL_nil)
      | (apply thenQ_normal)
      | (apply thenQ_ret)
      | (apply thenQ_exit)
      | (apply blockQ_hit)
      | (apply blockQ_miss; eq_refl)
      | (apply blockQ_ret)
      | (apply blockQ_normal)
      | (apply WC_ret)
      | (apply WC_exit)
      | (apply WC_skip)
      | (apply WC_if_true; eq_refl)
      | (apply WC_if_false; eq_refl)
      | (apply ret1; eq_refl)
      | (apply ret2; eq_refl; eq_refl)
      | (apply ret3; eq_refl; eq_refl; eq_refl)
      | (apply ret0)
      | (apply ret0n)
      | (apply WL_on0; eq_refl)
      | (apply X_pv; eq_refl; first | exact trivial | omega)
      | (apply X_loadR; eq_refl; (first | assumption | (apply Blk.alloc; assumption) | apply Blk.new | apply Blk.newA | (apply Blk.alloc; first | apply Blk.newA | (apply Blk.alloc; first | assumption | apply Blk.newA))); eq_refl)
      | (apply X_loadW; eq_refl; (first | assumption | (apply Blk.alloc; assumption) | apply Blk.new | apply Blk.newA | (apply Blk.alloc; first | apply Blk.newA | (apply Blk.alloc; first | assumption | apply Blk.newA))); eq_refl)
      | (apply X_loadC; eq_refl; (first | assumption | (apply cel; first | assumption | (apply cel; assumption))))
      | (apply X_cmpT; eq_refl; eq_refl; omega)
      | (apply X_cmpF; eq_refl; eq_refl; omega)
      | (apply X_cmp; eq_refl; eq_refl; all_goals intro _)
      | (apply X_len; eq_refl)
      | (apply X_lenS; eq_refl)
      | (apply X_index; eq_refl; eq_refl; omega; omega)
      | (apply X_indexP; eq_refl; eq_refl; omega; omega))
    exact ⟨(i + 1, os.set i (litM to x)), ⟨rfl, rfl, by first | rfl | (rw [hp]; rfl), rfl, rfl, trivial⟩, ⟨hC1.trans hcc fun k hk hh => by omega, hB2, by simp [hol], by rw [take_set_succ _ _ _ (by omega), hot, htk, List.map_append]; rfl, hlt⟩, by simp only; omega⟩
  · obtain rfl : i = ls.length := by omega
    repeat' (first
      | (apply WC_seqK; intro K hK)
      | (apply hK; clear hK)
      | (clear hK; apply hK; clear hK)
      | (clear hK; clear hK; apply hK; clear hK)
      | (clear hK; clear hK; clear hK; apply hK; clear hK)
      | (apply WC_block)
      | (apply WC_region)
      | (apply WL_nil)
      | (apply thenQ_normal)
      | (apply thenQ_ret)
      | (apply thenQ_exit)
      | (apply blockQ_hit)
      | (apply blockQ_miss; eq_refl)
      | (apply blockQ_ret)
      | (apply blockQ_normal)
      | (apply WC_ret)
      | (apply WC_exit)
      | (apply WC_skip)
      | (apply WC_if_true; eq_refl)
      | (apply WC_if_false; eq_refl)
      | (apply ret1; eq_refl)
      | (apply ret2; eq_refl; eq_refl)
      | (apply ret3; eq_refl; eq_refl; eq_refl)
      | (apply ret0)
      | (apply ret0n)
      | (apply WL_on0; eq_refl)
      | (apply X_pv; eq_refl; first | exact trivial | omega)
      | (apply X_loadR; eq_refl; (first | assumption | (apply Blk.alloc; assumption) | apply Blk.new | apply Blk.newA | (apply Blk.alloc; first | apply Blk.newA | (apply Blk.alloc; first | assumption | apply Blk.newA))); eq_refl)
      | (apply X_loadW; eq_refl; (first | assumption | (apply Blk.alloc; assumption) | apply Blk.new | apply Blk.newA | (apply Blk.alloc; first | apply Blk.newA | (apply Blk.alloc; first | assumption | apply Blk.newA))); eq_refl)
      | (apply X_loadC; eq_refl; (first | assumption | (apply cel; first | assumption | (apply cel; assumption))))
      | (apply X_cmpT; eq_refl; eq_refl; omega)
      | (apply X_cmpF; eq_refl; eq_refl; omega)
      | (apply X_cmp; eq_refl; eq_refl; all_goals intro _)
      | (apply X_len; eq_refl)
      | (apply X_lenS; eq_refl)
      | (apply X_index; eq_refl; eq_refl; omega; omega)
      | (apply X_indexP; eq_refl; eq_refl; omega; omega))
    rw [List.take_of_length_le (by omega), List.take_of_length_le (by omega)] at hot
    refine ⟨?_, hC1⟩
    rw [flat_icell, ← hot]
    exact own_of_blk hB1 (Nat.le_refl _) (by simp [hol]) (Nat.le_refl _) (by simp only [maxLen]; omega) (List.take_of_length_le (by simp; omega))
end SC
end Go.Proofs.Ytkndegjodnciaaa
