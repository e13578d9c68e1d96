/- shape: the gates below a gate. -/
import Derived.Test.YtkndegjodnciaaaD5
set_option linter.unusedVariables false
set_option linter.unusedSimpArgs false
namespace Go.Proofs.Ytkndegjodnciaaa
namespace SC
open Go.Proofs
attribute [local irreducible] WC WL WX WS WO OX Does DoesU Enters CV Pure thenQ blockQ retQ Wants
set_option maxRecDepth 100000
def atOf (t : Tab) (v : Int) : Int := ((t[v.toNat]?).map (·.2)).getD 0
def belowL (t : Tab) : List Int → List Int
  | [] => []
  | l :: r => if kindAt t (l / 2) = 3 then atOf t (l / 2) :: belowL t r else belowL t r
def belowM (t : Tab) (x : Tri) : List Int := belowL t [x.2.1, x.2.2]
theorem belowL_append (t : Tab) : ∀ a b : List Int, belowL t (a ++ b) = belowL t a ++ belowL t b
  | [], b => rfl
  | x :: r, b => by simp only [List.cons_append, belowL, belowL_append t r b]; split <;> simp
theorem belowL_len (t : Tab) : ∀ a : List Int, (belowL t a).length ≤ a.length
  | [] => Nat.le_refl _
  | x :: r => by have := belowL_len t r; unfold belowL; split <;> simp <;> omega
theorem tab_cells {w : World} {b : Nat} {t : Tab} (hT : Blk w b 173 (t.flatMap mcells)) {v : Int} (h0 : 0 ≤ v) (h1 : v < t.length) : ∀ j u, [nu (kindAt t v), nu (atOf t v)][j]? = some u → w.cell? ⟨b, 0 + v.toNat * 2 + j, none⟩ = some u := by
  obtain ⟨g0, m, hm, g1⟩ := tab_get h0 h1
  intro j u hj
  rw [hT.cell]
  match j with
  | 0 => simp at hj; rw [← hj]; exact g0
  | 1 => simp [atOf, hm] at hj; rw [← hj]; exact g1
  | j + 2 => simp at hj
theorem row_form' {w : World} {base : Nat} {v : Value} {n : Nat} {e : TypeId} {sz : Nat} {xs : List Value} (h : w.ownsRow base e sz v n xs) : ∃ A c, v = .slice A n c := by
  rcases h.2 with ⟨rfl, rfl⟩ | ⟨g', cap, cur, rfl, _⟩
  · exact ⟨_, _, rfl⟩
  · exact ⟨_, _, rfl⟩
theorem own_chg {w w' : World} {base : Nat} {v : Value} {n : Nat} {e : TypeId} {sz : Nat} {xs : List Value} {T : Nat → Prop} (h : w.ownsRow base e sz v n xs) (hc : Chg w w' T) (hn : ∀ k, v.ownBlock = some k → ¬ T k) : w'.ownsRow base e sz v n xs := by
  obtain ⟨h1, h2⟩ := h
  refine ⟨h1, ?_⟩
  rcases h2 with h2 | ⟨g, cap, cur, rfl, hb, hg, rest⟩
  · exact .inl h2
  · exact .inr ⟨g, cap, cur, rfl, hb, (hc.block g (Array.getElem?_eq_some_iff.1 hg).1 (hn g rfl)).trans hg, rest⟩
theorem below_cv {w : World} {q b : Nat} {c : Circ} {h js : Hd} {t : Tab} {i : Nat} (H : Lk w q b c h js t) (O : LkOk c t) (hi : i < c.ands.length) (hl : c.ands.length ≤ 281474976710656)
    (hr : ∀ x ∈ c.ands, 0 ≤ x.2.1 ∧ x.2.1 ≤ 2 * c.max + 1 ∧ 0 ≤ x.2.2 ∧ x.2.2 ≤ 2 * c.max + 1) :
    CV Try.prog 138 [pt q, nu i] w fun v w' => w'.ownsRow w.heap.size 3 1 v (belowM t c.ands[i]).length ((belowM t c.ands[i]).map nu) ∧ Chg w w' none_ := by
  have hH := H.head
  have hlen := O.len
  have hlo := O.lo
  have hhi := O.hi
  obtain ⟨p, hp, hc⟩ := (H.cir w (Chg.refl _ _)).ands i hi
  have hrx := hr c.ands[i] (List.getElem_mem hi)
  generalize hx : c.ands[i] = x at *
  have c1 := hc 1 (nu x.2.1) rfl
  have c2 := hc 2 (nu x.2.2) rfl
  refine enter 49 [4] Try.func138 rfl rfl rfl (by decide) rfl ?_
  have hH' : Blk w q 150 ([nu c.max, .slice (h 1).1 c.inputs.length (h 1).2, .slice (h 2).1 c.latches.length (h 2).2, .slice (h 3).1 c.outputs.length (h 3).2, .slice (h 4).1 c.bads.length (h 4).2, .slice (h 5).1 c.constraints.length (h 5).2,
    .slice (h 6).1 c.justice.length (h 6).2, .slice (h 7).1 c.fairness.length (h 7).2, .slice (some p) c.ands.length (h 8).2, .slice (h 9).1 c.symbols.length (h 9).2, .slice (h 10).1 c.comments.length (h 10).2] ++ [.slice (some ⟨b, 0, none⟩) t.length t.length]) := by
    have := hH
    unfold ccells at this
    rwa [hp] at this
  generalize hcs : ([nu c.max, .slice (h 1).1 c.inputs.length (h 1).2, .slice (h 2).1 c.latches.length (h 2).2, .slice (h 3).1 c.outputs.length (h 3).2, .slice (h 4).1 c.bads.length (h 4).2, .slice (h 5).1 c.constraints.length (h 5).2,
    .slice (h 6).1 c.justice.length (h 6).2, .slice (h 7).1 c.fairness.length (h 7).2, .slice (some p) c.ands.length (h 8).2, .slice (h 9).1 c.symbols.length (h 9).2, .slice (h 10).1 c.comments.length (h 10).2] ++ [.slice (some ⟨b, 0, none⟩) t.length t.length] : List Value) = cs at hH'
  have k8 : cs[0 + 0 + 8]? = some (.slice (some p) c.ands.length (h 8).2) := by rw [← hcs]; rfl
  have k11 : cs[0 + 11]? = some (.slice (some ⟨b, 0, none⟩) t.length t.length) := by rw [← hcs]; rfl
  repeat' (first
      | (apply WC_seqK; intro K hK)
      | (apply hK; clear hK)
      | (clear hK; apply hK; clear hK)
      | (clear hK; clear hK; apply hK; clear hK)
      | (clear hK; clear hK; clear hK; apply hK; clear hK)
      | (apply WC_block)
      | (apply WC_region)
      | (apply WL_nil)
      | (apply thenQ_normal)
      | (apply thenQ_ret)
      | (apply thenQ_exit)
      | (apply blockQ_hit)
      | (apply blockQ_miss; eq_refl)
      | (apply blockQ_ret)
      | (apply blockQ_normal)
      | (apply WC_ret)
      | (apply WC_exit)
      | (apply WC_skip)
      | (apply WC_if_true; eq_refl)
      | (apply WC_if_false; eq_refl)
      | (apply ret1; eq_refl)
      | (apply ret2; eq_refl; eq_refl)
      | (apply ret3; eq_refl; eq_refl; eq_refl)
      | (apply ret0)
      | (apply ret0n)
      | (apply WL_on0; eq_refl)
      | (apply X_pv; eq_refl; first | exact trivial | omega)
      | (apply X_field; eq_refl)
      | (apply X_loadR; eq_refl; (first | assumption | (apply Blk.alloc; assumption) | apply Blk.new | apply Blk.newA | (apply Blk.alloc; first | apply Blk.newA | (apply Blk.alloc; first | assumption | apply Blk.newA))); eq_refl)
      | (apply X_loadW; eq_refl; (first | assumption | (apply Blk.alloc; assumption) | apply Blk.new | apply Blk.newA | (apply Blk.alloc; first | apply Blk.newA | (apply Blk.alloc; first | assumption | apply Blk.newA))); eq_refl)
      | (apply X_loadC; eq_refl; (first | assumption | (apply cel; first | assumption | (apply cel; assumption))))
      | (apply X_cmpT; eq_refl; eq_refl; omega)
      | (apply X_cmpF; eq_refl; eq_refl; omega)
      | (apply X_cmp; eq_refl; eq_refl; all_goals intro _)
      | (apply X_index; eq_refl; eq_refl; omega; omega)
      | (apply X_indexP; eq_refl; eq_refl; omega; omega)
      | (apply X_fieldP; eq_refl)
      | (apply X_eqB; eq_refl; eq_refl)
      | (apply X_eqP; eq_refl; eq_refl)
      | (apply X_eqL; eq_refl; eq_refl)
      | (apply X_alloc)
      | (apply X_pure; apply build63_0_1 <;> eq_refl)
      | (apply X_does; apply buildS45_1 <;> eq_refl))
  refine WC_draws [(0, true), (1, true), (2, true), (3, true), (4, true), (5, true), (6, true), (7, true), (8, true), (9, true), (10, true), (11, true), (12, true), (13, true), (14, true), (15, true), (16, true), (17, true), (18, true), (19, true)] (fun w => Blk w q 150 cs ∧ w.cell? ((p.add ((i : Int).toNat * 3)).add 1) = some (nu x.2.1) ∧ w.cell? ((p.add ((i : Int).toNat * 3)).add 2) = some (nu x.2.2)) mixed (by kernel_rfl) (by kernel_rfl) ?_
  have hS : Blk w.drew q 150 cs ∧ w.drew.cell? ((p.add ((i : Int).toNat * 3)).add 1) = some (nu x.2.1) ∧ w.drew.cell? ((p.add ((i : Int).toNat * 3)).add 2) = some (nu x.2.2) := ⟨hH', c1, c2⟩
  repeat' (first
      | (apply O_loadR; eq_refl; (intro _ h; exact h.1); exact k8; assumption)
      | (apply O_loadC; eq_refl; (first | (intro _ h; exact h.2.1) | (intro _ h; exact h.2.2)); assumption)
      | (apply WC_seqK; intro K hK)
      | (apply hK; clear hK)
      | (clear hK; apply hK; clear hK)
      | (clear hK; clear hK; apply hK; clear hK)
      | (clear hK; clear hK; clear hK; apply hK; clear hK)
      | (apply WC_block)
      | (apply WC_region)
      | (apply WL_nil)
      | (apply thenQ_normal)
      | (apply thenQ_ret)
      | (apply thenQ_exit)
      | (apply blockQ_hit)
      | (apply blockQ_miss; eq_refl)
      | (apply blockQ_ret)
      | (apply blockQ_normal)
      | (apply WC_ret)
      | (apply WC_exit)
      | (apply WC_skip)
      | (apply WC_if_true; eq_refl)
      | (apply WC_if_false; eq_refl)
      | (apply ret1; eq_refl)
      | (apply ret2; eq_refl; eq_refl)
      | (apply ret3; eq_refl; eq_refl; eq_refl)
      | (apply ret0)
      | (apply ret0n)
      | (apply WS_nil)
      | (apply WS_next; eq_refl)
      | (apply WO_on0; eq_refl)
      | (apply O_pv; eq_refl; (first | exact trivial | omega); (first | assumption | exact trivial))
      | (apply O_field; eq_refl; (first | assumption | exact trivial))
      | (apply O_loadR; eq_refl; (first | (intro _ h; exact h) | (intro _ h; exact h.1) | (intro _ h; exact h.2) | (intro _ h; exact h.2.1) | (intro _ h; exact h.2.2) | (intro _ h; exact h.2.2.1) | (intro _ h; exact h.2.2.2)); eq_refl; (first | assumption | exact trivial))
      | (apply O_loadW; eq_refl; (first | (intro _ h; exact h) | (intro _ h; exact h.1) | (intro _ h; exact h.2) | (intro _ h; exact h.2.1) | (intro _ h; exact h.2.2) | (intro _ h; exact h.2.2.1) | (intro _ h; exact h.2.2.2)); eq_refl; (first | assumption | exact trivial))
      | (apply O_loadC; eq_refl; (first | (intro _ h; exact h) | (intro _ h; exact h.1) | (intro _ h; exact h.2) | (intro _ h; exact h.2.1) | (intro _ h; exact h.2.2) | (intro _ h; exact h.2.2.1) | (intro _ h; exact h.2.2.2)); (first | assumption | exact trivial))
      | (apply O_cmpT; eq_refl; eq_refl; omega; (first | assumption | exact trivial))
      | (apply O_cmpF; eq_refl; eq_refl; omega; (first | assumption | exact trivial))
      | (apply O_cmp; eq_refl; eq_refl; (first | assumption | exact trivial); all_goals intro _)
      | (apply O_index; eq_refl; eq_refl; omega; omega; (first | assumption | exact trivial))
      | (apply O_indexP; eq_refl; eq_refl; omega; omega; (first | assumption | exact trivial))
      | (apply O_fieldP; eq_refl; (first | assumption | exact trivial))
      | (apply O_eqB; eq_refl; eq_refl; (first | assumption | exact trivial))
      | (apply O_pvL; eq_refl; (first | exact trivial | omega); (first | (intro _; assumption) | exact lo (by kernel_rfl)))
      | (apply O_pure; apply build63_0_1 <;> eq_refl; (first | assumption | exact trivial))
      | (apply WL_on0; eq_refl)
      | (apply X_pv; eq_refl; first | exact trivial | omega)
      | (apply X_field; eq_refl)
      | (apply X_loadR; eq_refl; (first | assumption | (apply Blk.alloc; assumption) | apply Blk.new | apply Blk.newA | (apply Blk.alloc; first | apply Blk.newA | (apply Blk.alloc; first | assumption | apply Blk.newA))); eq_refl)
      | (apply X_loadW; eq_refl; (first | assumption | (apply Blk.alloc; assumption) | apply Blk.new | apply Blk.newA | (apply Blk.alloc; first | apply Blk.newA | (apply Blk.alloc; first | assumption | apply Blk.newA))); eq_refl)
      | (apply X_loadC; eq_refl; (first | assumption | (apply cel; first | assumption | (apply cel; assumption))))
      | (apply X_cmpT; eq_refl; eq_refl; omega)
      | (apply X_cmpF; eq_refl; eq_refl; omega)
      | (apply X_cmp; eq_refl; eq_refl; all_goals intro _)
      | (apply X_index; eq_refl; eq_refl; omega; omega)
      | (apply X_indexP; eq_refl; eq_refl; omega; omega)
      | (apply X_fieldP; eq_refl)
      | (apply X_eqB; eq_refl; eq_refl)
      | (apply X_eqP; eq_refl; eq_refl)
      | (apply X_eqL; eq_refl; eq_refl)
      | (apply X_alloc)
      | (apply X_pure; apply build63_0_1 <;> eq_refl)
      | (apply X_does; apply buildS45_1 <;> eq_refl))
  clear hS
  have hls : ∀ l ∈ ([x.2.1, x.2.2] : List Int), 0 ≤ l ∧ l ≤ 2 * c.max + 1 := by
    intro l hl
    simp only [List.mem_cons, List.not_mem_nil, or_false] at hl
    rcases hl with rfl | rfl
    · exact ⟨hrx.1, hrx.2.1⟩
    · exact ⟨hrx.2.2.1, hrx.2.2.2⟩
  have eM : belowM t x = belowL t [x.2.1, x.2.2] := rfl
  have e27 : (#[nu x.2.1, nu x.2.2] : Array Value) = (([x.2.1, x.2.2] : List Int).map nu).toArray := rfl
  have l2 : ([x.2.1, x.2.2] : List Int).length = 2 := rfl
  refine WC_loop (fun s : Nat × Value => [(0, pt q), (5, s.2), (27, .agg (([x.2.1, x.2.2] : List Int).map nu).toArray), (28, nu s.1)])
    (fun s w1 => Chg w w1 none_ ∧ s.1 ≤ 2 ∧ w1.ownsRow w.heap.size 3 1 s.2 (belowL t (([x.2.1, x.2.2] : List Int).take s.1)).length ((belowL t (([x.2.1, x.2.2] : List Int).take s.1)).map nu)) (fun s => 2 - s.1) (0, .slice none 0 0) ⟨rfl, rfl, rfl, rfl, trivial⟩ ⟨Chg.drew w none_, by decide, World.ownsRow_nil _ _ _ _⟩ ?_
  generalize ([x.2.1, x.2.2] : List Int) = ls at *
  rintro ⟨k, v⟩ w1 ⟨hC1, hk, hrow⟩
  simp only at hk hrow
  rcases Nat.lt_or_ge k 2 with hlt | hge
  · have hkl : k < ls.length := by omega
    have hl := hls ls[k] (List.getElem_mem hkl)
    have htk := List.take_succ_eq_append_getElem hkl
    have hx27 : ((ls.map nu).toArray).toList[(k : Int).toNat]? = some (nu ls[k]) := by
      have e : (k : Int).toNat = k := by omega
      simp [e, hkl]
    have hsz := belowL_len t (ls.take k)
    rw [List.length_take, Nat.min_eq_left (by omega)] at hsz
    generalize hlk : ls[k] = l at *
    have hH1 := hH'.chg hC1 id
    have hT1 := H.tab.chg hC1 id
    have hcell := tab_cells hT1 (v := l / 2) (by omega) (by omega)
    repeat' (first
      | (apply X_indexArr; eq_refl; eq_refl; omega; omega; exact hx27)
      | (apply X_loadR; eq_refl; assumption; exact k11)
      | (apply X_loadA [nu (kindAt t (l / 2)), nu (atOf t (l / 2))]; eq_refl; eq_refl; exact hcell)
      | (apply WC_seqK; intro K hK)
      | (apply hK; clear hK)
      | (clear hK; apply hK; clear hK)
      | (clear hK; clear hK; apply hK; clear hK)
      | (clear hK; clear hK; clear hK; apply hK; clear hK)
      | (apply WC_block)
      | (apply WC_region)
      | (apply WL_nil)
      | (apply thenQ_normal)
      | (apply thenQ_ret)
      | (apply thenQ_exit)
      | (apply blockQ_hit)
      | (apply blockQ_miss; eq_refl)
      | (apply blockQ_ret)
      | (apply blockQ_normal)
      | (apply WC_ret)
      | (apply WC_exit)
      | (apply WC_skip)
      | (apply WC_if_true; eq_refl)
      | (apply WC_if_false; eq_refl)
      | (apply ret1; eq_refl)
      | (apply ret2; eq_refl; eq_refl)
      | (apply ret3; eq_refl; eq_refl; eq_refl)
      | (apply ret0)
      | (apply ret0n)
      | (apply WL_on0; eq_refl)
      | (apply X_pv; eq_refl; first | exact trivial | omega)
      | (apply X_field; eq_refl)
      | (apply X_loadR; eq_refl; (first | assumption | (apply Blk.alloc; assumption) | apply Blk.new | apply Blk.newA | (apply Blk.alloc; first | apply Blk.newA | (apply Blk.alloc; first | assumption | apply Blk.newA))); eq_refl)
      | (apply X_loadW; eq_refl; (first | assumption | (apply Blk.alloc; assumption) | apply Blk.new | apply Blk.newA | (apply Blk.alloc; first | apply Blk.newA | (apply Blk.alloc; first | assumption | apply Blk.newA))); eq_refl)
      | (apply X_loadC; eq_refl; (first | assumption | (apply cel; first | assumption | (apply cel; assumption))))
      | (apply X_cmpT; eq_refl; eq_refl; omega)
      | (apply X_cmpF; eq_refl; eq_refl; omega)
      | (apply X_cmp; eq_refl; eq_refl; all_goals intro _)
      | (apply X_index; eq_refl; eq_refl; omega; omega)
      | (apply X_indexP; eq_refl; eq_refl; omega; omega)
      | (apply X_fieldP; eq_refl)
      | (apply X_eqB; eq_refl; eq_refl)
      | (apply X_eqP; eq_refl; eq_refl)
      | (apply X_eqL; eq_refl; eq_refl)
      | (apply X_alloc)
      | (apply X_pure; apply build63_0_1 <;> eq_refl)
      | (apply X_does; apply buildS45_1 <;> eq_refl))
    refine X_doesU (does_storeA (vs := [nu (kindAt t (l / 2)), nu (atOf t (l / 2))]) (o := 0) (b := w1.heap.size) (by eq_refl) (by eq_refl) (Blk.newA w1 _ _) rfl (by exact Nat.le_refl 2) (by simp [Value.oneCell'])) ?_
    refine WL_turn (fun w2 => w2.ownsRow w.heap.size 3 1 v (belowL t (ls.take k)).length ((belowL t (ls.take k)).map nu) ∧ Blk w2 w1.heap.size 173 [nu (kindAt t (l / 2)), nu (atOf t (l / 2))] ∧ Chg w w2 none_ ∧ w1.heap.size < w2.heap.size) ?_ ?_
    · have hcc : Chg w1 ((w1.alloc (.cells #[nu 0, nu 0] 173)).setRow w1.heap.size [nu (kindAt t (l / 2)), nu (atOf t (l / 2))].toArray) none_ := (Chg.alloc w1 _ none_).trans (Chg.setRow _ w1.heap.size _ (S := fun k => k = w1.heap.size) rfl) fun k hk h => by omega
      exact ⟨own_chg hrow hcc fun _ _ => id, (Blk.newA w1 _ 173).set _, hC1.trans hcc fun _ _ h => h, by simp [World.setRow]⟩
    rintro w2 ⟨hrow2, hN2, hC2, hz2⟩
    repeat' (first
      | (apply WC_seqK; intro K hK)
      | (apply hK; clear hK)
      | (clear hK; apply hK; clear hK)
      | (clear hK; clear hK; apply hK; clear hK)
      | (clear hK; clear hK; clear hK; apply hK; clear hK)
      | (apply WC_block)
      | (apply WC_region)
      | (apply WL_nil)
      | (apply thenQ_normal)
      | (apply thenQ_ret)
      | (apply thenQ_exit)
      | (apply blockQ_hit)
      | (apply blockQ_miss; eq_refl)
      | (apply blockQ_ret)
      | (apply blockQ_normal)
      | (apply WC_ret)
      | (apply WC_exit)
      | (apply WC_skip)
      | (apply WC_if_true; eq_refl)
      | (apply WC_if_false; eq_refl)
      | (apply ret1; eq_refl)
      | (apply ret2; eq_refl; eq_refl)
      | (apply ret3; eq_refl; eq_refl; eq_refl)
      | (apply ret0)
      | (apply ret0n)
      | (apply WL_on0; eq_refl)
      | (apply X_pv; eq_refl; first | exact trivial | omega)
      | (apply X_field; eq_refl)
      | (apply X_loadR; eq_refl; (first | assumption | (apply Blk.alloc; assumption) | apply Blk.new | apply Blk.newA | (apply Blk.alloc; first | apply Blk.newA | (apply Blk.alloc; first | assumption | apply Blk.newA))); eq_refl)
      | (apply X_loadW; eq_refl; (first | assumption | (apply Blk.alloc; assumption) | apply Blk.new | apply Blk.newA | (apply Blk.alloc; first | apply Blk.newA | (apply Blk.alloc; first | assumption | apply Blk.newA))); eq_refl)
      | (apply X_loadC; eq_refl; (first | assumption | (apply cel; first | assumption | (apply cel; assumption))))
      | (apply X_cmpT; eq_refl; eq_refl; omega)
      | (apply X_cmpF; eq_refl; eq_refl; omega)
      | (apply X_cmp; eq_refl; eq_refl; all_goals intro _)
      | (apply X_index; eq_refl; eq_refl; omega; omega)
      | (apply X_indexP; eq_refl; eq_refl; omega; omega)
      | (apply X_fieldP; eq_refl)
      | (apply X_eqB; eq_refl; eq_refl)
      | (apply X_eqP; eq_refl; eq_refl)
      | (apply X_eqL; eq_refl; eq_refl)
      | (apply X_alloc)
      | (apply X_pure; apply build63_0_1 <;> eq_refl)
      | (apply X_does; apply buildS45_1 <;> eq_refl))
    · refine X_append w.heap.size (by eq_refl) (by eq_refl) (hrow2.alloc _) (Blk.newA w2 _ _) rfl rfl (by decide) (by simp [Value.oneCell']) (by omega) (by decide) (by have := hC2.size; simp; omega) ?_
      intro v' w3 hrow3 hC3 hown hnil
      have hC4 : Chg w w3 none_ := (hC2.al _).trans hC3 fun k hk hh => by have := (hrow2.lt k hh).1; omega
      repeat' (first
      | (apply WC_seqK; intro K hK)
      | (apply hK; clear hK)
      | (clear hK; apply hK; clear hK)
      | (clear hK; clear hK; apply hK; clear hK)
      | (clear hK; clear hK; clear hK; apply hK; clear hK)
      | (apply WC_block)
      | (apply WC_region)
      | (apply WL_nil)
      | (apply thenQ_normal)
      | (apply thenQ_ret)
      | (apply thenQ_exit)
      | (apply blockQ_hit)
      | (apply blockQ_miss; eq_refl)
      | (apply blockQ_ret)
      | (apply blockQ_normal)
      | (apply WC_ret)
      | (apply WC_exit)
      | (apply WC_skip)
      | (apply WC_if_true; eq_refl)
      | (apply WC_if_false; eq_refl)
      | (apply ret1; eq_refl)
      | (apply ret2; eq_refl; eq_refl)
      | (apply ret3; eq_refl; eq_refl; eq_refl)
      | (apply ret0)
      | (apply ret0n)
      | (apply WL_on0; eq_refl)
      | (apply X_pv; eq_refl; first | exact trivial | omega)
      | (apply X_field; eq_refl)
      | (apply X_loadR; eq_refl; (first | assumption | (apply Blk.alloc; assumption) | apply Blk.new | apply Blk.newA | (apply Blk.alloc; first | apply Blk.newA | (apply Blk.alloc; first | assumption | apply Blk.newA))); eq_refl)
      | (apply X_loadW; eq_refl; (first | assumption | (apply Blk.alloc; assumption) | apply Blk.new | apply Blk.newA | (apply Blk.alloc; first | apply Blk.newA | (apply Blk.alloc; first | assumption | apply Blk.newA))); eq_refl)
      | (apply X_loadC; eq_refl; (first | assumption | (apply cel; first | assumption | (apply cel; assumption))))
      | (apply X_cmpT; eq_refl; eq_refl; omega)
      | (apply X_cmpF; eq_refl; eq_refl; omega)
      | (apply X_cmp; eq_refl; eq_refl; all_goals intro _)
      | (apply X_index; eq_refl; eq_refl; omega; omega)
      | (apply X_indexP; eq_refl; eq_refl; omega; omega)
      | (apply X_fieldP; eq_refl)
      | (apply X_eqB; eq_refl; eq_refl)
      | (apply X_eqP; eq_refl; eq_refl)
      | (apply X_eqL; eq_refl; eq_refl)
      | (apply X_alloc)
      | (apply X_pure; apply build63_0_1 <;> eq_refl)
      | (apply X_does; apply buildS45_1 <;> eq_refl))
      refine ⟨(k + 1, v'), ⟨rfl, rfl, rfl, rfl, trivial⟩, ⟨hC4, hlt, ?_⟩, by simp only; omega⟩
      have e : belowL t (ls.take (k + 1)) = belowL t (ls.take k) ++ [atOf t (l / 2)] := by
        rw [htk, belowL_append]
        simp only [belowL]
        rw [if_pos (by assumption)]
      simp only [e, List.length_append, List.length_singleton, List.map_append, List.map_cons, List.map_nil]
      exact hrow3
    · refine ⟨(k + 1, v), ⟨rfl, rfl, rfl, rfl, trivial⟩, ⟨hC2, hlt, ?_⟩, by simp only; omega⟩
      have e : belowL t (ls.take (k + 1)) = belowL t (ls.take k) := by
        rw [htk, belowL_append]
        simp only [belowL]
        rw [if_neg (by assumption), List.append_nil]
      simp only [e]
      exact hrow2
  · repeat' (first
      | (apply WC_seqK; intro K hK)
      | (apply hK; clear hK)
      | (clear hK; apply hK; clear hK)
      | (clear hK; clear hK; apply hK; clear hK)
      | (clear hK; clear hK; clear hK; apply hK; clear hK)
      | (apply WC_block)
      | (apply WC_region)
      | (apply WL_nil)
      | (apply thenQ_normal)
      | (apply thenQ_ret)
      | (apply thenQ_exit)
      | (apply blockQ_hit)
      | (apply blockQ_miss; eq_refl)
      | (apply blockQ_ret)
      | (apply blockQ_normal)
      | (apply WC_ret)
      | (apply WC_exit)
      | (apply WC_skip)
      | (apply WC_if_true; eq_refl)
      | (apply WC_if_false; eq_refl)
      | (apply ret1; eq_refl)
      | (apply ret2; eq_refl; eq_refl)
      | (apply ret3; eq_refl; eq_refl; eq_refl)
      | (apply ret0)
      | (apply ret0n)
      | (apply WL_on0; eq_refl)
      | (apply X_pv; eq_refl; first | exact trivial | omega)
      | (apply X_field; eq_refl)
      | (apply X_loadR; eq_refl; (first | assumption | (apply Blk.alloc; assumption) | apply Blk.new | apply Blk.newA | (apply Blk.alloc; first | apply Blk.newA | (apply Blk.alloc; first | assumption | apply Blk.newA))); eq_refl)
      | (apply X_loadW; eq_refl; (first | assumption | (apply Blk.alloc; assumption) | apply Blk.new | apply Blk.newA | (apply Blk.alloc; first | apply Blk.newA | (apply Blk.alloc; first | assumption | apply Blk.newA))); eq_refl)
      | (apply X_loadC; eq_refl; (first | assumption | (apply cel; first | assumption | (apply cel; assumption))))
      | (apply X_cmpT; eq_refl; eq_refl; omega)
      | (apply X_cmpF; eq_refl; eq_refl; omega)
      | (apply X_cmp; eq_refl; eq_refl; all_goals intro _)
      | (apply X_index; eq_refl; eq_refl; omega; omega)
      | (apply X_indexP; eq_refl; eq_refl; omega; omega)
      | (apply X_fieldP; eq_refl)
      | (apply X_eqB; eq_refl; eq_refl)
      | (apply X_eqP; eq_refl; eq_refl)
      | (apply X_eqL; eq_refl; eq_refl)
      | (apply X_alloc)
      | (apply X_pure; apply build63_0_1 <;> eq_refl)
      | (apply X_does; apply buildS45_1 <;> eq_refl))
    rw [List.take_of_length_le (by omega)] at hrow
    rw [eM]
    exact ⟨hrow, hC1⟩
end SC
end Go.Proofs.Ytkndegjodnciaaa
