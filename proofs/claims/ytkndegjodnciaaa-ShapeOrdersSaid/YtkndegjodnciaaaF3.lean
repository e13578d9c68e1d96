/- shape: order, the walk. -/
import Derived.Test.YtkndegjodnciaaaF2
set_option linter.unusedVariables false
set_option linter.unusedSimpArgs false
namespace Go.Proofs.Ytkndegjodnciaaa
namespace SC
open Go.Proofs
attribute [local irreducible] WC WL WX WS WO OX Does DoesU Enters CV Pure thenQ blockQ retQ Wants
set_option maxRecDepth 100000
theorem order_cv {w : World} {q b : Nat} {c : Circ} {h js : Hd} {t : Tab} (H : Lk w q b c h js t) (O : LkOk c t) (hl : c.ands.length ≤ 16384)
    (hr : ∀ x ∈ c.ands, 0 ≤ x.2.1 ∧ x.2.1 ≤ 2 * c.max + 1 ∧ 0 ≤ x.2.2 ∧ x.2.2 ≤ 2 * c.max + 1) (hB : ∀ y, rg c.ands.length y → ∀ x ∈ gateB t c y, rg c.ands.length x) :
    CV Try.prog 83 [pt q] w fun v w' => ∃ out, All c.ands.length (gateB t c) out ∧ w'.ownsRow w.heap.size 3 1 v out.length (out.map nu) ∧ Chg w w' none_ := by
  have hH := H.head
  have hb2 : ∀ y, (gateB t c y).length ≤ 2 := fun y => belowL_len t _
  generalize hn : c.ands.length = n at *
  refine enter 113 [2] Try.func83 rfl rfl rfl (by decide) rfl ?_
  have h8 : (ccells c h ++ [Value.slice (some ⟨b, 0, none⟩) t.length t.length])[0 + 0 + 8]? = some (.slice (h 8).1 n (h 8).2) := by rw [← hn]; rfl
  repeat' (first
      | (apply X_loadR; eq_refl; assumption; exact h8)
      | (apply X_make; eq_refl; omega; omega)
      | (apply WC_seqK; intro K hK)
      | (apply hK; clear hK)
      | (clear hK; apply hK; clear hK)
      | (clear hK; clear hK; apply hK; clear hK)
      | (clear hK; clear hK; clear hK; apply hK; clear hK)
      | (apply WC_block)
      | (apply WC_region)
      | (apply WL_nil)
      | (apply thenQ_normal)
      | (apply thenQ_ret)
      | (apply thenQ_exit)
      | (apply blockQ_hit)
      | (apply blockQ_miss; eq_refl)
      | (apply blockQ_ret)
      | (apply blockQ_normal)
      | (apply WC_ret)
      | (apply WC_exit)
      | (apply WC_skip)
      | (apply WC_if_true; eq_refl)
      | (apply WC_if_false; eq_refl)
      | (apply ret1; eq_refl)
      | (apply ret2; eq_refl; eq_refl)
      | (apply ret3; eq_refl; eq_refl; eq_refl)
      | (apply ret0)
      | (apply ret0n)
      | (apply WL_on0; eq_refl)
      | (apply X_pv; eq_refl; first | exact trivial | omega)
      | (apply X_field; eq_refl)
      | (apply X_loadR; eq_refl; (first | assumption | (apply Blk.alloc; assumption) | apply Blk.new | apply Blk.newA | (apply Blk.alloc; first | apply Blk.newA | (apply Blk.alloc; first | assumption | apply Blk.newA))); eq_refl)
      | (apply X_loadW; eq_refl; (first | assumption | (apply Blk.alloc; assumption) | apply Blk.new | apply Blk.newA | (apply Blk.alloc; first | apply Blk.newA | (apply Blk.alloc; first | assumption | apply Blk.newA))); eq_refl)
      | (apply X_loadC; eq_refl; (first | assumption | (apply cel; first | assumption | (apply cel; assumption))))
      | (apply X_cmpT; eq_refl; eq_refl; omega)
      | (apply X_cmpF; eq_refl; eq_refl; omega)
      | (apply X_cmp; eq_refl; eq_refl; all_goals intro _)
      | (apply X_len; eq_refl)
      | (apply X_lenS; eq_refl)
      | (apply X_index; eq_refl; eq_refl; omega; omega)
      | (apply X_indexP; eq_refl; eq_refl; omega; omega)
      | (apply X_fieldP; eq_refl)
      | (apply X_eqB; eq_refl; eq_refl)
      | (apply X_eqP; eq_refl; eq_refl)
      | (apply X_eqL; eq_refl; eq_refl)
      | (apply X_alloc)
      | (apply X_does; apply buildS45_1 <;> eq_refl))
  refine WC_turn (fun w1 => Chg w w1 none_ ∧ Blk w1 w.heap.size 3 ((List.replicate n (0 : Int)).map nu) ∧ Blk w1 (w.heap.size + 1) 45 (List.replicate n (.slice none 0 0)) ∧ w1.heap.size = w.heap.size + 2) ?_ ?_
  · have e1 : (madeCells (Value.int .i64 0).cells (n * 1)).toList = (List.replicate n (0 : Int)).map nu := by rw [Nat.mul_one, show (Value.int .i64 0).cells = #[nu 0] from rfl, made_one, List.map_replicate]
    have e2 : (madeCells (Value.slice none 0 0).cells (n * 1)).toList = List.replicate n (Value.slice none 0 0) := by rw [Nat.mul_one, show (Value.slice none 0 0).cells = #[Value.slice none 0 0] from rfl, made_one]
    have h1 := Blk.newA w (madeCells (Value.int .i64 0).cells (n * 1)) 3
    have h2 := Blk.newA (w.alloc (.cells (madeCells (Value.int .i64 0).cells (n * 1)) 3)) (madeCells (Value.slice none 0 0).cells (n * 1)) 45
    have es : (w.alloc (.cells (madeCells (Value.int .i64 0).cells (n * 1)) 3)).heap.size = w.heap.size + 1 := by simp
    rw [e1] at h1
    rw [e2, es] at h2
    exact ⟨(Chg.alloc w _ none_).al _, h1.alloc _, h2, by simp⟩
  have es1 : (w.alloc (.cells (madeCells (Value.int .i64 0).cells (n * 1)) 3)).heap.size = w.heap.size + 1 := by simp
  rintro w1 ⟨hC1, hL1, hA1, hz1⟩
  refine WC_loop (fun s : Nat × List Int × List (List Int) × List Value => [(0, pt q), (3, nu n), (4, .slice (some ⟨w.heap.size, 0, none⟩) n n), (5, .slice (some ⟨w.heap.size + 1, 0, none⟩) n n), (26, nu n), (27, nu s.1)])
    (fun s w1 => Chg w w1 none_ ∧ Blk w1 w.heap.size 3 (s.2.1.map nu) ∧ Blk w1 (w.heap.size + 1) 45 s.2.2.2 ∧ Above w1 (w.heap.size + 2) s.2.2.2 s.2.2.1 ∧ In1 n (gateB t c) s.1 0 s.2.1 s.2.2.1 ∧ s.1 ≤ n) (fun s => n - s.1)
    (0, List.replicate n 0, List.replicate n [], List.replicate n (.slice none 0 0)) ⟨rfl, rfl, rfl, congrArg (fun k => some (Value.slice (some ⟨k, 0, none⟩) n n)) es1, rfl, rfl, trivial⟩ ⟨hC1, hL1, hA1, Above.init _ _ _, In1.init _ _, Nat.zero_le _⟩ ?_
  clear hL1 hA1 hC1 hz1
  rintro ⟨i, ls, av, vs⟩ w1 ⟨hC1, hL1, hA1, hV1, hI1, hi⟩
  simp only at hL1 hA1 hV1 hI1 hi
  rcases Nat.lt_or_ge i n with hlt | hge
  · have hcv := below_cv (i := i) (H.chg hC1) O (by omega) (by omega) hr
    rw [← gateB_at t c (by omega)] at hcv
    have hbl := hb2 i
    have hw1 := hA1.lt
    repeat' (first
      | (apply X_fn; eq_refl; exact hcv; rintro v w2 ⟨hrow, hC2⟩; obtain ⟨A, cc, rfl⟩ := row_form' hrow)
      | (apply WC_seqK; intro K hK)
      | (apply hK; clear hK)
      | (clear hK; apply hK; clear hK)
      | (clear hK; clear hK; apply hK; clear hK)
      | (clear hK; clear hK; clear hK; apply hK; clear hK)
      | (apply WC_block)
      | (apply WC_region)
      | (apply WL_nil)
      | (apply thenQ_normal)
      | (apply thenQ_ret)
      | (apply thenQ_exit)
      | (apply blockQ_hit)
      | (apply blockQ_miss; eq_refl)
      | (apply blockQ_ret)
      | (apply blockQ_normal)
      | (apply WC_ret)
      | (apply WC_exit)
      | (apply WC_skip)
      | (apply WC_if_true; eq_refl)
      | (apply WC_if_false; eq_refl)
      | (apply ret1; eq_refl)
      | (apply ret2; eq_refl; eq_refl)
      | (apply ret3; eq_refl; eq_refl; eq_refl)
      | (apply ret0)
      | (apply ret0n)
      | (apply WL_on0; eq_refl)
      | (apply X_pv; eq_refl; first | exact trivial | omega)
      | (apply X_field; eq_refl)
      | (apply X_loadR; eq_refl; (first | assumption | (apply Blk.alloc; assumption) | apply Blk.new | apply Blk.newA | (apply Blk.alloc; first | apply Blk.newA | (apply Blk.alloc; first | assumption | apply Blk.newA))); eq_refl)
      | (apply X_loadW; eq_refl; (first | assumption | (apply Blk.alloc; assumption) | apply Blk.new | apply Blk.newA | (apply Blk.alloc; first | apply Blk.newA | (apply Blk.alloc; first | assumption | apply Blk.newA))); eq_refl)
      | (apply X_loadC; eq_refl; (first | assumption | (apply cel; first | assumption | (apply cel; assumption))))
      | (apply X_cmpT; eq_refl; eq_refl; omega)
      | (apply X_cmpF; eq_refl; eq_refl; omega)
      | (apply X_cmp; eq_refl; eq_refl; all_goals intro _)
      | (apply X_len; eq_refl)
      | (apply X_lenS; eq_refl)
      | (apply X_index; eq_refl; eq_refl; omega; omega)
      | (apply X_indexP; eq_refl; eq_refl; omega; omega)
      | (apply X_fieldP; eq_refl)
      | (apply X_eqB; eq_refl; eq_refl)
      | (apply X_eqP; eq_refl; eq_refl)
      | (apply X_eqL; eq_refl; eq_refl)
      | (apply X_alloc)
      | (apply X_does; apply buildS45_1 <;> eq_refl))
    have hI1' := hI1
    refine WC_loop (fun s : Nat × List Int × List (List Int) × List Value => [(0, pt q), (3, nu n), (4, .slice (some ⟨w.heap.size, 0, none⟩) n n), (5, .slice (some ⟨w.heap.size + 1, 0, none⟩) n n), (6, nu i), (26, nu n), (27, nu i), (32, .slice A (gateB t c i).length cc), (33, nu (gateB t c i).length), (34, nu s.1)])
      (fun s w3 => Chg w w3 none_ ∧ w3.ownsRow w1.heap.size 3 1 (.slice A (gateB t c i).length cc) (gateB t c i).length ((gateB t c i).map nu) ∧ Blk w3 w.heap.size 3 (s.2.1.map nu) ∧ Blk w3 (w.heap.size + 1) 45 s.2.2.2 ∧ Above w3 (w.heap.size + 2) s.2.2.2 s.2.2.1 ∧
        (∀ (x : Nat) (v : Value) (k : Nat), s.2.2.2[x]? = some v → v.ownBlock = some k → (Value.slice A (gateB t c i).length cc).ownBlock ≠ some k) ∧ In1 n (gateB t c) i s.1 s.2.1 s.2.2.1 ∧ s.1 ≤ (gateB t c i).length) (fun s => (gateB t c i).length - s.1)
      (0, ls, av, vs) ⟨rfl, rfl, rfl, rfl, rfl, rfl, rfl, rfl, rfl, rfl, trivial⟩ ⟨hC1.trans hC2 fun _ _ h => h, hrow, hL1.chg hC2 id, hA1.chg hC2 id, hV1.chg hC2 fun _ _ _ _ _ => id, fun x v k hx hk hh => by have := (hV1.lt hx hk).2; have := (hrow.lt k hh).1; omega, hI1, Nat.zero_le _⟩ ?_
    clear hI1 hL1 hA1 hV1 hcv hrow
    rintro ⟨k, ls, av, vs⟩ w3 ⟨hC3, hrow, hL3, hA3, hV3, hap, hI3, hk⟩
    simp only at hL3 hA3 hV3 hI3 hk hap
    rcases Nat.lt_or_ge k (gateB t c i).length with hkl | hkg
    · obtain ⟨p, rfl, hpc⟩ := (rowI hrow).one hkl (v := nu (gateB t c i)[k]) rfl
      have hxr := hB i ⟨by omega, by omega⟩ _ (List.getElem_mem hkl)
      have hst := hI3.step hlt hkl (hB i ⟨by omega, by omega⟩)
      have hbig := hI3.big _ hxr
      generalize hx : (gateB t c i)[k] = x at *
      have hri : rg n (i : Int) := ⟨by omega, by omega⟩
      have hLi := L_cell (ls := ls) (y := i) (by rw [hI3.l1]; exact hri)
      have hLk := hI3.low i hri
      rw [if_neg (by omega), if_pos rfl] at hLk
      have hAx := A_get (av := av) (x := x) (by rw [hI3.l2]; exact hxr)
      have hxv : x.toNat < vs.length := by have := hV3.len; have := hI3.l2; have h3 := hxr; unfold rg at h3; omega
      have hvx : vs[0 + x.toNat * 1]? = some vs[x.toNat] := by rw [Nat.zero_add, Nat.mul_one]; exact List.getElem?_eq_getElem hxv
      have hvx' : vs[x.toNat]? = some vs[x.toNat] := List.getElem?_eq_getElem hxv
      generalize hvv : vs[x.toNat] = vx at *
      have hxr' := hxr
      unfold rg at hxr'
      repeat' (first
      | (apply X_loadR; eq_refl; exact hL3; exact hLi)
      | (apply X_loadR; eq_refl; exact hA3; exact hvx)
      | (apply WC_seqK; intro K hK)
      | (apply hK; clear hK)
      | (clear hK; apply hK; clear hK)
      | (clear hK; clear hK; apply hK; clear hK)
      | (clear hK; clear hK; clear hK; apply hK; clear hK)
      | (apply WC_block)
      | (apply WC_region)
      | (apply WL_nil)
      | (apply thenQ_normal)
      | (apply thenQ_ret)
      | (apply thenQ_exit)
      | (apply blockQ_hit)
      | (apply blockQ_miss; eq_refl)
      | (apply blockQ_ret)
      | (apply blockQ_normal)
      | (apply WC_ret)
      | (apply WC_exit)
      | (apply WC_skip)
      | (apply WC_if_true; eq_refl)
      | (apply WC_if_false; eq_refl)
      | (apply ret1; eq_refl)
      | (apply ret2; eq_refl; eq_refl)
      | (apply ret3; eq_refl; eq_refl; eq_refl)
      | (apply ret0)
      | (apply ret0n)
      | (apply WL_on0; eq_refl)
      | (apply X_pv; eq_refl; first | exact trivial | omega)
      | (apply X_field; eq_refl)
      | (apply X_loadR; eq_refl; (first | assumption | (apply Blk.alloc; assumption) | apply Blk.new | apply Blk.newA | (apply Blk.alloc; first | apply Blk.newA | (apply Blk.alloc; first | assumption | apply Blk.newA))); eq_refl)
      | (apply X_loadW; eq_refl; (first | assumption | (apply Blk.alloc; assumption) | apply Blk.new | apply Blk.newA | (apply Blk.alloc; first | apply Blk.newA | (apply Blk.alloc; first | assumption | apply Blk.newA))); eq_refl)
      | (apply X_loadC; eq_refl; (first | assumption | (apply cel; first | assumption | (apply cel; assumption))))
      | (apply X_cmpT; eq_refl; eq_refl; omega)
      | (apply X_cmpF; eq_refl; eq_refl; omega)
      | (apply X_cmp; eq_refl; eq_refl; all_goals intro _)
      | (apply X_len; eq_refl)
      | (apply X_lenS; eq_refl)
      | (apply X_index; eq_refl; eq_refl; omega; omega)
      | (apply X_indexP; eq_refl; eq_refl; omega; omega)
      | (apply X_fieldP; eq_refl)
      | (apply X_eqB; eq_refl; eq_refl)
      | (apply X_eqP; eq_refl; eq_refl)
      | (apply X_eqL; eq_refl; eq_refl)
      | (apply X_alloc)
      | (apply X_does; apply buildS45_1 <;> eq_refl))
      have hll := hI3.l1
      refine X_doesU (does_store1 (b := w.heap.size) (o := 0 + (i : Int).toNat * 1) (v := nu (L ls i + 1)) (by eq_refl) (by eq_refl) hL3 (by simp; omega) rfl rfl) ?_
      refine WL_turn (fun w4 => Chg w w4 none_ ∧ w4.ownsRow w1.heap.size 3 1 (.slice (some p) (gateB t c i).length cc) (gateB t c i).length ((gateB t c i).map nu) ∧ Blk w4 w.heap.size 3 ((ls.set i (L ls i + 1)).map nu) ∧ Blk w4 (w.heap.size + 1) 45 vs ∧ Above w4 (w.heap.size + 2) vs av ∧ w4.heap.size = w3.heap.size) ?_ ?_
      · have hcc : Chg w3 (w3.setRow w.heap.size ((ls.map nu).set (0 + (i : Int).toNat * 1) (nu (L ls i + 1))).toArray) (fun k => k = w.heap.size) := Chg.setRow _ _ _ rfl
        refine ⟨hC3.trans hcc fun k hk hh => by omega, own_chg hrow hcc fun k hk hh => by have := (hrow.lt k hk).1; omega, ?_, hA3.chg hcc (by omega), hV3.chg hcc fun x v k hx hk hh => by have := (hV3.lt hx hk).1; omega, by simp [World.setRow]⟩
        have := hL3.set ((ls.map nu).set (0 + (i : Int).toNat * 1) (nu (L ls i + 1)))
        rw [set_nu, Nat.zero_add, Nat.mul_one, Int.toNat_natCast] at this
        rw [set_nu, Nat.zero_add, Nat.mul_one, Int.toNat_natCast]
        exact this
      rintro w4 ⟨hC4, hrow4, hL4, hA4, hV4, hz4⟩
      repeat' (first
      | (apply X_loadR; eq_refl; exact hA4; exact hvx)
      | (apply WC_seqK; intro K hK)
      | (apply hK; clear hK)
      | (clear hK; apply hK; clear hK)
      | (clear hK; clear hK; apply hK; clear hK)
      | (clear hK; clear hK; clear hK; apply hK; clear hK)
      | (apply WC_block)
      | (apply WC_region)
      | (apply WL_nil)
      | (apply thenQ_normal)
      | (apply thenQ_ret)
      | (apply thenQ_exit)
      | (apply blockQ_hit)
      | (apply blockQ_miss; eq_refl)
      | (apply blockQ_ret)
      | (apply blockQ_normal)
      | (apply WC_ret)
      | (apply WC_exit)
      | (apply WC_skip)
      | (apply WC_if_true; eq_refl)
      | (apply WC_if_false; eq_refl)
      | (apply ret1; eq_refl)
      | (apply ret2; eq_refl; eq_refl)
      | (apply ret3; eq_refl; eq_refl; eq_refl)
      | (apply ret0)
      | (apply ret0n)
      | (apply WL_on0; eq_refl)
      | (apply X_pv; eq_refl; first | exact trivial | omega)
      | (apply X_field; eq_refl)
      | (apply X_loadR; eq_refl; (first | assumption | (apply Blk.alloc; assumption) | apply Blk.new | apply Blk.newA | (apply Blk.alloc; first | apply Blk.newA | (apply Blk.alloc; first | assumption | apply Blk.newA))); eq_refl)
      | (apply X_loadW; eq_refl; (first | assumption | (apply Blk.alloc; assumption) | apply Blk.new | apply Blk.newA | (apply Blk.alloc; first | apply Blk.newA | (apply Blk.alloc; first | assumption | apply Blk.newA))); eq_refl)
      | (apply X_loadC; eq_refl; (first | assumption | (apply cel; first | assumption | (apply cel; assumption))))
      | (apply X_cmpT; eq_refl; eq_refl; omega)
      | (apply X_cmpF; eq_refl; eq_refl; omega)
      | (apply X_cmp; eq_refl; eq_refl; all_goals intro _)
      | (apply X_len; eq_refl)
      | (apply X_lenS; eq_refl)
      | (apply X_index; eq_refl; eq_refl; omega; omega)
      | (apply X_indexP; eq_refl; eq_refl; omega; omega)
      | (apply X_fieldP; eq_refl)
      | (apply X_eqB; eq_refl; eq_refl)
      | (apply X_eqP; eq_refl; eq_refl)
      | (apply X_eqL; eq_refl; eq_refl)
      | (apply X_alloc)
      | (apply X_does; apply buildS45_1 <;> eq_refl))
      have hrowx := hV4.rows x.toNat vx (SC.A av x) hvx' hAx
      refine X_append (w.heap.size + 2) (by eq_refl) (by eq_refl) (hrowx.alloc _) (Blk.newA w4 _ _) rfl rfl (by decide) (by simp [Value.oneCell']) (by omega) (by decide) (by have := hA4.lt; simp; omega) ?_
      intro v' w5 hrow5 hC5 hown5 _
      obtain ⟨A', c', rfl⟩ := row_form' hrow5
      have hA5 : Blk w5 (w.heap.size + 1) 45 vs := (hA4.alloc _).chg hC5 fun hh => by have := (hV4.lt hvx' hh).1; omega
      repeat' (first
      | (apply WC_seqK; intro K hK)
      | (apply hK; clear hK)
      | (clear hK; apply hK; clear hK)
      | (clear hK; clear hK; apply hK; clear hK)
      | (clear hK; clear hK; clear hK; apply hK; clear hK)
      | (apply WC_block)
      | (apply WC_region)
      | (apply WL_nil)
      | (apply thenQ_normal)
      | (apply thenQ_ret)
      | (apply thenQ_exit)
      | (apply blockQ_hit)
      | (apply blockQ_miss; eq_refl)
      | (apply blockQ_ret)
      | (apply blockQ_normal)
      | (apply WC_ret)
      | (apply WC_exit)
      | (apply WC_skip)
      | (apply WC_if_true; eq_refl)
      | (apply WC_if_false; eq_refl)
      | (apply ret1; eq_refl)
      | (apply ret2; eq_refl; eq_refl)
      | (apply ret3; eq_refl; eq_refl; eq_refl)
      | (apply ret0)
      | (apply ret0n)
      | (apply WL_on0; eq_refl)
      | (apply X_pv; eq_refl; first | exact trivial | omega)
      | (apply X_field; eq_refl)
      | (apply X_loadR; eq_refl; (first | assumption | (apply Blk.alloc; assumption) | apply Blk.new | apply Blk.newA | (apply Blk.alloc; first | apply Blk.newA | (apply Blk.alloc; first | assumption | apply Blk.newA))); eq_refl)
      | (apply X_loadW; eq_refl; (first | assumption | (apply Blk.alloc; assumption) | apply Blk.new | apply Blk.newA | (apply Blk.alloc; first | apply Blk.newA | (apply Blk.alloc; first | assumption | apply Blk.newA))); eq_refl)
      | (apply X_loadC; eq_refl; (first | assumption | (apply cel; first | assumption | (apply cel; assumption))))
      | (apply X_cmpT; eq_refl; eq_refl; omega)
      | (apply X_cmpF; eq_refl; eq_refl; omega)
      | (apply X_cmp; eq_refl; eq_refl; all_goals intro _)
      | (apply X_len; eq_refl)
      | (apply X_lenS; eq_refl)
      | (apply X_index; eq_refl; eq_refl; omega; omega)
      | (apply X_indexP; eq_refl; eq_refl; omega; omega)
      | (apply X_fieldP; eq_refl)
      | (apply X_eqB; eq_refl; eq_refl)
      | (apply X_eqP; eq_refl; eq_refl)
      | (apply X_eqL; eq_refl; eq_refl)
      | (apply X_alloc)
      | (apply X_does; apply buildS45_1 <;> eq_refl))
      refine X_doesU (does_store1 (b := w.heap.size + 1) (o := 0 + x.toNat * 1) (by eq_refl) (by eq_refl) hA5 (by simp; omega) rfl rfl) ?_
      have hset : vs.set (0 + x.toNat * 1) (Value.slice A' ((SC.A av x).length + 1) c') = vs.set x.toNat (Value.slice A' ((SC.A av x).length + 1) c') := by rw [Nat.zero_add, Nat.mul_one]
      rw [hset]
      have hcc5 : Chg w5 (w5.setRow (w.heap.size + 1) (vs.set x.toNat (Value.slice A' ((SC.A av x).length + 1) c')).toArray) (fun k => k = w.heap.size + 1) := Chg.setRow _ _ _ rfl
      have hV5 : Above w5 (w.heap.size + 2) (vs.set x.toNat (Value.slice A' ((SC.A av x).length + 1) c')) (av.set x.toNat (SC.A av x ++ [(i : Int)])) :=
        (hV4.chg (Chg.alloc _ _ none_) fun _ _ _ _ _ => id).set hvx' hAx (by simpa using hrow5) hC5 hown5
      have hrA := hrow4.lt
      have hrow6 := own_chg (own_chg (hrow4.alloc (.cells #[nu i] 3)) hC5 fun k hk hh => hap x.toNat vx k hvx' hh hk) hcc5 fun k hk hh => by have := (hrA k hk).1; omega
      have hL6 := ((hL4.alloc (.cells #[nu i] 3)).chg hC5 fun hh => by have := (hV4.lt hvx' hh).1; omega).chg hcc5 (by omega)
      have hA6 := hA5.set (vs.set x.toNat (Value.slice A' ((SC.A av x).length + 1) c'))
      have hV6 := hV5.chg hcc5 fun y v k hy hk hh => by have := (hV5.lt hy hk).1; omega
      have hC6 : Chg w (w5.setRow (w.heap.size + 1) (vs.set x.toNat (Value.slice A' ((SC.A av x).length + 1) c')).toArray) none_ := ((hC4.al (.cells #[nu i] 3)).trans hC5 fun k hk hh => by have := (hV4.lt hvx' hh).1; omega).trans hcc5 fun k hk hh => by omega
      generalize w5.setRow (w.heap.size + 1) (vs.set x.toNat (Value.slice A' ((SC.A av x).length + 1) c')).toArray = w6 at *
      repeat' (first
      | (apply WC_seqK; intro K hK)
      | (apply hK; clear hK)
      | (clear hK; apply hK; clear hK)
      | (clear hK; clear hK; apply hK; clear hK)
      | (clear hK; clear hK; clear hK; apply hK; clear hK)
      | (apply WC_block)
      | (apply WC_region)
      | (apply WL_nil)
      | (apply thenQ_normal)
      | (apply thenQ_ret)
      | (apply thenQ_exit)
      | (apply blockQ_hit)
      | (apply blockQ_miss; eq_refl)
      | (apply blockQ_ret)
      | (apply blockQ_normal)
      | (apply WC_ret)
      | (apply WC_exit)
      | (apply WC_skip)
      | (apply WC_if_true; eq_refl)
      | (apply WC_if_false; eq_refl)
      | (apply ret1; eq_refl)
      | (apply ret2; eq_refl; eq_refl)
      | (apply ret3; eq_refl; eq_refl; eq_refl)
      | (apply ret0)
      | (apply ret0n)
      | (apply WL_on0; eq_refl)
      | (apply X_pv; eq_refl; first | exact trivial | omega)
      | (apply X_field; eq_refl)
      | (apply X_loadR; eq_refl; (first | assumption | (apply Blk.alloc; assumption) | apply Blk.new | apply Blk.newA | (apply Blk.alloc; first | apply Blk.newA | (apply Blk.alloc; first | assumption | apply Blk.newA))); eq_refl)
      | (apply X_loadW; eq_refl; (first | assumption | (apply Blk.alloc; assumption) | apply Blk.new | apply Blk.newA | (apply Blk.alloc; first | apply Blk.newA | (apply Blk.alloc; first | assumption | apply Blk.newA))); eq_refl)
      | (apply X_loadC; eq_refl; (first | assumption | (apply cel; first | assumption | (apply cel; assumption))))
      | (apply X_cmpT; eq_refl; eq_refl; omega)
      | (apply X_cmpF; eq_refl; eq_refl; omega)
      | (apply X_cmp; eq_refl; eq_refl; all_goals intro _)
      | (apply X_len; eq_refl)
      | (apply X_lenS; eq_refl)
      | (apply X_index; eq_refl; eq_refl; omega; omega)
      | (apply X_indexP; eq_refl; eq_refl; omega; omega)
      | (apply X_fieldP; eq_refl)
      | (apply X_eqB; eq_refl; eq_refl)
      | (apply X_eqP; eq_refl; eq_refl)
      | (apply X_eqL; eq_refl; eq_refl)
      | (apply X_alloc)
      | (apply X_does; apply buildS45_1 <;> eq_refl))
      refine ⟨(k + 1, ls.set i (L ls i + 1), av.set x.toNat (SC.A av x ++ [(i : Int)]), vs.set x.toNat (Value.slice A' ((SC.A av x).length + 1) c')), ⟨rfl, rfl, rfl, rfl, rfl, rfl, rfl, rfl, rfl, rfl, trivial⟩, ⟨hC6, hrow6, hL6, hA6, hV6, ?_, hst, hkl⟩, by simp only; omega⟩
      intro y v k hy hk hh
      have hk1 := (hrA k hh).2
      simp only at hy
      rw [List.getElem?_set] at hy
      split at hy
      · cases hy
        rcases hown5 with ho | ho
        · exact hap x.toNat vx k hvx' (ho ▸ hk) hh
        · rw [hk] at ho
          have es : (w4.alloc (.cells #[nu i] 3)).heap.size = w4.heap.size + 1 := by simp
          have := Option.some.inj ho
          have hk2 : k < (w4.alloc (.cells #[nu i] 3)).heap.size := by omega
          first | omega | (simp at this; omega)
      · exact hap y v k hy hk hh
    · obtain rfl : k = (gateB t c i).length := by omega
      repeat' (first
      | (apply WC_seqK; intro K hK)
      | (apply hK; clear hK)
      | (clear hK; apply hK; clear hK)
      | (clear hK; clear hK; apply hK; clear hK)
      | (clear hK; clear hK; clear hK; apply hK; clear hK)
      | (apply WC_block)
      | (apply WC_region)
      | (apply WL_nil)
      | (apply thenQ_normal)
      | (apply thenQ_ret)
      | (apply thenQ_exit)
      | (apply blockQ_hit)
      | (apply blockQ_miss; eq_refl)
      | (apply blockQ_ret)
      | (apply blockQ_normal)
      | (apply WC_ret)
      | (apply WC_exit)
      | (apply WC_skip)
      | (apply WC_if_true; eq_refl)
      | (apply WC_if_false; eq_refl)
      | (apply ret1; eq_refl)
      | (apply ret2; eq_refl; eq_refl)
      | (apply ret3; eq_refl; eq_refl; eq_refl)
      | (apply ret0)
      | (apply ret0n)
      | (apply WL_on0; eq_refl)
      | (apply X_pv; eq_refl; first | exact trivial | omega)
      | (apply X_field; eq_refl)
      | (apply X_loadR; eq_refl; (first | assumption | (apply Blk.alloc; assumption) | apply Blk.new | apply Blk.newA | (apply Blk.alloc; first | apply Blk.newA | (apply Blk.alloc; first | assumption | apply Blk.newA))); eq_refl)
      | (apply X_loadW; eq_refl; (first | assumption | (apply Blk.alloc; assumption) | apply Blk.new | apply Blk.newA | (apply Blk.alloc; first | apply Blk.newA | (apply Blk.alloc; first | assumption | apply Blk.newA))); eq_refl)
      | (apply X_loadC; eq_refl; (first | assumption | (apply cel; first | assumption | (apply cel; assumption))))
      | (apply X_cmpT; eq_refl; eq_refl; omega)
      | (apply X_cmpF; eq_refl; eq_refl; omega)
      | (apply X_cmp; eq_refl; eq_refl; all_goals intro _)
      | (apply X_len; eq_refl)
      | (apply X_lenS; eq_refl)
      | (apply X_index; eq_refl; eq_refl; omega; omega)
      | (apply X_indexP; eq_refl; eq_refl; omega; omega)
      | (apply X_fieldP; eq_refl)
      | (apply X_eqB; eq_refl; eq_refl)
      | (apply X_eqP; eq_refl; eq_refl)
      | (apply X_eqL; eq_refl; eq_refl)
      | (apply X_alloc)
      | (apply X_does; apply buildS45_1 <;> eq_refl))
      exact ⟨(i + 1, ls, av, vs), ⟨rfl, rfl, rfl, rfl, rfl, rfl, trivial⟩, ⟨hC3, hL3, hA3, hV3, hI3.close hlt hbl, hlt⟩, by simp only; omega⟩
  · obtain rfl : i = n := by omega
    repeat' (first
      | (apply WC_seqK; intro K hK)
      | (apply hK; clear hK)
      | (clear hK; apply hK; clear hK)
      | (clear hK; clear hK; apply hK; clear hK)
      | (clear hK; clear hK; clear hK; apply hK; clear hK)
      | (apply WC_block)
      | (apply WC_region)
      | (apply WL_nil)
      | (apply thenQ_normal)
      | (apply thenQ_ret)
      | (apply thenQ_exit)
      | (apply blockQ_hit)
      | (apply blockQ_miss; eq_refl)
      | (apply blockQ_ret)
      | (apply blockQ_normal)
      | (apply WC_ret)
      | (apply WC_exit)
      | (apply WC_skip)
      | (apply WC_if_true; eq_refl)
      | (apply WC_if_false; eq_refl)
      | (apply ret1; eq_refl)
      | (apply ret2; eq_refl; eq_refl)
      | (apply ret3; eq_refl; eq_refl; eq_refl)
      | (apply ret0)
      | (apply ret0n)
      | (apply WL_on0; eq_refl)
      | (apply X_pv; eq_refl; first | exact trivial | omega)
      | (apply X_field; eq_refl)
      | (apply X_loadR; eq_refl; (first | assumption | (apply Blk.alloc; assumption) | apply Blk.new | apply Blk.newA | (apply Blk.alloc; first | apply Blk.newA | (apply Blk.alloc; first | assumption | apply Blk.newA))); eq_refl)
      | (apply X_loadW; eq_refl; (first | assumption | (apply Blk.alloc; assumption) | apply Blk.new | apply Blk.newA | (apply Blk.alloc; first | apply Blk.newA | (apply Blk.alloc; first | assumption | apply Blk.newA))); eq_refl)
      | (apply X_loadC; eq_refl; (first | assumption | (apply cel; first | assumption | (apply cel; assumption))))
      | (apply X_cmpT; eq_refl; eq_refl; omega)
      | (apply X_cmpF; eq_refl; eq_refl; omega)
      | (apply X_cmp; eq_refl; eq_refl; all_goals intro _)
      | (apply X_len; eq_refl)
      | (apply X_lenS; eq_refl)
      | (apply X_index; eq_refl; eq_refl; omega; omega)
      | (apply X_indexP; eq_refl; eq_refl; omega; omega)
      | (apply X_fieldP; eq_refl)
      | (apply X_eqB; eq_refl; eq_refl)
      | (apply X_eqP; eq_refl; eq_refl)
      | (apply X_eqL; eq_refl; eq_refl)
      | (apply X_alloc)
      | (apply X_does; apply buildS45_1 <;> eq_refl))
    refine X_pure (p_makeFunc (vs := [pt w1.heap.size]) rfl) ?_
    repeat' (first
      | (apply WC_seqK; intro K hK)
      | (apply hK; clear hK)
      | (clear hK; apply hK; clear hK)
      | (clear hK; clear hK; apply hK; clear hK)
      | (clear hK; clear hK; clear hK; apply hK; clear hK)
      | (apply WC_block)
      | (apply WC_region)
      | (apply WL_nil)
      | (apply thenQ_normal)
      | (apply thenQ_ret)
      | (apply thenQ_exit)
      | (apply blockQ_hit)
      | (apply blockQ_miss; eq_refl)
      | (apply blockQ_ret)
      | (apply blockQ_normal)
      | (apply WC_ret)
      | (apply WC_exit)
      | (apply WC_skip)
      | (apply WC_if_true; eq_refl)
      | (apply WC_if_false; eq_refl)
      | (apply ret1; eq_refl)
      | (apply ret2; eq_refl; eq_refl)
      | (apply ret3; eq_refl; eq_refl; eq_refl)
      | (apply ret0)
      | (apply ret0n)
      | (apply WL_on0; eq_refl)
      | (apply X_pv; eq_refl; first | exact trivial | omega)
      | (apply X_field; eq_refl)
      | (apply X_loadR; eq_refl; (first | assumption | (apply Blk.alloc; assumption) | apply Blk.new | apply Blk.newA | (apply Blk.alloc; first | apply Blk.newA | (apply Blk.alloc; first | assumption | apply Blk.newA))); eq_refl)
      | (apply X_loadW; eq_refl; (first | assumption | (apply Blk.alloc; assumption) | apply Blk.new | apply Blk.newA | (apply Blk.alloc; first | apply Blk.newA | (apply Blk.alloc; first | assumption | apply Blk.newA))); eq_refl)
      | (apply X_loadC; eq_refl; (first | assumption | (apply cel; first | assumption | (apply cel; assumption))))
      | (apply X_cmpT; eq_refl; eq_refl; omega)
      | (apply X_cmpF; eq_refl; eq_refl; omega)
      | (apply X_cmp; eq_refl; eq_refl; all_goals intro _)
      | (apply X_len; eq_refl)
      | (apply X_lenS; eq_refl)
      | (apply X_index; eq_refl; eq_refl; omega; omega)
      | (apply X_indexP; eq_refl; eq_refl; omega; omega)
      | (apply X_fieldP; eq_refl)
      | (apply X_eqB; eq_refl; eq_refl)
      | (apply X_eqP; eq_refl; eq_refl)
      | (apply X_eqL; eq_refl; eq_refl)
      | (apply X_alloc)
      | (apply X_does; apply buildS45_1 <;> eq_refl))
    obtain ⟨hlaid, hlen0⟩ := hI1.laid
    have hw1 := hA1.lt
    have hM1 : OrdMem (w1.alloc (.cells (Value.slice none 0 0).cells 45)) w.heap.size (w.heap.size + 1) w1.heap.size (w.heap.size + 2) ls vs av (.slice none 0 0) [] :=
      ⟨hL1.alloc _, hA1.alloc _, hV1.chg (Chg.alloc _ _ none_) fun _ _ _ _ _ => id, Blk.newA w1 _ _, World.ownsRow_nil _ _ _ _, fun x u k hx hk => (hV1.lt hx hk).2, by omega, by omega, by omega, by omega⟩
    have hC2 : Chg w (w1.alloc (.cells (Value.slice none 0 0).cells 45)) none_ := hC1.al _
    generalize hrb : w1.heap.size = rb at *
    generalize w1.alloc (.cells (Value.slice none 0 0).cells 45) = w2 at *
    refine WC_loop (fun s : Nat × List Int × Value => [(4, .slice (some ⟨w.heap.size, 0, none⟩) i i), (5, .slice (some ⟨w.heap.size + 1, 0, none⟩) i i), (9, pt rb), (10, .func (.func 139) #[] #[pt rb]), (57, nu i), (58, nu s.1)])
      (fun s w' => Chg w w' none_ ∧ OrdMem w' w.heap.size (w.heap.size + 1) rb (w.heap.size + 2) ls vs av s.2.2 s.2.1 ∧ In2 i ls s.1 s.2.1 ∧ s.1 ≤ i) (fun s => i - s.1)
      (0, [], .slice none 0 0) ⟨rfl, rfl, rfl, rfl, rfl, rfl, trivial⟩ ⟨hC2, hM1, In2.init _ _, Nat.zero_le _⟩ ?_
    rintro ⟨k, qs, v⟩ w3 ⟨hC3, hM3, hI2, hk⟩
    simp only at hM3 hI2 hk
    have hqs : ∀ y ∈ qs, 0 ≤ y ∧ y ≤ 100000 := fun y hy => by have := ((hI2.mem y).1 hy).1; unfold rg at this; omega
    have hqn : qs.length ≤ 16384 := by have := nodup_size i qs hI2.desc.nodup fun y hy => ((hI2.mem y).1 hy).1; omega
    have hL3 := hM3.lack
    rcases Nat.lt_or_ge k i with hlt | hge
    · have hki : rg i (k : Int) := ⟨by omega, by omega⟩
      have hLi := L_cell (ls := ls) (y := k) (by rw [hI1.l1]; exact hki)
      have hpc := push_cv (x := k) hM3.rdy hM3.row (by have := hM3.rdy.lt; omega) (by omega) ⟨by omega, by omega⟩ hqs hI2.desc.le
      repeat' (first
      | (apply X_loadR; eq_refl; exact hL3; exact hLi)
      | (apply X_clo (f := 139); eq_refl; eq_refl; exact hpc; rintro _ w4 ⟨v', hb4, hrow4, hC4, hown4⟩)
      | (apply WC_seqK; intro K hK)
      | (apply hK; clear hK)
      | (clear hK; apply hK; clear hK)
      | (clear hK; clear hK; apply hK; clear hK)
      | (clear hK; clear hK; clear hK; apply hK; clear hK)
      | (apply WC_block)
      | (apply WC_region)
      | (apply WL_nil)
      | (apply thenQ_normal)
      | (apply thenQ_ret)
      | (apply thenQ_exit)
      | (apply blockQ_hit)
      | (apply blockQ_miss; eq_refl)
      | (apply blockQ_ret)
      | (apply blockQ_normal)
      | (apply WC_ret)
      | (apply WC_exit)
      | (apply WC_skip)
      | (apply WC_if_true; eq_refl)
      | (apply WC_if_false; eq_refl)
      | (apply ret1; eq_refl)
      | (apply ret2; eq_refl; eq_refl)
      | (apply ret3; eq_refl; eq_refl; eq_refl)
      | (apply ret0)
      | (apply ret0n)
      | (apply WL_on0; eq_refl)
      | (apply X_pv; eq_refl; first | exact trivial | omega)
      | (apply X_field; eq_refl)
      | (apply X_loadR; eq_refl; (first | assumption | (apply Blk.alloc; assumption) | apply Blk.new | apply Blk.newA | (apply Blk.alloc; first | apply Blk.newA | (apply Blk.alloc; first | assumption | apply Blk.newA))); eq_refl)
      | (apply X_loadW; eq_refl; (first | assumption | (apply Blk.alloc; assumption) | apply Blk.new | apply Blk.newA | (apply Blk.alloc; first | apply Blk.newA | (apply Blk.alloc; first | assumption | apply Blk.newA))); eq_refl)
      | (apply X_loadC; eq_refl; (first | assumption | (apply cel; first | assumption | (apply cel; assumption))))
      | (apply X_cmpT; eq_refl; eq_refl; omega)
      | (apply X_cmpF; eq_refl; eq_refl; omega)
      | (apply X_cmp; eq_refl; eq_refl; all_goals intro _)
      | (apply X_len; eq_refl)
      | (apply X_lenS; eq_refl)
      | (apply X_index; eq_refl; eq_refl; omega; omega)
      | (apply X_indexP; eq_refl; eq_refl; omega; omega)
      | (apply X_fieldP; eq_refl)
      | (apply X_eqB; eq_refl; eq_refl)
      | (apply X_eqP; eq_refl; eq_refl)
      | (apply X_eqL; eq_refl; eq_refl)
      | (apply X_alloc)
      | (apply X_does; apply buildS45_1 <;> eq_refl))
      · have hM4 := hM3.pushed (q' := pushM qs k) hC4 hb4 (by rw [pushM_len]; exact hrow4)
        exact ⟨(k + 1, pushM qs k, v'), ⟨rfl, rfl, rfl, rfl, rfl, rfl, trivial⟩, ⟨hC3.trans hC4 fun j hj hh => by
          have := hM3.rdy.lt
          rcases hh with hh | hh
          · omega
          · have := (hM3.row.lt j hh).1; omega, hM4, hI2.push hlt (by assumption), hlt⟩, by simp only; omega⟩
      · exact ⟨(k + 1, qs, v), ⟨rfl, rfl, rfl, rfl, rfl, rfl, trivial⟩, ⟨hC3, hM3, hI2.skip (by assumption), hlt⟩, by simp only; omega⟩
    · obtain rfl : k = i := by omega
      repeat' (first
      | (apply WC_seqK; intro K hK)
      | (apply hK; clear hK)
      | (clear hK; apply hK; clear hK)
      | (clear hK; clear hK; apply hK; clear hK)
      | (clear hK; clear hK; clear hK; apply hK; clear hK)
      | (apply WC_block)
      | (apply WC_region)
      | (apply WL_nil)
      | (apply thenQ_normal)
      | (apply thenQ_ret)
      | (apply thenQ_exit)
      | (apply blockQ_hit)
      | (apply blockQ_miss; eq_refl)
      | (apply blockQ_ret)
      | (apply blockQ_normal)
      | (apply WC_ret)
      | (apply WC_exit)
      | (apply WC_skip)
      | (apply WC_if_true; eq_refl)
      | (apply WC_if_false; eq_refl)
      | (apply ret1; eq_refl)
      | (apply ret2; eq_refl; eq_refl)
      | (apply ret3; eq_refl; eq_refl; eq_refl)
      | (apply ret0)
      | (apply ret0n)
      | (apply WL_on0; eq_refl)
      | (apply X_pv; eq_refl; first | exact trivial | omega)
      | (apply X_field; eq_refl)
      | (apply X_loadR; eq_refl; (first | assumption | (apply Blk.alloc; assumption) | apply Blk.new | apply Blk.newA | (apply Blk.alloc; first | apply Blk.newA | (apply Blk.alloc; first | assumption | apply Blk.newA))); eq_refl)
      | (apply X_loadW; eq_refl; (first | assumption | (apply Blk.alloc; assumption) | apply Blk.new | apply Blk.newA | (apply Blk.alloc; first | apply Blk.newA | (apply Blk.alloc; first | assumption | apply Blk.newA))); eq_refl)
      | (apply X_loadC; eq_refl; (first | assumption | (apply cel; first | assumption | (apply cel; assumption))))
      | (apply X_cmpT; eq_refl; eq_refl; omega)
      | (apply X_cmpF; eq_refl; eq_refl; omega)
      | (apply X_cmp; eq_refl; eq_refl; all_goals intro _)
      | (apply X_len; eq_refl)
      | (apply X_lenS; eq_refl)
      | (apply X_index; eq_refl; eq_refl; omega; omega)
      | (apply X_indexP; eq_refl; eq_refl; omega; omega)
      | (apply X_fieldP; eq_refl)
      | (apply X_eqB; eq_refl; eq_refl)
      | (apply X_eqP; eq_refl; eq_refl)
      | (apply X_eqL; eq_refl; eq_refl)
      | (apply X_alloc)
      | (apply X_does; apply buildS45_1 <;> eq_refl))
      have hI3 := hI2.third hlaid hlen0
      refine WC_loop (fun s : List Int × List Int × List Int × Value × Value => [(4, .slice (some ⟨w.heap.size, 0, none⟩) k k), (5, .slice (some ⟨w.heap.size + 1, 0, none⟩) k k), (9, pt rb), (10, .func (.func 139) #[] #[pt rb]), (12, s.2.2.2.2)])
        (fun s w' => Chg w w' none_ ∧ OrdMem w' w.heap.size (w.heap.size + 1) rb (w.heap.size + 2) s.2.2.1 vs av s.2.2.2.1 s.2.1 ∧ w'.ownsRow (rb + 1) 3 1 s.2.2.2.2 s.1.length (s.1.map nu) ∧ (∀ k, s.2.2.2.2.ownBlock = some k → s.2.2.2.1.ownBlock ≠ some k) ∧ In3 k (gateB t c) s.1 s.2.1 s.2.2.1) (fun s => k - s.1.length)
        ([], qs, ls, v, .slice none 0 0) ⟨rfl, rfl, rfl, rfl, rfl, trivial⟩ ⟨hC3, hM3, World.ownsRow_nil _ _ _ _, fun _ h => (by cases h), hI3⟩ ?_
      clear hL3 hM3 hI2 hI1 hL1 hA1 hV1 hlen0 hI3 hM1 hC3 hqn hqs
      rintro ⟨out, qs, ls, v, vo⟩ w3 ⟨hC3, hM3, hro, hap, hI3⟩
      simp only at hM3 hro hap hI3
      obtain ⟨Av, cv, rfl⟩ := row_form' hM3.row
      have hR3 := hM3.rdy
      rcases List.eq_nil_or_concat qs with rfl | ⟨qs', x, rfl⟩
      · simp only [List.length_nil] at hR3
        repeat' (first
      | (apply WC_seqK; intro K hK)
      | (apply hK; clear hK)
      | (clear hK; apply hK; clear hK)
      | (clear hK; clear hK; apply hK; clear hK)
      | (clear hK; clear hK; clear hK; apply hK; clear hK)
      | (apply WC_block)
      | (apply WC_region)
      | (apply WL_nil)
      | (apply thenQ_normal)
      | (apply thenQ_ret)
      | (apply thenQ_exit)
      | (apply blockQ_hit)
      | (apply blockQ_miss; eq_refl)
      | (apply blockQ_ret)
      | (apply blockQ_normal)
      | (apply WC_ret)
      | (apply WC_exit)
      | (apply WC_skip)
      | (apply WC_if_true; eq_refl)
      | (apply WC_if_false; eq_refl)
      | (apply ret1; eq_refl)
      | (apply ret2; eq_refl; eq_refl)
      | (apply ret3; eq_refl; eq_refl; eq_refl)
      | (apply ret0)
      | (apply ret0n)
      | (apply WL_on0; eq_refl)
      | (apply X_pv; eq_refl; first | exact trivial | omega)
      | (apply X_field; eq_refl)
      | (apply X_loadR; eq_refl; (first | assumption | (apply Blk.alloc; assumption) | apply Blk.new | apply Blk.newA | (apply Blk.alloc; first | apply Blk.newA | (apply Blk.alloc; first | assumption | apply Blk.newA))); eq_refl)
      | (apply X_loadW; eq_refl; (first | assumption | (apply Blk.alloc; assumption) | apply Blk.new | apply Blk.newA | (apply Blk.alloc; first | apply Blk.newA | (apply Blk.alloc; first | assumption | apply Blk.newA))); eq_refl)
      | (apply X_loadC; eq_refl; (first | assumption | (apply cel; first | assumption | (apply cel; assumption))))
      | (apply X_cmpT; eq_refl; eq_refl; omega)
      | (apply X_cmpF; eq_refl; eq_refl; omega)
      | (apply X_cmp; eq_refl; eq_refl; all_goals intro _)
      | (apply X_len; eq_refl)
      | (apply X_lenS; eq_refl)
      | (apply X_index; eq_refl; eq_refl; omega; omega)
      | (apply X_indexP; eq_refl; eq_refl; omega; omega)
      | (apply X_fieldP; eq_refl)
      | (apply X_eqB; eq_refl; eq_refl)
      | (apply X_eqP; eq_refl; eq_refl)
      | (apply X_eqL; eq_refl; eq_refl)
      | (apply X_alloc)
      | (apply X_does; apply buildS45_1 <;> eq_refl))
        exact ⟨out, hI3.all, own_mono hro (by have := hM3.lay; omega), hC3⟩
      · rw [List.concat_eq_append] at *
        obtain ⟨p, rfl, hpc⟩ := (rowI hM3.row).one (k := qs'.length) (by simp) (v := nu x) (by simp [icell])
        have el : (qs' ++ [x]).length = qs'.length + 1 := by simp
        have hrow3 := hM3.row
        rw [el] at hR3 hrow3
        have ex : (((qs'.length + 1 : Nat) : Int) - 1).toNat = qs'.length := by omega
        have ex' : ((qs'.length : Nat) : Int).toNat = qs'.length := by omega
        rw [ex', ← ex] at hpc
        have hql : qs'.length < 16384 := by
          have := nodup_size k _ hI3.desc.nodup fun y hy => ((hI3.mem y).1 hy).1
          simp only [List.length_append, List.length_singleton] at this
          omega
        have hcap := own_cap hrow3
        have hsh := own_short hrow3 rfl
        have htell := hI3.tell
        have hout := htell.size
        simp only [List.length_append, List.length_singleton] at hout
        have hxr := htell.all x (by simp)
        repeat' (first
      | (apply X_sliceTo; eq_refl; eq_refl; omega; omega)
      | (apply WC_seqK; intro K hK)
      | (apply hK; clear hK)
      | (clear hK; apply hK; clear hK)
      | (clear hK; clear hK; apply hK; clear hK)
      | (clear hK; clear hK; clear hK; apply hK; clear hK)
      | (apply WC_block)
      | (apply WC_region)
      | (apply WL_nil)
      | (apply thenQ_normal)
      | (apply thenQ_ret)
      | (apply thenQ_exit)
      | (apply blockQ_hit)
      | (apply blockQ_miss; eq_refl)
      | (apply blockQ_ret)
      | (apply blockQ_normal)
      | (apply WC_ret)
      | (apply WC_exit)
      | (apply WC_skip)
      | (apply WC_if_true; eq_refl)
      | (apply WC_if_false; eq_refl)
      | (apply ret1; eq_refl)
      | (apply ret2; eq_refl; eq_refl)
      | (apply ret3; eq_refl; eq_refl; eq_refl)
      | (apply ret0)
      | (apply ret0n)
      | (apply WL_on0; eq_refl)
      | (apply X_pv; eq_refl; first | exact trivial | omega)
      | (apply X_field; eq_refl)
      | (apply X_loadR; eq_refl; (first | assumption | (apply Blk.alloc; assumption) | apply Blk.new | apply Blk.newA | (apply Blk.alloc; first | apply Blk.newA | (apply Blk.alloc; first | assumption | apply Blk.newA))); eq_refl)
      | (apply X_loadW; eq_refl; (first | assumption | (apply Blk.alloc; assumption) | apply Blk.new | apply Blk.newA | (apply Blk.alloc; first | apply Blk.newA | (apply Blk.alloc; first | assumption | apply Blk.newA))); eq_refl)
      | (apply X_loadC; eq_refl; (first | assumption | (apply cel; first | assumption | (apply cel; assumption))))
      | (apply X_cmpT; eq_refl; eq_refl; omega)
      | (apply X_cmpF; eq_refl; eq_refl; omega)
      | (apply X_cmp; eq_refl; eq_refl; all_goals intro _)
      | (apply X_len; eq_refl)
      | (apply X_lenS; eq_refl)
      | (apply X_index; eq_refl; eq_refl; omega; omega)
      | (apply X_indexP; eq_refl; eq_refl; omega; omega)
      | (apply X_fieldP; eq_refl)
      | (apply X_eqB; eq_refl; eq_refl)
      | (apply X_eqP; eq_refl; eq_refl)
      | (apply X_eqL; eq_refl; eq_refl)
      | (apply X_alloc)
      | (apply X_does; apply buildS45_1 <;> eq_refl))
        refine X_doesU (does_store1 (b := rb) (o := 0) (v := .slice (some p) (((qs'.length + 1 : Nat) : Int) - 1).toNat cv) (by eq_refl) (by eq_refl) hR3 (by simp) rfl rfl) ?_
        refine WL_turn (fun w4 => Chg w w4 none_ ∧ OrdMem w4 w.heap.size (w.heap.size + 1) rb (w.heap.size + 2) ls vs av (.slice (some p) qs'.length cv) qs' ∧ w4.ownsRow (rb + 1) 3 1 vo out.length (out.map nu)) ?_ ?_
        · rw [ex]
          have hcc : Chg w3 (w3.setRow rb ([Value.slice (some p) (qs'.length + 1) cv].set 0 (.slice (some p) qs'.length cv)).toArray) (fun k => k = rb) := Chg.setRow _ _ _ rfl
          have hrl := hM3.row.lt
          refine ⟨hC3.trans hcc fun k hk hh => by have := hM3.lay; omega, hM3.pushed (hcc.mono fun k hk => .inl hk) (hR3.set _) (own_chg hsh hcc fun k hk hh => by have := (hrl k hk).1; omega), own_chg hro hcc fun k hk hh => by have := (hro.lt k hk).1; omega⟩
        rintro w4 ⟨hC4, hM4, hro4⟩
        repeat' (first
      | (apply WC_seqK; intro K hK)
      | (apply hK; clear hK)
      | (clear hK; apply hK; clear hK)
      | (clear hK; clear hK; apply hK; clear hK)
      | (clear hK; clear hK; clear hK; apply hK; clear hK)
      | (apply WC_block)
      | (apply WC_region)
      | (apply WL_nil)
      | (apply thenQ_normal)
      | (apply thenQ_ret)
      | (apply thenQ_exit)
      | (apply blockQ_hit)
      | (apply blockQ_miss; eq_refl)
      | (apply blockQ_ret)
      | (apply blockQ_normal)
      | (apply WC_ret)
      | (apply WC_exit)
      | (apply WC_skip)
      | (apply WC_if_true; eq_refl)
      | (apply WC_if_false; eq_refl)
      | (apply ret1; eq_refl)
      | (apply ret2; eq_refl; eq_refl)
      | (apply ret3; eq_refl; eq_refl; eq_refl)
      | (apply ret0)
      | (apply ret0n)
      | (apply WL_on0; eq_refl)
      | (apply X_pv; eq_refl; first | exact trivial | omega)
      | (apply X_field; eq_refl)
      | (apply X_loadR; eq_refl; (first | assumption | (apply Blk.alloc; assumption) | apply Blk.new | apply Blk.newA | (apply Blk.alloc; first | apply Blk.newA | (apply Blk.alloc; first | assumption | apply Blk.newA))); eq_refl)
      | (apply X_loadW; eq_refl; (first | assumption | (apply Blk.alloc; assumption) | apply Blk.new | apply Blk.newA | (apply Blk.alloc; first | apply Blk.newA | (apply Blk.alloc; first | assumption | apply Blk.newA))); eq_refl)
      | (apply X_loadC; eq_refl; (first | assumption | (apply cel; first | assumption | (apply cel; assumption))))
      | (apply X_cmpT; eq_refl; eq_refl; omega)
      | (apply X_cmpF; eq_refl; eq_refl; omega)
      | (apply X_cmp; eq_refl; eq_refl; all_goals intro _)
      | (apply X_len; eq_refl)
      | (apply X_lenS; eq_refl)
      | (apply X_index; eq_refl; eq_refl; omega; omega)
      | (apply X_indexP; eq_refl; eq_refl; omega; omega)
      | (apply X_fieldP; eq_refl)
      | (apply X_eqB; eq_refl; eq_refl)
      | (apply X_eqP; eq_refl; eq_refl)
      | (apply X_eqL; eq_refl; eq_refl)
      | (apply X_alloc)
      | (apply X_does; apply buildS45_1 <;> eq_refl))
        refine X_append (rb + 1) (by eq_refl) (by eq_refl) (hro4.alloc _) (Blk.newA w4 _ _) rfl rfl (by decide) (by simp [Value.oneCell']) (by omega) (by decide) (by have := hM4.rdy.lt; simp; omega) ?_
        intro vo' w5 hro5 hC5 hown5 _
        have hrl4 := hro4.lt
        have hM5 : OrdMem w5 w.heap.size (w.heap.size + 1) rb (w.heap.size + 2) ls vs av (.slice (some p) qs'.length cv) qs' :=
          (hM4.same (Chg.alloc w4 _ none_)).chg hC5 fun k hk => ⟨by have := (hrl4 k hk).1; omega, hap k hk⟩
        have hap5 : ∀ k, vo'.ownBlock = some k → (Value.slice (some p) qs'.length cv).ownBlock ≠ some k := by
          intro k hk hh
          rcases hown5 with ho | ho
          · exact hap k (ho ▸ hk) hh
          · rw [hk] at ho
            have := (hM4.row.lt k hh).2
            have es : (w4.alloc (.cells #[nu x] 3)).heap.size = w4.heap.size + 1 := by simp
            have e2 := Option.some.inj ho
            have : k = (w4.alloc (.cells #[nu x] 3)).heap.size := e2
            omega
        have hC5' : Chg w w5 none_ := (hC4.al _).trans hC5 fun k hk hh => by have := (hrl4 k hh).1; have := hM4.lay; omega
        have hll := hI3.len
        have hRx := hI3.relax (av := av)
        clear hI3 hM3 hrow3 hR3 hsh hpc hro hap hM4 hro4 hrl4 hC4 hC3 hC5 hown5
        have hxv : x.toNat < vs.length := by have := hM5.rows.len; have := hlaid.l2; have h3 := hxr; unfold rg at h3; omega
        have hvx : vs[0 + x.toNat * 1]? = some vs[x.toNat] := by rw [Nat.zero_add, Nat.mul_one]; exact List.getElem?_eq_getElem hxv
        have hvx' : vs[x.toNat]? = some vs[x.toNat] := List.getElem?_eq_getElem hxv
        have hAx := A_get (av := av) (x := x) (by rw [hlaid.l2]; exact hxr)
        generalize hvv : vs[x.toNat] = vx at *
        have hup := hlaid.up x hxr
        have hin := hlaid.inr x hxr
        obtain ⟨Ax, cx, rfl⟩ := row_form' (hM5.rows.rows x.toNat vx (SC.A av x) hvx' hAx)
        have hA5 := hM5.abv
        have hxr' := hxr
        unfold rg at hxr'
        have hlx : (SC.A av x).length ≤ 100000 := by
          have := hlaid.big x hxr
          omega
        repeat' (first
      | (apply X_loadR; eq_refl; exact hA5; exact hvx)
      | (apply WC_seqK; intro K hK)
      | (apply hK; clear hK)
      | (clear hK; apply hK; clear hK)
      | (clear hK; clear hK; apply hK; clear hK)
      | (clear hK; clear hK; clear hK; apply hK; clear hK)
      | (apply WC_block)
      | (apply WC_region)
      | (apply WL_nil)
      | (apply thenQ_normal)
      | (apply thenQ_ret)
      | (apply thenQ_exit)
      | (apply blockQ_hit)
      | (apply blockQ_miss; eq_refl)
      | (apply blockQ_ret)
      | (apply blockQ_normal)
      | (apply WC_ret)
      | (apply WC_exit)
      | (apply WC_skip)
      | (apply WC_if_true; eq_refl)
      | (apply WC_if_false; eq_refl)
      | (apply ret1; eq_refl)
      | (apply ret2; eq_refl; eq_refl)
      | (apply ret3; eq_refl; eq_refl; eq_refl)
      | (apply ret0)
      | (apply ret0n)
      | (apply WL_on0; eq_refl)
      | (apply X_pv; eq_refl; first | exact trivial | omega)
      | (apply X_field; eq_refl)
      | (apply X_loadR; eq_refl; (first | assumption | (apply Blk.alloc; assumption) | apply Blk.new | apply Blk.newA | (apply Blk.alloc; first | apply Blk.newA | (apply Blk.alloc; first | assumption | apply Blk.newA))); eq_refl)
      | (apply X_loadW; eq_refl; (first | assumption | (apply Blk.alloc; assumption) | apply Blk.new | apply Blk.newA | (apply Blk.alloc; first | apply Blk.newA | (apply Blk.alloc; first | assumption | apply Blk.newA))); eq_refl)
      | (apply X_loadC; eq_refl; (first | assumption | (apply cel; first | assumption | (apply cel; assumption))))
      | (apply X_cmpT; eq_refl; eq_refl; omega)
      | (apply X_cmpF; eq_refl; eq_refl; omega)
      | (apply X_cmp; eq_refl; eq_refl; all_goals intro _)
      | (apply X_len; eq_refl)
      | (apply X_lenS; eq_refl)
      | (apply X_index; eq_refl; eq_refl; omega; omega)
      | (apply X_indexP; eq_refl; eq_refl; omega; omega)
      | (apply X_fieldP; eq_refl)
      | (apply X_eqB; eq_refl; eq_refl)
      | (apply X_eqP; eq_refl; eq_refl)
      | (apply X_eqL; eq_refl; eq_refl)
      | (apply X_alloc)
      | (apply X_does; apply buildS45_1 <;> eq_refl))
        refine WC_loop (fun s : Nat × List Int × List Int × Value => [(4, .slice (some ⟨w.heap.size, 0, none⟩) k k), (5, .slice (some ⟨w.heap.size + 1, 0, none⟩) k k), (9, pt rb), (10, .func (.func 139) #[] #[pt rb]), (12, vo'), (91, .slice Ax (SC.A av x).length cx), (92, nu (SC.A av x).length), (93, nu s.1)])
          (fun s w' => Chg w w' none_ ∧ OrdMem w' w.heap.size (w.heap.size + 1) rb (w.heap.size + 2) s.2.2.1 vs av s.2.2.2 s.2.1 ∧ w'.ownsRow (rb + 1) 3 1 vo' (out.length + 1) (out.map nu ++ [nu x]) ∧ (∀ k, vo'.ownBlock = some k → s.2.2.2.ownBlock ≠ some k) ∧ InR k (gateB t c) av out x s.1 s.2.1 s.2.2.1 ∧ s.1 ≤ (SC.A av x).length)
          (fun s => (SC.A av x).length - s.1) (0, qs', ls, .slice (some p) qs'.length cv) ⟨rfl, rfl, rfl, rfl, rfl, rfl, rfl, rfl, trivial⟩ ⟨hC5', hM5, hro5, hap5, hRx, Nat.zero_le _⟩ ?_
        clear hC5' hM5 hro5 hap5 hRx hA5 hll
        rintro ⟨j, qs, ls, v⟩ w3 ⟨hC3, hM3, hro, hap, hR, hj⟩
        simp only at hM3 hro hap hR hj
        rcases Nat.lt_or_ge j (SC.A av x).length with hjl | hjg
        · obtain ⟨pa, rfl, hpc⟩ := (rowI (hM3.rows.rows x.toNat _ (SC.A av x) hvx' hAx)).one hjl (v := nu (SC.A av x)[j]) rfl
          have hst := hR.step hjl hup hin
          have hyr := hin _ (List.getElem_mem hjl)
          generalize hy : (SC.A av x)[j] = y at *
          obtain ⟨g1, g2, g3, g4⟩ := hst
          have hll := hR.len
          have hLy := L_cell (ls := ls) (y := y) (by rw [hll]; exact hyr)
          have hLy' := L_cell (ls := ls.set y.toNat (L ls y - 1)) (y := y) (by rw [List.length_set, hll]; exact hyr)
          rw [L_set _ (by rw [hll]; exact hyr) hyr.1, if_pos rfl] at hLy'
          have hyr' := hyr
          unfold rg at hyr'
          have c1 : lackN (out ++ [x]) (gateB t c y) ≤ 2 := Nat.le_trans List.countP_le_length (hb2 y)
          have c2 : (gateB t c y).count x ≤ 2 := Nat.le_trans List.count_le_length (hb2 y)
          have hL3 := hM3.lack
          repeat' (first
      | (apply X_loadR; eq_refl; exact hL3; exact hLy)
      | (apply WC_seqK; intro K hK)
      | (apply hK; clear hK)
      | (clear hK; apply hK; clear hK)
      | (clear hK; clear hK; apply hK; clear hK)
      | (clear hK; clear hK; clear hK; apply hK; clear hK)
      | (apply WC_block)
      | (apply WC_region)
      | (apply WL_nil)
      | (apply thenQ_normal)
      | (apply thenQ_ret)
      | (apply thenQ_exit)
      | (apply blockQ_hit)
      | (apply blockQ_miss; eq_refl)
      | (apply blockQ_ret)
      | (apply blockQ_normal)
      | (apply WC_ret)
      | (apply WC_exit)
      | (apply WC_skip)
      | (apply WC_if_true; eq_refl)
      | (apply WC_if_false; eq_refl)
      | (apply ret1; eq_refl)
      | (apply ret2; eq_refl; eq_refl)
      | (apply ret3; eq_refl; eq_refl; eq_refl)
      | (apply ret0)
      | (apply ret0n)
      | (apply WL_on0; eq_refl)
      | (apply X_pv; eq_refl; first | exact trivial | omega)
      | (apply X_field; eq_refl)
      | (apply X_loadR; eq_refl; (first | assumption | (apply Blk.alloc; assumption) | apply Blk.new | apply Blk.newA | (apply Blk.alloc; first | apply Blk.newA | (apply Blk.alloc; first | assumption | apply Blk.newA))); eq_refl)
      | (apply X_loadW; eq_refl; (first | assumption | (apply Blk.alloc; assumption) | apply Blk.new | apply Blk.newA | (apply Blk.alloc; first | apply Blk.newA | (apply Blk.alloc; first | assumption | apply Blk.newA))); eq_refl)
      | (apply X_loadC; eq_refl; (first | assumption | (apply cel; first | assumption | (apply cel; assumption))))
      | (apply X_cmpT; eq_refl; eq_refl; omega)
      | (apply X_cmpF; eq_refl; eq_refl; omega)
      | (apply X_cmp; eq_refl; eq_refl; all_goals intro _)
      | (apply X_len; eq_refl)
      | (apply X_lenS; eq_refl)
      | (apply X_index; eq_refl; eq_refl; omega; omega)
      | (apply X_indexP; eq_refl; eq_refl; omega; omega)
      | (apply X_fieldP; eq_refl)
      | (apply X_eqB; eq_refl; eq_refl)
      | (apply X_eqP; eq_refl; eq_refl)
      | (apply X_eqL; eq_refl; eq_refl)
      | (apply X_alloc)
      | (apply X_does; apply buildS45_1 <;> eq_refl))
          refine X_doesU (does_store1 (b := w.heap.size) (o := 0 + y.toNat * 1) (v := nu (L ls y - 1)) (by eq_refl) (by eq_refl) hL3 (by simp; omega) rfl rfl) ?_
          rw [set_nu, Nat.zero_add, Nat.mul_one]
          have hM4 := hM3.lacked (ls.set y.toNat (L ls y - 1))
          have hcc : Chg w3 (w3.setRow w.heap.size ((ls.set y.toNat (L ls y - 1)).map nu).toArray) (fun k => k = w.heap.size) := Chg.setRow _ _ _ rfl
          have hC4 := hC3.trans hcc fun k hk hh => by omega
          have hro4 := own_chg hro hcc fun k hk hh => by have := (hro.lt k hk).1; have := hM3.lay; omega
          generalize w3.setRow w.heap.size ((ls.set y.toNat (L ls y - 1)).map nu).toArray = w4 at *
          have hL4 := hM4.lack
          have hqs : ∀ y ∈ qs, 0 ≤ y ∧ y ≤ 100000 := fun y hy => by have := ((hR.mem y).1 hy).1; unfold rg at this; omega
          have hqn : qs.length ≤ 16384 := by have := nodup_size k qs hR.desc.nodup fun y hy => ((hR.mem y).1 hy).1; omega
          have hpc := push_cv (x := y) hM4.rdy hM4.row (by have := hM4.rdy.lt; omega) (by omega) ⟨by omega, by omega⟩ hqs hR.desc.le
          repeat' (first
      | (apply X_loadR; eq_refl; exact hL4; exact hLy')
      | (apply X_clo (f := 139); eq_refl; eq_refl; exact hpc; rintro _ w5 ⟨v', hb5, hrow5, hC5, hown5⟩)
      | (apply WC_seqK; intro K hK)
      | (apply hK; clear hK)
      | (clear hK; apply hK; clear hK)
      | (clear hK; clear hK; apply hK; clear hK)
      | (clear hK; clear hK; clear hK; apply hK; clear hK)
      | (apply WC_block)
      | (apply WC_region)
      | (apply WL_nil)
      | (apply thenQ_normal)
      | (apply thenQ_ret)
      | (apply thenQ_exit)
      | (apply blockQ_hit)
      | (apply blockQ_miss; eq_refl)
      | (apply blockQ_ret)
      | (apply blockQ_normal)
      | (apply WC_ret)
      | (apply WC_exit)
      | (apply WC_skip)
      | (apply WC_if_true; eq_refl)
      | (apply WC_if_false; eq_refl)
      | (apply ret1; eq_refl)
      | (apply ret2; eq_refl; eq_refl)
      | (apply ret3; eq_refl; eq_refl; eq_refl)
      | (apply ret0)
      | (apply ret0n)
      | (apply WL_on0; eq_refl)
      | (apply X_pv; eq_refl; first | exact trivial | omega)
      | (apply X_field; eq_refl)
      | (apply X_loadR; eq_refl; (first | assumption | (apply Blk.alloc; assumption) | apply Blk.new | apply Blk.newA | (apply Blk.alloc; first | apply Blk.newA | (apply Blk.alloc; first | assumption | apply Blk.newA))); eq_refl)
      | (apply X_loadW; eq_refl; (first | assumption | (apply Blk.alloc; assumption) | apply Blk.new | apply Blk.newA | (apply Blk.alloc; first | apply Blk.newA | (apply Blk.alloc; first | assumption | apply Blk.newA))); eq_refl)
      | (apply X_loadC; eq_refl; (first | assumption | (apply cel; first | assumption | (apply cel; assumption))))
      | (apply X_cmpT; eq_refl; eq_refl; omega)
      | (apply X_cmpF; eq_refl; eq_refl; omega)
      | (apply X_cmp; eq_refl; eq_refl; all_goals intro _)
      | (apply X_len; eq_refl)
      | (apply X_lenS; eq_refl)
      | (apply X_index; eq_refl; eq_refl; omega; omega)
      | (apply X_indexP; eq_refl; eq_refl; omega; omega)
      | (apply X_fieldP; eq_refl)
      | (apply X_eqB; eq_refl; eq_refl)
      | (apply X_eqP; eq_refl; eq_refl)
      | (apply X_eqL; eq_refl; eq_refl)
      | (apply X_alloc)
      | (apply X_does; apply buildS45_1 <;> eq_refl))
          · rw [if_pos (by assumption)] at g4
            have hM5 := hM4.pushed (q' := pushM qs y) hC5 hb5 (by rw [pushM_len]; exact hrow5)
            have hlt4 := hro4.lt
            have hvl := hM4.row.lt
            have hrd := hM4.rdy.lt
            refine ⟨(j + 1, pushM qs y, ls.set y.toNat (L ls y - 1), v'), ⟨rfl, rfl, rfl, rfl, rfl, rfl, rfl, rfl, trivial⟩, ⟨hC4.trans hC5 fun i hi hh => ?_, hM5, own_chg hro4 hC5 fun i hi hh => ?_, fun i hi hh => ?_, g4, hjl⟩, by simp only; omega⟩
            · rcases hh with hh | hh
              · have := hM4.lay; omega
              · have := (hvl i hh).1; have := hM4.lay; omega
            · rcases hh with hh | hh
              · have := (hlt4 i hi).1; omega
              · exact hap i hi hh
            · rcases hown5 with ho | ⟨m, ho, hm⟩
              · exact hap i hi (ho ▸ hh)
              · simp only at hh
                rw [ho] at hh
                cases hh
                have := (hlt4 i hi).2
                omega
          · rw [if_neg (by assumption)] at g4
            exact ⟨(j + 1, qs, ls.set y.toNat (L ls y - 1), v), ⟨rfl, rfl, rfl, rfl, rfl, rfl, rfl, rfl, trivial⟩, ⟨hC4, hM4, hro4, hap, g4, hjl⟩, by simp only; omega⟩
        · obtain rfl : j = (SC.A av x).length := by omega
          repeat' (first
      | (apply WC_seqK; intro K hK)
      | (apply hK; clear hK)
      | (clear hK; apply hK; clear hK)
      | (clear hK; clear hK; apply hK; clear hK)
      | (clear hK; clear hK; clear hK; apply hK; clear hK)
      | (apply WC_block)
      | (apply WC_region)
      | (apply WL_nil)
      | (apply thenQ_normal)
      | (apply thenQ_ret)
      | (apply thenQ_exit)
      | (apply blockQ_hit)
      | (apply blockQ_miss; eq_refl)
      | (apply blockQ_ret)
      | (apply blockQ_normal)
      | (apply WC_ret)
      | (apply WC_exit)
      | (apply WC_skip)
      | (apply WC_if_true; eq_refl)
      | (apply WC_if_false; eq_refl)
      | (apply ret1; eq_refl)
      | (apply ret2; eq_refl; eq_refl)
      | (apply ret3; eq_refl; eq_refl; eq_refl)
      | (apply ret0)
      | (apply ret0n)
      | (apply WL_on0; eq_refl)
      | (apply X_pv; eq_refl; first | exact trivial | omega)
      | (apply X_field; eq_refl)
      | (apply X_loadR; eq_refl; (first | assumption | (apply Blk.alloc; assumption) | apply Blk.new | apply Blk.newA | (apply Blk.alloc; first | apply Blk.newA | (apply Blk.alloc; first | assumption | apply Blk.newA))); eq_refl)
      | (apply X_loadW; eq_refl; (first | assumption | (apply Blk.alloc; assumption) | apply Blk.new | apply Blk.newA | (apply Blk.alloc; first | apply Blk.newA | (apply Blk.alloc; first | assumption | apply Blk.newA))); eq_refl)
      | (apply X_loadC; eq_refl; (first | assumption | (apply cel; first | assumption | (apply cel; assumption))))
      | (apply X_cmpT; eq_refl; eq_refl; omega)
      | (apply X_cmpF; eq_refl; eq_refl; omega)
      | (apply X_cmp; eq_refl; eq_refl; all_goals intro _)
      | (apply X_len; eq_refl)
      | (apply X_lenS; eq_refl)
      | (apply X_index; eq_refl; eq_refl; omega; omega)
      | (apply X_indexP; eq_refl; eq_refl; omega; omega)
      | (apply X_fieldP; eq_refl)
      | (apply X_eqB; eq_refl; eq_refl)
      | (apply X_eqP; eq_refl; eq_refl)
      | (apply X_eqL; eq_refl; eq_refl)
      | (apply X_alloc)
      | (apply X_does; apply buildS45_1 <;> eq_refl))
          exact ⟨(out ++ [x], qs, ls, v, vo'), ⟨rfl, rfl, rfl, rfl, rfl, trivial⟩, ⟨hC3, hM3, by simpa using hro, hap, hR.close hup⟩, by simp; omega⟩
end SC
end Go.Proofs.Ytkndegjodnciaaa
