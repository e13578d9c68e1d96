/- shape's laws: gates of each variable; ShapeOrders' walk. -/
import Derived.Test.YtkndegjodnciaaaG7
set_option linter.unusedVariables false
set_option linter.unusedSimpArgs false
namespace Go.Proofs.Ytkndegjodnciaaa
namespace SC
open Go.Proofs
def gatesL : List Tri → Nat → List Int → List Int
  | [], _, l => l
  | x :: r, i, l => gatesL r (i + 1) (l.set (x.1 / 2).toNat i)
theorem gatesL_len : ∀ (ls : List Tri) (k : Nat) (l : List Int), (gatesL ls k l).length = l.length
  | [], _, _ => rfl
  | x :: r, k, l => by unfold gatesL; rw [gatesL_len r]; simp
theorem gatesL_step {ls : List Tri} {k : Nat} {l : List Int} (hk : k < ls.length) : gatesL (ls.drop k) k l = gatesL (ls.drop (k + 1)) (k + 1) (l.set (ls[k].1 / 2).toNat k) := by
  rw [List.drop_eq_getElem_cons hk]
  rfl
theorem gatesL_not : ∀ (ls : List Tri) (k : Nat) (l : List Int) (v : Int), 0 ≤ v → (∀ x ∈ ls, rg l.length (x.1 / 2) ∧ x.1 / 2 ≠ v) → L (gatesL ls k l) v = L l v
  | [], _, _, _, _, _ => rfl
  | x :: r, k, l, v, hv, h => by
    obtain ⟨h1, h2⟩ := h x (by simp)
    unfold gatesL
    rw [gatesL_not r (k + 1) _ v hv fun y hy => by rw [List.length_set]; exact h y (by simp [hy]), L_set _ h1 hv, if_neg (fun e => h2 e.symm)]
theorem gatesL_at : ∀ (ls : List Tri) (k : Nat) (l : List Int) (j : Nat) (hj : j < ls.length), (∀ x ∈ ls, rg l.length (x.1 / 2)) → (∀ i (hi : i < ls.length), ls[i].1 / 2 = ls[j].1 / 2 → i = j) → L (gatesL ls k l) (ls[j].1 / 2) = k + j
  | [], _, _, j, hj, _, _ => absurd hj (Nat.not_lt_zero _)
  | x :: r, k, l, 0, hj, h, hu => by
    have h1 := h x (by simp)
    unfold gatesL
    simp only [List.getElem_cons_zero]
    rw [gatesL_not r (k + 1) _ _ h1.1 fun y hy => ⟨by rw [List.length_set]; exact h y (by simp [hy]), fun e => ?_⟩, L_set _ h1 h1.1, if_pos rfl]
    · simp
    · obtain ⟨i, hi, rfl⟩ := List.mem_iff_getElem.1 hy
      have := hu (i + 1) (by simp; omega) (by simpa using e)
      omega
  | x :: r, k, l, j + 1, hj, h, hu => by
    unfold gatesL
    simp only [List.getElem_cons_succ]
    rw [gatesL_at r (k + 1) _ j (by simpa using hj) (fun y hy => by rw [List.length_set]; exact h y (by simp [hy])) fun i hi e => by
      have := hu (i + 1) (by simp; omega) (by simpa using e)
      omega]
    simp; omega
/-- Of each variable the gate that defines it, or -1. -/
def gatesM (c : Circ) : List Int := gatesL c.ands 0 (List.replicate (c.max + 1).toNat (-1))
theorem gatesM_len (c : Circ) : (gatesM c).length = (c.max + 1).toNat := by unfold gatesM; rw [gatesL_len]; simp
theorem TabOk.gatesM {c : Circ} {t : Tab} (h : TabOk c t) {v : Int} (hv : rg (c.max + 1).toNat v) : L (SC.gatesM c) v = if kindAt t v = 3 then atOf t v else -1 := by
  have hrg : ∀ x ∈ c.ands, rg (List.replicate (c.max + 1).toNat (-1 : Int)).length (x.1 / 2) := fun x hx => by
    obtain ⟨j, hj, rfl⟩ := List.mem_iff_getElem.1 hx
    have := (h.gat j hj).1
    rw [List.length_replicate]
    unfold defBad at this; unfold rg; omega
  have e : v = ((v.toNat : Nat) : Int) := by unfold rg at hv; omega
  by_cases hk : kindAt t v = 3
  · rw [if_pos hk]
    rw [e] at hk
    obtain ⟨j, hj, h1, h2, h3⟩ := h.gate hk
    rw [← e] at h1 h2
    have e2 : c.ands[j].1 / 2 = v := by omega
    have := gatesL_at c.ands 0 (List.replicate (c.max + 1).toNat (-1)) j hj hrg fun i hi e3 => by
      have g1 := (h.gat i hi).2
      have g2 := (h.gat j hj).2
      rw [e3, g2] at g1
      simp at g1
      omega
    rw [e2] at this
    unfold SC.gatesM
    rw [this, h2]
    simp
  · rw [if_neg hk]
    unfold SC.gatesM
    rw [gatesL_not c.ands 0 _ v hv.1 fun x hx => ⟨hrg x hx, fun e2 => hk ?_⟩]
    · unfold L
      unfold rg at hv
      simp only [List.getD_eq_getElem?_getD, List.getElem?_replicate]
      rw [if_pos (by omega)]
      rfl
    · obtain ⟨j, hj, rfl⟩ := List.mem_iff_getElem.1 hx
      have := (h.gat j hj).2
      rw [e2] at this
      rw [kindAt_get this]
theorem mem_gateB {c : Circ} {t : Tab} {i : Int} {z : Int} (hi : rg c.ands.length i) : z ∈ gateB t c i ↔ ∃ l, (l = (andAt c i).2.1 ∨ l = (andAt c i).2.2) ∧ kindAt t (l / 2) = 3 ∧ atOf t (l / 2) = z := by
  unfold gateB belowM
  rw [mem_belowL]
  unfold andAt
  simp
attribute [local irreducible] WC WL WX WS WO OX Does DoesU Enters CV Pure thenQ blockQ retQ Wants retQC
set_option maxRecDepth 100000
theorem gates_cv {w : World} {c : Circ} {h js : Hd} {t : Tab} (H : CirAt w c h js) (hT : TabOk c t) (hm : 0 ≤ c.max ∧ c.max ≤ 16384) (hn : c.ands.length ≤ 16384) : CV Try.prog 32 [.agg (ccells c h).toArray] w fun v w' => v = .slice (some ⟨w.heap.size + 1, 0, none⟩) (gatesM c).length (gatesM c).length ∧ Blk w' (w.heap.size + 1) 3 ((gatesM c).map nu) ∧ Chg w w' none_ := by
  obtain ⟨m, hm2⟩ : ∃ m : Nat, c.max + 1 = m := ⟨(c.max + 1).toNat, by omega⟩
  have hml : (c.max + 1).toNat = m := by omega
  have hI0 : Blk (w.alloc (.cells (ccells c h).toArray 51)) w.heap.size 51 (ccells c h) := Blk.new w _ _
  have hC0 := Chg.alloc w (.cells (ccells c h).toArray 51) none_
  have hz0 := sz_alloc w (.cells (ccells c h).toArray 51)
  refine enter 36 [2] Try.func32 rfl rfl rfl (by decide) rfl ?_
  repeat' (first
      | (apply WC_seqK; intro K hK)
      | (apply hK; clear hK)
      | (clear hK; apply hK; clear hK)
      | (clear hK; clear hK; apply hK; clear hK)
      | (clear hK; clear hK; clear hK; apply hK; clear hK)
      | (apply WC_block)
      | (apply WC_region)
      | (apply WL_nil)
      | (apply thenQ_normal)
      | (apply thenQ_ret)
      | (apply thenQ_exit)
      | (apply blockQ_hit)
      | (apply blockQ_miss; eq_refl)
      | (apply blockQ_ret)
      | (apply blockQ_normal)
      | (apply WC_ret)
      | (apply WC_exit)
      | (apply WC_skip)
      | (apply WC_if_true; eq_refl)
      | (apply WC_if_false; eq_refl)
      | (apply ret1; eq_refl)
      | (apply ret2; eq_refl; eq_refl)
      | (apply ret3; eq_refl; eq_refl; eq_refl)
      | (apply ret0)
      | (apply ret0n)
      | (apply WL_on0; eq_refl)
      | (apply X_pv; eq_refl; first | exact trivial | omega)
      | (apply X_field; eq_refl)
      | (apply X_loadR; eq_refl; (first | assumption | (apply Blk.alloc; assumption) | apply Blk.new | apply Blk.newA | (apply Blk.alloc; first | apply Blk.newA | (apply Blk.alloc; first | assumption | apply Blk.newA))); eq_refl)
      | (apply X_loadW; eq_refl; (first | assumption | (apply Blk.alloc; assumption) | apply Blk.new | apply Blk.newA | (apply Blk.alloc; first | apply Blk.newA | (apply Blk.alloc; first | assumption | apply Blk.newA))); eq_refl)
      | (apply X_loadC; eq_refl; (first | assumption | (apply cel; first | assumption | (apply cel; assumption))))
      | (apply X_cmpT; eq_refl; eq_refl; omega)
      | (apply X_cmpF; eq_refl; eq_refl; omega)
      | (apply X_cmp; eq_refl; eq_refl; all_goals intro _)
      | (apply X_len; eq_refl)
      | (apply X_lenS; eq_refl)
      | (apply X_index; eq_refl; eq_refl; omega; omega)
      | (apply X_indexP; eq_refl; eq_refl; omega; omega)
      | (apply X_fieldP; eq_refl)
      | (apply X_alloc)
      | (apply X_box; eq_refl))
  rw [hm2]
  repeat' (first
      | (apply X_make; eq_refl; omega; omega)
      | (apply WC_seqK; intro K hK)
      | (apply hK; clear hK)
      | (clear hK; apply hK; clear hK)
      | (clear hK; clear hK; apply hK; clear hK)
      | (clear hK; clear hK; clear hK; apply hK; clear hK)
      | (apply WC_block)
      | (apply WC_region)
      | (apply WL_nil)
      | (apply thenQ_normal)
      | (apply thenQ_ret)
      | (apply thenQ_exit)
      | (apply blockQ_hit)
      | (apply blockQ_miss; eq_refl)
      | (apply blockQ_ret)
      | (apply blockQ_normal)
      | (apply WC_ret)
      | (apply WC_exit)
      | (apply WC_skip)
      | (apply WC_if_true; eq_refl)
      | (apply WC_if_false; eq_refl)
      | (apply ret1; eq_refl)
      | (apply ret2; eq_refl; eq_refl)
      | (apply ret3; eq_refl; eq_refl; eq_refl)
      | (apply ret0)
      | (apply ret0n)
      | (apply WL_on0; eq_refl)
      | (apply X_pv; eq_refl; first | exact trivial | omega)
      | (apply X_field; eq_refl)
      | (apply X_loadR; eq_refl; (first | assumption | (apply Blk.alloc; assumption) | apply Blk.new | apply Blk.newA | (apply Blk.alloc; first | apply Blk.newA | (apply Blk.alloc; first | assumption | apply Blk.newA))); eq_refl)
      | (apply X_loadW; eq_refl; (first | assumption | (apply Blk.alloc; assumption) | apply Blk.new | apply Blk.newA | (apply Blk.alloc; first | apply Blk.newA | (apply Blk.alloc; first | assumption | apply Blk.newA))); eq_refl)
      | (apply X_loadC; eq_refl; (first | assumption | (apply cel; first | assumption | (apply cel; assumption))))
      | (apply X_cmpT; eq_refl; eq_refl; omega)
      | (apply X_cmpF; eq_refl; eq_refl; omega)
      | (apply X_cmp; eq_refl; eq_refl; all_goals intro _)
      | (apply X_len; eq_refl)
      | (apply X_lenS; eq_refl)
      | (apply X_index; eq_refl; eq_refl; omega; omega)
      | (apply X_indexP; eq_refl; eq_refl; omega; omega)
      | (apply X_fieldP; eq_refl)
      | (apply X_alloc)
      | (apply X_box; eq_refl))
  have e1 : (madeCells (Value.int .i64 0).cells (m * 1)).toList = (List.replicate m (0 : Int)).map nu := by rw [Nat.mul_one, show (Value.int .i64 0).cells = #[nu 0] from rfl, made_one, List.map_replicate]
  have b1 := Blk.newA (w.alloc (.cells (ccells c h).toArray 51)) (madeCells (Value.int .i64 0).cells (m * 1)) 3
  rw [e1, hz0] at b1
  refine WC_loop (fun s : Nat × List Int => [(1, pt w.heap.size), (3, .slice (some ⟨w.heap.size + 1, 0, none⟩) m m), (12, nu m), (13, nu s.1)])
    (fun s W => Chg w W none_ ∧ Blk W w.heap.size 51 (ccells c h) ∧ Blk W (w.heap.size + 1) 3 (s.2.map nu) ∧ s.2.length = m ∧ s.2.take s.1 = List.replicate s.1 (-1) ∧ s.1 ≤ m) (fun s => m - s.1) (0, List.replicate m 0) ⟨rfl, congrArg (fun k => some (Value.slice (some ⟨k, 0, none⟩) m m)) hz0, rfl, rfl, trivial⟩ ⟨hC0.al _, hI0.alloc _, b1, by simp, by simp, Nat.zero_le _⟩ ?_
  clear b1 hI0 hC0 hz0 e1
  rintro ⟨i, l⟩ w1 ⟨hC1, hI1, hB1, hll, hlt', hi⟩
  simp only at hB1 hll hlt' hi
  rcases Nat.lt_or_ge i m with hlt | hge
  · repeat' (first
      | (apply WC_seqK; intro K hK)
      | (apply hK; clear hK)
      | (clear hK; apply hK; clear hK)
      | (clear hK; clear hK; apply hK; clear hK)
      | (clear hK; clear hK; clear hK; apply hK; clear hK)
      | (apply WC_block)
      | (apply WC_region)
      | (apply WL_nil)
      | (apply thenQ_normal)
      | (apply thenQ_ret)
      | (apply thenQ_exit)
      | (apply blockQ_hit)
      | (apply blockQ_miss; eq_refl)
      | (apply blockQ_ret)
      | (apply blockQ_normal)
      | (apply WC_ret)
      | (apply WC_exit)
      | (apply WC_skip)
      | (apply WC_if_true; eq_refl)
      | (apply WC_if_false; eq_refl)
      | (apply ret1; eq_refl)
      | (apply ret2; eq_refl; eq_refl)
      | (apply ret3; eq_refl; eq_refl; eq_refl)
      | (apply ret0)
      | (apply ret0n)
      | (apply WL_on0; eq_refl)
      | (apply X_pv; eq_refl; first | exact trivial | omega)
      | (apply X_field; eq_refl)
      | (apply X_loadR; eq_refl; (first | assumption | (apply Blk.alloc; assumption) | apply Blk.new | apply Blk.newA | (apply Blk.alloc; first | apply Blk.newA | (apply Blk.alloc; first | assumption | apply Blk.newA))); eq_refl)
      | (apply X_loadW; eq_refl; (first | assumption | (apply Blk.alloc; assumption) | apply Blk.new | apply Blk.newA | (apply Blk.alloc; first | apply Blk.newA | (apply Blk.alloc; first | assumption | apply Blk.newA))); eq_refl)
      | (apply X_loadC; eq_refl; (first | assumption | (apply cel; first | assumption | (apply cel; assumption))))
      | (apply X_cmpT; eq_refl; eq_refl; omega)
      | (apply X_cmpF; eq_refl; eq_refl; omega)
      | (apply X_cmp; eq_refl; eq_refl; all_goals intro _)
      | (apply X_len; eq_refl)
      | (apply X_lenS; eq_refl)
      | (apply X_index; eq_refl; eq_refl; omega; omega)
      | (apply X_indexP; eq_refl; eq_refl; omega; omega)
      | (apply X_fieldP; eq_refl)
      | (apply X_alloc)
      | (apply X_box; eq_refl))
    refine X_doesU (does_store1 (t1 := 3) (b := w.heap.size + 1) (o := 0 + (i : Int).toNat * 1) (v := nu (-1)) (by eq_refl) (by eq_refl) hB1 (by simp; omega) rfl rfl) ?_
    rw [set_nu, show 0 + (i : Int).toNat * 1 = i by omega]
    have hcc := Chg.setRow w1 (w.heap.size + 1) ((l.set i (-1)).map nu).toArray (S := fun k => k = w.heap.size + 1) rfl
    have hB2 := hB1.set ((l.set i (-1)).map nu)
    repeat' (first
      | (apply WC_seqK; intro K hK)
      | (apply hK; clear hK)
      | (clear hK; apply hK; clear hK)
      | (clear hK; clear hK; apply hK; clear hK)
      | (clear hK; clear hK; clear hK; apply hK; clear hK)
      | (apply WC_block)
      | (apply WC_region)
      | (apply WL_nil)
      | (apply thenQ_normal)
      | (apply thenQ_ret)
      | (apply thenQ_exit)
      | (apply blockQ_hit)
      | (apply blockQ_miss; eq_refl)
      | (apply blockQ_ret)
      | (apply blockQ_normal)
      | (apply WC_ret)
      | (apply WC_exit)
      | (apply WC_skip)
      | (apply WC_if_true; eq_refl)
      | (apply WC_if_false; eq_refl)
      | (apply ret1; eq_refl)
      | (apply ret2; eq_refl; eq_refl)
      | (apply ret3; eq_refl; eq_refl; eq_refl)
      | (apply ret0)
      | (apply ret0n)
      | (apply WL_on0; eq_refl)
      | (apply X_pv; eq_refl; first | exact trivial | omega)
      | (apply X_field; eq_refl)
      | (apply X_loadR; eq_refl; (first | assumption | (apply Blk.alloc; assumption) | apply Blk.new | apply Blk.newA | (apply Blk.alloc; first | apply Blk.newA | (apply Blk.alloc; first | assumption | apply Blk.newA))); eq_refl)
      | (apply X_loadW; eq_refl; (first | assumption | (apply Blk.alloc; assumption) | apply Blk.new | apply Blk.newA | (apply Blk.alloc; first | apply Blk.newA | (apply Blk.alloc; first | assumption | apply Blk.newA))); eq_refl)
      | (apply X_loadC; eq_refl; (first | assumption | (apply cel; first | assumption | (apply cel; assumption))))
      | (apply X_cmpT; eq_refl; eq_refl; omega)
      | (apply X_cmpF; eq_refl; eq_refl; omega)
      | (apply X_cmp; eq_refl; eq_refl; all_goals intro _)
      | (apply X_len; eq_refl)
      | (apply X_lenS; eq_refl)
      | (apply X_index; eq_refl; eq_refl; omega; omega)
      | (apply X_indexP; eq_refl; eq_refl; omega; omega)
      | (apply X_fieldP; eq_refl)
      | (apply X_alloc)
      | (apply X_box; eq_refl))
    exact ⟨(i + 1, l.set i (-1)), ⟨rfl, rfl, rfl, rfl, trivial⟩, ⟨hC1.trans hcc fun k hk hh => by omega, hI1.chg hcc (by omega), hB2, by simp [hll], by rw [take_set_succ _ _ _ (by omega), hlt', List.replicate_succ'], hlt⟩, by simp only; omega⟩
  obtain rfl : i = m := by omega
  rw [List.take_of_length_le (by omega)] at hlt'
  subst hlt'
  repeat' (first
      | (apply WC_seqK; intro K hK)
      | (apply hK; clear hK)
      | (clear hK; apply hK; clear hK)
      | (clear hK; clear hK; apply hK; clear hK)
      | (clear hK; clear hK; clear hK; apply hK; clear hK)
      | (apply WC_block)
      | (apply WC_region)
      | (apply WL_nil)
      | (apply thenQ_normal)
      | (apply thenQ_ret)
      | (apply thenQ_exit)
      | (apply blockQ_hit)
      | (apply blockQ_miss; eq_refl)
      | (apply blockQ_ret)
      | (apply blockQ_normal)
      | (apply WC_ret)
      | (apply WC_exit)
      | (apply WC_skip)
      | (apply WC_if_true; eq_refl)
      | (apply WC_if_false; eq_refl)
      | (apply ret1; eq_refl)
      | (apply ret2; eq_refl; eq_refl)
      | (apply ret3; eq_refl; eq_refl; eq_refl)
      | (apply ret0)
      | (apply ret0n)
      | (apply WL_on0; eq_refl)
      | (apply X_pv; eq_refl; first | exact trivial | omega)
      | (apply X_field; eq_refl)
      | (apply X_loadR; eq_refl; (first | assumption | (apply Blk.alloc; assumption) | apply Blk.new | apply Blk.newA | (apply Blk.alloc; first | apply Blk.newA | (apply Blk.alloc; first | assumption | apply Blk.newA))); eq_refl)
      | (apply X_loadW; eq_refl; (first | assumption | (apply Blk.alloc; assumption) | apply Blk.new | apply Blk.newA | (apply Blk.alloc; first | apply Blk.newA | (apply Blk.alloc; first | assumption | apply Blk.newA))); eq_refl)
      | (apply X_loadC; eq_refl; (first | assumption | (apply cel; first | assumption | (apply cel; assumption))))
      | (apply X_cmpT; eq_refl; eq_refl; omega)
      | (apply X_cmpF; eq_refl; eq_refl; omega)
      | (apply X_cmp; eq_refl; eq_refl; all_goals intro _)
      | (apply X_len; eq_refl)
      | (apply X_lenS; eq_refl)
      | (apply X_index; eq_refl; eq_refl; omega; omega)
      | (apply X_indexP; eq_refl; eq_refl; omega; omega)
      | (apply X_fieldP; eq_refl)
      | (apply X_alloc)
      | (apply X_box; eq_refl))
  refine WC_loop (fun s : Nat × List Int => [(3, .slice (some ⟨w.heap.size + 1, 0, none⟩) i i), (21, .slice (h 8).1 c.ands.length (h 8).2), (22, nu c.ands.length), (23, nu s.1)])
    (fun s W => Chg w W none_ ∧ Blk W (w.heap.size + 1) 3 (s.2.map nu) ∧ s.2.length = i ∧ gatesL (c.ands.drop s.1) s.1 s.2 = gatesM c ∧ s.1 ≤ c.ands.length) (fun s => c.ands.length - s.1) (0, List.replicate i (-1)) ⟨rfl, rfl, rfl, rfl, trivial⟩ ⟨hC1, hB1, by simp, by unfold gatesM; rw [hml]; rfl, Nat.zero_le _⟩ ?_
  clear hI1 hB1 hC1 hll
  rintro ⟨k, l⟩ w1 ⟨hC1, hB1, hll, hgo, hk⟩
  simp only at hB1 hll hgo hk
  rcases Nat.lt_or_ge k c.ands.length with hlt | hge
  · obtain ⟨p, hp, hpc⟩ := (H.chg hC1).ands k hlt
    have hdb := (hT.gat k hlt).1
    rw [gatesL_step hlt] at hgo
    generalize hx : c.ands[k] = x at *
    have hx2 : 0 ≤ x.1 / 2 ∧ x.1 / 2 < i ∧ 0 ≤ x.1 ∧ x.1 ≤ 100000 := by unfold defBad at hdb; omega
    rw [hp]
    repeat' (first
      | (apply X_loadAP (tcells x); eq_refl; eq_refl; exact hpc)
      | (apply WC_seqK; intro K hK)
      | (apply hK; clear hK)
      | (clear hK; apply hK; clear hK)
      | (clear hK; clear hK; apply hK; clear hK)
      | (clear hK; clear hK; clear hK; apply hK; clear hK)
      | (apply WC_block)
      | (apply WC_region)
      | (apply WL_nil)
      | (apply thenQ_normal)
      | (apply thenQ_ret)
      | (apply thenQ_exit)
      | (apply blockQ_hit)
      | (apply blockQ_miss; eq_refl)
      | (apply blockQ_ret)
      | (apply blockQ_normal)
      | (apply WC_ret)
      | (apply WC_exit)
      | (apply WC_skip)
      | (apply WC_if_true; eq_refl)
      | (apply WC_if_false; eq_refl)
      | (apply ret1; eq_refl)
      | (apply ret2; eq_refl; eq_refl)
      | (apply ret3; eq_refl; eq_refl; eq_refl)
      | (apply ret0)
      | (apply ret0n)
      | (apply WL_on0; eq_refl)
      | (apply X_pv; eq_refl; first | exact trivial | omega)
      | (apply X_field; eq_refl)
      | (apply X_loadR; eq_refl; (first | assumption | (apply Blk.alloc; assumption) | apply Blk.new | apply Blk.newA | (apply Blk.alloc; first | apply Blk.newA | (apply Blk.alloc; first | assumption | apply Blk.newA))); eq_refl)
      | (apply X_loadW; eq_refl; (first | assumption | (apply Blk.alloc; assumption) | apply Blk.new | apply Blk.newA | (apply Blk.alloc; first | apply Blk.newA | (apply Blk.alloc; first | assumption | apply Blk.newA))); eq_refl)
      | (apply X_loadC; eq_refl; (first | assumption | (apply cel; first | assumption | (apply cel; assumption))))
      | (apply X_cmpT; eq_refl; eq_refl; omega)
      | (apply X_cmpF; eq_refl; eq_refl; omega)
      | (apply X_cmp; eq_refl; eq_refl; all_goals intro _)
      | (apply X_len; eq_refl)
      | (apply X_lenS; eq_refl)
      | (apply X_index; eq_refl; eq_refl; omega; omega)
      | (apply X_indexP; eq_refl; eq_refl; omega; omega)
      | (apply X_fieldP; eq_refl)
      | (apply X_alloc)
      | (apply X_box; eq_refl))
    refine X_doesU (does_storeA (t1 := 43) (vs := tcells x) (o := 0) (b := w1.heap.size) (by eq_refl) (by eq_refl) (Blk.newA w1 _ _) rfl (by exact Nat.le_refl 3) (by simp [tcells, Value.oneCell'])) ?_
    have hcc : Chg w1 ((w1.alloc (.cells #[nu 0, nu 0, nu 0] 43)).setRow w1.heap.size (tcells x).toArray) none_ := (Chg.alloc w1 _ none_).trans (Chg.setRow _ w1.heap.size _ (S := fun k => k = w1.heap.size) rfl) fun k hk h => by omega
    refine WL_turn (fun W => Chg w W none_ ∧ Blk W (w.heap.size + 1) 3 (l.map nu) ∧ Blk W w1.heap.size 43 (tcells x)) ⟨hC1.trans hcc fun _ _ h => h, hB1.chg hcc id, (Blk.newA w1 _ 43).set (tcells x)⟩ ?_
    rintro w2 ⟨hC2, hB2, hT2⟩
    repeat' (first
      | (apply WC_seqK; intro K hK)
      | (apply hK; clear hK)
      | (clear hK; apply hK; clear hK)
      | (clear hK; clear hK; apply hK; clear hK)
      | (clear hK; clear hK; clear hK; apply hK; clear hK)
      | (apply WC_block)
      | (apply WC_region)
      | (apply WL_nil)
      | (apply thenQ_normal)
      | (apply thenQ_ret)
      | (apply thenQ_exit)
      | (apply blockQ_hit)
      | (apply blockQ_miss; eq_refl)
      | (apply blockQ_ret)
      | (apply blockQ_normal)
      | (apply WC_ret)
      | (apply WC_exit)
      | (apply WC_skip)
      | (apply WC_if_true; eq_refl)
      | (apply WC_if_false; eq_refl)
      | (apply ret1; eq_refl)
      | (apply ret2; eq_refl; eq_refl)
      | (apply ret3; eq_refl; eq_refl; eq_refl)
      | (apply ret0)
      | (apply ret0n)
      | (apply WL_on0; eq_refl)
      | (apply X_pv; eq_refl; first | exact trivial | omega)
      | (apply X_field; eq_refl)
      | (apply X_loadR; eq_refl; (first | assumption | (apply Blk.alloc; assumption) | apply Blk.new | apply Blk.newA | (apply Blk.alloc; first | apply Blk.newA | (apply Blk.alloc; first | assumption | apply Blk.newA))); eq_refl)
      | (apply X_loadW; eq_refl; (first | assumption | (apply Blk.alloc; assumption) | apply Blk.new | apply Blk.newA | (apply Blk.alloc; first | apply Blk.newA | (apply Blk.alloc; first | assumption | apply Blk.newA))); eq_refl)
      | (apply X_loadC; eq_refl; (first | assumption | (apply cel; first | assumption | (apply cel; assumption))))
      | (apply X_cmpT; eq_refl; eq_refl; omega)
      | (apply X_cmpF; eq_refl; eq_refl; omega)
      | (apply X_cmp; eq_refl; eq_refl; all_goals intro _)
      | (apply X_len; eq_refl)
      | (apply X_lenS; eq_refl)
      | (apply X_index; eq_refl; eq_refl; omega; omega)
      | (apply X_indexP; eq_refl; eq_refl; omega; omega)
      | (apply X_fieldP; eq_refl)
      | (apply X_alloc)
      | (apply X_box; eq_refl))
    refine X_doesU (does_store1 (t1 := 3) (b := w.heap.size + 1) (o := 0 + (x.1 / 2).toNat * 1) (v := nu k) (by eq_refl) (by eq_refl) hB2 (by simp; omega) rfl rfl) ?_
    rw [set_nu, show 0 + (x.1 / 2).toNat * 1 = (x.1 / 2).toNat by omega]
    have hcc := Chg.setRow w2 (w.heap.size + 1) ((l.set (x.1 / 2).toNat k).map nu).toArray (S := fun k => k = w.heap.size + 1) rfl
    have hB3 := hB2.set ((l.set (x.1 / 2).toNat k).map nu)
    repeat' (first
      | (apply WC_seqK; intro K hK)
      | (apply hK; clear hK)
      | (clear hK; apply hK; clear hK)
      | (clear hK; clear hK; apply hK; clear hK)
      | (clear hK; clear hK; clear hK; apply hK; clear hK)
      | (apply WC_block)
      | (apply WC_region)
      | (apply WL_nil)
      | (apply thenQ_normal)
      | (apply thenQ_ret)
      | (apply thenQ_exit)
      | (apply blockQ_hit)
      | (apply blockQ_miss; eq_refl)
      | (apply blockQ_ret)
      | (apply blockQ_normal)
      | (apply WC_ret)
      | (apply WC_exit)
      | (apply WC_skip)
      | (apply WC_if_true; eq_refl)
      | (apply WC_if_false; eq_refl)
      | (apply ret1; eq_refl)
      | (apply ret2; eq_refl; eq_refl)
      | (apply ret3; eq_refl; eq_refl; eq_refl)
      | (apply ret0)
      | (apply ret0n)
      | (apply WL_on0; eq_refl)
      | (apply X_pv; eq_refl; first | exact trivial | omega)
      | (apply X_field; eq_refl)
      | (apply X_loadR; eq_refl; (first | assumption | (apply Blk.alloc; assumption) | apply Blk.new | apply Blk.newA | (apply Blk.alloc; first | apply Blk.newA | (apply Blk.alloc; first | assumption | apply Blk.newA))); eq_refl)
      | (apply X_loadW; eq_refl; (first | assumption | (apply Blk.alloc; assumption) | apply Blk.new | apply Blk.newA | (apply Blk.alloc; first | apply Blk.newA | (apply Blk.alloc; first | assumption | apply Blk.newA))); eq_refl)
      | (apply X_loadC; eq_refl; (first | assumption | (apply cel; first | assumption | (apply cel; assumption))))
      | (apply X_cmpT; eq_refl; eq_refl; omega)
      | (apply X_cmpF; eq_refl; eq_refl; omega)
      | (apply X_cmp; eq_refl; eq_refl; all_goals intro _)
      | (apply X_len; eq_refl)
      | (apply X_lenS; eq_refl)
      | (apply X_index; eq_refl; eq_refl; omega; omega)
      | (apply X_indexP; eq_refl; eq_refl; omega; omega)
      | (apply X_fieldP; eq_refl)
      | (apply X_alloc)
      | (apply X_box; eq_refl))
    exact ⟨(k + 1, l.set (x.1 / 2).toNat k), ⟨rfl, by first | rfl | (rw [hp]; rfl), rfl, rfl, trivial⟩, ⟨hC2.trans hcc fun k hk hh => by omega, hB3, by simp [hll], hgo, hlt⟩, by simp only; omega⟩
  obtain rfl : k = c.ands.length := by omega
  rw [List.drop_of_length_le (Nat.le_refl _)] at hgo
  have hgo : l = gatesM c := hgo
  subst hgo
  have hgl : (gatesM c).length = i := hll
  repeat' (first
      | (apply WC_seqK; intro K hK)
      | (apply hK; clear hK)
      | (clear hK; apply hK; clear hK)
      | (clear hK; clear hK; apply hK; clear hK)
      | (clear hK; clear hK; clear hK; apply hK; clear hK)
      | (apply WC_block)
      | (apply WC_region)
      | (apply WL_nil)
      | (apply thenQ_normal)
      | (apply thenQ_ret)
      | (apply thenQ_exit)
      | (apply blockQ_hit)
      | (apply blockQ_miss; eq_refl)
      | (apply blockQ_ret)
      | (apply blockQ_normal)
      | (apply WC_ret)
      | (apply WC_exit)
      | (apply WC_skip)
      | (apply WC_if_true; eq_refl)
      | (apply WC_if_false; eq_refl)
      | (apply ret1; eq_refl)
      | (apply ret2; eq_refl; eq_refl)
      | (apply ret3; eq_refl; eq_refl; eq_refl)
      | (apply ret0)
      | (apply ret0n)
      | (apply WL_on0; eq_refl)
      | (apply X_pv; eq_refl; first | exact trivial | omega)
      | (apply X_field; eq_refl)
      | (apply X_loadR; eq_refl; (first | assumption | (apply Blk.alloc; assumption) | apply Blk.new | apply Blk.newA | (apply Blk.alloc; first | apply Blk.newA | (apply Blk.alloc; first | assumption | apply Blk.newA))); eq_refl)
      | (apply X_loadW; eq_refl; (first | assumption | (apply Blk.alloc; assumption) | apply Blk.new | apply Blk.newA | (apply Blk.alloc; first | apply Blk.newA | (apply Blk.alloc; first | assumption | apply Blk.newA))); eq_refl)
      | (apply X_loadC; eq_refl; (first | assumption | (apply cel; first | assumption | (apply cel; assumption))))
      | (apply X_cmpT; eq_refl; eq_refl; omega)
      | (apply X_cmpF; eq_refl; eq_refl; omega)
      | (apply X_cmp; eq_refl; eq_refl; all_goals intro _)
      | (apply X_len; eq_refl)
      | (apply X_lenS; eq_refl)
      | (apply X_index; eq_refl; eq_refl; omega; omega)
      | (apply X_indexP; eq_refl; eq_refl; omega; omega)
      | (apply X_fieldP; eq_refl)
      | (apply X_alloc)
      | (apply X_box; eq_refl))
  refine ⟨?_, hB1, hC1⟩
  rw [hgl]
end SC
end Go.Proofs.Ytkndegjodnciaaa
