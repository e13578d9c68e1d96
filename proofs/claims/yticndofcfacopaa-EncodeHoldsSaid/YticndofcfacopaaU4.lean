/- Texts of this seat, one behind the other: N19. -/
import Derived.Test.YticndofcfacopaaU3
section
/- trestlelaw15: EncodeHolds: the walk. -/
set_option linter.unusedVariables false
set_option linter.unusedSimpArgs false
namespace Go.Proofs.Yticndofcfacopaa
namespace SC
open Go.Proofs
theorem gateCl_ok {c : Circ} {x : Tri} (g1 : inR c x.1) (g2 : inR c x.2.1) (g3 : inR c x.2.2) : ∀ l ∈ gateCl x, LitsOk (c.max + 1) l := by
  unfold inR at g1 g2 g3
  have key : ∀ y : Int, 0 ≤ y → y ≤ 2 * c.max + 1 → (formM y ≠ 0 ∧ -(c.max + 1) ≤ formM y ∧ formM y ≤ c.max + 1) ∧ (-formM y ≠ 0 ∧ -(c.max + 1) ≤ -formM y ∧ -formM y ≤ c.max + 1) := fun y h0 h1 => by
    unfold formM
    split <;> omega
  obtain ⟨a1, a2⟩ := key _ g1.1 g1.2
  obtain ⟨b1, b2⟩ := key _ g2.1 g2.2
  obtain ⟨c1, c2⟩ := key _ g3.1 g3.2
  intro l hl
  unfold gateCl at hl
  simp only [List.mem_cons, List.not_mem_nil, or_false] at hl
  rcases hl with rfl | rfl | rfl <;> refine ⟨Nat.le_of_ble_eq_true rfl, fun x hx => ?_⟩ <;> simp only [List.mem_cons, List.not_mem_nil, or_false] at hx
  · rcases hx with rfl | rfl <;> assumption
  · rcases hx with rfl | rfl <;> assumption
  · rcases hx with rfl | rfl | rfl <;> assumption
theorem clsM_ok {c : Circ} (R : Right c) (p : Int → Bool) : ∀ n : Nat, n ≤ c.ands.length → ∀ l ∈ clsM c p n, LitsOk (c.max + 1) l
  | 0, _, l, h => by
    have := R.m0
    rw [clsM_zero] at h
    simp at h
    subst h
    refine ⟨Nat.le_of_ble_eq_true rfl, fun x hx => ?_⟩
    simp at hx
    subst hx
    omega
  | n + 1, hn, l, h => by
    rw [clsM_succ] at h
    rcases List.mem_append.1 h with h | h
    · exact clsM_ok R p n (by omega) l h
    · obtain ⟨g1, g2, g3⟩ := R.gate (gt_mem (l := c.ands) (i := (n : Int)) (by omega) (by omega))
      split at h
      · exact gateCl_ok g1.in g2 g3 l h
      · cases h
/-- cnf.Holds of a circuit's gates. -/
theorem holdsB {Γ : Mm} {w : World} {c : Circ} (R : Right c) (p : Int → Bool) {V : Int} {md : List Bool} {m : List (List Int)} {A D : Option Addr} {k kd : Nat} {ps : List (Hdl × List Int)} (hV : V = c.max + 1) (hmd : md.length = (c.max + 1).toNat) (hm : m = clsM c p c.ands.length) (h1 : In Γ (.any (bun (cnB ps A k)))) (hD : RowA w booc 1 D md) (e1 : ps.map (·.2) = m) (M : Mem w Γ) :
    CVN Try.prog 30 [.agg #[nu V, .slice A ps.length k], .slice D md.length kd] w fun v N => N = [] ∧ ∃ i : Int, v = .tuple #[.bool (cnfT md m), nu i, nu 0] := by
  have hl := congrArg List.length e1
  rw [List.length_map] at hl
  have sm := (clsM_sm R p).1
  rw [← hm] at sm
  have m0 := R.m0
  have m1 := R.m1
  have e2 : V = ((md.length : Nat) : Int) := by omega
  have := holdsP_cv (k := k) (kd := kd) (CnfAt.bun h1 M) hD (by omega) (by omega) fun q hq => by
    have h9 := clsM_ok R p _ (Nat.le_refl _) q.2 (by rw [← hm, ← e1]; exact List.mem_map.2 ⟨q, hq, rfl⟩)
    rwa [show ((md.length : Nat) : Int) = c.max + 1 by omega]
  rw [e1] at this
  rw [e2]
  exact this
attribute [local irreducible] WC WL WX WS WO OX Does DoesU Enters CV Pure thenQ blockQ retQ Wants retQC GC GL GS GX RdB thenG blockG retG Rd At gt CVN CVM
attribute [local irreducible] bun
set_option maxRecDepth 100000
set_option maxHeartbeats 1600000 in
theorem encodeHolds_cv {w : World} {c : Circ} {h js : Hd} {S T : Option Addr} {k k2 : Nat} {s r : List Bool} (H : CirIn w c h js) (hS : RowA w booc 1 S s) (hT : RowA w booc 1 T r) :
    CVN Try.prog 5 [.agg (ccells c h).toArray, .slice S s.length k, .slice T r.length k2] w fun v N => N = [] ∧ v = .bool true := by
  have hG : ∀ Γ, In Γ (.old w none_) → ∀ w', Mem w' Γ → CVN Try.prog 21 [.agg (ccells c h).toArray] w' (CnfB (cnfGV c) (cnfGM c) (lookM c).2) := fun Γ ho w' M => CnfRE.to (GatesP_cv (H.chg (ho.old M)))
  have hM : ∀ Γ, In Γ (.old w none_) → ∀ w', Mem w' Γ → CVN Try.prog 13 [.agg (ccells c h).toArray, .slice S s.length k, .slice T r.length k2] w' (ValsR c s r) := fun Γ ho w' M => ModelP_cv (H.chg (ho.old M)) (hS.chg (ho.old M)) (hT.chg (ho.old M))
  have hW : ∀ w', CVN Try.prog 19 [] w' _ := fun w' => works15_cv
  unfold ValsR at hM
  by_cases hz : stepE c s r = 0
  · obtain ⟨he, hsl, hrl⟩ := stepE_zero hz
    have R := right_of H.at_ H.sane he
    have V := val_ok R s r
    have m0 := R.m0
    have m1 := R.m1
    have e0 : valsM c s r = valM c s r := by unfold valsM; rw [if_pos hz]
    have e3 : cnfGV c = c.max + 1 := by unfold cnfGV; rw [if_pos he]
    have e4 : cnfGM c = clsM c (fun _ => true) c.ands.length := by unfold cnfGM; rw [if_pos he]
    have hok := vals_model R s r
    obtain ⟨hb1, hb2⟩ := vals_back R hsl hrl
    have hlen := V.len
    rw [he] at hG
    rw [hz, e0] at hM
    have hH : ∀ Γ A B k' kd ps, In Γ (.any (bun (cnB ps A k'))) → In Γ (.vec booc 1 4 B kd (valM c s r)) → ps.map (·.2) = cnfGM c → ∀ w', Mem w' Γ → CVN Try.prog 30 [.agg #[nu (cnfGV c), .slice A ps.length k'], .slice B (valM c s r).length kd] w' fun v N => N = [] ∧ ∃ i : Int, v = .tuple #[.bool true, nu i, nu 0] := fun Γ A B k' kd ps h1 h2 e w' M => by
      have := holdsB (kd := kd) R (fun _ => true) e3 hlen e4 h1 (h2.row M) e M
      rwa [e4, hok] at this
    have hSt : ∀ Γ B kd, In Γ (.old w none_) → In Γ (.vec booc 1 4 B kd (valM c s r)) → ∀ w', Mem w' Γ → CVN Try.prog 16 [.agg (ccells c h).toArray, .slice B (valM c s r).length kd] w' (StepER s r 0) := fun Γ B kd ho hv w' M => by
      have := StepP_cv (k2 := kd) (H.chg (ho.old M)) (hv.row M)
      have e5 : mdE c (valM c s r) = 0 := mdE_ok he (by omega)
      unfold sM rM at this
      rwa [e5, if_pos rfl, if_pos rfl, hb1, hb2] at this
    unfold StepER at hSt
    have hB1 : ∀ Γ A k', In Γ (.old w none_) → In Γ (.vec booc 1 4 A k' s) → ∀ w', Mem w' Γ → CVN Try.prog 15 [.slice A s.length k', .slice S s.length k] w' fun v N => N = [] ∧ v = .bool true := fun Γ A k' ho ha w' M => (sameBools_cv (ha.row M) (hS.chg (ho.old M)) (vec_len (ha.ok M)) (vec_len (ha.ok M))).mono fun v N ⟨e1, e2⟩ => ⟨e1, by rw [e2, decide_eq_true rfl]⟩
    have hB2 : ∀ Γ A k', In Γ (.old w none_) → In Γ (.vec booc 1 4 A k' r) → ∀ w', Mem w' Γ → CVN Try.prog 15 [.slice A r.length k', .slice T r.length k2] w' fun v N => N = [] ∧ v = .bool true := fun Γ A k' ho ha w' M => (sameBools_cv (ha.row M) (hT.chg (ho.old M)) (vec_len (ha.ok M)) (vec_len (ha.ok M))).mono fun v N ⟨e1, e2⟩ => ⟨e1, by rw [e2, decide_eq_true rfl]⟩
    clear hok hb1 hb2 hlen V e0 e3 e4
    generalize valM c s r = md at *
    generalize cnfGV c = V at *
    generalize cnfGM c = m at *
    refine CVN.enter 82 [6] Try.func5 rfl rfl rfl (by decide) rfl ?_
    repeat' (first
      | (apply G_call; eq_refl; eq_refl; (apply hG; (repeat first | exact In.here | apply In.there | apply In.skip)); rintro _ _ ⟨p1, A1, k1, rfl, e1, rfl⟩)
      | (apply G_call; eq_refl; eq_refl; (apply hM; (repeat first | exact In.here | apply In.there | apply In.skip)); rintro _ _ ⟨A2, k3, rfl, rfl⟩)
      | (apply G_call; eq_refl; eq_refl; (apply hH; (repeat first | exact In.here | apply In.there | apply In.skip); (repeat first | exact In.here | apply In.there | apply In.skip); assumption); rintro _ _ ⟨rfl, i, rfl⟩)
      | (apply G_call; eq_refl; eq_refl; (apply hSt; (repeat first | exact In.here | apply In.there | apply In.skip); (repeat first | exact In.here | apply In.there | apply In.skip)); rintro _ _ ⟨A3, k5, A4, k6, rfl, rfl⟩)
      | (apply G_call; eq_refl; eq_refl; (apply hB1; (repeat first | exact In.here | apply In.there | apply In.skip); (repeat first | exact In.here | apply In.there | apply In.skip)); rintro _ _ ⟨rfl, rfl⟩)
      | (apply G_call; eq_refl; eq_refl; (apply hB2; (repeat first | exact In.here | apply In.there | apply In.skip); (repeat first | exact In.here | apply In.there | apply In.skip)); rintro _ _ ⟨rfl, rfl⟩)
      | (apply G_call; eq_refl; eq_refl; (exact fun w' _ => hW w'); rintro _ _ ⟨rfl, rfl⟩)
      | (apply GC_seqK; intro K hK)
      | (apply hK; clear hK K)
      | (apply GC_region)
      | (apply GL_nil)
      | (apply thenG_normal)
      | (apply GC_ret)
      | (apply GC_skip)
      | (apply GC_if_false; eq_refl)
      | (apply retG1; eq_refl)
      | (apply GL_on; eq_refl; eq_refl)
      | (apply G_pv; eq_refl; first | exact trivial | omega)
      | (apply G_ldW; eq_refl; (repeat first | exact In.here | apply In.there | apply In.skip); eq_refl)
      | (apply G_cmpT; eq_refl; eq_refl; omega)
      | (apply G_cmpF; eq_refl; eq_refl; omega)
      | (apply G_alloc; eq_refl; intro _)
      | (apply G_box; eq_refl; eq_refl; intro _)
      | (apply G_stW; (first | exact wr_p | kernel_rfl); eq_refl; eq_refl; eq_refl; eq_refl; (repeat first | exact Upd.here | apply Upd.there | apply Upd.skip); eq_refl))
    exact ⟨[], (by repeat first | exact Wk.nil | exact Wk.refl | (apply Wk.cons; (focus ((repeat first | exact Rem.here | apply Rem.there | apply Rem.skip); done))) | apply Wk.nilv | apply Wk.last | apply Wk.drop), rfl, rfl⟩
  · have e0 : valsM c s r = [] := by unfold valsM; rw [if_neg hz]
    rw [e0] at hM
    simp only [List.length_nil] at hM
    have hlk : (lookM c).2 = 0 ∨ (lookM c).2 = stepE c s r := by
      by_cases he : (lookM c).2 = 0
      · exact .inl he
      · exact .inr (stepE_look he).symm
    generalize stepE c s r = δ at *
    generalize (lookM c).2 = ε at *
    generalize cnfGV c = V at *
    generalize cnfGM c = m at *
    refine CVN.enter 82 [6] Try.func5 rfl rfl rfl (by decide) rfl ?_
    rcases hlk with rfl | rfl
    all_goals
      repeat' (first
      | (apply G_call; eq_refl; eq_refl; (apply hG; (repeat first | exact In.here | apply In.there | apply In.skip)); rintro _ _ ⟨p1, A1, k1, rfl, e1, rfl⟩)
      | (apply G_call; eq_refl; eq_refl; (apply hM; (repeat first | exact In.here | apply In.there | apply In.skip)); rintro _ _ ⟨A2, k3, rfl, rfl⟩)
      | (apply G_call; eq_refl; eq_refl; (exact fun w' _ => hW w'); rintro _ _ ⟨rfl, rfl⟩)
      | (apply GC_seqK; intro K hK)
      | (apply hK; clear hK K)
      | (apply GC_region)
      | (apply GL_nil)
      | (apply thenG_normal)
      | (apply thenG_ret)
      | (apply GC_ret)
      | (apply GC_skip)
      | (apply GC_if_true; eq_refl)
      | (apply GC_if_false; eq_refl)
      | (apply retG1; eq_refl)
      | (apply GL_on; eq_refl; eq_refl)
      | (apply GL_off; eq_refl; eq_refl)
      | (apply G_pv; eq_refl; first | exact trivial | omega)
      | (apply G_ldW; eq_refl; (repeat first | exact In.here | apply In.there | apply In.skip); eq_refl)
      | (apply G_cmpT; eq_refl; eq_refl; omega)
      | (apply G_cmpF; eq_refl; eq_refl; omega)
      | (apply G_len; eq_refl)
      | (apply G_alloc; eq_refl; intro _)
      | (apply G_box; eq_refl; eq_refl; intro _)
      | (apply G_stW; (first | exact wr_p | kernel_rfl); eq_refl; eq_refl; eq_refl; eq_refl; (repeat first | exact Upd.here | apply Upd.there | apply Upd.skip); eq_refl))
      exact ⟨[], (by repeat first | exact Wk.nil | exact Wk.refl | (apply Wk.cons; (focus ((repeat first | exact Rem.here | apply Rem.there | apply Rem.skip); done))) | apply Wk.nilv | apply Wk.last | apply Wk.drop), rfl, rfl⟩
end SC
end Go.Proofs.Yticndofcfacopaa
end
