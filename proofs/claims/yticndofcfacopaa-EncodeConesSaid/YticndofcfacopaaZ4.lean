/- Texts of this seat, one behind the other: N18 N19 N20 N21 N16 N22. -/
import Derived.Test.YticndofcfacopaaZ3
section
/- cnf: Check, Holds. -/
set_option linter.unusedVariables false
set_option linter.unusedSimpArgs false
namespace Go.Proofs.Yticndofcfacopaa
namespace SC
open Go.Proofs
/-- What a formula is made of is right. -/
def LitsOk (V : Int) (l : List Int) : Prop := l.length ≤ 16384 ∧ ∀ x ∈ l, x ≠ 0 ∧ -V ≤ x ∧ x ≤ V
attribute [local irreducible] WC WL WX WS WO OX Does DoesU Enters CV Pure thenQ blockQ retQ Wants retQC GC GL GS GX RdB thenG blockG retG Rd At gt CVN CVM
set_option maxRecDepth 100000
theorem literals1_cv {w : World} {b : Nat} {V x : Int} (hB : Blk w b 3 [nu V]) (h0 : 0 ≤ V) (h1 : V ≤ 262144) (hx : x ≠ 0 ∧ -V ≤ x ∧ x ≤ V) : CVN Try.prog 147 [nu x, pt b] w fun v N => N = [] ∧ v = .bool false := by
  obtain ⟨x0, x1, x2⟩ := hx
  refine CVN.enter 17 [3] Try.func147 rfl rfl rfl (by decide) rfl ?_
  repeat' (first
      | (apply GC_seqK; intro K hK)
      | (apply hK; clear hK K)
      | (apply GC_region)
      | (apply GL_nil)
      | (apply thenG_normal)
      | (apply GC_ret)
      | (apply retG1; eq_refl)
      | (apply GL_on; eq_refl; eq_refl)
      | (apply G_pv; eq_refl; first | exact trivial | omega)
      | (apply G_ldO; eq_refl; (repeat first | exact In.here | apply In.there | apply In.skip); assumption; eq_refl)
      | (apply G_cmpF; eq_refl; eq_refl; omega)
      | (apply G_neg; eq_refl; omega; omega))
  exact ⟨[], (by repeat first | exact Wk.nil | exact Wk.refl | (apply Wk.cons; (focus ((repeat first | exact Rem.here | apply Rem.there | apply Rem.skip); done))) | apply Wk.nilv | apply Wk.last | apply Wk.drop), rfl, rfl⟩
theorem literals_cv {w : World} {A : Option Addr} {k : Nat} {V : Int} {l : List Int} (hA : RowA w icell 1 A l) (h0 : 0 ≤ V) (h1 : V ≤ 262144) (hl : LitsOk V l) : CVN Try.prog 109 [.slice A l.length k, nu V] w fun v N => N = [] ∧ v = nu 0 := by
  obtain ⟨l0, l1⟩ := hl
  have hcf : ∀ Γ b, In Γ (.old w none_) → In Γ (.box b 3 [nu V]) → ∀ w', Mem w' Γ → CVN Try.prog 127 [.slice A l.length k, .func (.func 147) #[] #[pt b]] w' fun v N => N = [] ∧ v = .bool false := fun Γ b ho hb w' M => by
    have := containsFunc_cv (f := 147) (cap := #[pt b]) (p := fun _ => false) (k := k) (hA.chg (ho.old M)) (by omega) fun x hx w2 hc => literals1_cv ((hb.box M).chg hc id) h0 h1 (l1 x hx)
    rwa [show (l.any fun _ => false) = false by simp] at this
  refine CVN.enter 11 [4] Try.func109 rfl rfl rfl (by decide) rfl ?_
  repeat' (first
      | (apply G_call; eq_refl; eq_refl; (apply hcf; (repeat first | exact In.here | apply In.there | apply In.skip); (repeat first | exact In.here | apply In.there | apply In.skip)); rintro _ _ ⟨rfl, rfl⟩)
      | (apply GC_seqK; intro K hK)
      | (apply hK; clear hK K)
      | (apply GC_region)
      | (apply GL_nil)
      | (apply thenG_normal)
      | (apply GC_ret)
      | (apply GC_skip)
      | (apply GC_if_false; eq_refl)
      | (apply retG1; eq_refl)
      | (apply GL_on; eq_refl; eq_refl)
      | (apply G_pv; eq_refl; first | exact trivial | omega)
      | (apply G_cmpF; eq_refl; eq_refl; omega)
      | (apply G_len; eq_refl)
      | (apply G_box; eq_refl; eq_refl; intro _)
      | (apply G_fun; eq_refl))
  exact ⟨[], (by repeat first | exact Wk.nil | exact Wk.refl | (apply Wk.cons; (focus ((repeat first | exact Rem.here | apply Rem.there | apply Rem.skip); done))) | apply Wk.nilv | apply Wk.last | apply Wk.drop), rfl, rfl⟩
theorem check14_cv {w : World} {A : Option Addr} {k : Nat} {V : Int} {ps : List (Hdl × List Int)} (H : CnfAt w A ps) (h0 : 0 ≤ V) (h1 : V ≤ 262144) (hn : ps.length ≤ 524288) (hl : ∀ p ∈ ps, LitsOk V p.2) : CVN Try.prog 65 [.agg #[nu V, .slice A ps.length k]] w fun v N => N = [] ∧ v = .tuple #[nu 0, nu 0] := by
  have hA := H.row
  refine CVN.enter 36 [2, 3] Try.func65 rfl rfl rfl (by decide) rfl ?_
  repeat' (first
      | (apply GC_seqK; intro K hK)
      | (apply hK; clear hK K)
      | (apply GC_block)
      | (apply GC_region)
      | (apply GL_nil)
      | (apply thenG_normal)
      | (apply GC_skip)
      | (apply GC_if_false; eq_refl)
      | (apply GL_on; eq_refl; eq_refl)
      | (apply G_pv; eq_refl; first | exact trivial | omega)
      | (apply G_field; eq_refl)
      | (apply G_ld; eq_refl; (repeat first | exact In.here | apply In.there | apply In.skip); eq_refl)
      | (apply G_cmpF; eq_refl; eq_refl; omega)
      | (apply G_len; eq_refl)
      | (apply G_box; eq_refl; eq_refl; intro _))
  rename_i b1
  refine GC_loopK [1, 20, 21] (fun i : Nat => [(22, nu i)]) (fun _ => [.box b1 44 [nu V, .slice A ps.length k], .old w none_]) (fun i => i ≤ ps.length) (fun i => ps.length - i) 0 (by repeat first | exact Pick.nil | (apply Pick.cons; eq_refl)) (by repeat first | exact trivial | refine ⟨rfl, ?_⟩) (by repeat first | exact Wk.nil | exact Wk.refl | (apply Wk.cons; (focus ((repeat first | exact Rem.here | apply Rem.there | apply Rem.skip); done))) | apply Wk.nilv | apply Wk.last | apply Wk.drop) (Nat.zero_le _) ?_
  intro i hi
  rcases Nat.lt_or_ge i ps.length with hlt | hge
  · have g1 := gt_mem (l := ps) (i := (i : Int)) (by omega) (by omega)
    have r1 := H.each _ g1
    have o1 := hl _ g1
    generalize hx : gt ps (i : Int) = x at *
    obtain ⟨x1, l1⟩ := x
    dsimp only at r1 o1
    have hli : ∀ Γ, In Γ (.old w none_) → ∀ w', Mem w' Γ → CVN Try.prog 109 [.slice x1.1 l1.length x1.2, nu V] w' _ := fun Γ ho w' M => literals_cv (r1.chg (ho.old M)) h0 h1 o1
    repeat' (first
      | (apply G_call; eq_refl; eq_refl; (apply hli; (repeat first | exact In.here | apply In.there | apply In.skip)); rintro _ _ ⟨rfl, rfl⟩)
      | (apply G_rd; eq_refl; (first | (apply Rd.own; (repeat first | exact In.here | apply In.there | apply In.skip); infer_instance) | (apply Rd.old; (repeat first | exact In.here | apply In.there | apply In.skip); assumption) | (apply Rd.oldR; (repeat first | exact In.here | apply In.there | apply In.skip); assumption) | exact Rd.nil | assumption); (case ih => infer_instance); omega; omega; (rw [hx]; dsimp only [encS]; eq_refl))
      | (apply GC_seqK; intro K hK)
      | (apply hK; clear hK K)
      | (apply GC_block)
      | (apply GC_region)
      | (apply GL_nil)
      | (apply thenG_normal)
      | (apply blockG_normal)
      | (apply GC_skip)
      | (apply GC_if_true; eq_refl)
      | (apply GC_if_false; eq_refl)
      | (apply GL_on; eq_refl; eq_refl)
      | (apply G_pv; eq_refl; first | exact trivial | omega)
      | (apply G_field; eq_refl)
      | (apply G_ld; eq_refl; (repeat first | exact In.here | apply In.there | apply In.skip); eq_refl)
      | (apply G_cmpT; eq_refl; eq_refl; omega)
      | (apply G_cmpF; eq_refl; eq_refl; omega)
      | (apply G_ix; eq_refl; eq_refl; (first | (apply Rd.own; (repeat first | exact In.here | apply In.there | apply In.skip); infer_instance) | (apply Rd.old; (repeat first | exact In.here | apply In.there | apply In.skip); assumption) | (apply Rd.oldR; (repeat first | exact In.here | apply In.there | apply In.skip); assumption) | exact Rd.nil | assumption); (first | eq_refl | omega); omega; omega))
    exact ⟨i + 1, (by repeat first | exact trivial | refine ⟨rfl, ?_⟩), (by repeat first | exact Wk.nil | exact Wk.refl | (apply Wk.cons; (focus ((repeat first | exact Rem.here | apply Rem.there | apply Rem.skip); done))) | apply Wk.nilv | apply Wk.last | apply Wk.drop), hlt, by omega⟩
  · repeat' (first
      | (apply GC_seqK; intro K hK)
      | (apply hK; clear hK K)
      | (clear hK K; apply hK; clear hK K)
      | (apply GC_region)
      | (apply GL_nil)
      | (apply thenG_normal)
      | (apply thenG_exit)
      | (apply blockG_hit)
      | (apply GC_ret)
      | (apply GC_exit)
      | (apply GC_if_false; eq_refl)
      | (apply retG2; eq_refl; eq_refl)
      | (apply GL_on; eq_refl; eq_refl)
      | (apply G_pv; eq_refl; first | exact trivial | omega)
      | (apply G_cmpF; eq_refl; eq_refl; omega))
    exact ⟨[], (by repeat first | exact Wk.nil | exact Wk.refl | (apply Wk.cons; (focus ((repeat first | exact Rem.here | apply Rem.there | apply Rem.skip); done))) | apply Wk.nilv | apply Wk.last | apply Wk.drop), rfl, rfl⟩
/-! ### slices.ContainsFunc and IndexFunc at clauses -/
theorem indexFuncC_cv {w : World} {f : FuncId} [F : Fn Try.prog f] {cap : Array Value} {p : Int → Bool} {A : Option Addr} {k : Nat} {ls : List Int} (hA : RowA w icell 1 A ls) (hn : ls.length ≤ 9223372036854775807) (hf : ∀ x ∈ ls, ∀ w', Chg w w' none_ → CVN Try.prog f ([nu x] ++ cap.toList) w' fun v N => N = [] ∧ v = .bool (p x)) :
    CVN Try.prog 159 [.slice A ls.length k, .func (.func f) #[] cap] w fun v N => N = [] ∧ ∃ i : Int, v = nu i ∧ decide (0 ≤ i) = ls.any p := by
  refine CVN.enter 19 [4] Try.func159 rfl rfl rfl (by decide) rfl ?_
  repeat' (first
      | (apply GC_seqK; intro K hK)
      | (apply hK; clear hK K)
      | (apply GC_block)
      | (apply GC_region)
      | (apply GL_nil)
      | (apply thenG_normal)
      | (apply GL_on; eq_refl; eq_refl)
      | (apply G_pv; eq_refl; first | exact trivial | omega)
      | (apply G_len; eq_refl))
  refine GC_loopK [0, 1, 7] (fun i : Nat => [(8, nu i)]) (fun _ => [.old w none_]) (fun i => i ≤ ls.length ∧ (ls.take i).any p = false) (fun i => ls.length - i) 0 (by repeat first | exact Pick.nil | (apply Pick.cons; eq_refl)) (by repeat first | exact trivial | refine ⟨rfl, ?_⟩) (by repeat first | exact Wk.nil | exact Wk.refl | (apply Wk.cons; (focus ((repeat first | exact Rem.here | apply Rem.there | apply Rem.skip); done))) | apply Wk.nilv | apply Wk.last | apply Wk.drop) ⟨Nat.zero_le _, by simp⟩ ?_
  rintro i ⟨hi, hall⟩
  rcases Nat.lt_or_ge i ls.length with hlt | hge
  · have e1 := List.take_succ_eq_append_getElem hlt
    have eg := gt_nat hlt
    have hcl : ∀ Γ, In Γ (.old w none_) → ∀ w', Mem w' Γ → CVN Try.prog f ([nu (gt ls (i : Int))] ++ cap.toList) w' _ := fun Γ h0 w' M => hf _ (by rw [eg]; exact List.getElem_mem hlt) w' (h0.old M)
    rw [← eg] at e1
    cases hv : p (gt ls (i : Int))
    all_goals
      rw [hv] at hcl
      repeat' (first
      | (apply G_callF; eq_refl; eq_refl; infer_instance; eq_refl; (apply hcl; (repeat first | exact In.here | apply In.there | apply In.skip)); rintro _ _ ⟨rfl, rfl⟩)
      | (apply GC_seqK; intro K hK)
      | (apply hK; clear hK K)
      | (apply GC_block)
      | (apply GC_region)
      | (apply GL_nil)
      | (apply thenG_normal)
      | (apply thenG_ret)
      | (apply blockG_ret)
      | (apply blockG_normal)
      | (apply GC_ret)
      | (apply GC_skip)
      | (apply GC_if_true; eq_refl)
      | (apply GC_if_false; eq_refl)
      | (apply retG1; eq_refl)
      | (apply GL_on; eq_refl; eq_refl)
      | (apply G_pv; eq_refl; first | exact trivial | omega)
      | (apply G_rd; eq_refl; (first | (apply Rd.own; (repeat first | exact In.here | apply In.there | apply In.skip); infer_instance) | (apply Rd.old; (repeat first | exact In.here | apply In.there | apply In.skip); assumption) | (apply Rd.oldR; (repeat first | exact In.here | apply In.there | apply In.skip); assumption) | exact Rd.nil | assumption); (case ih => infer_instance); omega; omega; eq_refl)
      | (apply G_cmpT; eq_refl; eq_refl; omega)
      | (apply G_ix; eq_refl; eq_refl; (first | (apply Rd.own; (repeat first | exact In.here | apply In.there | apply In.skip); infer_instance) | (apply Rd.old; (repeat first | exact In.here | apply In.there | apply In.skip); assumption) | (apply Rd.oldR; (repeat first | exact In.here | apply In.there | apply In.skip); assumption) | exact Rd.nil | assumption); (first | eq_refl | omega); omega; omega))
    · exact ⟨i + 1, (by repeat first | exact trivial | refine ⟨rfl, ?_⟩), (by repeat first | exact Wk.nil | exact Wk.refl | (apply Wk.cons; (focus ((repeat first | exact Rem.here | apply Rem.there | apply Rem.skip); done))) | apply Wk.nilv | apply Wk.last | apply Wk.drop), ⟨hlt, by rw [e1, List.any_append, hall]; simp [hv]⟩, by omega⟩
    · refine ⟨[], (by repeat first | exact Wk.nil | exact Wk.refl | (apply Wk.cons; (focus ((repeat first | exact Rem.here | apply Rem.there | apply Rem.skip); done))) | apply Wk.nilv | apply Wk.last | apply Wk.drop), rfl, _, rfl, ?_⟩
      have : ls.any p = true := List.any_eq_true.2 ⟨_, List.getElem_mem hlt, by rw [← eg, hv]⟩
      rw [this]
      simp
  · repeat' (first
      | (apply GC_seqK; intro K hK)
      | (apply hK; clear hK K)
      | (clear hK K; apply hK; clear hK K)
      | (apply GC_region)
      | (apply GL_nil)
      | (apply thenG_normal)
      | (apply thenG_exit)
      | (apply blockG_hit)
      | (apply GC_ret)
      | (apply GC_exit)
      | (apply GC_if_false; eq_refl)
      | (apply retG1; eq_refl)
      | (apply GL_on; eq_refl; eq_refl)
      | (apply G_pv; eq_refl; first | exact trivial | omega)
      | (apply G_cmpF; eq_refl; eq_refl; omega))
    rw [List.take_of_length_le hge] at hall
    exact ⟨[], (by repeat first | exact Wk.nil | exact Wk.refl | (apply Wk.cons; (focus ((repeat first | exact Rem.here | apply Rem.there | apply Rem.skip); done))) | apply Wk.nilv | apply Wk.last | apply Wk.drop), rfl, _, rfl, by rw [hall]; rfl⟩
theorem containsFuncC_cv {w : World} {f : FuncId} [F : Fn Try.prog f] {cap : Array Value} {p : Int → Bool} {A : Option Addr} {k : Nat} {ls : List Int} (hA : RowA w icell 1 A ls) (hn : ls.length ≤ 9223372036854775807) (hf : ∀ x ∈ ls, ∀ w', Chg w w' none_ → CVN Try.prog f ([nu x] ++ cap.toList) w' fun v N => N = [] ∧ v = .bool (p x)) :
    CVN Try.prog 148 [.slice A ls.length k, .func (.func f) #[] cap] w fun v N => N = [] ∧ v = .bool (ls.any p) := by
  have hix : ∀ Γ, In Γ (.old w none_) → ∀ w', Mem w' Γ → CVN Try.prog 159 [.slice A ls.length k, .func (.func f) #[] cap] w' _ := fun Γ h0 w' M => indexFuncC_cv (p := p) (hA.chg (h0.old M)) hn fun x hx w2 hc => hf x hx w2 ((h0.old M).trans hc fun _ _ h => h)
  refine CVN.enter 9 [4] Try.func148 rfl rfl rfl (by decide) rfl ?_
  repeat' (first
      | (apply G_call; eq_refl; eq_refl; (apply hix; (repeat first | exact In.here | apply In.there | apply In.skip)); rintro _ _ ⟨rfl, i, rfl, hi⟩)
      | (apply GC_seqK; intro K hK)
      | (apply hK; clear hK K)
      | (apply GC_region)
      | (apply GL_nil)
      | (apply thenG_normal)
      | (apply GC_ret)
      | (apply retG1; eq_refl)
      | (apply GL_on; eq_refl; eq_refl)
      | (apply G_pv; eq_refl; first | exact trivial | omega)
      | (apply G_cmpD; eq_refl; eq_refl; (case hd => infer_instance)))
  exact ⟨[], (by repeat first | exact Wk.nil | exact Wk.refl | (apply Wk.cons; (focus ((repeat first | exact Rem.here | apply Rem.there | apply Rem.skip); done))) | apply Wk.nilv | apply Wk.last | apply Wk.drop), rfl, by rw [← hi]⟩
theorem indexClause_cv {w : World} {f : FuncId} [F : Fn Try.prog f] {cap : Array Value} {q : List Int → Bool} {A : Option Addr} {k : Nat} {ps : List (Hdl × List Int)} (H : CnfAt w A ps) (hn : ps.length ≤ 9223372036854775807) (hf : ∀ p ∈ ps, ∀ w', Chg w w' none_ → CVN Try.prog f ([.slice p.1.1 p.2.length p.1.2] ++ cap.toList) w' fun v N => N = [] ∧ v = .bool (q p.2)) :
    CVN Try.prog 110 [.slice A ps.length k, .func (.func f) #[] cap] w fun v N => N = [] ∧ ∃ i : Int, v = nu i ∧ decide (0 ≤ i) = ps.any fun p => q p.2 := by
  have hA := H.row
  refine CVN.enter 19 [4] Try.func110 rfl rfl rfl (by decide) rfl ?_
  repeat' (first
      | (apply GC_seqK; intro K hK)
      | (apply hK; clear hK K)
      | (apply GC_block)
      | (apply GC_region)
      | (apply GL_nil)
      | (apply thenG_normal)
      | (apply GL_on; eq_refl; eq_refl)
      | (apply G_pv; eq_refl; first | exact trivial | omega)
      | (apply G_len; eq_refl))
  refine GC_loopK [0, 1, 7] (fun i : Nat => [(8, nu i)]) (fun _ => [.old w none_]) (fun i => i ≤ ps.length ∧ ((ps.take i).any fun p => q p.2) = false) (fun i => ps.length - i) 0 (by repeat first | exact Pick.nil | (apply Pick.cons; eq_refl)) (by repeat first | exact trivial | refine ⟨rfl, ?_⟩) (by repeat first | exact Wk.nil | exact Wk.refl | (apply Wk.cons; (focus ((repeat first | exact Rem.here | apply Rem.there | apply Rem.skip); done))) | apply Wk.nilv | apply Wk.last | apply Wk.drop) ⟨Nat.zero_le _, by simp⟩ ?_
  rintro i ⟨hi, hall⟩
  rcases Nat.lt_or_ge i ps.length with hlt | hge
  · have e1 := List.take_succ_eq_append_getElem hlt
    have eg := gt_nat hlt
    have g1 := gt_mem (l := ps) (i := (i : Int)) (by omega) (by omega)
    have hcl0 := fun w' hc => hf _ g1 w' hc
    rw [← eg] at e1
    clear eg
    generalize hx : gt ps (i : Int) = x at *
    obtain ⟨x1, l1⟩ := x
    dsimp only at hcl0
    have hcl : ∀ Γ, In Γ (.old w none_) → ∀ w', Mem w' Γ → CVN Try.prog f ([.slice x1.1 l1.length x1.2] ++ cap.toList) w' _ := fun Γ h0 w' M => hcl0 w' (h0.old M)
    cases hv : q l1
    all_goals
      rw [hv] at hcl
      repeat' (first
      | (apply G_callF; eq_refl; eq_refl; infer_instance; eq_refl; (apply hcl; (repeat first | exact In.here | apply In.there | apply In.skip)); rintro _ _ ⟨rfl, rfl⟩)
      | (apply G_rd; eq_refl; (first | (apply Rd.own; (repeat first | exact In.here | apply In.there | apply In.skip); infer_instance) | (apply Rd.old; (repeat first | exact In.here | apply In.there | apply In.skip); assumption) | (apply Rd.oldR; (repeat first | exact In.here | apply In.there | apply In.skip); assumption) | exact Rd.nil | assumption); (case ih => infer_instance); omega; omega; (rw [hx]; dsimp only [encS]; eq_refl))
      | (apply GC_seqK; intro K hK)
      | (apply hK; clear hK K)
      | (apply GC_block)
      | (apply GC_region)
      | (apply GL_nil)
      | (apply thenG_normal)
      | (apply thenG_ret)
      | (apply blockG_ret)
      | (apply blockG_normal)
      | (apply GC_ret)
      | (apply GC_skip)
      | (apply GC_if_true; eq_refl)
      | (apply GC_if_false; eq_refl)
      | (apply retG1; eq_refl)
      | (apply GL_on; eq_refl; eq_refl)
      | (apply G_pv; eq_refl; first | exact trivial | omega)
      | (apply G_cmpT; eq_refl; eq_refl; omega)
      | (apply G_ix; eq_refl; eq_refl; (first | (apply Rd.own; (repeat first | exact In.here | apply In.there | apply In.skip); infer_instance) | (apply Rd.old; (repeat first | exact In.here | apply In.there | apply In.skip); assumption) | (apply Rd.oldR; (repeat first | exact In.here | apply In.there | apply In.skip); assumption) | exact Rd.nil | assumption); (first | eq_refl | omega); omega; omega))
    · exact ⟨i + 1, (by repeat first | exact trivial | refine ⟨rfl, ?_⟩), (by repeat first | exact Wk.nil | exact Wk.refl | (apply Wk.cons; (focus ((repeat first | exact Rem.here | apply Rem.there | apply Rem.skip); done))) | apply Wk.nilv | apply Wk.last | apply Wk.drop), ⟨hlt, by rw [e1, List.any_append, hall]; simp [hv]⟩, by omega⟩
    · refine ⟨[], (by repeat first | exact Wk.nil | exact Wk.refl | (apply Wk.cons; (focus ((repeat first | exact Rem.here | apply Rem.there | apply Rem.skip); done))) | apply Wk.nilv | apply Wk.last | apply Wk.drop), rfl, _, rfl, ?_⟩
      have : (ps.any fun p => q p.2) = true := List.any_eq_true.2 ⟨_, g1, hv⟩
      rw [this]
      simp
  · repeat' (first
      | (apply GC_seqK; intro K hK)
      | (apply hK; clear hK K)
      | (clear hK K; apply hK; clear hK K)
      | (apply GC_region)
      | (apply GL_nil)
      | (apply thenG_normal)
      | (apply thenG_exit)
      | (apply blockG_hit)
      | (apply GC_ret)
      | (apply GC_exit)
      | (apply GC_if_false; eq_refl)
      | (apply retG1; eq_refl)
      | (apply GL_on; eq_refl; eq_refl)
      | (apply G_pv; eq_refl; first | exact trivial | omega)
      | (apply G_cmpF; eq_refl; eq_refl; omega))
    rw [List.take_of_length_le hge] at hall
    exact ⟨[], (by repeat first | exact Wk.nil | exact Wk.refl | (apply Wk.cons; (focus ((repeat first | exact Rem.here | apply Rem.there | apply Rem.skip); done))) | apply Wk.nilv | apply Wk.last | apply Wk.drop), rfl, _, rfl, by rw [hall]; rfl⟩
/-! ### a clause, a formula -/
theorem holds1_cv {w : World} {b kd : Nat} {D : Option Addr} {md : List Bool} {x : Int} (hB : Blk w b 30 [.slice D md.length kd]) (hD : RowA w booc 1 D md) (hm : md.length ≤ 262144) (hx : x ≠ 0 ∧ -(md.length : Int) ≤ x ∧ x ≤ md.length) : CVN Try.prog 149 [nu x, pt b] w fun v N => N = [] ∧ v = .bool (litT md x) := by
  obtain ⟨x0, x1, x2⟩ := hx
  unfold litT
  refine CVN.enter 18 [3] Try.func149 rfl rfl rfl (by decide) rfl ?_
  by_cases hs : x < 0
  · rw [if_pos hs]
    repeat' (first
      | (apply GC_seqK; intro K hK)
      | (apply hK; clear hK K)
      | (apply GC_region)
      | (apply GL_nil)
      | (apply thenG_normal)
      | (apply thenG_ret)
      | (apply GC_ret)
      | (apply GC_if_true; eq_refl)
      | (apply retG1; eq_refl)
      | (apply GL_on; eq_refl; eq_refl)
      | (apply G_pv; eq_refl; first | exact trivial | omega)
      | (apply G_ldO; eq_refl; (repeat first | exact In.here | apply In.there | apply In.skip); assumption; eq_refl)
      | (apply G_rd; eq_refl; (first | (apply Rd.own; (repeat first | exact In.here | apply In.there | apply In.skip); infer_instance) | (apply Rd.old; (repeat first | exact In.here | apply In.there | apply In.skip); assumption) | (apply Rd.oldR; (repeat first | exact In.here | apply In.there | apply In.skip); assumption) | exact Rd.nil | assumption); (case ih => infer_instance); omega; omega; eq_refl)
      | (apply G_cmpT; eq_refl; eq_refl; omega)
      | (apply G_ix; eq_refl; eq_refl; (first | (apply Rd.own; (repeat first | exact In.here | apply In.there | apply In.skip); infer_instance) | (apply Rd.old; (repeat first | exact In.here | apply In.there | apply In.skip); assumption) | (apply Rd.oldR; (repeat first | exact In.here | apply In.there | apply In.skip); assumption) | exact Rd.nil | assumption); (first | eq_refl | omega); omega; omega)
      | (apply G_neg; eq_refl; omega; omega))
    exact ⟨[], (by repeat first | exact Wk.nil | exact Wk.refl | (apply Wk.cons; (focus ((repeat first | exact Rem.here | apply Rem.there | apply Rem.skip); done))) | apply Wk.nilv | apply Wk.last | apply Wk.drop), rfl, rfl⟩
  · rw [if_neg hs]
    repeat' (first
      | (apply GC_seqK; intro K hK)
      | (apply hK; clear hK K)
      | (apply GC_region)
      | (apply GL_nil)
      | (apply thenG_normal)
      | (apply GC_ret)
      | (apply GC_skip)
      | (apply GC_if_false; eq_refl)
      | (apply retG1; eq_refl)
      | (apply GL_on; eq_refl; eq_refl)
      | (apply G_pv; eq_refl; first | exact trivial | omega)
      | (apply G_ldO; eq_refl; (repeat first | exact In.here | apply In.there | apply In.skip); assumption; eq_refl)
      | (apply G_rd; eq_refl; (first | (apply Rd.own; (repeat first | exact In.here | apply In.there | apply In.skip); infer_instance) | (apply Rd.old; (repeat first | exact In.here | apply In.there | apply In.skip); assumption) | (apply Rd.oldR; (repeat first | exact In.here | apply In.there | apply In.skip); assumption) | exact Rd.nil | assumption); (case ih => infer_instance); omega; omega; eq_refl)
      | (apply G_cmpF; eq_refl; eq_refl; omega)
      | (apply G_ix; eq_refl; eq_refl; (first | (apply Rd.own; (repeat first | exact In.here | apply In.there | apply In.skip); infer_instance) | (apply Rd.old; (repeat first | exact In.here | apply In.there | apply In.skip); assumption) | (apply Rd.oldR; (repeat first | exact In.here | apply In.there | apply In.skip); assumption) | exact Rd.nil | assumption); (first | eq_refl | omega); omega; omega))
    exact ⟨[], (by repeat first | exact Wk.nil | exact Wk.refl | (apply Wk.cons; (focus ((repeat first | exact Rem.here | apply Rem.there | apply Rem.skip); done))) | apply Wk.nilv | apply Wk.last | apply Wk.drop), rfl, rfl⟩
theorem holds14_cv {w : World} {A D : Option Addr} {k kd : Nat} {md : List Bool} {l : List Int} (hA : RowA w icell 1 A l) (hD : RowA w booc 1 D md) (hm : md.length ≤ 262144) (hl : LitsOk md.length l) : CVN Try.prog 112 [.slice A l.length k, .slice D md.length kd] w fun v N => N = [] ∧ v = .bool (clT md l) := by
  obtain ⟨l0, l1⟩ := hl
  have hcf : ∀ Γ b, In Γ (.old w none_) → In Γ (.box b 30 [.slice D md.length kd]) → ∀ w', Mem w' Γ → CVN Try.prog 148 [.slice A l.length k, .func (.func 149) #[] #[pt b]] w' fun v N => N = [] ∧ v = .bool (clT md l) := fun Γ b ho hb w' M => containsFuncC_cv (f := 149) (cap := #[pt b]) (p := litT md) (k := k) (hA.chg (ho.old M)) (by omega) fun x hx w2 hc => holds1_cv ((hb.box M).chg hc id) ((hD.chg (ho.old M)).chg hc) hm (l1 x hx)
  refine CVN.enter 8 [4] Try.func112 rfl rfl rfl (by decide) rfl ?_
  repeat' (first
      | (apply G_call; eq_refl; eq_refl; (apply hcf; (repeat first | exact In.here | apply In.there | apply In.skip); (repeat first | exact In.here | apply In.there | apply In.skip)); rintro _ _ ⟨rfl, rfl⟩)
      | (apply GC_seqK; intro K hK)
      | (apply hK; clear hK K)
      | (apply GC_region)
      | (apply GL_nil)
      | (apply thenG_normal)
      | (apply GC_ret)
      | (apply retG1; eq_refl)
      | (apply GL_on; eq_refl; eq_refl)
      | (apply G_pv; eq_refl; first | exact trivial | omega)
      | (apply G_box; eq_refl; eq_refl; intro _)
      | (apply G_fun; eq_refl))
  exact ⟨[], (by repeat first | exact Wk.nil | exact Wk.refl | (apply Wk.cons; (focus ((repeat first | exact Rem.here | apply Rem.there | apply Rem.skip); done))) | apply Wk.nilv | apply Wk.last | apply Wk.drop), rfl, rfl⟩
theorem first1_cv {w : World} {b kd k : Nat} {A D : Option Addr} {md : List Bool} {l : List Int} (hB : Blk w b 30 [.slice D md.length kd]) (hA : RowA w icell 1 A l) (hD : RowA w booc 1 D md) (hm : md.length ≤ 262144) (hl : LitsOk md.length l) : CVN Try.prog 111 [.slice A l.length k, pt b] w fun v N => N = [] ∧ v = .bool (!clT md l) := by
  have hh : ∀ Γ, In Γ (.old w none_) → ∀ w', Mem w' Γ → CVN Try.prog 112 [.slice A l.length k, .slice D md.length kd] w' _ := fun Γ ho w' M => holds14_cv (hA.chg (ho.old M)) (hD.chg (ho.old M)) hm hl
  refine CVN.enter 8 [3] Try.func111 rfl rfl rfl (by decide) rfl ?_
  repeat' (first
      | (apply G_call; eq_refl; eq_refl; (apply hh; (repeat first | exact In.here | apply In.there | apply In.skip)); rintro _ _ ⟨rfl, rfl⟩)
      | (apply GC_seqK; intro K hK)
      | (apply hK; clear hK K)
      | (apply GC_region)
      | (apply GL_nil)
      | (apply thenG_normal)
      | (apply GC_ret)
      | (apply retG1; eq_refl)
      | (apply GL_on; eq_refl; eq_refl)
      | (apply G_pv; eq_refl; first | exact trivial | omega)
      | (apply G_ldO; eq_refl; (repeat first | exact In.here | apply In.there | apply In.skip); assumption; eq_refl))
  exact ⟨[], (by repeat first | exact Wk.nil | exact Wk.refl | (apply Wk.cons; (focus ((repeat first | exact Rem.here | apply Rem.there | apply Rem.skip); done))) | apply Wk.nilv | apply Wk.last | apply Wk.drop), rfl, rfl⟩
theorem first_cv {w : World} {A D : Option Addr} {k kd : Nat} {V : Int} {md : List Bool} {ps : List (Hdl × List Int)} (H : CnfAt w A ps) (hD : RowA w booc 1 D md) (hm : md.length ≤ 262144) (hn : ps.length ≤ 524288) (hl : ∀ p ∈ ps, LitsOk md.length p.2) :
    CVN Try.prog 66 [.agg #[nu V, .slice A ps.length k], .slice D md.length kd] w fun v N => N = [] ∧ ∃ i : Int, v = nu i ∧ (0 ≤ i ↔ cnfT md (ps.map (·.2)) = false) := by
  have hix : ∀ Γ b, In Γ (.old w none_) → In Γ (.box b 30 [.slice D md.length kd]) → ∀ w', Mem w' Γ → CVN Try.prog 110 [.slice A ps.length k, .func (.func 111) #[] #[pt b]] w' _ := fun Γ b ho hb w' M => indexClause_cv (f := 111) (cap := #[pt b]) (q := fun l => !clT md l) (k := k) ⟨H.row.chg (ho.old M), fun p hp => (H.each p hp).chg (ho.old M)⟩ (by omega) fun p hp w2 hc => first1_cv ((hb.box M).chg hc id) (((H.each p hp).chg (ho.old M)).chg hc) ((hD.chg (ho.old M)).chg hc) hm (hl p hp)
  refine CVN.enter 9 [4] Try.func66 rfl rfl rfl (by decide) rfl ?_
  repeat' (first
      | (apply G_call; eq_refl; eq_refl; (apply hix; (repeat first | exact In.here | apply In.there | apply In.skip); (repeat first | exact In.here | apply In.there | apply In.skip)); rintro _ _ ⟨rfl, i, rfl, hi⟩)
      | (apply GC_seqK; intro K hK)
      | (apply hK; clear hK K)
      | (apply GC_region)
      | (apply GL_nil)
      | (apply thenG_normal)
      | (apply GC_ret)
      | (apply retG1; eq_refl)
      | (apply GL_on; eq_refl; eq_refl)
      | (apply G_pv; eq_refl; first | exact trivial | omega)
      | (apply G_field; eq_refl)
      | (apply G_ld; eq_refl; (repeat first | exact In.here | apply In.there | apply In.skip); eq_refl)
      | (apply G_box; eq_refl; eq_refl; intro _)
      | (apply G_fun; eq_refl))
  refine ⟨[], (by repeat first | exact Wk.nil | exact Wk.refl | (apply Wk.cons; (focus ((repeat first | exact Rem.here | apply Rem.there | apply Rem.skip); done))) | apply Wk.nilv | apply Wk.last | apply Wk.drop), rfl, i, rfl, ?_⟩
  have e : (ps.any fun p => !clT md p.2) = !cnfT md (ps.map (·.2)) := by unfold cnfT; rw [List.all_map, List.not_all_eq_any_not]; rfl
  rw [e] at hi
  exact (decide_eq_true_iff (p := 0 ≤ i)).symm.trans (by rw [hi]; cases cnfT md (ps.map (·.2)) <;> simp)
theorem holdsP_cv {w : World} {A D : Option Addr} {k kd : Nat} {md : List Bool} {ps : List (Hdl × List Int)} (H : CnfAt w A ps) (hD : RowA w booc 1 D md) (hm : md.length ≤ 262144) (hn : ps.length ≤ 524288) (hl : ∀ p ∈ ps, LitsOk md.length p.2) :
    CVN Try.prog 30 [.agg #[nu md.length, .slice A ps.length k], .slice D md.length kd] w fun v N => N = [] ∧ ∃ i : Int, v = .tuple #[.bool (cnfT md (ps.map (·.2))), nu i, nu 0] := by
  have hck : ∀ Γ, In Γ (.old w none_) → ∀ w', Mem w' Γ → CVN Try.prog 65 [.agg #[nu md.length, .slice A ps.length k]] w' _ := fun Γ ho w' M => check14_cv ⟨H.row.chg (ho.old M), fun p hp => (H.each p hp).chg (ho.old M)⟩ (by omega) (by omega) hn hl
  have hfi : ∀ Γ, In Γ (.old w none_) → ∀ w', Mem w' Γ → CVN Try.prog 66 [.agg #[nu md.length, .slice A ps.length k], .slice D md.length kd] w' _ := fun Γ ho w' M => first_cv ⟨H.row.chg (ho.old M), fun p hp => (H.each p hp).chg (ho.old M)⟩ (hD.chg (ho.old M)) hm hn hl
  refine CVN.enter 29 [4, 5, 6] Try.func30 rfl rfl rfl (by decide) rfl ?_
  repeat' (first
      | (apply G_call; eq_refl; eq_refl; (apply hck; (repeat first | exact In.here | apply In.there | apply In.skip)); rintro _ _ ⟨rfl, rfl⟩)
      | (apply GC_seqK; intro K hK)
      | (apply hK; clear hK K)
      | (apply GC_region)
      | (apply GL_nil)
      | (apply thenG_normal)
      | (apply GC_skip)
      | (apply GC_if_false; eq_refl)
      | (apply GL_on; eq_refl; eq_refl)
      | (apply G_pv; eq_refl; first | exact trivial | omega)
      | (apply G_field; eq_refl)
      | (apply G_ld; eq_refl; (repeat first | exact In.here | apply In.there | apply In.skip); eq_refl)
      | (apply G_ldW; eq_refl; (repeat first | exact In.here | apply In.there | apply In.skip); eq_refl)
      | (apply G_cmpF; eq_refl; eq_refl; omega)
      | (apply G_len; eq_refl)
      | (apply G_box; eq_refl; eq_refl; intro _))
  apply G_call; eq_refl; eq_refl; (apply hfi; (repeat first | exact In.here | apply In.there | apply In.skip)); rintro _ _ ⟨rfl, i, rfl, hi⟩
  generalize hb : cnfT md (ps.map (·.2)) = β at *
  cases β
  · have hi2 : 0 ≤ i := hi.2 rfl
    repeat' (first
      | (apply GC_seqK; intro K hK)
      | (apply hK; clear hK K)
      | (apply GC_region)
      | (apply GL_nil)
      | (apply thenG_normal)
      | (apply thenG_ret)
      | (apply GC_ret)
      | (apply GC_if_true; eq_refl)
      | (apply retG3; eq_refl; eq_refl; eq_refl)
      | (apply GL_on; eq_refl; eq_refl)
      | (apply G_pv; eq_refl; first | exact trivial | omega)
      | (apply G_cmpT; eq_refl; eq_refl; omega))
    exact ⟨[], (by repeat first | exact Wk.nil | exact Wk.refl | (apply Wk.cons; (focus ((repeat first | exact Rem.here | apply Rem.there | apply Rem.skip); done))) | apply Wk.nilv | apply Wk.last | apply Wk.drop), rfl, _, rfl⟩
  · have hi2 : ¬ 0 ≤ i := fun h => by have := hi.1 h; cases this
    repeat' (first
      | (apply GC_seqK; intro K hK)
      | (apply hK; clear hK K)
      | (apply GC_region)
      | (apply GL_nil)
      | (apply thenG_normal)
      | (apply GC_ret)
      | (apply GC_skip)
      | (apply GC_if_false; eq_refl)
      | (apply retG3; eq_refl; eq_refl; eq_refl)
      | (apply GL_on; eq_refl; eq_refl)
      | (apply G_pv; eq_refl; first | exact trivial | omega)
      | (apply G_cmpF; eq_refl; eq_refl; omega))
    exact ⟨[], (by repeat first | exact Wk.nil | exact Wk.refl | (apply Wk.cons; (focus ((repeat first | exact Rem.here | apply Rem.there | apply Rem.skip); done))) | apply Wk.nilv | apply Wk.last | apply Wk.drop), rfl, _, rfl⟩
end SC
end Go.Proofs.Yticndofcfacopaa
end
section
/- trestlelaw15: EncodeHolds: the walk. -/
set_option linter.unusedVariables false
set_option linter.unusedSimpArgs false
namespace Go.Proofs.Yticndofcfacopaa
namespace SC
open Go.Proofs
theorem gateCl_ok {c : Circ} {x : Tri} (g1 : inR c x.1) (g2 : inR c x.2.1) (g3 : inR c x.2.2) : ∀ l ∈ gateCl x, LitsOk (c.max + 1) l := by
  unfold inR at g1 g2 g3
  have key : ∀ y : Int, 0 ≤ y → y ≤ 2 * c.max + 1 → (formM y ≠ 0 ∧ -(c.max + 1) ≤ formM y ∧ formM y ≤ c.max + 1) ∧ (-formM y ≠ 0 ∧ -(c.max + 1) ≤ -formM y ∧ -formM y ≤ c.max + 1) := fun y h0 h1 => by
    unfold formM
    split <;> omega
  obtain ⟨a1, a2⟩ := key _ g1.1 g1.2
  obtain ⟨b1, b2⟩ := key _ g2.1 g2.2
  obtain ⟨c1, c2⟩ := key _ g3.1 g3.2
  intro l hl
  unfold gateCl at hl
  simp only [List.mem_cons, List.not_mem_nil, or_false] at hl
  rcases hl with rfl | rfl | rfl <;> refine ⟨Nat.le_of_ble_eq_true rfl, fun x hx => ?_⟩ <;> simp only [List.mem_cons, List.not_mem_nil, or_false] at hx
  · rcases hx with rfl | rfl <;> assumption
  · rcases hx with rfl | rfl <;> assumption
  · rcases hx with rfl | rfl | rfl <;> assumption
theorem clsM_ok {c : Circ} (R : Right c) (p : Int → Bool) : ∀ n : Nat, n ≤ c.ands.length → ∀ l ∈ clsM c p n, LitsOk (c.max + 1) l
  | 0, _, l, h => by
    have := R.m0
    rw [clsM_zero] at h
    simp at h
    subst h
    refine ⟨Nat.le_of_ble_eq_true rfl, fun x hx => ?_⟩
    simp at hx
    subst hx
    omega
  | n + 1, hn, l, h => by
    rw [clsM_succ] at h
    rcases List.mem_append.1 h with h | h
    · exact clsM_ok R p n (by omega) l h
    · obtain ⟨g1, g2, g3⟩ := R.gate (gt_mem (l := c.ands) (i := (n : Int)) (by omega) (by omega))
      split at h
      · exact gateCl_ok g1.in g2 g3 l h
      · cases h
/-- cnf.Holds of a circuit's gates. -/
theorem holdsB {Γ : Mm} {w : World} {c : Circ} (R : Right c) (p : Int → Bool) {V : Int} {md : List Bool} {m : List (List Int)} {A D : Option Addr} {k kd : Nat} {ps : List (Hdl × List Int)} (hV : V = c.max + 1) (hmd : md.length = (c.max + 1).toNat) (hm : m = clsM c p c.ands.length) (h1 : In Γ (.any (bun (cnB ps A k)))) (hD : RowA w booc 1 D md) (e1 : ps.map (·.2) = m) (M : Mem w Γ) :
    CVN Try.prog 30 [.agg #[nu V, .slice A ps.length k], .slice D md.length kd] w fun v N => N = [] ∧ ∃ i : Int, v = .tuple #[.bool (cnfT md m), nu i, nu 0] := by
  have hl := congrArg List.length e1
  rw [List.length_map] at hl
  have sm := (clsM_sm R p).1
  rw [← hm] at sm
  have m0 := R.m0
  have m1 := R.m1
  have e2 : V = ((md.length : Nat) : Int) := by omega
  have := holdsP_cv (k := k) (kd := kd) (CnfAt.bun h1 M) hD (by omega) (by omega) fun q hq => by
    have h9 := clsM_ok R p _ (Nat.le_refl _) q.2 (by rw [← hm, ← e1]; exact List.mem_map.2 ⟨q, hq, rfl⟩)
    rwa [show ((md.length : Nat) : Int) = c.max + 1 by omega]
  rw [e1] at this
  rw [e2]
  exact this
attribute [local irreducible] WC WL WX WS WO OX Does DoesU Enters CV Pure thenQ blockQ retQ Wants retQC GC GL GS GX RdB thenG blockG retG Rd At gt CVN CVM
attribute [local irreducible] bun
set_option maxRecDepth 100000
end SC
end Go.Proofs.Yticndofcfacopaa
end
section
/- trestlelaw15: EncodeOnly: the walk. -/
set_option linter.unusedVariables false
set_option linter.unusedSimpArgs false
namespace Go.Proofs.Yticndofcfacopaa
namespace SC
open Go.Proofs
attribute [local irreducible] WC WL WX WS WO OX Does DoesU Enters CV Pure thenQ blockQ retQ Wants retQC GC GL GS GX RdB thenG blockG retG Rd At gt CVN CVM
attribute [local irreducible] bun
set_option maxRecDepth 100000
end SC
end Go.Proofs.Yticndofcfacopaa
end
section
/- trestlelaw15: EncodeCones: the walk. -/
set_option linter.unusedVariables false
set_option linter.unusedSimpArgs false
namespace Go.Proofs.Yticndofcfacopaa
namespace SC
open Go.Proofs
section
variable {n : Nat} {all : List Oper} {K : Env → Mm → Prop} {m : Md} {e : Env} {Γ : Mm} {d : Option Tmp} {ty t t' : TypeId} {x y : Operand}
theorem p_uint {a : Int} (h : ev e x = some (nu a)) : Pure Try.prog (.convert 3 63 x) ty e (.int .u64 (a % 18446744073709551616)) := by
  unfold Pure Does
  intro w ρ dst pos af g hρ
  have hw : IntKind.u64.wrap a = a % 18446744073709551616 := by rw [IntKind.wrap_u64]
  simp [execOp, hρ _ _ h, convert, Conv.intToInt, run_underlying Try.underlying3, run_underlying Try.underlying63, hw]
theorem p_shrZ {P : Program} {a b : Int} (h : ev e x = some (.int .u64 a)) (h1 : ev e y = some (.int .u64 b)) (h2 : 0 ≤ b) : Pure P (.binOp .shr t x y t') ty e (.int .u64 (a.fdiv (2 ^ (min b.toNat IntKind.u64.bits)))) := by
  intro w ρ dst pos af g hρ
  have h5 : ¬ b < 0 := by omega
  simp [execOp, hρ _ _ h, hρ _ _ h1, eqGuard, binOp, Op.shift, h5]
theorem p_andZ {P : Program} {a b : Int} (h : ev e x = some (.int .u64 a)) (h1 : ev e y = some (.int .u64 b)) : Pure P (.binOp .and t x y t') ty e (.int .u64 (IntKind.u64.wrap (BitVec.ofInt IntKind.u64.bits a &&& BitVec.ofInt IntKind.u64.bits b).toNat)) := by
  intro w ρ dst pos af g hρ
  simp [execOp, hρ _ _ h, hρ _ _ h1, eqGuard, binOp, Op.intBits]
theorem p_eqZ {P : Program} {a b : Int} (h : ev e x = some (.int .u64 a)) (h1 : ev e y = some (.int .u64 b)) : Pure P (.binOp .eql t x y t') ty e (.bool (a == b)) := by
  intro w ρ dst pos af g hρ
  simp [execOp, hρ _ _ h, hρ _ _ h1, eqGuard, binOp, Op.intCmp]
theorem G_uint {a : Int} (h : ev e x = some (nu a)) (h0 : 0 ≤ a) (hr : ∀ z : Int, 0 ≤ z → GN Try.prog n all K m (push d (.int .u64 z) e) Γ) : GX Try.prog n all K m d (.convert 3 63 x) ty e Γ := GX_pure (p_uint h) (hr _ (Int.emod_nonneg _ (by decide)))
theorem G_remZ {P : Program} {a b : Int} (h : ev e x = some (.int .u64 a)) (h1 : ev e y = some (.int .u64 b)) (h2 : 0 ≤ a) (h4 : 0 < b) (hr : ∀ z : Int, 0 ≤ z → GN P n all K m (push d (.int .u64 z) e) Γ) : GX P n all K m d (.binOp .rem t x y t') ty e Γ := GX_pure (p_remU h h1 h2 h4) (hr _ (Int.emod_nonneg _ (by omega)))
theorem G_shrZ {P : Program} {a b : Int} (h : ev e x = some (.int .u64 a)) (h1 : ev e y = some (.int .u64 b)) (h2 : 0 ≤ b) (hr : ∀ z : Int, GN P n all K m (push d (.int .u64 z) e) Γ) : GX P n all K m d (.binOp .shr t x y t') ty e Γ := GX_pure (p_shrZ h h1 h2) (hr _)
theorem G_andZ {P : Program} {a b : Int} (h : ev e x = some (.int .u64 a)) (h1 : ev e y = some (.int .u64 b)) (hr : ∀ z : Int, GN P n all K m (push d (.int .u64 z) e) Γ) : GX P n all K m d (.binOp .and t x y t') ty e Γ := GX_pure (p_andZ h h1) (hr _)
theorem G_eqZ {P : Program} {a b : Int} (h : ev e x = some (.int .u64 a)) (h1 : ev e y = some (.int .u64 b)) (ht : GN P n all K m (push d (.bool true) e) Γ) (hf : GN P n all K m (push d (.bool false) e) Γ) : GX P n all K m d (.binOp .eql t x y t') ty e Γ := by
  have h9 := p_eqZ (P := P) (t := t) (t' := t') (ty := ty) h h1
  cases hb : (a == b)
  · rw [hb] at h9; exact GX_pure h9 hf
  · rw [hb] at h9; exact GX_pure h9 ht
end
/-- All variables of some clauses are marked. -/
def MkL (u : List Bool) (l : List Int) : Prop := ∀ x ∈ l, gt u (max x (-x)) = true
def MkC (u : List Bool) (cls : List (List Int)) : Prop := ∀ l ∈ cls, MkL u l
theorem MkL.set {u : List Bool} {l : List Int} {y : Int} (h : MkL u l) (h0 : 0 ≤ y) (h1 : y < u.length) : MkL (u.set y.toNat true) l := fun x hx => by
  by_cases e : max x (-x) = y
  · rw [e]; exact gt_set_eq h0 h1
  · rw [gt_set_ne h0 (by omega) e]; exact h x hx
theorem MkC.set {u : List Bool} {cls : List (List Int)} {y : Int} (h : MkC u cls) (h0 : 0 ≤ y) (h1 : y < u.length) : MkC (u.set y.toNat true) cls := fun l hl => (h l hl).set h0 h1
theorem MkL.snoc {u : List Bool} {l : List Int} {y : Int} (h : MkL u l) (hy : gt u (max y (-y)) = true) : MkL u (l ++ [y]) := fun x hx => by
  rcases List.mem_append.1 hx with hx | hx
  · exact h x hx
  · rw [List.mem_singleton.1 hx]; exact hy
theorem MkC.snoc {u : List Bool} {cls : List (List Int)} {l : List Int} (h : MkC u cls) (hy : MkL u l) : MkC u (cls ++ [l]) := fun x hx => by
  rcases List.mem_append.1 hx with hx | hx
  · exact h x hx
  · rw [List.mem_singleton.1 hx]; exact hy
/-- Two lists of values are the same at marked variables. -/
def SameU (u a b : List Bool) : Prop := ∀ v : Int, 0 ≤ v → gt u (v + 1) = true → gt a v = gt b v
theorem litT_u {u a b : List Bool} (h : SameU u a b) {x : Int} (h0 : x ≠ 0) (hx : gt u (max x (-x)) = true) : litT a x = litT b x := by
  unfold litT
  split
  · rw [h (-x - 1) (by omega) (by rw [show -x - 1 + 1 = max x (-x) by omega]; exact hx)]
  · rw [h (x - 1) (by omega) (by rw [show x - 1 + 1 = max x (-x) by omega]; exact hx)]
theorem any_congr' {α : Type} {p q : α → Bool} : ∀ {l : List α}, (∀ x ∈ l, p x = q x) → l.any p = l.any q
  | [], _ => rfl
  | x :: l, h => by rw [List.any_cons, List.any_cons, h x (List.mem_cons_self ..), any_congr' fun y hy => h y (List.mem_cons_of_mem _ hy)]
theorem all_congr' {α : Type} {p q : α → Bool} : ∀ {l : List α}, (∀ x ∈ l, p x = q x) → l.all p = l.all q
  | [], _ => rfl
  | x :: l, h => by rw [List.all_cons, List.all_cons, h x (List.mem_cons_self ..), all_congr' fun y hy => h y (List.mem_cons_of_mem _ hy)]
theorem cnfT_u {u a b : List Bool} {V : Int} (h : SameU u a b) {cls : List (List Int)} (hm : MkC u cls) (ho : ∀ l ∈ cls, LitsOk V l) : cnfT a cls = cnfT b cls :=
  all_congr' fun l hl => any_congr' fun x hx => litT_u h ((ho l hl).2 x hx).1 (hm l hl x hx)
theorem SameU.flip {u a b : List Bool} (h : SameU u a b) {i : Nat} {β : Bool} (hu : gt u ((i : Int) + 1) = false) : SameU u (a.set (i : Int).toNat β) b := fun v h0 hv => by
  have hne : v ≠ (i : Int) := fun e => by rw [e, hu] at hv; cases hv
  rw [gt_set_ne (by omega) h0 hne]
  exact h v h0 hv
theorem clsM_mono (c : Circ) (p : Int → Bool) : ∀ n : Nat, (clsM c p n).length ≤ (clsM c (fun _ => true) n).length
  | 0 => by rw [clsM_zero, clsM_zero]; exact Nat.le_refl _
  | n + 1 => by
    have := clsM_mono c p n
    rw [clsM_succ, clsM_succ, List.length_append, List.length_append, if_pos rfl]
    split
    · omega
    · rw [List.length_nil]; omega
theorem rd_cnf1 {Γ : Mm} {A : Option Addr} {k : Nat} {ps : List (Hdl × List Int)} (hi : In Γ (.any (bun (cnB ps A k)))) : Rd Γ encS 1 A ps := fun w M => (CnfAt.bun hi M).row
theorem rd_cnf2 {Γ : Mm} {A : Option Addr} {k : Nat} {ps : List (Hdl × List Int)} (hi : In Γ (.any (bun (cnB ps A k)))) {q : Hdl × List Int} (hq : q ∈ ps) : Rd Γ icell 1 q.1.1 q.2 := fun w M => (CnfAt.bun hi M).each q hq
attribute [local irreducible] WC WL WX WS WO OX Does DoesU Enters CV Pure thenQ blockQ retQ Wants retQC GC GL GS GX RdB thenG blockG retG Rd At gt CVN CVM
attribute [local irreducible] bun
set_option maxRecDepth 100000
set_option maxHeartbeats 3200000 in
theorem encodeCones_cv {w : World} {c : Circ} {h js : Hd} {S T B : Option Addr} {k k2 kB : Nat} {s r : List Bool} {ls : List Int} {by_ : Int} (H : CirIn w c h js) (hB : RowA w icell 1 B ls) (hS : RowA w booc 1 S s) (hT : RowA w booc 1 T r) (hn : ls.length ≤ 17592186044000) :
    CVN Try.prog 7 [.agg (ccells c h).toArray, .slice B ls.length kB, .agg #[.slice S s.length k, .slice T r.length k2, .int .u64 by_]] w fun v N => N = [] ∧ v = .bool true := by
  have hC : ∀ Γ, In Γ (.old w none_) → ∀ w', Mem w' Γ → CVN Try.prog 25 [.agg (ccells c h).toArray, .slice B ls.length kB] w' (CnfB (conV c ls) (conM c ls) (conE c ls)) := fun Γ ho w' M => CnfRE.to (ConeP_cv (H.chg (ho.old M)) (hB.chg (ho.old M)) (by omega))
  have hM : ∀ Γ, In Γ (.old w none_) → ∀ w', Mem w' Γ → CVN Try.prog 13 [.agg (ccells c h).toArray, .slice S s.length k, .slice T r.length k2] w' (ValsR c s r) := fun Γ ho w' M => ModelP_cv (H.chg (ho.old M)) (hS.chg (ho.old M)) (hT.chg (ho.old M))
  have hV : ∀ Γ, In Γ (.old w none_) → ∀ w', Mem w' Γ → CVN Try.prog 31 [.agg (ccells c h).toArray, .slice S s.length k, .slice T r.length k2] w' (ValsR c s r) := fun Γ ho w' M => ValuesP_cv (H.chg (ho.old M)) (hS.chg (ho.old M)) (hT.chg (ho.old M))
  have hG : ∀ Γ, In Γ (.old w none_) → ∀ w', Mem w' Γ → CVN Try.prog 21 [.agg (ccells c h).toArray] w' (CnfB (cnfGV c) (cnfGM c) (lookM c).2) := fun Γ ho w' M => CnfRE.to (GatesP_cv (H.chg (ho.old M)))
  have hW : ∀ w', CVN Try.prog 19 [] w' _ := fun w' => works15_cv
  unfold ValsR at hM hV
  by_cases hc : conE c ls = 0
  · by_cases hz : stepE c s r = 0
    · obtain ⟨he, hsl, hrl⟩ := stepE_zero hz
      have R := right_of H.at_ H.sane he
      have V := val_ok R s r
      have m0 := R.m0
      have m1 := R.m1
      have e0 : valsM c s r = valM c s r := by unfold valsM; rw [if_pos hz]
      have e1 : conV c ls = c.max + 1 := if_pos hc
      have e2 : conM c ls = clsM c (fun i => gt (conB c ls) ((gt c.ands i).1 / 2)) c.ands.length := if_pos hc
      have e4 : cnfGM c = clsM c (fun _ => true) c.ands.length := by unfold cnfGM; rw [if_pos he]
      have hlits : litE c ls = 0 := by
        have h9 := hc
        unfold conE at h9
        rwa [if_neg (by omega)] at h9
      have hln : ls.length ≤ 16384 := Classical.byContradiction fun hh => by unfold litE at hlits; rw [if_pos (by omega)] at hlits; cases hlits
      have hin : ∀ x ∈ ls, inR c x := fun x hx => by
        unfold litE at hlits
        rw [if_neg (by omega)] at hlits
        by_cases ha : ls.all (inB c) = true
        · exact inB_t (List.all_eq_true.1 ha x hx)
        · rw [if_neg ha] at hlits; cases hlits
      generalize hp : (fun i => gt (conB c ls) ((gt c.ands i).1 / 2)) = p at *
      have ht : cnfT (valM c s r) (conM c ls) = true := by rw [e2]; exact (cls_true R _ p _ (Nat.le_refl _)).2 ⟨V.zero, fun i hi _ => V.and i hi⟩
      have hok : ∀ l ∈ conM c ls, LitsOk (c.max + 1) l := by rw [e2]; exact clsM_ok R p _ (Nat.le_refl _)
      have hle : (conM c ls).length ≤ (cnfGM c).length := by rw [e2, e4]; exact clsM_mono c p _
      have hlen := V.len
      rw [he] at hG
      rw [hz, e0] at hM hV
      rw [hc, e1] at hC
      have hH : ∀ Γ A D k' kd ps (md : List Bool) (n : Nat), md.length = n → md.length = (c.max + 1).toNat → cnfT md (conM c ls) = true → In Γ (.any (bun (cnB ps A k'))) → In Γ (.vec booc 1 4 D kd md) → ps.map (·.2) = conM c ls → ∀ w', Mem w' Γ → CVN Try.prog 30 [.agg #[nu (c.max + 1), .slice A ps.length k'],   .slice D n kd] w' fun v N => N = [] ∧ ∃ i : Int, v = .tuple #[.bool true, nu i, nu 0] := fun Γ A D k' kd ps md n hmn h0 h1 h2 h3 e w' M => by
        subst hmn
        have := holdsB (kd := kd) R p rfl h0 e2 h2 (h3.row M) e M
        rwa [h1] at this
      have sm2 : (conM c ls).length ≤ 50000 := (conM_sm H ls).1
      clear V e0 e1 e2 e4 hp
      generalize valM c s r = u at *
      generalize conM c ls = m at *
      generalize cnfGM c = mg at *
      generalize cnfGV c = Vg at *
      refine CVN.enter 183 [6] Try.func7 rfl rfl rfl (by decide) rfl ?_
      repeat' (first
      | (apply G_call; eq_refl; eq_refl; (apply hC; (repeat first | exact In.here | apply In.there | apply In.skip)); rintro _ _ ⟨ps, A1, k1, rfl, eps, rfl⟩)
      | (apply G_call; eq_refl; eq_refl; (apply hM; (repeat first | exact In.here | apply In.there | apply In.skip)); rintro _ _ ⟨A2, k3, rfl, rfl⟩)
      | (apply G_call; eq_refl; eq_refl; (apply hV; (repeat first | exact In.here | apply In.there | apply In.skip)); rintro _ _ ⟨A3, k4, rfl, rfl⟩)
      | (apply G_call; eq_refl; eq_refl; (exact fun w' _ => hW w'); rintro _ _ ⟨rfl, rfl⟩)
      | (apply GC_seqK; intro K hK)
      | (apply hK; clear hK K)
      | (apply GC_block)
      | (apply GC_region)
      | (apply GL_nil)
      | (apply thenG_normal)
      | (apply GC_skip)
      | (apply GC_if_false; eq_refl)
      | (apply GL_on; eq_refl; eq_refl)
      | (refine GC_draws (id := 1) [.q 0, .q 1, .q 2, .q 3, .q 4, .q 5, .q 6, .q 7, .q 8] mixed (by kernel_rfl) (by kernel_rfl) ?_)
      | (apply GS_nil)
      | (apply GS_qon; eq_refl; eq_refl; eq_refl; eq_refl)
      | (apply G_pv; eq_refl; first | exact trivial | omega)
      | (apply G_field; eq_refl)
      | (apply G_ld; eq_refl; (repeat first | exact In.here | apply In.there | apply In.skip); eq_refl)
      | (apply G_ldW; eq_refl; (repeat first | exact In.here | apply In.there | apply In.skip); eq_refl)
      | (apply G_cmpF; eq_refl; eq_refl; omega)
      | (apply G_len; eq_refl)
      | (apply G_alloc; eq_refl; intro _)
      | (apply G_box; eq_refl; eq_refl; intro _)
      | (apply G_stW; (first | exact wr_p | kernel_rfl); eq_refl; eq_refl; eq_refl; eq_refl; (repeat first | exact Upd.here | apply Upd.there | apply Upd.skip); eq_refl)
      | (apply G_makeI booc; eq_refl; eq_refl; omega; eq_refl; omega; decide; intro _))
      rename_i b3 b5 b10 bU
      have hpl : ps.length ≤ 50000 := by have h9 := congrArg List.length eps; rw [List.length_map] at h9; omega
      have hp1 : ∀ Γ, In Γ (.any (bun (cnB ps A1 k1))) → Rd Γ encS 1 A1 ps := fun Γ hi => rd_cnf1 hi
      have hp2 : ∀ Γ, In Γ (.any (bun (cnB ps A1 k1))) → ∀ q ∈ ps, Rd Γ icell 1 q.1.1 q.2 := fun Γ hi q hq => rd_cnf2 hi hq
      have hpo : ∀ q ∈ ps, LitsOk (c.max + 1) q.2 := fun q hq => hok q.2 (by rw [← eps]; exact List.mem_map.2 ⟨q, hq, rfl⟩)
      refine GC_loopK [1, 3, 9, 10, 12, 14, 16, 79, 80] (fun s : Nat × List Bool => [(81, nu s.1)]) (fun s => [.vec booc 1 4 (some ⟨bU, 0, none⟩) (c.max + 1 + 1).toNat s.2, .vec booc 1 4 A3 k4 u, .vec booc 1 4 A2 k3 u, .box b10 44 [nu (c.max + 1), .slice A1 ps.length k1], .any (bun (cnB ps A1 k1)), .box b3 29 (ccells c h), .old w none_]) (fun s => s.1 ≤ ps.length ∧ s.2.length = (c.max + 1 + 1).toNat ∧ MkC s.2 ((ps.take s.1).map (·.2))) (fun s => ps.length - s.1) (0, List.replicate (c.max + 1 + 1).toNat false) (by repeat first | exact Pick.nil | (apply Pick.cons; eq_refl)) (by repeat first | exact trivial | refine ⟨rfl, ?_⟩) (by repeat first | exact Wk.nil | exact Wk.refl | (apply Wk.cons; (focus ((repeat first | exact Rem.here | apply Rem.there | apply Rem.skip); done))) | apply Wk.nilv | apply Wk.last | apply Wk.drop) ⟨Nat.zero_le _, List.length_replicate, fun l hl => by simp at hl⟩ ?_
      rintro ⟨i, us⟩ ⟨hi, hul, hmk⟩
      dsimp only at hi hul hmk ⊢
      rcases Nat.lt_or_ge i ps.length with hlt | hge
      · have g1 := gt_mem (l := ps) (i := (i : Int)) (by omega) (by omega)
        have r1 := fun Γ hi => hp2 Γ hi _ g1
        have o1 := hpo _ g1
        have e1 := List.take_succ_eq_append_getElem hlt
        rw [← gt_nat hlt] at e1
        generalize hx : gt ps (i : Int) = x at *
        obtain ⟨x1, l1⟩ := x
        dsimp only at r1 o1
        obtain ⟨o1, o2⟩ := o1
        repeat' (first
      | (apply G_ix; eq_refl; eq_refl; (apply hp1; (repeat first | exact In.here | apply In.there | apply In.skip)); (first | eq_refl | omega); omega; omega)
      | (apply G_rd; eq_refl; (apply hp1; (repeat first | exact In.here | apply In.there | apply In.skip)); (case ih => infer_instance); omega; omega; (rw [hx]; dsimp only [encS]; eq_refl))
      | (apply GC_seqK; intro K hK)
      | (apply hK; clear hK K)
      | (apply GC_block)
      | (apply GC_region)
      | (apply GL_nil)
      | (apply thenG_normal)
      | (apply GC_skip)
      | (apply GC_if_true; eq_refl)
      | (apply GL_on; eq_refl; eq_refl)
      | (apply G_pv; eq_refl; first | exact trivial | omega)
      | (apply G_cmpT; eq_refl; eq_refl; omega)
      | (apply G_len; eq_refl))
        refine GC_loopK [1, 3, 9, 10, 12, 14, 16, 79, 80, 81, 85, 86] (fun s : Nat × List Bool => [(87, nu s.1)]) (fun s => [.vec booc 1 4 (some ⟨bU, 0, none⟩) (c.max + 1 + 1).toNat s.2, .vec booc 1 4 A3 k4 u, .vec booc 1 4 A2 k3 u, .box b10 44 [nu (c.max + 1), .slice A1 ps.length k1], .any (bun (cnB ps A1 k1)), .box b3 29 (ccells c h), .old w none_]) (fun s => s.1 ≤ l1.length ∧ s.2.length = (c.max + 1 + 1).toNat ∧ MkC s.2 ((ps.take i).map (·.2)) ∧ MkL s.2 (l1.take s.1)) (fun s => l1.length - s.1) (0, us) (by repeat first | exact Pick.nil | (apply Pick.cons; eq_refl)) (by repeat first | exact trivial | refine ⟨rfl, ?_⟩) (by repeat first | exact Wk.nil | exact Wk.refl | (apply Wk.cons; (focus ((repeat first | exact Rem.here | apply Rem.there | apply Rem.skip); done))) | apply Wk.nilv | apply Wk.last | apply Wk.drop) ⟨Nat.zero_le _, hul, hmk, fun x hx => by simp at hx⟩ ?_
        rintro ⟨j, us2⟩ ⟨hj, hul2, hmk2, hml2⟩
        dsimp only at hj hul2 hmk2 hml2 ⊢
        rcases Nat.lt_or_ge j l1.length with hlt2 | hge2
        · have g2 := o2 _ (gt_mem (l := l1) (i := (j : Int)) (by omega) (by omega))
          have e2 := List.take_succ_eq_append_getElem hlt2
          rw [← gt_nat hlt2] at e2
          obtain ⟨y0, y1, y2⟩ := g2
          have hm0 : 0 ≤ max (gt l1 (j : Int)) (-gt l1 (j : Int)) := by omega
          have hm1 : max (gt l1 (j : Int)) (-gt l1 (j : Int)) < us2.length := by omega
          have hset : gt (us2.set (max (gt l1 (j : Int)) (-gt l1 (j : Int))).toNat true) (max (gt l1 (j : Int)) (-gt l1 (j : Int))) = true := gt_set_eq hm0 hm1
          repeat' (first
      | (apply G_max; eq_refl; eq_refl)
      | (apply G_ix; eq_refl; eq_refl; (apply r1; (repeat first | exact In.here | apply In.there | apply In.skip)); (first | eq_refl | omega); omega; omega)
      | (apply G_rd; eq_refl; (apply r1; (repeat first | exact In.here | apply In.there | apply In.skip)); (case ih => infer_instance); omega; omega; eq_refl)
      | (apply GC_seqK; intro K hK)
      | (apply hK; clear hK K)
      | (apply GC_block)
      | (apply GC_region)
      | (apply GL_nil)
      | (apply thenG_normal)
      | (apply blockG_normal)
      | (apply GC_skip)
      | (apply GC_if_true; eq_refl)
      | (apply GL_on; eq_refl; eq_refl)
      | (apply G_pv; eq_refl; first | exact trivial | omega)
      | (apply G_cmpT; eq_refl; eq_refl; omega)
      | (apply G_ix; eq_refl; eq_refl; (first | (apply Rd.own; (repeat first | exact In.here | apply In.there | apply In.skip); infer_instance) | (apply Rd.old; (repeat first | exact In.here | apply In.there | apply In.skip); assumption) | (apply Rd.oldR; (repeat first | exact In.here | apply In.there | apply In.skip); assumption) | exact Rd.nil | assumption); (first | eq_refl | omega); omega; omega)
      | (apply G_neg; eq_refl; omega; omega)
      | (apply G_stV; (first | exact wr_p | kernel_rfl); eq_refl; eq_refl; eq_refl; eq_refl; (repeat first | exact Upd.here | apply Upd.there | apply Upd.skip); infer_instance; infer_instance; eq_refl; omega; (try simp only [List.length_set, List.length_append, List.length_replicate]); omega))
          refine ⟨(j + 1, us2.set (max (gt l1 (j : Int)) (-gt l1 (j : Int))).toNat true), (by repeat first | exact trivial | refine ⟨rfl, ?_⟩), (by repeat first | exact Wk.nil | exact Wk.refl | (apply Wk.cons; (focus ((repeat first | exact Rem.here | apply Rem.there | apply Rem.skip); done))) | apply Wk.nilv | apply Wk.last | apply Wk.drop), ⟨hlt2, by rw [List.length_set]; exact hul2, hmk2.set hm0 hm1, ?_⟩, by simp only; omega⟩
          simp only
          rw [e2]
          exact (hml2.set hm0 hm1).snoc hset
        · repeat' (first
      | (apply GC_seqK; intro K hK)
      | (apply hK; clear hK K)
      | (clear hK K; apply hK; clear hK K)
      | (apply GC_region)
      | (apply GL_nil)
      | (apply thenG_normal)
      | (apply thenG_exit)
      | (apply blockG_hit)
      | (apply blockG_normal)
      | (apply GC_exit)
      | (apply GC_if_false; eq_refl)
      | (apply GL_on; eq_refl; eq_refl)
      | (apply G_pv; eq_refl; first | exact trivial | omega)
      | (apply G_cmpF; eq_refl; eq_refl; omega))
          rw [List.take_of_length_le hge2] at hml2
          refine ⟨(i + 1, us2), (by repeat first | exact trivial | refine ⟨rfl, ?_⟩), (by repeat first | exact Wk.nil | exact Wk.refl | (apply Wk.cons; (focus ((repeat first | exact Rem.here | apply Rem.there | apply Rem.skip); done))) | apply Wk.nilv | apply Wk.last | apply Wk.drop), ⟨hlt, hul2, ?_⟩, by simp only; omega⟩
          simp only
          rw [e1, List.map_append]
          exact hmk2.snoc hml2
      · rw [List.take_of_length_le hge, eps] at hmk
        clear hp1 hp2
        repeat' (first
      | (apply GC_seqK; intro K hK)
      | (apply hK; clear hK K)
      | (clear hK K; apply hK; clear hK K)
      | (apply GC_block)
      | (apply GC_region)
      | (apply GL_nil)
      | (apply thenG_normal)
      | (apply thenG_exit)
      | (apply blockG_hit)
      | (apply GC_exit)
      | (apply GC_if_false; eq_refl)
      | (apply GL_on; eq_refl; eq_refl)
      | (apply G_pv; eq_refl; first | exact trivial | omega)
      | (apply G_cmpF; eq_refl; eq_refl; omega))
        refine GC_loopK [1, 3, 9, 10, 12, 14, 16] (fun s : Nat × List Bool => [(21, nu s.1)]) (fun s => [.vec booc 1 4 (some ⟨bU, 0, none⟩) (c.max + 1 + 1).toNat us, .vec booc 1 4 A3 k4 u, .vec booc 1 4 A2 k3 s.2, .box b10 44 [nu (c.max + 1), .slice A1 ps.length k1], .any (bun (cnB ps A1 k1)), .box b3 29 (ccells c h), .old w none_]) (fun s => 1 ≤ s.1 ∧ s.2.length = u.length ∧ SameU us s.2 u) (fun s => u.length - s.1) (1, u) (by repeat first | exact Pick.nil | (apply Pick.cons; eq_refl)) (by repeat first | exact trivial | refine ⟨rfl, ?_⟩) (by repeat first | exact Wk.nil | exact Wk.refl | (apply Wk.cons; (focus ((repeat first | exact Rem.here | apply Rem.there | apply Rem.skip); done))) | apply Wk.nilv | apply Wk.last | apply Wk.drop) ⟨Nat.le_refl _, rfl, fun v _ _ => rfl⟩ ?_
        rintro ⟨j, md⟩ ⟨hj, hmdl, hsu⟩
        dsimp only at hj hmdl hsu ⊢
        rcases Nat.lt_or_ge j u.length with hlt2 | hge2
        · cases hb : gt us ((j : Int) + 1)
          all_goals
            repeat' (first
      | (apply G_uint; eq_refl; omega; intro z1 hz1)
      | (apply G_remZ; eq_refl; eq_refl; omega; omega; intro z2 hz2)
      | (apply G_shrZ; eq_refl; eq_refl; omega; intro z3)
      | (apply G_andZ; eq_refl; eq_refl; intro z4)
      | (apply G_eqZ; eq_refl; eq_refl)
      | (apply G_rd; eq_refl; (first | (apply Rd.own; (repeat first | exact In.here | apply In.there | apply In.skip); infer_instance) | (apply Rd.old; (repeat first | exact In.here | apply In.there | apply In.skip); assumption) | (apply Rd.oldR; (repeat first | exact In.here | apply In.there | apply In.skip); assumption) | exact Rd.nil | assumption); (case ih => infer_instance); omega; omega; (rw [hb]; eq_refl))
      | (apply GC_seqK; intro K hK)
      | (apply hK; clear hK K)
      | (apply GC_block)
      | (apply GC_region)
      | (apply GL_nil)
      | (apply thenG_normal)
      | (apply blockG_normal)
      | (apply GC_skip)
      | (apply GC_if_true; eq_refl)
      | (apply GC_if_false; eq_refl)
      | (apply GL_on; eq_refl; eq_refl)
      | (apply GL_off; eq_refl; eq_refl)
      | (apply G_pv; eq_refl; first | exact trivial | omega)
      | (apply G_rd; eq_refl; (first | (apply Rd.own; (repeat first | exact In.here | apply In.there | apply In.skip); infer_instance) | (apply Rd.old; (repeat first | exact In.here | apply In.there | apply In.skip); assumption) | (apply Rd.oldR; (repeat first | exact In.here | apply In.there | apply In.skip); assumption) | exact Rd.nil | assumption); (case ih => infer_instance); omega; omega; eq_refl)
      | (apply G_cmpT; eq_refl; eq_refl; omega)
      | (apply G_len; eq_refl)
      | (apply G_ix; eq_refl; eq_refl; (first | (apply Rd.own; (repeat first | exact In.here | apply In.there | apply In.skip); infer_instance) | (apply Rd.old; (repeat first | exact In.here | apply In.there | apply In.skip); assumption) | (apply Rd.oldR; (repeat first | exact In.here | apply In.there | apply In.skip); assumption) | exact Rd.nil | assumption); (first | eq_refl | omega); omega; omega)
      | (apply G_stV; (first | exact wr_p | kernel_rfl); eq_refl; eq_refl; eq_refl; eq_refl; (repeat first | exact Upd.here | apply Upd.there | apply Upd.skip); infer_instance; infer_instance; eq_refl; omega; (try simp only [List.length_set, List.length_append, List.length_replicate]); omega))
          · exact ⟨(j + 1, md.set (j : Int).toNat (!gt md (j : Int))), (by repeat first | exact trivial | refine ⟨rfl, ?_⟩), (by repeat first | exact Wk.nil | exact Wk.refl | (apply Wk.cons; (focus ((repeat first | exact Rem.here | apply Rem.there | apply Rem.skip); done))) | apply Wk.nilv | apply Wk.last | apply Wk.drop), ⟨by simp only; omega, by rw [List.length_set]; exact hmdl, hsu.flip hb⟩, by simp only; omega⟩
          · exact ⟨(j + 1, md), (by repeat first | exact trivial | refine ⟨rfl, ?_⟩), (by repeat first | exact Wk.nil | exact Wk.refl | (apply Wk.cons; (focus ((repeat first | exact Rem.here | apply Rem.there | apply Rem.skip); done))) | apply Wk.nilv | apply Wk.last | apply Wk.drop), ⟨by simp only; omega, hmdl, hsu⟩, by simp only; omega⟩
          · exact ⟨(j + 1, md), (by repeat first | exact trivial | refine ⟨rfl, ?_⟩), (by repeat first | exact Wk.nil | exact Wk.refl | (apply Wk.cons; (focus ((repeat first | exact Rem.here | apply Rem.there | apply Rem.skip); done))) | apply Wk.nilv | apply Wk.last | apply Wk.drop), ⟨by simp only; omega, hmdl, hsu⟩, by simp only; omega⟩
        · have hmt : cnfT md m = true := by rw [cnfT_u hsu hmk hok]; exact ht
          have hml : md.length = (c.max + 1).toNat := by rw [hmdl, hlen]
          repeat' (first
      | (apply G_call; eq_refl; eq_refl; (apply hH; exact hmdl; exact hml; exact hmt; (repeat first | exact In.here | apply In.there | apply In.skip); (repeat first | exact In.here | apply In.there | apply In.skip); exact eps); rintro _ _ ⟨rfl, i9, rfl⟩)
      | (apply G_call; eq_refl; eq_refl; (apply hG; (repeat first | exact In.here | apply In.there | apply In.skip)); rintro _ _ ⟨qs, A5, k5, rfl, eqs, rfl⟩; have hql := congrArg List.length eqs; rw [List.length_map] at hql; have hpl2 := congrArg List.length eps; rw [List.length_map] at hpl2)
      | (apply GC_seqK; intro K hK)
      | (apply hK; clear hK K)
      | (clear hK K; apply hK; clear hK K)
      | (apply GC_block)
      | (apply GC_region)
      | (apply GL_nil)
      | (apply thenG_normal)
      | (apply thenG_exit)
      | (apply blockG_hit)
      | (apply GC_exit)
      | (apply GC_skip)
      | (apply GC_if_false; eq_refl)
      | (apply GL_on; eq_refl; eq_refl)
      | (apply G_pv; eq_refl; first | exact trivial | omega)
      | (apply G_field; eq_refl)
      | (apply G_ld; eq_refl; (repeat first | exact In.here | apply In.there | apply In.skip); eq_refl)
      | (apply G_ldW; eq_refl; (repeat first | exact In.here | apply In.there | apply In.skip); eq_refl)
      | (apply G_cmpF; eq_refl; eq_refl; omega)
      | (apply G_len; eq_refl)
      | (apply G_alloc; eq_refl; intro _)
      | (apply G_stW; (first | exact wr_p | kernel_rfl); eq_refl; eq_refl; eq_refl; eq_refl; (repeat first | exact Upd.here | apply Upd.there | apply Upd.skip); eq_refl))
          refine GC_loopK [1, 12, 14, 16, 157, 158] (fun i : Nat => [(159, nu i)]) (fun i => [.vec booc 1 4 (some ⟨bU, 0, none⟩) (c.max + 1 + 1).toNat us, .vec booc 1 4 A3 k4 u, .vec booc 1 4 A2 k3 md, .old w none_]) (fun i => i ≤ ls.length) (fun i => ls.length - i) 0 (by repeat first | exact Pick.nil | (apply Pick.cons; eq_refl)) (by repeat first | exact trivial | refine ⟨rfl, ?_⟩) (by repeat first | exact Wk.nil | exact Wk.refl | (apply Wk.cons; (focus ((repeat first | exact Rem.here | apply Rem.there | apply Rem.skip); done))) | apply Wk.nilv | apply Wk.last | apply Wk.drop) (Nat.zero_le _) ?_
          intro q hq
          rcases Nat.lt_or_ge q ls.length with hlt3 | hge3
          · have g3 := hin _ (gt_mem (l := ls) (i := (q : Int)) (by omega) (by omega))
            unfold inR at g3
            obtain ⟨q0, q1⟩ := g3
            have hsq := hsu (gt ls (q : Int) / 2) (by omega)
            cases hb : gt us (gt ls (q : Int) / 2 + 1)
            · repeat' (first
      | (apply G_rd; eq_refl; (first | (apply Rd.own; (repeat first | exact In.here | apply In.there | apply In.skip); infer_instance) | (apply Rd.old; (repeat first | exact In.here | apply In.there | apply In.skip); assumption) | (apply Rd.oldR; (repeat first | exact In.here | apply In.there | apply In.skip); assumption) | exact Rd.nil | assumption); (case ih => infer_instance); omega; omega; (rw [hb]; eq_refl))
      | (apply GC_seqK; intro K hK)
      | (apply hK; clear hK K)
      | (apply GC_block)
      | (apply GC_region)
      | (apply GL_nil)
      | (apply thenG_normal)
      | (apply blockG_normal)
      | (apply GC_skip)
      | (apply GC_if_true; eq_refl)
      | (apply GC_if_false; eq_refl)
      | (apply GL_on; eq_refl; eq_refl)
      | (refine GC_draws (id := 35) [.q 0, .q 1, .q 2, .q 3, .q 4, .q 5, .q 6, .q 7, .q 8, .q 9, .q 10, .q 11, .q 12, .q 13, .q 14, .q 15, .q 16, .q 17, .q 18] mixed (by kernel_rfl) (by kernel_rfl) ?_)
      | (apply GS_nil)
      | (apply GS_qon; eq_refl; eq_refl; eq_refl; eq_refl)
      | (apply GS_qoff; eq_refl; eq_refl; eq_refl; eq_refl)
      | (apply G_pv; eq_refl; first | exact trivial | omega)
      | (apply G_rd; eq_refl; (first | (apply Rd.own; (repeat first | exact In.here | apply In.there | apply In.skip); infer_instance) | (apply Rd.old; (repeat first | exact In.here | apply In.there | apply In.skip); assumption) | (apply Rd.oldR; (repeat first | exact In.here | apply In.there | apply In.skip); assumption) | exact Rd.nil | assumption); (case ih => infer_instance); omega; omega; eq_refl)
      | (apply G_cmpT; eq_refl; eq_refl; omega)
      | (apply G_ix; eq_refl; eq_refl; (first | (apply Rd.own; (repeat first | exact In.here | apply In.there | apply In.skip); infer_instance) | (apply Rd.old; (repeat first | exact In.here | apply In.there | apply In.skip); assumption) | (apply Rd.oldR; (repeat first | exact In.here | apply In.there | apply In.skip); assumption) | exact Rd.nil | assumption); (first | eq_refl | omega); omega; omega))
              exact ⟨q + 1, (by repeat first | exact trivial | refine ⟨rfl, ?_⟩), (by repeat first | exact Wk.nil | exact Wk.refl | (apply Wk.cons; (focus ((repeat first | exact Rem.here | apply Rem.there | apply Rem.skip); done))) | apply Wk.nilv | apply Wk.last | apply Wk.drop), hlt3, by omega⟩
            · have heq := hsq hb
              repeat' (first
      | (apply G_rd; eq_refl; (first | (apply Rd.own; (repeat first | exact In.here | apply In.there | apply In.skip); infer_instance) | (apply Rd.old; (repeat first | exact In.here | apply In.there | apply In.skip); assumption) | (apply Rd.oldR; (repeat first | exact In.here | apply In.there | apply In.skip); assumption) | exact Rd.nil | assumption); (case ih => infer_instance); omega; omega; (rw [hb]; eq_refl))
      | (apply G_ix; eq_refl; eq_refl; (first | (apply Rd.own; (repeat first | exact In.here | apply In.there | apply In.skip); infer_instance) | (apply Rd.old; (repeat first | exact In.here | apply In.there | apply In.skip); assumption) | (apply Rd.oldR; (repeat first | exact In.here | apply In.there | apply In.skip); assumption) | exact Rd.nil | assumption); omega; omega; omega)
      | (apply GC_seqK; intro K hK)
      | (apply hK; clear hK K)
      | (apply GC_block)
      | (apply GC_region)
      | (apply GL_nil)
      | (apply thenG_normal)
      | (apply thenG_ret)
      | (apply blockG_ret)
      | (apply blockG_normal)
      | (apply GC_ret)
      | (apply GC_skip)
      | (apply GC_if_true; eq_refl)
      | (apply GC_if; eq_refl; all_goals intro _)
      | (apply retG1; eq_refl)
      | (apply GL_on; eq_refl; eq_refl)
      | (refine GC_draws (id := 35) [.q 0, .q 1, .q 2, .q 3, .q 4, .q 5, .q 6, .q 7, .q 8, .q 9, .q 10, .q 11, .q 12, .q 13, .q 14, .q 15, .q 16, .q 17, .q 18] mixed (by kernel_rfl) (by kernel_rfl) ?_)
      | (apply GS_nil)
      | (apply GS_qon; eq_refl; eq_refl; eq_refl; eq_refl)
      | (apply G_pv; eq_refl; first | exact trivial | omega)
      | (apply G_rd; eq_refl; (first | (apply Rd.own; (repeat first | exact In.here | apply In.there | apply In.skip); infer_instance) | (apply Rd.old; (repeat first | exact In.here | apply In.there | apply In.skip); assumption) | (apply Rd.oldR; (repeat first | exact In.here | apply In.there | apply In.skip); assumption) | exact Rd.nil | assumption); (case ih => infer_instance); omega; omega; eq_refl)
      | (apply G_cmpT; eq_refl; eq_refl; omega)
      | (apply G_neqB; eq_refl; eq_refl))
              all_goals first | (rename_i hcc; rw [heq, bne_self_eq_false] at hcc; cases hcc; done) | exact ⟨q + 1, (by repeat first | exact trivial | refine ⟨rfl, ?_⟩), (by repeat first | exact Wk.nil | exact Wk.refl | (apply Wk.cons; (focus ((repeat first | exact Rem.here | apply Rem.there | apply Rem.skip); done))) | apply Wk.nilv | apply Wk.last | apply Wk.drop), hlt3, by omega⟩
          · repeat' (first
      | (apply GC_seqK; intro K hK)
      | (apply hK; clear hK K)
      | (clear hK K; apply hK; clear hK K)
      | (apply GC_region)
      | (apply GL_nil)
      | (apply thenG_normal)
      | (apply thenG_exit)
      | (apply blockG_hit)
      | (apply GC_ret)
      | (apply GC_exit)
      | (apply GC_if_false; eq_refl)
      | (apply retG1; eq_refl)
      | (apply GL_on; eq_refl; eq_refl)
      | (apply G_pv; eq_refl; first | exact trivial | omega)
      | (apply G_cmpF; eq_refl; eq_refl; omega))
            exact ⟨[], (by repeat first | exact Wk.nil | exact Wk.refl | (apply Wk.cons; (focus ((repeat first | exact Rem.here | apply Rem.there | apply Rem.skip); done))) | apply Wk.nilv | apply Wk.last | apply Wk.drop), rfl, rfl⟩
    · have e0 : valsM c s r = [] := by unfold valsM; rw [if_neg hz]
      rw [e0] at hM
      rw [hc] at hC
      simp only [List.length_nil] at hM
      generalize stepE c s r = δ at *
      generalize conV c ls = V at *
      generalize conM c ls = m at *
      refine CVN.enter 183 [6] Try.func7 rfl rfl rfl (by decide) rfl ?_
      repeat' (first
      | (apply G_call; eq_refl; eq_refl; (apply hC; (repeat first | exact In.here | apply In.there | apply In.skip)); rintro _ _ ⟨p1, A1, k1, rfl, e1, rfl⟩)
      | (apply G_call; eq_refl; eq_refl; (apply hM; (repeat first | exact In.here | apply In.there | apply In.skip)); rintro _ _ ⟨A2, k3, rfl, rfl⟩)
      | (apply G_call; eq_refl; eq_refl; (exact fun w' _ => hW w'); rintro _ _ ⟨rfl, rfl⟩)
      | (apply GC_seqK; intro K hK)
      | (apply hK; clear hK K)
      | (apply GC_region)
      | (apply GL_nil)
      | (apply thenG_normal)
      | (apply thenG_ret)
      | (apply GC_ret)
      | (apply GC_skip)
      | (apply GC_if_true; eq_refl)
      | (apply GC_if_false; eq_refl)
      | (apply retG1; eq_refl)
      | (apply GL_on; eq_refl; eq_refl)
      | (apply GL_off; eq_refl; eq_refl)
      | (refine GC_draws (id := 1) [.q 0, .q 1, .q 2, .q 3, .q 4, .q 5, .q 6, .q 7, .q 8] mixed (by kernel_rfl) (by kernel_rfl) ?_)
      | (apply GS_nil)
      | (apply GS_qon; eq_refl; eq_refl; eq_refl; eq_refl)
      | (apply G_pv; eq_refl; first | exact trivial | omega)
      | (apply G_field; eq_refl)
      | (apply G_ld; eq_refl; (repeat first | exact In.here | apply In.there | apply In.skip); eq_refl)
      | (apply G_ldW; eq_refl; (repeat first | exact In.here | apply In.there | apply In.skip); eq_refl)
      | (apply G_cmpT; eq_refl; eq_refl; omega)
      | (apply G_cmpF; eq_refl; eq_refl; omega)
      | (apply G_len; eq_refl)
      | (apply G_alloc; eq_refl; intro _)
      | (apply G_box; eq_refl; eq_refl; intro _)
      | (apply G_stW; (first | exact wr_p | kernel_rfl); eq_refl; eq_refl; eq_refl; eq_refl; (repeat first | exact Upd.here | apply Upd.there | apply Upd.skip); eq_refl))
      exact ⟨[], (by repeat first | exact Wk.nil | exact Wk.refl | (apply Wk.cons; (focus ((repeat first | exact Rem.here | apply Rem.there | apply Rem.skip); done))) | apply Wk.nilv | apply Wk.last | apply Wk.drop), rfl, rfl⟩
  · have e4 : conM c ls = [] := by unfold conM; rw [if_neg hc]
    rw [e4] at hC
    generalize conE c ls = ε at *
    generalize conV c ls = V at *
    generalize valsM c s r = u at *
    generalize stepE c s r = δ at *
    have hC0 : ∀ Γ, In Γ (.old w none_) → ∀ w', Mem w' Γ → CVN Try.prog 25 [.agg (ccells c h).toArray, .slice B ls.length kB] w' fun v N => ∃ A k, v = .tuple #[.agg #[nu V, .slice A 0 k], nu ε] ∧ N = [.any (bun (cnB [] A k))] := fun Γ ho w' M => (hC Γ ho w' M).mono fun v N ⟨ps, A, k, e1, e2, e3⟩ => by
      obtain rfl := List.map_eq_nil_iff.1 e2
      exact ⟨A, k, e1, e3⟩
    refine CVN.enter 183 [6] Try.func7 rfl rfl rfl (by decide) rfl ?_
    repeat' (first
      | (apply G_call; eq_refl; eq_refl; (apply hC0; (repeat first | exact In.here | apply In.there | apply In.skip)); rintro _ _ ⟨A1, k1, rfl, rfl⟩)
      | (apply G_call; eq_refl; eq_refl; (apply hM; (repeat first | exact In.here | apply In.there | apply In.skip)); rintro _ _ ⟨A2, k3, rfl, rfl⟩)
      | (apply G_call; eq_refl; eq_refl; (exact fun w' _ => hW w'); rintro _ _ ⟨rfl, rfl⟩)
      | (apply GC_seqK; intro K hK)
      | (apply hK; clear hK K)
      | (apply GC_region)
      | (apply GL_nil)
      | (apply thenG_normal)
      | (apply thenG_ret)
      | (apply GC_ret)
      | (apply GC_skip)
      | (apply GC_if_true; eq_refl)
      | (apply GC_if_false; eq_refl)
      | (apply retG1; eq_refl)
      | (apply GL_on; eq_refl; eq_refl)
      | (apply GL_off; eq_refl; eq_refl)
      | (refine GC_draws (id := 1) [.q 0, .q 1, .q 2, .q 3, .q 4, .q 5, .q 6, .q 7, .q 8] mixed (by kernel_rfl) (by kernel_rfl) ?_)
      | (apply GS_nil)
      | (apply GS_qon; eq_refl; eq_refl; eq_refl; eq_refl)
      | (apply G_pv; eq_refl; first | exact trivial | omega)
      | (apply G_field; eq_refl)
      | (apply G_ld; eq_refl; (repeat first | exact In.here | apply In.there | apply In.skip); eq_refl)
      | (apply G_ldW; eq_refl; (repeat first | exact In.here | apply In.there | apply In.skip); eq_refl)
      | (apply G_cmpT; eq_refl; eq_refl; omega)
      | (apply G_cmp; eq_refl; eq_refl; all_goals intro _)
      | (apply G_len; eq_refl)
      | (apply G_alloc; eq_refl; intro _)
      | (apply G_box; eq_refl; eq_refl; intro _)
      | (apply G_stW; (first | exact wr_p | kernel_rfl); eq_refl; eq_refl; eq_refl; eq_refl; (repeat first | exact Upd.here | apply Upd.there | apply Upd.skip); eq_refl))
    all_goals exact ⟨[], (by repeat first | exact Wk.nil | exact Wk.refl | (apply Wk.cons; (focus ((repeat first | exact Rem.here | apply Rem.there | apply Rem.skip); done))) | apply Wk.nilv | apply Wk.last | apply Wk.drop), rfl, rfl⟩
end SC
end Go.Proofs.Yticndofcfacopaa
end
section
/- Lists of numbers and numbers that come in. -/
set_option linter.unusedVariables false
set_option linter.unusedSimpArgs false
namespace Go.Proofs.Yticndofcfacopaa
namespace SC
open Go.Proofs
set_option maxRecDepth 100000
section
variable {H : Type} {enc : TypeId × Value → H} {W : World} {base : Nat} {spare : Nat → Bool} {held : Bool}
theorem openNumsF {fuel : Nat} {cs : List Value} {x : DataW H × List MemPlace} (h : DataW.trod enc Try.prog W base spare held fuel 22 cs = some x) : ∃ (A : Option Addr) (cp : Nat) (l : List Int), cs = [.slice A l.length cp] ∧ RowA W icell 1 A l ∧ (∀ a ∈ l, fits a) ∧ (A = none → cp = 0) ∧ (∀ R, (∀ n ∈ x.1.weights Try.prog 22, n ≤ R) → l.length * 8 ≤ R) := by
  obtain ⟨A, cp, l, e, r, g, _, z, w⟩ := openRowS icell (fun a _ => fits a) Try.underlying22 (by kernel_rfl) (fun _ => rfl) (fun _ _ _ h => openIntS h) h
  refine ⟨A, cp, l, e, r, fun a ha => ?_, z, fun R hR => ?_⟩
  · obtain ⟨d, hd, _⟩ := g a ha
    exact hd
  · have := w R hR
    rw [bytes3] at this
    exact this
theorem openNumsS {v : Value} {d : DataW H} {ps : List MemPlace} {r : Reach} {b0 : Nat} (hv : Value.okWide Try.prog W r b0 22 v) (h : DataW.Trod enc Try.prog W base spare held 22 v d ps) (hz : ∀ n ∈ d.weights Try.prog 22, n ≤ 140737488351232) :
    ∃ (A : Option Addr) (cp : Nat) (l : List Int), v = .slice A l.length cp ∧ RowA W icell 1 A l ∧ (A = none → cp = 0) ∧ l.length ≤ 17592186043904 ∧ (∀ a ∈ l, fits a) := by
  obtain ⟨A, n, cp, rfl⟩ := Go.WideShapes.okWide_slice Try.underlying22 hv
  obtain ⟨fuel, hf⟩ := h
  rw [cells_slice] at hf
  obtain ⟨A', cp', l, e, r, g, z, w⟩ := openNumsF hf
  cases (List.cons.inj e).1
  exact ⟨_, _, l, rfl, r, z, by have := w _ hz; omega, g⟩
end
end SC
end Go.Proofs.Yticndofcfacopaa
end
section
/- A case of EncodeCones that comes in. -/
set_option linter.unusedVariables false
set_option linter.unusedSimpArgs false
namespace Go.Proofs.Yticndofcfacopaa
namespace SC
open Go.Proofs
set_option maxRecDepth 100000
section
variable {H : Type} {enc : TypeId × Value → H} {W : World} {base : Nat} {spare : Nat → Bool} {held : Bool}
theorem openCaseS {v : Value} {d : DataW H} {ps : List MemPlace} {r : Reach} {b0 : Nat} (hv : Value.okWide Try.prog W r b0 61 v) (h : DataW.Trod enc Try.prog W base spare held 61 v d ps) :
    ∃ (A : Option Addr) (cp : Nat) (s : List Bool) (B : Option Addr) (cp2 : Nat) (q : List Bool) (z : Int), v = .agg #[.slice A s.length cp, .slice B q.length cp2, .int .u64 z] ∧ RowA W booc 1 A s ∧ RowA W booc 1 B q := by
  obtain ⟨cs, rfl, hsz⟩ := Go.WideShapes.okWide_struct Try.underlying61 hv
  obtain ⟨fuel, hf⟩ := h
  rw [agg_cells] at hf
  obtain ⟨hl, n, hfl⟩ := openFieldS Try.underlying61 (by kernel_rfl) hf
  have hl : cs.toList.length = 3 := hl
  obtain ⟨y0, h0, g0⟩ := hfl 0 _ (by rw [hl]; decide) rfl rfl (by kernel_rfl)
  obtain ⟨y1, h1, g1⟩ := hfl 1 _ (by rw [hl]; decide) rfl rfl (by kernel_rfl)
  obtain ⟨y2, h2, g2⟩ := hfl 2 _ (by rw [hl]; decide) rfl rfl (by kernel_rfl)
  obtain ⟨A0, c0, l0, e0, r0, z0, w0⟩ := openBoolsF h0
  obtain ⟨A1, c1, l1, e1, r1, z1, w1⟩ := openBoolsF h1
  obtain ⟨z, e2, _, _⟩ := DataW.trod_int Try.underlying59 h2
  refine ⟨A0, c0, l0, A1, c1, l1, z, ?_, r0, r1⟩
  congr 1
  apply Array.ext'
  apply List.ext_getElem (by rw [hl]; rfl)
  intro i hi1 hi2
  match i, hi2 with
  | 0, _ => exact (List.cons.inj e0).1
  | 1, _ => exact (List.cons.inj e1).1
  | 2, _ => exact (List.cons.inj e2).1
end
end SC
end Go.Proofs.Yticndofcfacopaa
end
