/- Texts of this seat, one behind the other: N9 N10 N11 N12 N13 N14 N15 N16. -/
import Derived.Test.YticndofcfacopaaR4
section
/- trestlebook: SameCnf, SpoilCnf; lists of numbers lent. -/
set_option linter.unusedVariables false
set_option linter.unusedSimpArgs false
namespace Go.Proofs.Yticndofcfacopaa
namespace SC
open Go.Proofs
def LendIR (l : List Int) (v : Value) (N : Mm) : Prop := ∃ A k, v = .slice A l.length k ∧ N = [.vec icell 1 3 A k (l ++ [-77])]
theorem lendIntsG {w : World} {A : Option Addr} {c : Nat} {l : List Int} (R : RowA w icell 1 A l) (hn : A = none → c = 0) (hb : l.length ≤ 17592186044000) : CVN Try.prog 20 [.slice A l.length c] w (LendIR l) :=
  CV.mono (lendInts_cv R hn (by omega)) fun v w' ⟨A', c', e1, h1, hc⟩ => by
    have e : (l ++ [-77]).length = l.length + 1 := by simp
    rw [← e] at h1
    have o : (Ent.vec icell 1 3 A' c' (l ++ [-77])).ok w' := ownsRow_low h1
    refine ⟨_, Mem.join (.one o) (.one hc) fun b ⟨E, hE, g1⟩ ⟨F, hF, g2⟩ => ?_, A', c', e1, rfl⟩
    simp only [List.mem_singleton] at hE hF
    subst hE hF
    have := (World.ownsRow.lt h1 b g1).1
    have := g2.1
    omega
theorem In.rowL {Γ : Mm} {w : World} {t : TypeId} {A : Option Addr} {c : Nat} {l : List Int} (h : In Γ (.vec icell 1 t A c (l ++ [-77]))) (M : Mem w Γ) : RowA w icell 1 A l := RowA.left (h.row M)
theorem keptIntsG {Γ : Mm} {w : World} {A B : Option Addr} {c d : Nat} {l : List Int} (h : In Γ (.vec icell 1 3 A c (l ++ [-77]))) (R' : RowA w icell 1 B l) (hl : l.length ≤ 17592186044000) (M : Mem w Γ) : CVN Try.prog 29 [.slice A l.length c, .slice B l.length d] w fun v N => N = [] ∧ v = .bool true := by
  have hc : l.length + 1 ≤ c := by
    have o : w.ownsRow 0 3 1 (.slice A (l ++ [-77]).length c) (l ++ [-77]).length ((l ++ [-77]).flatMap icell) := h.ok M
    rcases o.2 with ⟨hv, hn⟩ | ⟨g, cap, cur, hv, _, _, hcap, _⟩
    · simp at hn
    · cases hv
      simpa using hcap
  exact CVN.of (keptInts_cv (h.row M) hc R' (by omega)) fun v w' h => ⟨h.2, h.1⟩
theorem Wk.one {E : Ent} {Γ : Mm} : Wk (E :: Γ) [E] := Wk.cons .here .nil
theorem Wk.there {Γ Γ' : Mm} (h : Wk Γ Γ') : Wk Γ ([] ++ Γ') := h
attribute [local irreducible] WC WL WX WS WO OX Does DoesU Enters CV Pure thenQ blockQ retQ Wants retQC GC GL GS GX RdB thenG blockG retG Rd At gt CVN CVM
set_option maxRecDepth 100000
theorem sameClauses_cv {w : World} {A B : Option Addr} {k k2 : Nat} {ps qs : List (Hdl × List Int)} (H : CnfAt w A ps) (H' : CnfAt w B qs) (E : ps.map (·.2) = qs.map (·.2)) (hn : ps.length ≤ 1000000) (hb : ∀ p ∈ ps, p.2.length ≤ 1000) :
    CVN Try.prog 64 [.slice A ps.length k, .slice B qs.length k2] w fun v N => N = [] ∧ v = .bool true := by
  have hl : ps.length = qs.length := by have := congrArg List.length E; simpa using this
  have hA := H.row
  have hB := H'.row
  refine CVN.enter 27 [4] Try.func64 rfl rfl rfl (by decide) rfl ?_
  repeat' (first
      | (apply GC_seqK; intro K hK)
      | (apply hK; clear hK K)
      | (apply GC_block)
      | (apply GC_region)
      | (apply GL_nil)
      | (apply thenG_normal)
      | (apply GC_skip)
      | (apply GC_if_false; eq_refl)
      | (apply GL_on; eq_refl; eq_refl)
      | (apply G_pv; eq_refl; first | exact trivial | omega)
      | (apply G_cmpF; eq_refl; eq_refl; omega)
      | (apply G_len; eq_refl))
  refine GC_loopK [0, 1] (fun i : Nat => [(5, nu i)]) (fun _ => [.old w none_]) (fun i => i ≤ ps.length) (fun i => ps.length - i) 0 (by repeat first | exact Pick.nil | (apply Pick.cons; eq_refl)) (by repeat first | exact trivial | refine ⟨rfl, ?_⟩) (by repeat first | exact Wk.nil | exact Wk.refl | (apply Wk.cons; (focus ((repeat first | exact Rem.here | apply Rem.there | apply Rem.skip); done))) | apply Wk.nilv | apply Wk.last | apply Wk.drop) (Nat.zero_le _) ?_
  intro i hi
  rcases Nat.lt_or_ge i ps.length with hlt | hge
  · have hs : (gt ps (i : Int)).2 = (gt qs (i : Int)).2 := gt_snd E hlt
    have g1 := gt_mem (l := ps) (i := (i : Int)) (by omega) (by omega)
    have g2 := gt_mem (l := qs) (i := (i : Int)) (by omega) (by omega)
    have r1 := H.each _ g1
    have r2 := H'.each _ g2
    have b1 := hb _ g1
    generalize hx : gt ps (i : Int) = x at *
    generalize hy : gt qs (i : Int) = y at *
    obtain ⟨x1, l1⟩ := x
    obtain ⟨y1, l2⟩ := y
    dsimp only at hs r1 r2 b1
    subst hs
    have hsi : ∀ Γ, In Γ (.old w none_) → ∀ w', Mem w' Γ → CVN Try.prog 35 [.slice x1.1 l1.length x1.2, .slice y1.1 l1.length y1.2] w' fun v N => N = [] ∧ v = .bool true := fun Γ ho w' M => sameIntsG (r1.chg (ho.old M)) (r2.chg (ho.old M)) (by omega)
    repeat' (first
      | (apply G_call; eq_refl; eq_refl; (apply hsi; (repeat first | exact In.here | apply In.there | apply In.skip)); rintro _ _ ⟨rfl, rfl⟩)
      | (apply G_rd; eq_refl; (first | (apply Rd.own; (repeat first | exact In.here | apply In.there | apply In.skip); infer_instance) | (apply Rd.old; (repeat first | exact In.here | apply In.there | apply In.skip); assumption) | (apply Rd.oldR; (repeat first | exact In.here | apply In.there | apply In.skip); assumption) | exact Rd.nil | assumption); (case ih => infer_instance); omega; omega; (first | (rw [hx]; dsimp only [encS]; eq_refl) | (rw [hy]; dsimp only [encS]; eq_refl)))
      | (apply GC_seqK; intro K hK)
      | (apply hK; clear hK K)
      | (apply GC_block)
      | (apply GC_region)
      | (apply GL_nil)
      | (apply thenG_normal)
      | (apply blockG_normal)
      | (apply GC_skip)
      | (apply GC_if_true; eq_refl)
      | (apply GC_if_false; eq_refl)
      | (apply GL_on; eq_refl; eq_refl)
      | (refine GC_draws (id := 6) [.q 0, .q 1, .q 2, .q 3, .q 4, .q 5, .q 6, .q 7, .c 8, .q 9] mixed (by kernel_rfl) (by kernel_rfl) ?_)
      | (apply GS_nil)
      | (apply GS_qon; eq_refl; eq_refl; eq_refl; eq_refl)
      | (apply GS_con; eq_refl; eq_refl; eq_refl; eq_refl)
      | (apply G_pv; eq_refl; first | exact trivial | omega)
      | (apply G_cmpT; eq_refl; eq_refl; omega)
      | (apply G_len; eq_refl)
      | (apply G_ix; eq_refl; eq_refl; (first | (apply Rd.own; (repeat first | exact In.here | apply In.there | apply In.skip); infer_instance) | (apply Rd.old; (repeat first | exact In.here | apply In.there | apply In.skip); assumption) | (apply Rd.oldR; (repeat first | exact In.here | apply In.there | apply In.skip); assumption) | exact Rd.nil | assumption); (first | eq_refl | omega); omega; omega))
    exact ⟨i + 1, (by repeat first | exact trivial | refine ⟨rfl, ?_⟩), (by repeat first | exact Wk.nil | exact Wk.refl | (apply Wk.cons; (focus ((repeat first | exact Rem.here | apply Rem.there | apply Rem.skip); done))) | apply Wk.nilv | apply Wk.last | apply Wk.drop), hlt, by omega⟩
  · repeat' (first
      | (apply GC_seqK; intro K hK)
      | (apply hK; clear hK K)
      | (clear hK K; apply hK; clear hK K)
      | (apply GC_region)
      | (apply GL_nil)
      | (apply thenG_normal)
      | (apply thenG_exit)
      | (apply blockG_hit)
      | (apply GC_ret)
      | (apply GC_exit)
      | (apply GC_if_false; eq_refl)
      | (apply retG1; eq_refl)
      | (apply GL_on; eq_refl; eq_refl)
      | (apply G_pv; eq_refl; first | exact trivial | omega)
      | (apply G_cmpF; eq_refl; eq_refl; omega)
      | (apply G_len; eq_refl))
    exact ⟨[], (by repeat first | exact Wk.nil | exact Wk.refl | (apply Wk.cons; (focus ((repeat first | exact Rem.here | apply Rem.there | apply Rem.skip); done))) | apply Wk.nilv | apply Wk.last | apply Wk.drop), rfl, rfl⟩
theorem sameCnf_cv {w : World} {V : Int} {A B : Option Addr} {k k2 : Nat} {ps qs : List (Hdl × List Int)} (H : CnfAt w A ps) (H' : CnfAt w B qs) (E : ps.map (·.2) = qs.map (·.2)) (hn : ps.length ≤ 1000000) (hb : ∀ p ∈ ps, p.2.length ≤ 1000) :
    CVN Try.prog 27 [.agg #[nu V, .slice A ps.length k], .agg #[nu V, .slice B qs.length k2]] w fun v N => N = [] ∧ v = .bool true := by
  have hs : ∀ Γ, In Γ (.old w none_) → ∀ w', Mem w' Γ → CVN Try.prog 64 [.slice A ps.length k, .slice B qs.length k2] w' fun v N => N = [] ∧ v = .bool true := fun Γ ho w' M => sameClauses_cv ⟨H.row.chg (ho.old M), fun p hp => (H.each p hp).chg (ho.old M)⟩ ⟨H'.row.chg (ho.old M), fun p hp => (H'.each p hp).chg (ho.old M)⟩ E hn hb
  refine CVN.enter 17 [4] Try.func27 rfl rfl rfl (by decide) rfl ?_
  repeat' (first
      | (apply G_call; eq_refl; eq_refl; (apply hs; (repeat first | exact In.here | apply In.there | apply In.skip)); rintro _ _ ⟨rfl, rfl⟩)
      | (apply GC_seqK; intro K hK)
      | (apply hK; clear hK K)
      | (apply GC_region)
      | (apply GL_nil)
      | (apply thenG_normal)
      | (apply GC_ret)
      | (apply retG1; eq_refl)
      | (apply GL_on; eq_refl; eq_refl)
      | (apply G_pv; eq_refl; first | exact trivial | omega)
      | (apply G_field; eq_refl)
      | (apply G_ld; eq_refl; (repeat first | exact In.here | apply In.there | apply In.skip); eq_refl)
      | (apply G_cmpT; eq_refl; eq_refl; omega)
      | (apply G_box; eq_refl; eq_refl; intro _))
  exact ⟨[], (by repeat first | exact Wk.nil | exact Wk.refl | (apply Wk.cons; (focus ((repeat first | exact Rem.here | apply Rem.there | apply Rem.skip); done))) | apply Wk.nilv | apply Wk.last | apply Wk.drop), rfl, rfl⟩
theorem spoilCnf_cv {w : World} {V mark : Int} {A : Option Addr} {k : Nat} {ps : List (Hdl × List Int)} (hn : ps.length ≤ 1000000) (M : Mem w (cnB ps A k)) : CVM Try.prog 28 [.agg #[nu V, .slice A ps.length k], nu mark] w (cnB ps A k) fun v N => N = [] := by
  have h7 : ∀ (A : Option Addr) (k' : Nat) (l : List Int), ∀ w', Mem w' [.vec icell 1 3 A k' l] → CVM Try.prog 37 [.slice A l.length k', nu mark] w' [.vec icell 1 3 A k' l] _ := fun A k' l w' M => spoilIntsG M
  refine CVM.enter 25 [] Try.func28 rfl rfl rfl (by decide) rfl M ?_
  repeat' (first
      | (apply GC_seqK; intro K hK)
      | (apply hK; clear hK K)
      | (apply GC_block)
      | (apply GC_region)
      | (apply GL_nil)
      | (apply thenG_normal)
      | (apply GL_on; eq_refl; eq_refl)
      | (apply G_pv; eq_refl; first | exact trivial | omega)
      | (apply G_box; eq_refl; eq_refl; intro _))
  rename_i b2
  refine GC_loopK [1, 2] (fun s : Nat × List (Hdl × List Int) => [(4, nu s.1)]) (fun s => .vec encS 1 62 A k s.2 :: .box b2 44 [nu V, .slice A ps.length k] :: .old w (owns (cnB ps A k)) :: fam rowJ (ps.drop s.1)) (fun s => s.1 ≤ ps.length ∧ s.2.length = ps.length ∧ s.2.drop s.1 = ps.drop s.1) (fun s => ps.length - s.1) (0, ps) (by repeat first | exact Pick.nil | (apply Pick.cons; eq_refl)) (by repeat first | exact trivial | refine ⟨rfl, ?_⟩) (by repeat first | exact Wk.left | exact Wk.nil | exact Wk.refl | (apply Wk.cons; (focus ((repeat first | exact Rem.here | apply Rem.there | apply Rem.skip); done))) | apply Wk.nilv | apply Wk.last | apply Wk.drop) ⟨Nat.zero_le _, rfl, rfl⟩ ?_
  rintro ⟨i, qs⟩ ⟨hi, hq, hd⟩
  dsimp only at hi hq hd ⊢
  rcases Nat.lt_or_ge i ps.length with hlt | hge
  · have e1 := List.drop_eq_getElem_cons hlt
    have e2 := List.drop_eq_getElem_cons (l := qs) (i := i) (by omega)
    have e3 : gt qs (i : Int) = gt ps (i : Int) := by
      rw [e1, e2] at hd
      rw [gt_nat hlt, gt_nat (by omega)]
      exact (List.cons.inj hd).1
    rw [← gt_nat hlt] at e1
    rw [e1, fam_cons]
    generalize hx : gt ps (i : Int) = x at *
    obtain ⟨x1, l1⟩ := x
    rw [show rowJ (x1, l1) = [.vec icell 1 3 x1.1 x1.2 l1] from rfl]
    repeat' (first
      | (apply G_callM2; exact wr_p; eq_refl; (apply h7); (repeat first | exact Rems.nil | (apply Rems.cons; (focus ((repeat first | exact Rem.here | apply Rem.there | apply Rem.skip); done)))); rintro _ _ rfl)
      | (apply G_rd; eq_refl; (first | (apply Rd.own; (repeat first | exact In.here | apply In.there | apply In.skip); infer_instance) | (apply Rd.old; (repeat first | exact In.here | apply In.there | apply In.skip); assumption) | (apply Rd.oldR; (repeat first | exact In.here | apply In.there | apply In.skip); assumption) | exact Rd.nil | assumption); (case ih => infer_instance); omega; omega; (rw [e3]; dsimp only [encS]; eq_refl))
      | (apply GC_seqK; intro K hK)
      | (apply hK; clear hK K)
      | (apply GC_block)
      | (apply GC_region)
      | (apply GL_nil)
      | (apply thenG_normal)
      | (apply GC_skip)
      | (apply GC_if_true; eq_refl)
      | (apply GL_on; eq_refl; eq_refl)
      | (apply G_pv; eq_refl; first | exact trivial | omega)
      | (apply G_field; eq_refl)
      | (apply G_ld; eq_refl; (repeat first | exact In.here | apply In.there | apply In.skip); eq_refl)
      | (apply G_cmpT; eq_refl; eq_refl; omega)
      | (apply G_len; eq_refl)
      | (apply G_ix; eq_refl; eq_refl; (first | (apply Rd.own; (repeat first | exact In.here | apply In.there | apply In.skip); infer_instance) | (apply Rd.old; (repeat first | exact In.here | apply In.there | apply In.skip); assumption) | (apply Rd.oldR; (repeat first | exact In.here | apply In.there | apply In.skip); assumption) | exact Rd.nil | assumption); (first | eq_refl | omega); omega; omega)
      | (apply G_new (fun b => .slice (some ⟨b, 0, none⟩) 1 1); eq_refl; (intro _; apply buildS62_1 <;> eq_refl); intro _))
    rename_i bn
    apply G_stV (a := (((some ⟨bn, 0, none⟩, 1), [mark]) : Hdl × List Int))
    exact wr_p
    eq_refl
    eq_refl
    eq_refl
    eq_refl
    (repeat first | exact Upd.here | apply Upd.there | apply Upd.skip)
    infer_instance
    infer_instance
    eq_refl
    omega
    omega
    repeat' (first
      | (apply hK; clear hK K)
      | (apply GC_region)
      | (apply GL_nil)
      | (apply thenG_normal)
      | (apply blockG_normal)
      | (apply GL_on; eq_refl; eq_refl)
      | (apply G_pv; eq_refl; first | exact trivial | omega))
    refine ⟨(i + 1, qs.set (i : Int).toNat ((some ⟨bn, 0, none⟩, 1), [mark])), (by repeat first | exact trivial | refine ⟨rfl, ?_⟩), (by repeat first | exact Wk.left | exact Wk.nil | exact Wk.refl | (apply Wk.cons; (focus ((repeat first | exact Rem.here | apply Rem.there | apply Rem.skip); done))) | apply Wk.nilv | apply Wk.last | apply Wk.drop), ⟨hlt, by simp only; rw [List.length_set]; exact hq, ?_⟩, by simp only; omega⟩
    simp only
    rw [Int.toNat_natCast, List.drop_set_of_lt (by omega), ← List.drop_drop, ← List.drop_drop, hd]
  · repeat' (first
      | (apply GC_seqK; intro K hK)
      | (apply hK; clear hK K)
      | (apply GC_region)
      | (apply GL_nil)
      | (apply thenG_normal)
      | (apply thenG_exit)
      | (apply blockG_hit)
      | (apply GC_exit)
      | (apply GC_if_false; eq_refl)
      | (apply retG0n)
      | (apply GL_on; eq_refl; eq_refl)
      | (apply G_pv; eq_refl; first | exact trivial | omega)
      | (apply G_field; eq_refl)
      | (apply G_ld; eq_refl; (repeat first | exact In.here | apply In.there | apply In.skip); eq_refl)
      | (apply G_cmpF; eq_refl; eq_refl; omega)
      | (apply G_len; eq_refl))
    exact ⟨[], (Wk.there (by repeat first | exact Wk.one | apply Wk.drop)), rfl⟩
end SC
end Go.Proofs.Yticndofcfacopaa
end
section
/- The gates on which literals hang: the plain law. -/
set_option linter.unusedVariables false
set_option linter.unusedSimpArgs false
namespace Go.Proofs.Yticndofcfacopaa
namespace SC
open Go.Proofs
theorem ext_gt {l m : List Bool} (hl : l.length = m.length) (h : ∀ v : Int, 0 ≤ v → v < l.length → gt l v = gt m v) : l = m := by
  apply List.ext_getElem hl
  intro i h1 h2
  have := h i (by omega) (by omega)
  rwa [gt_nat h1, gt_nat h2] at this
def subB (A B : List Bool) : Prop := ∀ v : Int, 0 ≤ v → gt A v = true → gt B v = true
def closAt (c : Circ) (B : List Bool) (x : Tri) : Prop := gt B (x.1 / 2) = true → gt B (x.2.1 / 2) = true ∧ gt B (x.2.2 / 2) = true
def closB (c : Circ) (B : List Bool) : Prop := ∀ i : Int, 0 ≤ i → i < c.ands.length → closAt c B (gt c.ands i)
structure Least (c : Circ) (A B : List Bool) : Prop where
  len : B.length = A.length
  sub : subB A B
  clos : closB c B
  least : ∀ D, subB A D → closB c D → subB B D
theorem Least.eq {c : Circ} {A B B' : List Bool} (h : Least c A B) (h' : Least c A B') : B = B' := by
  refine ext_gt (h.len.trans h'.len.symm) fun v h0 _ => ?_
  have h1 := h.least B' h'.sub h'.clos v h0
  have h2 := h'.least B h.sub h.clos v h0
  rw [Bool.eq_iff_iff]
  exact ⟨h1, h2⟩
/-- Those that are asked for. -/
def askM (c : Circ) (ls : List Int) (i : Nat) : List Bool := (List.range i).foldl (fun v (k : Nat) => v.set (gt ls (k : Int) / 2).toNat true) (List.replicate (c.max + 1).toNat false)
theorem askM_succ (c : Circ) (ls : List Int) (i : Nat) : askM c ls (i + 1) = (askM c ls i).set (gt ls (i : Int) / 2).toNat true := by unfold askM; rw [fold_snoc]
theorem askM_len (c : Circ) (ls : List Int) (i : Nat) : (askM c ls i).length = (c.max + 1).toNat := by unfold askM; rw [fold_len]; simp
noncomputable def conB (c : Circ) (ls : List Int) : List Bool := by classical exact if h : ∃ B, Least c (askM c ls ls.length) B then h.choose else []
theorem conB_eq {c : Circ} {ls : List Int} {B : List Bool} (h : Least c (askM c ls ls.length) B) : conB c ls = B := by
  have hex : ∃ B, Least c (askM c ls ls.length) B := ⟨B, h⟩
  unfold conB
  rw [dif_pos hex]
  exact hex.choose_spec.eq h
/-- How many are not in. -/
def cntF (l : List Bool) : Nat := (l.filter fun b => !b).length
theorem cntF_set : ∀ {l : List Bool} {i : Nat} (h : i < l.length), l[i] = false → cntF (l.set i true) + 1 = cntF l
  | b :: r, 0, _, hb => by
    simp only [List.getElem_cons_zero] at hb
    subst hb
    simp [cntF]
  | b :: r, i + 1, h, hb => by
    have ih := cntF_set (l := r) (i := i) (by simpa using h) (by simpa using hb)
    simp only [List.set_cons_succ]
    unfold cntF at ih ⊢
    cases b <;> simp <;> omega
theorem cntF_gt {l : List Bool} {v : Int} (h0 : 0 ≤ v) (h : v < l.length) (hb : gt l v = false) : cntF (l.set v.toNat true) < cntF l := by
  obtain ⟨h1, h2⟩ := gt_get h0 h
  have := cntF_set h1 (by rw [← h2]; exact hb)
  omega
theorem cntF_le {l : List Bool} {v : Int} (h0 : 0 ≤ v) (h : v < l.length) : cntF (l.set v.toNat true) ≤ cntF l := by
  cases hb : gt l v
  · exact Nat.le_of_lt (cntF_gt h0 h hb)
  · rw [set_same h0 h hb]
    exact Nat.le_refl _
/-- Two more. -/
def two (l : List Bool) (u v : Int) : List Bool := (l.set u.toNat true).set v.toNat true
theorem two_len (l : List Bool) (u v : Int) : (two l u v).length = l.length := by unfold two; simp
theorem two_gt {l : List Bool} {u v x : Int} (hu : 0 ≤ u) (hv : 0 ≤ v) (hx : 0 ≤ x) (h1 : u < l.length) (h2 : v < l.length) : gt (two l u v) x = true ↔ gt l x = true ∨ x = u ∨ x = v := by
  unfold two
  by_cases e1 : x = v
  · subst e1
    rw [gt_set_eq hx (by simpa using h2)]
    simp
  · rw [gt_set_ne hv hx e1]
    by_cases e2 : x = u
    · subst e2
      rw [gt_set_eq hx h1]
      simp
    · rw [gt_set_ne hu hx e2]
      simp [e1, e2]
theorem two_cnt {l : List Bool} {u v : Int} (hu : 0 ≤ u) (hv : 0 ≤ v) (h1 : u < l.length) (h2 : v < l.length) (h : ¬ (gt l u = true ∧ gt l v = true)) : cntF (two l u v) < cntF l := by
  unfold two
  cases hb : gt l u
  · have a1 := cntF_gt hu h1 hb
    have a2 := cntF_le (l := l.set u.toNat true) hv (by simpa using h2)
    omega
  · cases hc : gt l v
    · rw [set_same hu h1 hb]
      exact cntF_gt hv h2 hc
    · exact absurd ⟨hb, hc⟩ h
/-- What is so while the list grows. -/
structure Grow (c : Circ) (A B : List Bool) : Prop where
  len : B.length = A.length
  sub : subB A B
  least : ∀ D, subB A D → closB c D → subB B D
theorem Grow.refl (c : Circ) (A : List Bool) : Grow c A A := ⟨rfl, fun _ _ h => h, fun _ h _ => h⟩
theorem Grow.done {c : Circ} {A B : List Bool} (h : Grow c A B) (hc : closB c B) : Least c A B := ⟨h.len, h.sub, hc, h.least⟩
theorem Grow.two {c : Circ} {A B : List Bool} (h : Grow c A B) {i : Int} (h0 : 0 ≤ i) (hi : i < c.ands.length) (hb : gt B ((gt c.ands i).1 / 2) = true) (hl : 0 ≤ (gt c.ands i).2.1 / 2) (hr : 0 ≤ (gt c.ands i).2.2 / 2) (h1 : (gt c.ands i).2.1 / 2 < B.length) (h2 : (gt c.ands i).2.2 / 2 < B.length) (ho : 0 ≤ (gt c.ands i).1 / 2) :
    Grow c A (two B ((gt c.ands i).2.1 / 2) ((gt c.ands i).2.2 / 2)) := by
  refine ⟨(two_len ..).trans h.len, fun v hv ha => (two_gt hl hr hv h1 h2).2 (.inl (h.sub v hv ha)), fun D hA hD v hv hx => ?_⟩
  have hd := hD i h0 hi (h.least D hA hD _ ho hb)
  rcases (two_gt hl hr hv h1 h2).1 hx with h3 | h3 | h3
  · exact h.least D hA hD v hv h3
  · rw [h3]; exact hd.1
  · rw [h3]; exact hd.2
/-- Literals that a circuit has. -/
def inB (c : Circ) (l : Int) : Bool := decide (0 ≤ l ∧ l ≤ 2 * c.max + 1)
theorem inB_t {c : Circ} {l : Int} (h : inB c l = true) : inR c l := of_decide_eq_true (p := 0 ≤ l ∧ l ≤ 2 * c.max + 1) h
noncomputable def litE (c : Circ) (ls : List Int) : Int := if ls.length > 16384 then 2 else if ls.all (inB c) then 0 else 1
noncomputable def conE (c : Circ) (ls : List Int) : Int := if (lookM c).2 ≠ 0 then (lookM c).2 else litE c ls
noncomputable def conV (c : Circ) (ls : List Int) : Int := if conE c ls = 0 then c.max + 1 else 0
noncomputable def conM (c : Circ) (ls : List Int) : List (List Int) := if conE c ls = 0 then clsM c (fun i => gt (conB c ls) ((gt c.ands i).1 / 2)) c.ands.length else []
end SC
end Go.Proofs.Yticndofcfacopaa
end
section
/- trestleref10: lits, spread within a step, Inputs. -/
set_option linter.unusedVariables false
set_option linter.unusedSimpArgs false
namespace Go.Proofs.Yticndofcfacopaa
namespace SC
open Go.Proofs
theorem Upd.left {Θ Θ' Γ : Mm} {E F : Ent} (h : Upd Θ E F Θ') : Upd (Θ ++ Γ) E F (Θ' ++ Γ) := by
  induction h with
  | here => exact .here
  | there _ ih => exact .there ih
section
variable {P : Program} {n : Nat} {all : List Oper} {K : Env → Mm → Prop} {A : List Fl} {Θ Θ' C : Mm} {r : List PStep} {e : Env} {Γ Γ' : Mm} {j : Nat} {d : Option Tmp} {ty t t0 : TypeId} {x y : Operand}
/-- What was kept apart comes back. -/
theorem GS_nilP (h : K e (Θ ++ Γ)) : GS P n all K [] Θ [] e Γ := by
  intro B a Q fuel listed w hB ha hs M hQ hp hns hsz hsh hF hok
  obtain rfl : B = [] := by simpa using hB
  simp only [planM, Bool.and_eq_true, List.isEmpty_iff] at hok
  obtain rfl := Nat.eq_of_beq_eq_true hok.2
  exact ⟨hok.1.2, hQ a w e (Θ ++ Γ) ha (show Mem w (Θ ++ Γ) from M) h⟩
/-- Entries kept apart: no quiet operation looks at them. -/
theorem GC_drawsP {id : Nat} {l : List Oper} {Q : PostG} (pl : List PStep) (hm : P.follows .mixedOrders = true) (hns : Region.noSelect l.toArray = true) (hok : planM l.toArray pl l.toArray.size (Array.replicate l.toArray.size false) [] = true) (hC : Rems Γ C Γ')
    (h : GS P n l (fun e Γ => Q .normal e Γ) [] C pl e Γ') : GC P n (.region id l.toArray true) Q e Γ := fun w M a ha =>
  wp_region_any hm (wpAny_of_M _ _ _ _ _ (h [] a _ _ _ _ rfl ha (fun _ _ h => (by cases h)) (show Mem w.drew (C ++ Γ') from Mem.takes hC M.drew) (fun a' w' e' Γ' ha' M' hK => ⟨e', ha', Γ', M', hK⟩) lift_panic hns (by simp) (Shut.init _ _ _) ⟨fun _ h => (by cases h), List.Pairwise.nil, List.Pairwise.nil⟩ hok))
theorem G_stVP {α : Type} {enc : α → List Value} {td : TypeDesc} {by_ : Nat} {zv v : Value} {ag : Bool} {b c : Nat} {i : Int} {l : List α} (a : α) [T : Ty P t td 1 zv by_ ag] (h : ev e x = some (.pointer (some ⟨b, 0 + i.toNat * 1, none⟩))) (h1 : ev e y = some v) (hv : v.cells = #[v]) (h2 : v.oneCell' = true)
    (hU : Upd Θ (.vec enc 1 t0 (some ⟨b, 0, none⟩) c l) (.vec enc 1 t0 (some ⟨b, 0, none⟩) c (l.set i.toNat a)) Θ') (N : Enc enc 1) (ih : Inhabited α) (ha : enc a = [v]) (h0 : 0 ≤ i) (hlt : i < l.length) (hr : GS P n all K A Θ' r (push d undef e) Γ) : GX P n all K (.c j A Θ r) d (.store t x y) ty e Γ := fun pos af g ho hg hd hA =>
  GS_priv (R := fun v Θ1 N => v = undef ∧ Θ1 = Θ' ∧ N = []) ho hg hd hA (fun Δ w M => by
    have hU' := hU.left (Γ := Γ)
    have hb : (Ent.vec enc 1 t0 (some ⟨b, 0, none⟩) c l).ok w := by obtain ⟨R, p, _⟩ := hU'.perm; exact M.right.ok _ (p.mem_iff.2 (by simp))
    obtain ⟨hl, e1⟩ := gt_get h0 hlt
    have ha' : enc a = (enc l[i.toNat]).set 0 v := by
      have := N.len l[i.toNat]
      rcases hh : enc l[i.toNat] with _ | ⟨u, _ | ⟨u', r⟩⟩
      · rw [hh] at this; simp at this
      · rw [ha]; rfl
      · rw [hh] at this; simp at this
    obtain ⟨g, cur, e2, hB, hlt2, hown⟩ := vec_store hb hl (Nat.zero_lt_one) a v ha'
    cases e2
    have e3 : (⟨b, 0 + i.toNat * 1, none⟩ : Addr) = ⟨b, i.toNat * 1 + 0, none⟩ := by simp
    rw [e3] at h
    have hown' : (Ent.vec enc 1 t0 (some ⟨b, 0, none⟩) c (l.set i.toNat a)).ok (w.setRow b (cur.set (i.toNat * 1 + 0) v).toArray) := by
      show World.ownsRow _ _ _ _ _ _ _
      rw [List.length_set]
      exact hown
    refine .inr (.inr ⟨_, does_store1 h h1 hB hlt2 hv h2, Θ', [], ?_, rfl, rfl, rfl⟩)
    exact Mem.upd hU' M (Chg.setRow w b _ (S := fun k => k = b) rfl) (fun k _ h => by subst h; rfl) hown' fun k hk => .inl hk) fun v Θ1 N ⟨e1, e2, e3⟩ => by rw [e1, e2, e3]; exact hr
end
attribute [local irreducible] WC WL WX WS WO OX Does DoesU Enters CV Pure thenQ blockQ retQ Wants retQC GC GL GS GX RdB thenG blockG retG Rd At gt CVN CVM
set_option maxRecDepth 100000
theorem lits10_cv {w : World} {c : Circ} {h js : Hd} {B : Option Addr} {k : Nat} {ls : List Int} (R : Right c) (H : CirAt w c h js) (hB : RowA w icell 1 B ls) (hn : ls.length ≤ 9223372036854775807) : CVN Try.prog 107 [.agg (ccells c h).toArray, .slice B ls.length k] w fun v N => N = [] ∧ v = nu (litE c ls) := by
  have m0 := R.m0
  have m1 := R.m1
  refine CVN.enter 31 [4] Try.func107 rfl rfl rfl (by decide) rfl ?_
  by_cases hlen : ls.length > 16384
  · have e : litE c ls = 2 := if_pos hlen
    rw [e]
    repeat' (first
      | (apply GC_seqK; intro K hK)
      | (apply hK; clear hK K)
      | (apply GC_region)
      | (apply GL_nil)
      | (apply thenG_normal)
      | (apply thenG_ret)
      | (apply GC_ret)
      | (apply GC_if_true; eq_refl)
      | (apply retG1; eq_refl)
      | (apply GL_on; eq_refl; eq_refl)
      | (apply G_pv; eq_refl; first | exact trivial | omega)
      | (apply G_cmpT; eq_refl; eq_refl; omega)
      | (apply G_len; eq_refl)
      | (apply G_box; eq_refl; eq_refl; intro _))
    exact ⟨[], (by repeat first | exact Wk.nil | exact Wk.refl | (apply Wk.cons; (focus ((repeat first | exact Rem.here | apply Rem.there | apply Rem.skip); done))) | apply Wk.nilv | apply Wk.last | apply Wk.drop), rfl, rfl⟩
  · have e : litE c ls = if ls.all (inB c) then 0 else 1 := if_neg hlen
    rw [e]
    repeat' (first
      | (apply GC_seqK; intro K hK)
      | (apply hK; clear hK K)
      | (apply GC_block)
      | (apply GC_region)
      | (apply GL_nil)
      | (apply thenG_normal)
      | (apply GC_skip)
      | (apply GC_if_false; eq_refl)
      | (apply GL_on; eq_refl; eq_refl)
      | (apply G_pv; eq_refl; first | exact trivial | omega)
      | (apply G_cmpF; eq_refl; eq_refl; omega)
      | (apply G_len; eq_refl)
      | (apply G_box; eq_refl; eq_refl; intro _))
    rename_i b2
    refine GC_loopK [1, 2] (fun i : Nat => [(5, nu i)]) (fun _ => [.box b2 29 (ccells c h), .old w none_]) (fun i => i ≤ ls.length ∧ (ls.take i).all (inB c) = true) (fun i => ls.length - i) 0 (by repeat first | exact Pick.nil | (apply Pick.cons; eq_refl)) (by repeat first | exact trivial | refine ⟨rfl, ?_⟩) (by repeat first | exact Wk.nil | exact Wk.refl | (apply Wk.cons; (focus ((repeat first | exact Rem.here | apply Rem.there | apply Rem.skip); done))) | apply Wk.nilv | apply Wk.last | apply Wk.drop) ⟨Nat.zero_le _, by simp⟩ ?_
    rintro i ⟨hi, hall⟩
    rcases Nat.lt_or_ge i ls.length with hlt | hge
    · have e1 := List.take_succ_eq_append_getElem hlt
      rw [← gt_nat hlt] at e1
      by_cases hin : 0 ≤ gt ls (i : Int) ∧ gt ls (i : Int) ≤ 2 * c.max + 1
      · repeat' (first
      | (apply GC_seqK; intro K hK)
      | (apply hK; clear hK K)
      | (apply GC_block)
      | (apply GC_region)
      | (apply GL_nil)
      | (apply thenG_normal)
      | (apply blockG_normal)
      | (apply GC_skip)
      | (apply GC_if_true; eq_refl)
      | (apply GC_if_false; eq_refl)
      | (apply GL_on; eq_refl; eq_refl)
      | (refine GC_draws (id := 6) [.q 0, .q 1, .q 2, .q 3, .q 4, .q 5, .q 6, .q 7, .q 8, .q 9, .q 10, .q 11, .q 12, .q 13, .q 14, .q 15] mixed (by kernel_rfl) (by kernel_rfl) ?_)
      | (apply GS_nil)
      | (apply GS_qon; eq_refl; eq_refl; eq_refl; eq_refl)
      | (apply G_pv; eq_refl; first | exact trivial | omega)
      | (apply G_field; eq_refl)
      | (apply G_ld; eq_refl; (repeat first | exact In.here | apply In.there | apply In.skip); eq_refl)
      | (apply G_rd; eq_refl; (first | (apply Rd.own; (repeat first | exact In.here | apply In.there | apply In.skip); infer_instance) | (apply Rd.old; (repeat first | exact In.here | apply In.there | apply In.skip); assumption) | (apply Rd.oldR; (repeat first | exact In.here | apply In.there | apply In.skip); assumption) | exact Rd.nil | assumption); (case ih => infer_instance); omega; omega; eq_refl)
      | (apply G_cmpT; eq_refl; eq_refl; omega)
      | (apply G_cmpF; eq_refl; eq_refl; omega)
      | (apply G_len; eq_refl)
      | (apply G_ix; eq_refl; eq_refl; (first | (apply Rd.own; (repeat first | exact In.here | apply In.there | apply In.skip); infer_instance) | (apply Rd.old; (repeat first | exact In.here | apply In.there | apply In.skip); assumption) | (apply Rd.oldR; (repeat first | exact In.here | apply In.there | apply In.skip); assumption) | exact Rd.nil | assumption); (first | eq_refl | omega); omega; omega))
        all_goals first
          | (exfalso; omega)
          | exact ⟨i + 1, (by repeat first | exact trivial | refine ⟨rfl, ?_⟩), (by repeat first | exact Wk.nil | exact Wk.refl | (apply Wk.cons; (focus ((repeat first | exact Rem.here | apply Rem.there | apply Rem.skip); done))) | apply Wk.nilv | apply Wk.last | apply Wk.drop), ⟨hlt, by rw [e1, List.all_append, hall]; simp [inB, hin]⟩, by omega⟩
      · have hf : ls.all (inB c) = false := by
          rw [List.all_eq_false]
          exact ⟨_, List.getElem_mem hlt, by rw [← gt_nat hlt]; unfold inB; simpa using hin⟩
        rw [show (if ls.all (inB c) = true then (0 : Int) else 1) = 1 from if_neg (by rw [hf]; decide)]
        by_cases h0 : 0 ≤ gt ls (i : Int)
        · repeat' (first
      | (apply GC_seqK; intro K hK)
      | (apply hK; clear hK K)
      | (apply GC_block)
      | (apply GC_region)
      | (apply GL_nil)
      | (apply thenG_normal)
      | (apply thenG_ret)
      | (apply blockG_ret)
      | (apply GC_ret)
      | (apply GC_skip)
      | (apply GC_if_true; eq_refl)
      | (apply retG1; eq_refl)
      | (apply GL_on; eq_refl; eq_refl)
      | (refine GC_draws (id := 6) [.q 0, .q 1, .q 2, .q 3, .q 4, .q 5, .q 6, .q 7, .q 8, .q 9, .q 10, .q 11, .q 12, .q 13, .q 14, .q 15] mixed (by kernel_rfl) (by kernel_rfl) ?_)
      | (apply GS_nil)
      | (apply GS_qon; eq_refl; eq_refl; eq_refl; eq_refl)
      | (apply G_pv; eq_refl; first | exact trivial | omega)
      | (apply G_field; eq_refl)
      | (apply G_ld; eq_refl; (repeat first | exact In.here | apply In.there | apply In.skip); eq_refl)
      | (apply G_rd; eq_refl; (first | (apply Rd.own; (repeat first | exact In.here | apply In.there | apply In.skip); infer_instance) | (apply Rd.old; (repeat first | exact In.here | apply In.there | apply In.skip); assumption) | (apply Rd.oldR; (repeat first | exact In.here | apply In.there | apply In.skip); assumption) | exact Rd.nil | assumption); (case ih => infer_instance); omega; omega; eq_refl)
      | (apply G_cmpT; eq_refl; eq_refl; omega)
      | (apply G_cmpF; eq_refl; eq_refl; omega)
      | (apply G_len; eq_refl)
      | (apply G_ix; eq_refl; eq_refl; (first | (apply Rd.own; (repeat first | exact In.here | apply In.there | apply In.skip); infer_instance) | (apply Rd.old; (repeat first | exact In.here | apply In.there | apply In.skip); assumption) | (apply Rd.oldR; (repeat first | exact In.here | apply In.there | apply In.skip); assumption) | exact Rd.nil | assumption); (first | eq_refl | omega); omega; omega))
          all_goals first
            | (exfalso; omega)
            | exact ⟨[], (by repeat first | exact Wk.nil | exact Wk.refl | (apply Wk.cons; (focus ((repeat first | exact Rem.here | apply Rem.there | apply Rem.skip); done))) | apply Wk.nilv | apply Wk.last | apply Wk.drop), rfl, rfl⟩
        · repeat' (first
      | (apply GC_seqK; intro K hK)
      | (apply hK; clear hK K)
      | (apply GC_block)
      | (apply GC_region)
      | (apply GL_nil)
      | (apply thenG_normal)
      | (apply thenG_ret)
      | (apply blockG_ret)
      | (apply GC_ret)
      | (apply GC_skip)
      | (apply GC_if_true; eq_refl)
      | (apply retG1; eq_refl)
      | (apply GL_on; eq_refl; eq_refl)
      | (refine GC_draws (id := 6) [.q 0, .q 1, .q 2, .q 3, .q 4, .q 5, .q 6, .q 7, .q 8, .q 9, .q 10, .q 11, .q 12, .q 13, .q 14, .q 15] mixed (by kernel_rfl) (by kernel_rfl) ?_)
      | (apply GS_nil)
      | (apply GS_qon; eq_refl; eq_refl; eq_refl; eq_refl)
      | (apply GS_qoff; eq_refl; eq_refl; eq_refl; eq_refl)
      | (apply G_pv; eq_refl; first | exact trivial | omega)
      | (apply G_rd; eq_refl; (first | (apply Rd.own; (repeat first | exact In.here | apply In.there | apply In.skip); infer_instance) | (apply Rd.old; (repeat first | exact In.here | apply In.there | apply In.skip); assumption) | (apply Rd.oldR; (repeat first | exact In.here | apply In.there | apply In.skip); assumption) | exact Rd.nil | assumption); (case ih => infer_instance); omega; omega; eq_refl)
      | (apply G_cmpT; eq_refl; eq_refl; omega)
      | (apply G_len; eq_refl)
      | (apply G_ix; eq_refl; eq_refl; (first | (apply Rd.own; (repeat first | exact In.here | apply In.there | apply In.skip); infer_instance) | (apply Rd.old; (repeat first | exact In.here | apply In.there | apply In.skip); assumption) | (apply Rd.oldR; (repeat first | exact In.here | apply In.there | apply In.skip); assumption) | exact Rd.nil | assumption); (first | eq_refl | omega); omega; omega))
          all_goals first
            | (exfalso; omega)
            | exact ⟨[], (by repeat first | exact Wk.nil | exact Wk.refl | (apply Wk.cons; (focus ((repeat first | exact Rem.here | apply Rem.there | apply Rem.skip); done))) | apply Wk.nilv | apply Wk.last | apply Wk.drop), rfl, rfl⟩
    · rw [List.take_of_length_le hge] at hall
      repeat' (first
      | (apply GC_seqK; intro K hK)
      | (apply hK; clear hK K)
      | (clear hK K; apply hK; clear hK K)
      | (apply GC_region)
      | (apply GL_nil)
      | (apply thenG_normal)
      | (apply thenG_exit)
      | (apply blockG_hit)
      | (apply GC_ret)
      | (apply GC_exit)
      | (apply GC_if_false; eq_refl)
      | (apply retG1; eq_refl)
      | (apply GL_on; eq_refl; eq_refl)
      | (apply G_pv; eq_refl; first | exact trivial | omega)
      | (apply G_cmpF; eq_refl; eq_refl; omega)
      | (apply G_len; eq_refl))
      exact ⟨[], (by repeat first | exact Wk.nil | exact Wk.refl | (apply Wk.cons; (focus ((repeat first | exact Rem.here | apply Rem.there | apply Rem.skip); done))) | apply Wk.nilv | apply Wk.last | apply Wk.drop), rfl, by rw [if_pos hall]⟩
theorem litE_ok {c : Circ} {ls : List Int} (h : litE c ls = 0) : ls.length ≤ 16384 ∧ ∀ l ∈ ls, inR c l := by
  unfold litE at h
  split at h
  · cases h
  · split at h
    · rename_i h1 h2
      exact ⟨by omega, fun l hl => inB_t (List.all_eq_true.1 h2 l hl)⟩
    · cases h
set_option maxHeartbeats 1600000 in
theorem spread_cv {w : World} {c : Circ} {h js : Hd} {B : Option Addr} {k : Nat} {ls : List Int} (R : Right c) (H : CirAt w c h js) (hB : RowA w icell 1 B ls) (hn : ls.length ≤ 16384) (hin : ∀ l ∈ ls, inR c l) : CVN Try.prog 108 [.agg (ccells c h).toArray, .slice B ls.length k, .bool false] w fun v N => ∃ (A : Option Addr) (k : Nat) (l : List Bool), v = .slice A (c.max + 1).toNat k ∧ l.length = (c.max + 1).toNat ∧ N = [.vec booc 1 4 A (c.max + 1).toNat l] := by
  have hAnd := H.ands
  have m0 := R.m0
  have m1 := R.m1
  have n2 := R.nLat
  have n3 := R.nAnd
  refine CVN.enter 115 [6] Try.func108 rfl rfl rfl (by decide) rfl ?_
  repeat' (first
      | (apply GC_seqK; intro K hK)
      | (apply hK; clear hK K)
      | (apply GC_block)
      | (apply GC_region)
      | (apply GL_nil)
      | (apply thenG_normal)
      | (apply GL_on; eq_refl; eq_refl)
      | (apply G_pv; eq_refl; first | exact trivial | omega)
      | (apply G_field; eq_refl)
      | (apply G_ld; eq_refl; (repeat first | exact In.here | apply In.there | apply In.skip); eq_refl)
      | (apply G_box; eq_refl; eq_refl; intro _)
      | (apply G_makeI booc; eq_refl; eq_refl; omega; eq_refl; omega; decide; intro _))
  rename_i b3 b7
  refine GC_loopK [1, 2, 3, 7] (fun s : Nat × List Bool => [(8, nu s.1)]) (fun s => [.vec booc 1 4 (some ⟨b7, 0, none⟩) (c.max + 1).toNat s.2, .box b3 29 (ccells c h), .old w none_]) (fun s => s.1 ≤ ls.length ∧ s.2.length = (c.max + 1).toNat) (fun s => ls.length - s.1) (0, List.replicate (c.max + 1).toNat false) (by repeat first | exact Pick.nil | (apply Pick.cons; eq_refl)) (by repeat first | exact trivial | refine ⟨rfl, ?_⟩) (by repeat first | exact Wk.nil | exact Wk.refl | (apply Wk.cons; (focus ((repeat first | exact Rem.here | apply Rem.there | apply Rem.skip); done))) | apply Wk.nilv | apply Wk.last | apply Wk.drop) ⟨Nat.zero_le _, List.length_replicate⟩ ?_
  rintro ⟨i, l⟩ ⟨hi, hl⟩
  dsimp only at hi hl ⊢
  rcases Nat.lt_or_ge i ls.length with hlt | hge
  · have g0 := hin _ (gt_mem (l := ls) (i := (i : Int)) (by omega) (by omega))
    unfold inR at g0
    repeat' (first
      | (apply GC_seqK; intro K hK)
      | (apply hK; clear hK K)
      | (apply GC_block)
      | (apply GC_region)
      | (apply GL_nil)
      | (apply thenG_normal)
      | (apply blockG_normal)
      | (apply GC_skip)
      | (apply GC_if_true; eq_refl)
      | (apply GL_on; eq_refl; eq_refl)
      | (apply G_pv; eq_refl; first | exact trivial | omega)
      | (apply G_rd; eq_refl; (first | (apply Rd.own; (repeat first | exact In.here | apply In.there | apply In.skip); infer_instance) | (apply Rd.old; (repeat first | exact In.here | apply In.there | apply In.skip); assumption) | (apply Rd.oldR; (repeat first | exact In.here | apply In.there | apply In.skip); assumption) | exact Rd.nil | assumption); (case ih => infer_instance); omega; omega; eq_refl)
      | (apply G_cmpT; eq_refl; eq_refl; omega)
      | (apply G_len; eq_refl)
      | (apply G_ix; eq_refl; eq_refl; (first | (apply Rd.own; (repeat first | exact In.here | apply In.there | apply In.skip); infer_instance) | (apply Rd.old; (repeat first | exact In.here | apply In.there | apply In.skip); assumption) | (apply Rd.oldR; (repeat first | exact In.here | apply In.there | apply In.skip); assumption) | exact Rd.nil | assumption); (first | eq_refl | omega); omega; omega)
      | (apply G_stV; (first | exact wr_p | kernel_rfl); eq_refl; eq_refl; eq_refl; eq_refl; (repeat first | exact Upd.here | apply Upd.there | apply Upd.skip); infer_instance; infer_instance; eq_refl; omega; (try simp only [List.length_set, List.length_append, List.length_replicate]); omega))
    exact ⟨(i + 1, _), (by repeat first | exact trivial | refine ⟨rfl, ?_⟩), (by repeat first | exact Wk.nil | exact Wk.refl | (apply Wk.cons; (focus ((repeat first | exact Rem.here | apply Rem.there | apply Rem.skip); done))) | apply Wk.nilv | apply Wk.last | apply Wk.drop), ⟨hlt, by simp only; rw [List.length_set]; exact hl⟩, by simp only; omega⟩
  repeat' (first
      | (apply GC_seqK; intro K hK)
      | (apply hK; clear hK K)
      | (clear hK K; apply hK; clear hK K)
      | (apply GC_block)
      | (apply GC_region)
      | (apply GL_nil)
      | (apply thenG_normal)
      | (apply thenG_exit)
      | (apply blockG_hit)
      | (apply GC_exit)
      | (apply GC_if_false; eq_refl)
      | (apply GL_on; eq_refl; eq_refl)
      | (apply G_pv; eq_refl; first | exact trivial | omega)
      | (apply G_cmpF; eq_refl; eq_refl; omega)
      | (apply G_len; eq_refl))
  refine GC_loopK [1, 2, 3, 7] (fun s : Bool × List Bool => [(9, .bool s.1)]) (fun s => [.vec booc 1 4 (some ⟨b7, 0, none⟩) (c.max + 1).toNat s.2, .box b3 29 (ccells c h), .old w none_]) (fun s => s.2.length = (c.max + 1).toNat) (fun s => 2 * cntF s.2 + (if s.1 then 1 else 0)) (true, l) (by repeat first | exact Pick.nil | (apply Pick.cons; eq_refl)) (by repeat first | exact trivial | refine ⟨rfl, ?_⟩) (by repeat first | exact Wk.nil | exact Wk.refl | (apply Wk.cons; (focus ((repeat first | exact Rem.here | apply Rem.there | apply Rem.skip); done))) | apply Wk.nilv | apply Wk.last | apply Wk.drop) hl ?_
  rintro ⟨ag, m⟩ hm
  dsimp only at hm ⊢
  cases ag
  · repeat' (first
      | (apply GC_seqK; intro K hK)
      | (apply hK; clear hK K)
      | (clear hK K; apply hK; clear hK K)
      | (apply GC_region)
      | (apply GL_nil)
      | (apply thenG_normal)
      | (apply thenG_exit)
      | (apply blockG_hit)
      | (apply GC_ret)
      | (apply GC_exit)
      | (apply GC_if_false; eq_refl)
      | (apply retG1; eq_refl)
      | (apply GL_on; eq_refl; eq_refl)
      | (apply G_pv; eq_refl; first | exact trivial | omega)
      | (apply G_ix; eq_refl; eq_refl; (first | (apply Rd.own; (repeat first | exact In.here | apply In.there | apply In.skip); infer_instance) | (apply Rd.old; (repeat first | exact In.here | apply In.there | apply In.skip); assumption) | (apply Rd.oldR; (repeat first | exact In.here | apply In.there | apply In.skip); assumption) | exact Rd.nil | assumption); (first | eq_refl | omega); omega; omega)
      | (apply G_stV; (first | exact wr_p | kernel_rfl); eq_refl; eq_refl; eq_refl; eq_refl; (repeat first | exact Upd.here | apply Upd.there | apply Upd.skip); infer_instance; infer_instance; eq_refl; omega; (try simp only [List.length_set, List.length_append, List.length_replicate]); omega))
    exact ⟨[_], (by repeat first | exact Wk.nil | exact Wk.refl | (apply Wk.cons; (focus ((repeat first | exact Rem.here | apply Rem.there | apply Rem.skip); done))) | apply Wk.nilv | apply Wk.last | apply Wk.drop), _, _, _, rfl, (by rw [List.length_set]; exact hm), rfl⟩
  · repeat' (first
      | (apply GC_seqK; intro K hK)
      | (apply hK; clear hK K)
      | (apply GC_block)
      | (apply GC_region)
      | (apply GL_nil)
      | (apply thenG_normal)
      | (apply GC_skip)
      | (apply GC_if_true; eq_refl)
      | (apply GL_on; eq_refl; eq_refl)
      | (apply G_pv; eq_refl; first | exact trivial | omega))
    refine GC_loopK [1, 2, 3, 7] (fun s : Nat × Bool × List Bool => [(9, .bool s.2.1), (10, nu s.1)]) (fun s => [.vec booc 1 4 (some ⟨b7, 0, none⟩) (c.max + 1).toNat s.2.2, .box b3 29 (ccells c h), .old w none_]) (fun s => s.1 ≤ c.ands.length ∧ s.2.2.length = (c.max + 1).toNat ∧ (s.2.1 = true → cntF s.2.2 < cntF m) ∧ (s.2.1 = false → s.2.2 = m)) (fun s => c.ands.length - s.1) (0, false, m) (by repeat first | exact Pick.nil | (apply Pick.cons; eq_refl)) (by repeat first | exact trivial | refine ⟨rfl, ?_⟩) (by repeat first | exact Wk.nil | exact Wk.refl | (apply Wk.cons; (focus ((repeat first | exact Rem.here | apply Rem.there | apply Rem.skip); done))) | apply Wk.nilv | apply Wk.last | apply Wk.drop) ⟨Nat.zero_le _, hm, (fun h => by cases h), fun _ => rfl⟩ ?_
    rintro ⟨i, ag, o⟩ ⟨hi2, ho, hc1, hc2⟩
    dsimp only at hi2 ho hc1 hc2 ⊢
    rcases Nat.lt_or_ge i c.ands.length with hlt | hge2
    · obtain ⟨g1, g2, g3⟩ := R.gate (gt_mem (l := c.ands) (i := (i : Int)) (by omega) (by omega))
      unfold defR at g1
      unfold inR at g2 g3
      have ht := two_cnt (l := o) (u := (gt c.ands (i : Int)).2.1 / 2) (v := (gt c.ands (i : Int)).2.2 / 2) (by omega) (by omega) (by omega) (by omega)
      have hc3 : cntF o ≤ cntF m := by
        cases ag
        · rw [hc2 rfl]; exact Nat.le_refl _
        · exact Nat.le_of_lt (hc1 rfl)
      cases hx1 : gt o ((gt c.ands (i : Int)).1 / 2)
      · repeat' (first
      | (apply G_rd; eq_refl; (first | (apply Rd.own; (repeat first | exact In.here | apply In.there | apply In.skip); infer_instance) | (apply Rd.old; (repeat first | exact In.here | apply In.there | apply In.skip); assumption) | (apply Rd.oldR; (repeat first | exact In.here | apply In.there | apply In.skip); assumption) | exact Rd.nil | assumption); (case ih => infer_instance); omega; omega; (rw [hx1]; eq_refl))
      | (apply GC_seqK; intro K hK)
      | (apply hK; clear hK K)
      | (apply GC_block)
      | (apply GC_region)
      | (apply GL_nil)
      | (apply thenG_normal)
      | (apply blockG_normal)
      | (apply GC_skip)
      | (apply GC_if_true; eq_refl)
      | (apply GC_if_false; eq_refl)
      | (apply GL_on; eq_refl; eq_refl)
      | (apply GL_off; eq_refl; eq_refl)
      | (apply GL_offU; eq_refl; eq_refl; eq_refl)
      | (apply G_pv; eq_refl; first | exact trivial | omega)
      | (apply G_field; eq_refl)
      | (apply G_ld; eq_refl; (repeat first | exact In.here | apply In.there | apply In.skip); eq_refl)
      | (apply G_rdW; eq_refl; (first | (apply Rd.own; (repeat first | exact In.here | apply In.there | apply In.skip); infer_instance) | (apply Rd.old; (repeat first | exact In.here | apply In.there | apply In.skip); assumption) | (apply Rd.oldR; (repeat first | exact In.here | apply In.there | apply In.skip); assumption) | exact Rd.nil | assumption); infer_instance; (case ih => infer_instance); omega; omega)
      | (apply G_cmpT; eq_refl; eq_refl; omega)
      | (apply G_len; eq_refl)
      | (apply G_ix; eq_refl; eq_refl; (first | (apply Rd.own; (repeat first | exact In.here | apply In.there | apply In.skip); infer_instance) | (apply Rd.old; (repeat first | exact In.here | apply In.there | apply In.skip); assumption) | (apply Rd.oldR; (repeat first | exact In.here | apply In.there | apply In.skip); assumption) | exact Rd.nil | assumption); (first | eq_refl | omega); omega; omega)
      | (apply G_alloc; eq_refl; intro _)
      | (apply G_stW; (first | exact wr_p | kernel_rfl); eq_refl; eq_refl; eq_refl; eq_refl; (repeat first | exact Upd.here | apply Upd.there | apply Upd.skip); eq_refl))
        all_goals exact ⟨(i + 1, ag, o), (by repeat first | exact trivial | refine ⟨rfl, ?_⟩), (by repeat first | exact Wk.nil | exact Wk.refl | (apply Wk.cons; (focus ((repeat first | exact Rem.here | apply Rem.there | apply Rem.skip); done))) | apply Wk.nilv | apply Wk.last | apply Wk.drop), ⟨hlt, ho, hc1, hc2⟩, by simp only; omega⟩
      · cases hx2 : gt o ((gt c.ands (i : Int)).2.1 / 2)
        · repeat' (first
      | (apply GC_drawsP (id := 14) (C := [.vec booc 1 4 (some ⟨b7, 0, none⟩) (c.max + 1).toNat o]) [.q 0, .q 1, .q 2, .q 3, .q 4, .q 5, .q 6, .q 7, .q 8, .c 9, .q 10, .c 11]; exact mixed; kernel_rfl; kernel_rfl; (repeat first | exact Rems.nil | (apply Rems.cons; (focus ((repeat first | exact Rem.here | apply Rem.there | apply Rem.skip); done)))))
      | (apply GS_nilP)
      | (apply G_stVP true; eq_refl; eq_refl; eq_refl; eq_refl; (repeat first | exact Upd.here | apply Upd.there | apply Upd.skip); infer_instance; infer_instance; eq_refl; omega; (try simp only [List.length_set]); omega)
      | (apply G_rd; eq_refl; (first | (apply Rd.own; (repeat first | exact In.here | apply In.there | apply In.skip); infer_instance) | (apply Rd.old; (repeat first | exact In.here | apply In.there | apply In.skip); assumption) | (apply Rd.oldR; (repeat first | exact In.here | apply In.there | apply In.skip); assumption) | exact Rd.nil | assumption); (case ih => infer_instance); omega; omega; (first | (rw [hx1]; eq_refl) | (rw [hx2]; eq_refl)))
      | (apply GC_seqK; intro K hK)
      | (apply hK; clear hK K)
      | (apply GC_block)
      | (apply GC_region)
      | (apply GL_nil)
      | (apply thenG_normal)
      | (apply blockG_normal)
      | (apply GC_skip)
      | (apply GC_if_true; eq_refl)
      | (apply GL_on; eq_refl; eq_refl)
      | (apply GL_off; eq_refl; eq_refl)
      | (apply GS_qon; eq_refl; eq_refl; eq_refl; eq_refl)
      | (apply GS_con; eq_refl; eq_refl; eq_refl; eq_refl)
      | (apply G_pv; eq_refl; first | exact trivial | omega)
      | (apply G_field; eq_refl)
      | (apply G_ld; eq_refl; (repeat first | exact In.here | apply In.there | apply In.skip); eq_refl)
      | (apply G_rdW; eq_refl; (first | (apply Rd.own; (repeat first | exact In.here | apply In.there | apply In.skip); infer_instance) | (apply Rd.old; (repeat first | exact In.here | apply In.there | apply In.skip); assumption) | (apply Rd.oldR; (repeat first | exact In.here | apply In.there | apply In.skip); assumption) | exact Rd.nil | assumption); infer_instance; (case ih => infer_instance); omega; omega)
      | (apply G_cmpT; eq_refl; eq_refl; omega)
      | (apply G_len; eq_refl)
      | (apply G_ix; eq_refl; eq_refl; (first | (apply Rd.own; (repeat first | exact In.here | apply In.there | apply In.skip); infer_instance) | (apply Rd.old; (repeat first | exact In.here | apply In.there | apply In.skip); assumption) | (apply Rd.oldR; (repeat first | exact In.here | apply In.there | apply In.skip); assumption) | exact Rd.nil | assumption); (first | eq_refl | omega); omega; omega)
      | (apply G_ixA; eq_refl; eq_refl; omega; omega)
      | (apply G_alloc; eq_refl; intro _)
      | (apply G_stW; (first | exact wr_p | kernel_rfl); eq_refl; eq_refl; eq_refl; eq_refl; (repeat first | exact Upd.here | apply Upd.there | apply Upd.skip); eq_refl))
          all_goals exact ⟨(i + 1, true, two o ((gt c.ands (i : Int)).2.1 / 2) ((gt c.ands (i : Int)).2.2 / 2)), (by repeat first | exact trivial | refine ⟨rfl, ?_⟩), (by repeat first | exact Wk.nil | exact Wk.refl | (apply Wk.cons; (focus ((repeat first | exact Rem.here | apply Rem.there | apply Rem.skip); done))) | apply Wk.nilv | apply Wk.last | apply Wk.drop), ⟨hlt, by simp only; rw [two_len]; exact ho, fun _ => Nat.lt_of_lt_of_le (ht (by rw [hx2]; simp)) hc3, fun h => by cases h⟩, by simp only; omega⟩
        · cases hx3 : gt o ((gt c.ands (i : Int)).2.2 / 2)
          · repeat' (first
      | (apply GC_drawsP (id := 14) (C := [.vec booc 1 4 (some ⟨b7, 0, none⟩) (c.max + 1).toNat o]) [.q 0, .q 1, .q 2, .q 3, .q 4, .q 5, .q 6, .q 7, .q 8, .c 9, .q 10, .c 11]; exact mixed; kernel_rfl; kernel_rfl; (repeat first | exact Rems.nil | (apply Rems.cons; (focus ((repeat first | exact Rem.here | apply Rem.there | apply Rem.skip); done)))))
      | (apply GS_nilP)
      | (apply G_stVP true; eq_refl; eq_refl; eq_refl; eq_refl; (repeat first | exact Upd.here | apply Upd.there | apply Upd.skip); infer_instance; infer_instance; eq_refl; omega; (try simp only [List.length_set]); omega)
      | (apply G_rd; eq_refl; (first | (apply Rd.own; (repeat first | exact In.here | apply In.there | apply In.skip); infer_instance) | (apply Rd.old; (repeat first | exact In.here | apply In.there | apply In.skip); assumption) | (apply Rd.oldR; (repeat first | exact In.here | apply In.there | apply In.skip); assumption) | exact Rd.nil | assumption); (case ih => infer_instance); omega; omega; (first | (rw [hx1]; eq_refl) | (rw [hx2]; eq_refl) | (rw [hx3]; eq_refl)))
      | (apply GC_seqK; intro K hK)
      | (apply hK; clear hK K)
      | (apply GC_block)
      | (apply GC_region)
      | (apply GL_nil)
      | (apply thenG_normal)
      | (apply blockG_normal)
      | (apply GC_skip)
      | (apply GC_if_true; eq_refl)
      | (apply GL_on; eq_refl; eq_refl)
      | (apply GS_qon; eq_refl; eq_refl; eq_refl; eq_refl)
      | (apply GS_con; eq_refl; eq_refl; eq_refl; eq_refl)
      | (apply G_pv; eq_refl; first | exact trivial | omega)
      | (apply G_field; eq_refl)
      | (apply G_ld; eq_refl; (repeat first | exact In.here | apply In.there | apply In.skip); eq_refl)
      | (apply G_rdW; eq_refl; (first | (apply Rd.own; (repeat first | exact In.here | apply In.there | apply In.skip); infer_instance) | (apply Rd.old; (repeat first | exact In.here | apply In.there | apply In.skip); assumption) | (apply Rd.oldR; (repeat first | exact In.here | apply In.there | apply In.skip); assumption) | exact Rd.nil | assumption); infer_instance; (case ih => infer_instance); omega; omega)
      | (apply G_cmpT; eq_refl; eq_refl; omega)
      | (apply G_len; eq_refl)
      | (apply G_ix; eq_refl; eq_refl; (first | (apply Rd.own; (repeat first | exact In.here | apply In.there | apply In.skip); infer_instance) | (apply Rd.old; (repeat first | exact In.here | apply In.there | apply In.skip); assumption) | (apply Rd.oldR; (repeat first | exact In.here | apply In.there | apply In.skip); assumption) | exact Rd.nil | assumption); (first | eq_refl | omega); omega; omega)
      | (apply G_ixA; eq_refl; eq_refl; omega; omega)
      | (apply G_alloc; eq_refl; intro _)
      | (apply G_stW; (first | exact wr_p | kernel_rfl); eq_refl; eq_refl; eq_refl; eq_refl; (repeat first | exact Upd.here | apply Upd.there | apply Upd.skip); eq_refl))
            all_goals exact ⟨(i + 1, true, two o ((gt c.ands (i : Int)).2.1 / 2) ((gt c.ands (i : Int)).2.2 / 2)), (by repeat first | exact trivial | refine ⟨rfl, ?_⟩), (by repeat first | exact Wk.nil | exact Wk.refl | (apply Wk.cons; (focus ((repeat first | exact Rem.here | apply Rem.there | apply Rem.skip); done))) | apply Wk.nilv | apply Wk.last | apply Wk.drop), ⟨hlt, by simp only; rw [two_len]; exact ho, fun _ => Nat.lt_of_lt_of_le (ht (by rw [hx3]; simp)) hc3, fun h => by cases h⟩, by simp only; omega⟩
          · repeat' (first
      | (apply G_rd; eq_refl; (first | (apply Rd.own; (repeat first | exact In.here | apply In.there | apply In.skip); infer_instance) | (apply Rd.old; (repeat first | exact In.here | apply In.there | apply In.skip); assumption) | (apply Rd.oldR; (repeat first | exact In.here | apply In.there | apply In.skip); assumption) | exact Rd.nil | assumption); (case ih => infer_instance); omega; omega; (first | (rw [hx1]; eq_refl) | (rw [hx2]; eq_refl) | (rw [hx3]; eq_refl)))
      | (apply GC_seqK; intro K hK)
      | (apply hK; clear hK K)
      | (apply GC_block)
      | (apply GC_region)
      | (apply GL_nil)
      | (apply thenG_normal)
      | (apply blockG_normal)
      | (apply GC_skip)
      | (apply GC_if_true; eq_refl)
      | (apply GC_if_false; eq_refl)
      | (apply GL_on; eq_refl; eq_refl)
      | (apply G_pv; eq_refl; first | exact trivial | omega)
      | (apply G_field; eq_refl)
      | (apply G_ld; eq_refl; (repeat first | exact In.here | apply In.there | apply In.skip); eq_refl)
      | (apply G_rdW; eq_refl; (first | (apply Rd.own; (repeat first | exact In.here | apply In.there | apply In.skip); infer_instance) | (apply Rd.old; (repeat first | exact In.here | apply In.there | apply In.skip); assumption) | (apply Rd.oldR; (repeat first | exact In.here | apply In.there | apply In.skip); assumption) | exact Rd.nil | assumption); infer_instance; (case ih => infer_instance); omega; omega)
      | (apply G_cmpT; eq_refl; eq_refl; omega)
      | (apply G_len; eq_refl)
      | (apply G_ix; eq_refl; eq_refl; (first | (apply Rd.own; (repeat first | exact In.here | apply In.there | apply In.skip); infer_instance) | (apply Rd.old; (repeat first | exact In.here | apply In.there | apply In.skip); assumption) | (apply Rd.oldR; (repeat first | exact In.here | apply In.there | apply In.skip); assumption) | exact Rd.nil | assumption); (first | eq_refl | omega); omega; omega)
      | (apply G_alloc; eq_refl; intro _)
      | (apply G_stW; (first | exact wr_p | kernel_rfl); eq_refl; eq_refl; eq_refl; eq_refl; (repeat first | exact Upd.here | apply Upd.there | apply Upd.skip); eq_refl))
            all_goals exact ⟨(i + 1, ag, o), (by repeat first | exact trivial | refine ⟨rfl, ?_⟩), (by repeat first | exact Wk.nil | exact Wk.refl | (apply Wk.cons; (focus ((repeat first | exact Rem.here | apply Rem.there | apply Rem.skip); done))) | apply Wk.nilv | apply Wk.last | apply Wk.drop), ⟨hlt, ho, hc1, hc2⟩, by simp only; omega⟩
    · repeat' (first
      | (apply GC_seqK; intro K hK)
      | (apply hK; clear hK K)
      | (clear hK K; apply hK; clear hK K)
      | (apply GC_block)
      | (apply GC_region)
      | (apply GL_nil)
      | (apply thenG_normal)
      | (apply thenG_exit)
      | (apply blockG_hit)
      | (apply GC_exit)
      | (apply GC_if_false; eq_refl)
      | (apply GL_on; eq_refl; eq_refl)
      | (apply G_pv; eq_refl; first | exact trivial | omega)
      | (apply G_field; eq_refl)
      | (apply G_ld; eq_refl; (repeat first | exact In.here | apply In.there | apply In.skip); eq_refl)
      | (apply G_cmpF; eq_refl; eq_refl; omega)
      | (apply G_len; eq_refl))
      refine GC_loopK [1, 2, 3, 7, 9] (fun i : Nat => [(12, nu i)]) (fun _ => [.vec booc 1 4 (some ⟨b7, 0, none⟩) (c.max + 1).toNat o, .box b3 29 (ccells c h), .old w none_]) (fun i => i ≤ c.latches.length) (fun i => c.latches.length - i) 0 (by repeat first | exact Pick.nil | (apply Pick.cons; eq_refl)) (by repeat first | exact trivial | refine ⟨rfl, ?_⟩) (by repeat first | exact Wk.nil | exact Wk.refl | (apply Wk.cons; (focus ((repeat first | exact Rem.here | apply Rem.there | apply Rem.skip); done))) | apply Wk.nilv | apply Wk.last | apply Wk.drop) (Nat.zero_le _) ?_
      intro i hi3
      have hms : 2 * cntF o + (if ag = true then 1 else 0) < 2 * cntF m + (if true = true then 1 else 0) := by
        cases ag
        · rw [hc2 rfl]; simp
        · have := hc1 rfl
          simp
          omega
      repeat' (first
      | (apply GC_seqK; intro K hK)
      | (apply hK; clear hK K)
      | (apply GC_region)
      | (apply GL_nil)
      | (apply thenG_normal)
      | (apply thenG_exit)
      | (apply blockG_hit)
      | (apply blockG_normal)
      | (apply GC_exit)
      | (apply GC_if_false; eq_refl)
      | (apply GL_on; eq_refl; eq_refl)
      | (apply GL_off; eq_refl; eq_refl)
      | (apply G_pv; eq_refl; first | exact trivial | omega)
      | (apply G_field; eq_refl)
      | (apply G_ld; eq_refl; (repeat first | exact In.here | apply In.there | apply In.skip); eq_refl)
      | (apply G_cmp; eq_refl; eq_refl; all_goals intro _)
      | (apply G_len; eq_refl))
      all_goals exact ⟨(ag, o), (by repeat first | exact trivial | refine ⟨rfl, ?_⟩), (by repeat first | exact Wk.nil | exact Wk.refl | (apply Wk.cons; (focus ((repeat first | exact Rem.here | apply Rem.there | apply Rem.skip); done))) | apply Wk.nilv | apply Wk.last | apply Wk.drop), ho, hms⟩
def InpR (ε : Int) (v : Value) (N : Mm) : Prop := ∃ (A : Option Addr) (k : Nat) (l : List Int), v = .tuple #[.slice A l.length k, nu ε] ∧ N = [.vec icell 1 3 A k l]
theorem Inputs_cv {w : World} {c : Circ} {h js : Hd} {B : Option Addr} {k : Nat} {ls : List Int} (H : CirIn w c h js) (hB : RowA w icell 1 B ls) (hn : ls.length ≤ 9223372036854775807) : CVN Try.prog 63 [.agg (ccells c h).toArray, .slice B ls.length k] w (InpR (conE c ls)) := by
  have hck : ∀ Γ, In Γ (.old w none_) → ∀ w', Mem w' Γ → CVN Try.prog 53 [.agg (ccells c h).toArray] w' fun v N => N = [] ∧ v = .tuple #[nu (lookM c).1, nu (lookM c).2] := fun Γ hi w' M => have H' := H.chg (hi.old M); CVN.of (checkRef_cv H'.at_ H'.sane H'.okay H'.fits) fun v w' h => ⟨h.2, h.1⟩
  have hInp := H.at_.inputs
  refine CVN.enter 50 [4, 5] Try.func63 rfl rfl rfl (by decide) rfl ?_
  by_cases he : (lookM c).2 = 0
  · have R := right_of H.at_ H.sane he
    have m0 := R.m0
    have m1 := R.m1
    have n1 := R.nIn
    have e0 : conE c ls = litE c ls := if_neg (by omega)
    have hli : ∀ Γ, In Γ (.old w none_) → ∀ w', Mem w' Γ → CVN Try.prog 107 [.agg (ccells c h).toArray, .slice B ls.length k] w' _ := fun Γ ho w' M => lits10_cv R (H.at_.chg (ho.old M)) (hB.chg (ho.old M)) hn
    rw [e0]
    rw [he] at hck
    generalize (lookM c).1 = n0 at *
    by_cases hz : litE c ls = 0
    · obtain ⟨z1, z2⟩ := litE_ok hz
      have hsp : ∀ Γ, In Γ (.old w none_) → ∀ w', Mem w' Γ → CVN Try.prog 108 [.agg (ccells c h).toArray, .slice B ls.length k, .bool false] w' _ := fun Γ ho w' M => spread_cv R (H.at_.chg (ho.old M)) (hB.chg (ho.old M)) z1 z2
      rw [hz] at hli ⊢
      repeat' (first
      | (apply G_call; eq_refl; eq_refl; (apply hck; (repeat first | exact In.here | apply In.there | apply In.skip)); rintro _ _ ⟨rfl, rfl⟩)
      | (apply G_call; eq_refl; eq_refl; (apply hli; (repeat first | exact In.here | apply In.there | apply In.skip)); rintro _ _ ⟨rfl, rfl⟩)
      | (apply G_call; eq_refl; eq_refl; (apply hsp; (repeat first | exact In.here | apply In.there | apply In.skip)); rintro _ _ ⟨A1, k1, l1, rfl, hl1, rfl⟩)
      | (apply GC_seqK; intro K hK)
      | (apply hK; clear hK K)
      | (apply GC_block)
      | (apply GC_region)
      | (apply GL_nil)
      | (apply thenG_normal)
      | (apply GC_skip)
      | (apply GC_if_false; eq_refl)
      | (apply GL_on; eq_refl; eq_refl)
      | (apply G_pv; eq_refl; first | exact trivial | omega)
      | (apply G_ldW; eq_refl; (repeat first | exact In.here | apply In.there | apply In.skip); eq_refl)
      | (apply G_cmpF; eq_refl; eq_refl; omega)
      | (apply G_box; eq_refl; eq_refl; intro _))
      rename_i b2
      refine GC_loopK [1, 2, 9] (fun s : Nat × List Int × Option Addr × Nat => [(10, .slice s.2.2.1 s.2.1.length s.2.2.2), (11, nu s.1)]) (fun s => [.vec icell 1 3 s.2.2.1 s.2.2.2 s.2.1, .vec booc 1 4 A1 (c.max + 1).toNat l1, .box b2 29 (ccells c h), .old w none_]) (fun s => s.1 ≤ c.inputs.length ∧ s.2.1.length ≤ s.1) (fun s => c.inputs.length - s.1) (0, [], none, 0) (by repeat first | exact Pick.nil | (apply Pick.cons; eq_refl)) (by repeat first | exact trivial | refine ⟨rfl, ?_⟩) (by repeat first | exact Wk.nil | exact Wk.refl | (apply Wk.cons; (focus ((repeat first | exact Rem.here | apply Rem.there | apply Rem.skip); done))) | apply Wk.nilv | apply Wk.last | apply Wk.drop) ⟨Nat.zero_le _, Nat.le_refl _⟩ ?_
      rintro ⟨i, o, C, kC⟩ ⟨hi, ho⟩
      dsimp only at hi ho ⊢
      rcases Nat.lt_or_ge i c.inputs.length with hlt | hge
      · have g1 := R.inp (gt_mem (l := c.inputs) (i := (i : Int)) (by omega) (by omega))
        unfold defR at g1
        cases hx : gt l1 (gt c.inputs (i : Int) / 2)
        · repeat' (first
      | (apply G_rd; eq_refl; (first | (apply Rd.own; (repeat first | exact In.here | apply In.there | apply In.skip); infer_instance) | (apply Rd.old; (repeat first | exact In.here | apply In.there | apply In.skip); assumption) | (apply Rd.oldR; (repeat first | exact In.here | apply In.there | apply In.skip); assumption) | exact Rd.nil | assumption); (case ih => infer_instance); omega; omega; (rw [hx]; eq_refl))
      | (apply GC_seqK; intro K hK)
      | (apply hK; clear hK K)
      | (apply GC_block)
      | (apply GC_region)
      | (apply GL_nil)
      | (apply thenG_normal)
      | (apply blockG_normal)
      | (apply GC_skip)
      | (apply GC_if_true; eq_refl)
      | (apply GC_if_false; eq_refl)
      | (apply GL_on; eq_refl; eq_refl)
      | (apply G_pv; eq_refl; first | exact trivial | omega)
      | (apply G_field; eq_refl)
      | (apply G_ld; eq_refl; (repeat first | exact In.here | apply In.there | apply In.skip); eq_refl)
      | (apply G_rd; eq_refl; (first | (apply Rd.own; (repeat first | exact In.here | apply In.there | apply In.skip); infer_instance) | (apply Rd.old; (repeat first | exact In.here | apply In.there | apply In.skip); assumption) | (apply Rd.oldR; (repeat first | exact In.here | apply In.there | apply In.skip); assumption) | exact Rd.nil | assumption); (case ih => infer_instance); omega; omega; eq_refl)
      | (apply G_cmpT; eq_refl; eq_refl; omega)
      | (apply G_len; eq_refl)
      | (apply G_ix; eq_refl; eq_refl; (first | (apply Rd.own; (repeat first | exact In.here | apply In.there | apply In.skip); infer_instance) | (apply Rd.old; (repeat first | exact In.here | apply In.there | apply In.skip); assumption) | (apply Rd.oldR; (repeat first | exact In.here | apply In.there | apply In.skip); assumption) | exact Rd.nil | assumption); (first | eq_refl | omega); omega; omega))
          exact ⟨(i + 1, o, C, kC), (by repeat first | exact trivial | refine ⟨rfl, ?_⟩), (by repeat first | exact Wk.nil | exact Wk.refl | (apply Wk.cons; (focus ((repeat first | exact Rem.here | apply Rem.there | apply Rem.skip); done))) | apply Wk.nilv | apply Wk.last | apply Wk.drop), ⟨hlt, by simp only; omega⟩, by simp only; omega⟩
        · repeat' (first
      | (apply G_rd; eq_refl; (first | (apply Rd.own; (repeat first | exact In.here | apply In.there | apply In.skip); infer_instance) | (apply Rd.old; (repeat first | exact In.here | apply In.there | apply In.skip); assumption) | (apply Rd.oldR; (repeat first | exact In.here | apply In.there | apply In.skip); assumption) | exact Rd.nil | assumption); (case ih => infer_instance); omega; omega; (rw [hx]; eq_refl))
      | (apply GC_seqK; intro K hK)
      | (apply hK; clear hK K)
      | (apply GC_block)
      | (apply GC_region)
      | (apply GL_nil)
      | (apply thenG_normal)
      | (apply blockG_normal)
      | (apply GC_skip)
      | (apply GC_if_true; eq_refl)
      | (apply GL_on; eq_refl; eq_refl)
      | (apply G_pv; eq_refl; first | exact trivial | omega)
      | (apply G_field; eq_refl)
      | (apply G_ld; eq_refl; (repeat first | exact In.here | apply In.there | apply In.skip); eq_refl)
      | (apply G_rd; eq_refl; (first | (apply Rd.own; (repeat first | exact In.here | apply In.there | apply In.skip); infer_instance) | (apply Rd.old; (repeat first | exact In.here | apply In.there | apply In.skip); assumption) | (apply Rd.oldR; (repeat first | exact In.here | apply In.there | apply In.skip); assumption) | exact Rd.nil | assumption); (case ih => infer_instance); omega; omega; eq_refl)
      | (apply G_cmpT; eq_refl; eq_refl; omega)
      | (apply G_len; eq_refl)
      | (apply G_ix; eq_refl; eq_refl; (first | (apply Rd.own; (repeat first | exact In.here | apply In.there | apply In.skip); infer_instance) | (apply Rd.old; (repeat first | exact In.here | apply In.there | apply In.skip); assumption) | (apply Rd.oldR; (repeat first | exact In.here | apply In.there | apply In.skip); assumption) | exact Rd.nil | assumption); (first | eq_refl | omega); omega; omega)
      | (apply G_app; (first | exact wr_p | kernel_rfl); eq_refl; eq_refl; (intro A c; (repeat first | exact Upd.here | apply Upd.there | apply Upd.skip)); infer_instance; (repeat first | exact In.here | apply In.there | apply In.skip); (repeat first | exact Dec.nil | apply Dec.pr | apply Dec.tr | (apply Dec.c1; eq_refl) | (apply Dec.c2; eq_refl) | (apply Dec.c3; eq_refl)); eq_refl; eq_refl; eq_refl; ((try simp only [List.length_append, List.length_cons, List.length_nil]); omega); decide; intro _ _)
      | (apply G_new (fun b => .slice (some ⟨b, 0, none⟩) 1 1); eq_refl; (intro _; apply buildS22_1 <;> eq_refl); intro _))
          exact ⟨(i + 1, _, _, _), (by repeat first | exact trivial | refine ⟨rfl, ?_⟩), (by repeat first | exact Wk.nil | exact Wk.refl | (apply Wk.cons; (focus ((repeat first | exact Rem.here | apply Rem.there | apply Rem.skip); done))) | apply Wk.nilv | apply Wk.last | apply Wk.drop), ⟨hlt, by simp only [List.length_append, List.length_cons, List.length_nil]; omega⟩, by simp only; omega⟩
      · repeat' (first
      | (apply GC_seqK; intro K hK)
      | (apply hK; clear hK K)
      | (clear hK K; apply hK; clear hK K)
      | (apply GC_region)
      | (apply GL_nil)
      | (apply thenG_normal)
      | (apply thenG_exit)
      | (apply blockG_hit)
      | (apply GC_ret)
      | (apply GC_exit)
      | (apply GC_if_false; eq_refl)
      | (apply retG2; eq_refl; eq_refl)
      | (apply GL_on; eq_refl; eq_refl)
      | (apply G_pv; eq_refl; first | exact trivial | omega)
      | (apply G_field; eq_refl)
      | (apply G_ld; eq_refl; (repeat first | exact In.here | apply In.there | apply In.skip); eq_refl)
      | (apply G_cmpF; eq_refl; eq_refl; omega)
      | (apply G_len; eq_refl))
        exact ⟨[.vec icell 1 3 C kC o], (by repeat first | exact Wk.nil | exact Wk.refl | (apply Wk.cons; (focus ((repeat first | exact Rem.here | apply Rem.there | apply Rem.skip); done))) | apply Wk.nilv | apply Wk.last | apply Wk.drop), C, kC, o, rfl, rfl⟩
    · generalize litE c ls = ε at *
      repeat' (first
      | (apply G_call; eq_refl; eq_refl; (apply hck; (repeat first | exact In.here | apply In.there | apply In.skip)); rintro _ _ ⟨rfl, rfl⟩)
      | (apply G_call; eq_refl; eq_refl; (apply hli; (repeat first | exact In.here | apply In.there | apply In.skip)); rintro _ _ ⟨rfl, rfl⟩)
      | (apply GC_seqK; intro K hK)
      | (apply hK; clear hK K)
      | (apply GC_region)
      | (apply GL_nil)
      | (apply thenG_normal)
      | (apply thenG_ret)
      | (apply GC_ret)
      | (apply GC_skip)
      | (apply GC_if_true; eq_refl)
      | (apply GC_if_false; eq_refl)
      | (apply retG2; eq_refl; eq_refl)
      | (apply GL_on; eq_refl; eq_refl)
      | (apply G_pv; eq_refl; first | exact trivial | omega)
      | (apply G_ldW; eq_refl; (repeat first | exact In.here | apply In.there | apply In.skip); eq_refl)
      | (apply G_cmpT; eq_refl; eq_refl; omega)
      | (apply G_cmpF; eq_refl; eq_refl; omega)
      | (apply G_box; eq_refl; eq_refl; intro _))
      exact ⟨[.vec icell 1 3 none 0 []], (by repeat first | exact Wk.nil | exact Wk.refl | (apply Wk.cons; (focus ((repeat first | exact Rem.here | apply Rem.there | apply Rem.skip); done))) | apply Wk.nilv | apply Wk.last | apply Wk.drop), none, 0, [], rfl, rfl⟩
  · have e0 : conE c ls = (lookM c).2 := if_pos he
    rw [e0]
    generalize (lookM c).1 = n0 at *
    generalize (lookM c).2 = ε at *
    repeat' (first
      | (apply G_call; eq_refl; eq_refl; (apply hck; (repeat first | exact In.here | apply In.there | apply In.skip)); rintro _ _ ⟨rfl, rfl⟩)
      | (apply GC_seqK; intro K hK)
      | (apply hK; clear hK K)
      | (apply GC_region)
      | (apply GL_nil)
      | (apply thenG_normal)
      | (apply thenG_ret)
      | (apply GC_ret)
      | (apply GC_if_true; eq_refl)
      | (apply retG2; eq_refl; eq_refl)
      | (apply GL_on; eq_refl; eq_refl)
      | (apply G_pv; eq_refl; first | exact trivial | omega)
      | (apply G_ldW; eq_refl; (repeat first | exact In.here | apply In.there | apply In.skip); eq_refl)
      | (apply G_cmpT; eq_refl; eq_refl; omega)
      | (apply G_box; eq_refl; eq_refl; intro _))
    exact ⟨[.vec icell 1 3 none 0 []], (by repeat first | exact Wk.nil | exact Wk.refl | (apply Wk.cons; (focus ((repeat first | exact Rem.here | apply Rem.there | apply Rem.skip); done))) | apply Wk.nilv | apply Wk.last | apply Wk.drop), none, 0, [], rfl, rfl⟩
end SC
end Go.Proofs.Yticndofcfacopaa
end
section
/- trestleref15: Cone. -/
set_option linter.unusedVariables false
set_option linter.unusedSimpArgs false
namespace Go.Proofs.Yticndofcfacopaa
namespace SC
open Go.Proofs
attribute [local irreducible] WC WL WX WS WO OX Does DoesU Enters CV Pure thenQ blockQ retQ Wants retQC GC GL GS GX RdB thenG blockG retG Rd At gt CVN CVM
set_option maxRecDepth 100000
set_option maxHeartbeats 3200000 in
theorem ConeRef_cv {w : World} {c : Circ} {h js : Hd} {B : Option Addr} {k : Nat} {ls : List Int} (H : CirIn w c h js) (hB : RowA w icell 1 B ls) (hn : ls.length ≤ 9223372036854775807) : CVN Try.prog 26 [.agg (ccells c h).toArray, .slice B ls.length k] w (CnfRE (conV c ls) (conM c ls) (conE c ls)) := by
  have hip : ∀ Γ, In Γ (.old w none_) → ∀ w', Mem w' Γ → CVN Try.prog 63 [.agg (ccells c h).toArray, .slice B ls.length k] w' (InpR (conE c ls)) := fun Γ ho w' M => Inputs_cv (H.chg (ho.old M)) (hB.chg (ho.old M)) hn
  have hAnd := H.at_.ands
  unfold InpR at hip
  refine CVN.enterC1 (t := 44) 89 4 5 Try.func26 rfl rfl rfl rfl ?_
  by_cases hz : conE c ls = 0
  · have he : (lookM c).2 = 0 := by
      unfold conE at hz
      split at hz
      · exact absurd hz (by assumption)
      · omega
    have hz2 : litE c ls = 0 := by
      unfold conE at hz
      rwa [if_neg (by omega)] at hz
    obtain ⟨z1, z2⟩ := litE_ok hz2
    have R := right_of H.at_ H.sane he
    have m0 := R.m0
    have m1 := R.m1
    have n3 := R.nAnd
    have e1 : conV c ls = c.max + 1 := if_pos hz
    have e2 : conM c ls = clsM c (fun i => gt (conB c ls) ((gt c.ands i).1 / 2)) c.ands.length := if_pos hz
    rw [e1, e2]
    rw [hz] at hip ⊢
    have hso : ∀ Γ A k (l : List Bool), In Γ (.old w none_) → In Γ (.vec booc 1 4 A (c.max + 1).toNat l) → l.length = (c.max + 1).toNat → conB c ls = l → ∀ w', Mem w' Γ → CVN Try.prog 57 [.agg (ccells c h).toArray, .slice A (c.max + 1).toNat k] w' (CnfR (c.max + 1) (clsM c (fun i => gt (conB c ls) ((gt c.ands i).1 / 2)) c.ands.length)) := fun Γ A k l ho hv hl hc w' M => by
      have := some_cv (k := k) R (H.at_.chg (ho.old M)) (hv.row M) hl
      rw [hl] at this
      rw [hc]
      exact this
    repeat' (first
      | (apply G_call; eq_refl; eq_refl; (apply hip; (repeat first | exact In.here | apply In.there | apply In.skip)); rintro _ _ ⟨A0, k0, l0, rfl, rfl⟩)
      | (apply GC_seqK; intro K hK)
      | (apply hK; clear hK K)
      | (apply GC_block)
      | (apply GC_region)
      | (apply GL_nil)
      | (apply thenG_normal)
      | (apply GC_skip)
      | (apply GC_if_false; eq_refl)
      | (apply GL_on; eq_refl; eq_refl)
      | (apply G_pv; eq_refl; first | exact trivial | omega)
      | (apply G_field; eq_refl)
      | (apply G_ld; eq_refl; (repeat first | exact In.here | apply In.there | apply In.skip); eq_refl)
      | (apply G_ldW; eq_refl; (repeat first | exact In.here | apply In.there | apply In.skip); eq_refl)
      | (apply G_cmpF; eq_refl; eq_refl; omega)
      | (apply G_alloc; eq_refl; intro _)
      | (apply G_box; eq_refl; eq_refl; intro _)
      | (apply G_makeI booc; eq_refl; eq_refl; omega; eq_refl; omega; decide; intro _))
    rename_i b2 b4 b8
    refine GC_loopK [1, 2, 4, 8] (fun s : Nat × List Bool => [(9, nu s.1)]) (fun s => [.vec booc 1 4 (some ⟨b8, 0, none⟩) (c.max + 1).toNat s.2, .box b4 44 [nu 0, .slice none 0 0], .box b2 29 (ccells c h), .old w none_]) (fun s => s.1 ≤ ls.length ∧ s.2 = askM c ls s.1) (fun s => ls.length - s.1) (0, List.replicate (c.max + 1).toNat false) (by repeat first | exact Pick.nil | (apply Pick.cons; eq_refl)) (by repeat first | exact trivial | refine ⟨rfl, ?_⟩) (by repeat first | exact Wk.nil | exact Wk.refl | (apply Wk.cons; (focus ((repeat first | exact Rem.here | apply Rem.there | apply Rem.skip); done))) | apply Wk.nilv | apply Wk.last | apply Wk.drop) ⟨Nat.zero_le _, rfl⟩ ?_
    rintro ⟨i, l⟩ ⟨hi, hl⟩
    dsimp only at hi hl ⊢
    have hll := askM_len c ls i
    rw [← hl] at hll
    rcases Nat.lt_or_ge i ls.length with hlt | hge
    · have g0 := z2 _ (gt_mem (l := ls) (i := (i : Int)) (by omega) (by omega))
      have hst := askM_succ c ls i
      rw [← hl] at hst
      unfold inR at g0
      repeat' (first
      | (apply GC_seqK; intro K hK)
      | (apply hK; clear hK K)
      | (apply GC_block)
      | (apply GC_region)
      | (apply GL_nil)
      | (apply thenG_normal)
      | (apply blockG_normal)
      | (apply GC_skip)
      | (apply GC_if_true; eq_refl)
      | (apply GL_on; eq_refl; eq_refl)
      | (apply G_pv; eq_refl; first | exact trivial | omega)
      | (apply G_rd; eq_refl; (first | (apply Rd.own; (repeat first | exact In.here | apply In.there | apply In.skip); infer_instance) | (apply Rd.old; (repeat first | exact In.here | apply In.there | apply In.skip); assumption) | (apply Rd.oldR; (repeat first | exact In.here | apply In.there | apply In.skip); assumption) | exact Rd.nil | assumption); (case ih => infer_instance); omega; omega; eq_refl)
      | (apply G_cmpT; eq_refl; eq_refl; omega)
      | (apply G_len; eq_refl)
      | (apply G_ix; eq_refl; eq_refl; (first | (apply Rd.own; (repeat first | exact In.here | apply In.there | apply In.skip); infer_instance) | (apply Rd.old; (repeat first | exact In.here | apply In.there | apply In.skip); assumption) | (apply Rd.oldR; (repeat first | exact In.here | apply In.there | apply In.skip); assumption) | exact Rd.nil | assumption); (first | eq_refl | omega); omega; omega)
      | (apply G_stV; (first | exact wr_p | kernel_rfl); eq_refl; eq_refl; eq_refl; eq_refl; (repeat first | exact Upd.here | apply Upd.there | apply Upd.skip); infer_instance; infer_instance; eq_refl; omega; (try simp only [List.length_set, List.length_append, List.length_replicate]); omega))
      exact ⟨(i + 1, _), (by repeat first | exact trivial | refine ⟨rfl, ?_⟩), (by repeat first | exact Wk.nil | exact Wk.refl | (apply Wk.cons; (focus ((repeat first | exact Rem.here | apply Rem.there | apply Rem.skip); done))) | apply Wk.nilv | apply Wk.last | apply Wk.drop), ⟨hlt, hst.symm⟩, by simp only; omega⟩
    obtain rfl : i = ls.length := by omega
    repeat' (first
      | (apply GC_seqK; intro K hK)
      | (apply hK; clear hK K)
      | (clear hK K; apply hK; clear hK K)
      | (apply GC_block)
      | (apply GC_region)
      | (apply GL_nil)
      | (apply thenG_normal)
      | (apply thenG_exit)
      | (apply blockG_hit)
      | (apply GC_exit)
      | (apply GC_if_false; eq_refl)
      | (apply GL_on; eq_refl; eq_refl)
      | (apply G_pv; eq_refl; first | exact trivial | omega)
      | (apply G_cmpF; eq_refl; eq_refl; omega)
      | (apply G_len; eq_refl))
    refine GC_loopK [1, 2, 4, 8] (fun s : Bool × List Bool => [(10, .bool s.1)]) (fun s => [.vec booc 1 4 (some ⟨b8, 0, none⟩) (c.max + 1).toNat s.2, .box b4 44 [nu 0, .slice none 0 0], .box b2 29 (ccells c h), .old w none_]) (fun s => Grow c l s.2 ∧ (s.1 = false → closB c s.2)) (fun s => 2 * cntF s.2 + (if s.1 then 1 else 0)) (true, l) (by repeat first | exact Pick.nil | (apply Pick.cons; eq_refl)) (by repeat first | exact trivial | refine ⟨rfl, ?_⟩) (by repeat first | exact Wk.nil | exact Wk.refl | (apply Wk.cons; (focus ((repeat first | exact Rem.here | apply Rem.there | apply Rem.skip); done))) | apply Wk.nilv | apply Wk.last | apply Wk.drop) ⟨Grow.refl c l, fun h => by cases h⟩ ?_
    rintro ⟨ag, m⟩ ⟨hgr, hcl⟩
    dsimp only at hgr hcl ⊢
    have hml := hgr.len
    cases ag
    · have hB := conB_eq (B := m) (by rw [← hl]; exact hgr.done (hcl rfl))
      repeat' (first
      | (apply G_call; eq_refl; eq_refl; (apply hso; (repeat first | exact In.here | apply In.there | apply In.skip); (repeat first | exact In.here | apply In.there | apply In.skip); omega; exact hB); rintro _ _ ⟨ps, A, kA, rfl, hps, rfl⟩)
      | (apply GC_seqK; intro K hK)
      | (apply hK; clear hK K)
      | (clear hK K; apply hK; clear hK K)
      | (apply GC_region)
      | (apply GL_nil)
      | (apply thenG_normal)
      | (apply thenG_exit)
      | (apply blockG_hit)
      | (apply GC_ret)
      | (apply GC_exit)
      | (apply GC_if_false; eq_refl)
      | (apply retGC1r; eq_refl; (repeat first | exact In.here | apply In.there | apply In.skip); eq_refl; eq_refl)
      | (apply GL_on; eq_refl; eq_refl)
      | (apply G_pv; eq_refl; first | exact trivial | omega)
      | (apply G_ldW; eq_refl; (repeat first | exact In.here | apply In.there | apply In.skip); eq_refl)
      | (apply G_stW; (first | exact wr_p | kernel_rfl); eq_refl; eq_refl; eq_refl; eq_refl; (repeat first | exact Upd.here | apply Upd.there | apply Upd.skip); eq_refl))
      exact ⟨cnB ps A kA, (by repeat first | exact Wk.left | exact Wk.nil | exact Wk.refl | (apply Wk.cons; (focus ((repeat first | exact Rem.here | apply Rem.there | apply Rem.skip); done))) | apply Wk.nilv | apply Wk.last | apply Wk.drop), ps, A, kA, rfl, hps, rfl⟩
    · repeat' (first
      | (apply GC_seqK; intro K hK)
      | (apply hK; clear hK K)
      | (apply GC_block)
      | (apply GC_region)
      | (apply GL_nil)
      | (apply thenG_normal)
      | (apply GC_skip)
      | (apply GC_if_true; eq_refl)
      | (apply GL_on; eq_refl; eq_refl)
      | (apply G_pv; eq_refl; first | exact trivial | omega))
      refine GC_loopK [1, 2, 4, 8] (fun s : Nat × Bool × List Bool => [(10, .bool s.2.1), (11, nu s.1)]) (fun s => [.vec booc 1 4 (some ⟨b8, 0, none⟩) (c.max + 1).toNat s.2.2, .box b4 44 [nu 0, .slice none 0 0], .box b2 29 (ccells c h), .old w none_]) (fun s => s.1 ≤ c.ands.length ∧ Grow c l s.2.2 ∧ (s.2.1 = true → cntF s.2.2 < cntF m) ∧ (s.2.1 = false → s.2.2 = m ∧ ∀ j : Int, 0 ≤ j → j < s.1 → closAt c s.2.2 (gt c.ands j))) (fun s => c.ands.length - s.1) (0, false, m) (by repeat first | exact Pick.nil | (apply Pick.cons; eq_refl)) (by repeat first | exact trivial | refine ⟨rfl, ?_⟩) (by repeat first | exact Wk.nil | exact Wk.refl | (apply Wk.cons; (focus ((repeat first | exact Rem.here | apply Rem.there | apply Rem.skip); done))) | apply Wk.nilv | apply Wk.last | apply Wk.drop) ⟨Nat.zero_le _, hgr, (fun h => by cases h), fun _ => ⟨rfl, fun j h0 h1 => absurd h1 (by simp only; omega)⟩⟩ ?_
      rintro ⟨i, ag, o⟩ ⟨hi2, hgo, hc1, hc2⟩
      dsimp only at hi2 hgo hc1 hc2 ⊢
      have ho := hgo.len
      rcases Nat.lt_or_ge i c.ands.length with hlt | hge2
      · obtain ⟨g1, g2, g3⟩ := R.gate (gt_mem (l := c.ands) (i := (i : Int)) (by omega) (by omega))
        unfold defR at g1
        unfold inR at g2 g3
        have ht := two_cnt (l := o) (u := (gt c.ands (i : Int)).2.1 / 2) (v := (gt c.ands (i : Int)).2.2 / 2) (by omega) (by omega) (by omega) (by omega)
        have hg2 := fun hb => hgo.two (i := (i : Int)) (by omega) (by omega) hb (by omega) (by omega) (by omega) (by omega) (by omega)
        have hc3 : cntF o ≤ cntF m := by
          cases ag
          · rw [(hc2 rfl).1]; exact Nat.le_refl _
          · exact Nat.le_of_lt (hc1 rfl)
        have hkeep : closAt c o (gt c.ands (i : Int)) → (ag = false → o = m ∧ ∀ j : Int, 0 ≤ j → j < ((i + 1 : Nat) : Int) → closAt c o (gt c.ands j)) := fun hca hag => ⟨(hc2 hag).1, fun j h0 h1 => if hj : j = i then by rw [hj]; exact hca else (hc2 hag).2 j h0 (by omega)⟩
        cases hx1 : gt o ((gt c.ands (i : Int)).1 / 2)
        · repeat' (first
      | (apply G_rd; eq_refl; (first | (apply Rd.own; (repeat first | exact In.here | apply In.there | apply In.skip); infer_instance) | (apply Rd.old; (repeat first | exact In.here | apply In.there | apply In.skip); assumption) | (apply Rd.oldR; (repeat first | exact In.here | apply In.there | apply In.skip); assumption) | exact Rd.nil | assumption); (case ih => infer_instance); omega; omega; (rw [hx1]; eq_refl))
      | (apply GC_seqK; intro K hK)
      | (apply hK; clear hK K)
      | (apply GC_block)
      | (apply GC_region)
      | (apply GL_nil)
      | (apply thenG_normal)
      | (apply blockG_normal)
      | (apply GC_skip)
      | (apply GC_if_true; eq_refl)
      | (apply GC_if_false; eq_refl)
      | (apply GL_on; eq_refl; eq_refl)
      | (apply GL_off; eq_refl; eq_refl)
      | (apply GL_offU; eq_refl; eq_refl; eq_refl)
      | (apply G_pv; eq_refl; first | exact trivial | omega)
      | (apply G_field; eq_refl)
      | (apply G_ld; eq_refl; (repeat first | exact In.here | apply In.there | apply In.skip); eq_refl)
      | (apply G_rdW; eq_refl; (first | (apply Rd.own; (repeat first | exact In.here | apply In.there | apply In.skip); infer_instance) | (apply Rd.old; (repeat first | exact In.here | apply In.there | apply In.skip); assumption) | (apply Rd.oldR; (repeat first | exact In.here | apply In.there | apply In.skip); assumption) | exact Rd.nil | assumption); infer_instance; (case ih => infer_instance); omega; omega)
      | (apply G_cmpT; eq_refl; eq_refl; omega)
      | (apply G_len; eq_refl)
      | (apply G_ix; eq_refl; eq_refl; (first | (apply Rd.own; (repeat first | exact In.here | apply In.there | apply In.skip); infer_instance) | (apply Rd.old; (repeat first | exact In.here | apply In.there | apply In.skip); assumption) | (apply Rd.oldR; (repeat first | exact In.here | apply In.there | apply In.skip); assumption) | exact Rd.nil | assumption); (first | eq_refl | omega); omega; omega)
      | (apply G_alloc; eq_refl; intro _)
      | (apply G_stW; (first | exact wr_p | kernel_rfl); eq_refl; eq_refl; eq_refl; eq_refl; (repeat first | exact Upd.here | apply Upd.there | apply Upd.skip); eq_refl))
          all_goals exact ⟨(i + 1, ag, o), (by repeat first | exact trivial | refine ⟨rfl, ?_⟩), (by repeat first | exact Wk.nil | exact Wk.refl | (apply Wk.cons; (focus ((repeat first | exact Rem.here | apply Rem.there | apply Rem.skip); done))) | apply Wk.nilv | apply Wk.last | apply Wk.drop), ⟨hlt, hgo, hc1, hkeep fun h => by rw [hx1] at h; cases h⟩, by simp only; omega⟩
        · cases hx2 : gt o ((gt c.ands (i : Int)).2.1 / 2)
          · repeat' (first
      | (apply GC_drawsP (id := 17) (C := [.vec booc 1 4 (some ⟨b8, 0, none⟩) (c.max + 1).toNat o]) [.q 0, .q 1, .q 2, .q 3, .q 4, .q 5, .q 6, .q 7, .q 8, .c 9, .q 10, .c 11]; exact mixed; kernel_rfl; kernel_rfl; (repeat first | exact Rems.nil | (apply Rems.cons; (focus ((repeat first | exact Rem.here | apply Rem.there | apply Rem.skip); done)))))
      | (apply GS_nilP)
      | (apply G_stVP true; eq_refl; eq_refl; eq_refl; eq_refl; (repeat first | exact Upd.here | apply Upd.there | apply Upd.skip); infer_instance; infer_instance; eq_refl; omega; (try simp only [List.length_set]); omega)
      | (apply G_rd; eq_refl; (first | (apply Rd.own; (repeat first | exact In.here | apply In.there | apply In.skip); infer_instance) | (apply Rd.old; (repeat first | exact In.here | apply In.there | apply In.skip); assumption) | (apply Rd.oldR; (repeat first | exact In.here | apply In.there | apply In.skip); assumption) | exact Rd.nil | assumption); (case ih => infer_instance); omega; omega; (first | (rw [hx1]; eq_refl) | (rw [hx2]; eq_refl)))
      | (apply GC_seqK; intro K hK)
      | (apply hK; clear hK K)
      | (apply GC_block)
      | (apply GC_region)
      | (apply GL_nil)
      | (apply thenG_normal)
      | (apply blockG_normal)
      | (apply GC_skip)
      | (apply GC_if_true; eq_refl)
      | (apply GL_on; eq_refl; eq_refl)
      | (apply GL_off; eq_refl; eq_refl)
      | (apply GS_qon; eq_refl; eq_refl; eq_refl; eq_refl)
      | (apply GS_con; eq_refl; eq_refl; eq_refl; eq_refl)
      | (apply G_pv; eq_refl; first | exact trivial | omega)
      | (apply G_field; eq_refl)
      | (apply G_ld; eq_refl; (repeat first | exact In.here | apply In.there | apply In.skip); eq_refl)
      | (apply G_rdW; eq_refl; (first | (apply Rd.own; (repeat first | exact In.here | apply In.there | apply In.skip); infer_instance) | (apply Rd.old; (repeat first | exact In.here | apply In.there | apply In.skip); assumption) | (apply Rd.oldR; (repeat first | exact In.here | apply In.there | apply In.skip); assumption) | exact Rd.nil | assumption); infer_instance; (case ih => infer_instance); omega; omega)
      | (apply G_cmpT; eq_refl; eq_refl; omega)
      | (apply G_len; eq_refl)
      | (apply G_ix; eq_refl; eq_refl; (first | (apply Rd.own; (repeat first | exact In.here | apply In.there | apply In.skip); infer_instance) | (apply Rd.old; (repeat first | exact In.here | apply In.there | apply In.skip); assumption) | (apply Rd.oldR; (repeat first | exact In.here | apply In.there | apply In.skip); assumption) | exact Rd.nil | assumption); (first | eq_refl | omega); omega; omega)
      | (apply G_ixA; eq_refl; eq_refl; omega; omega)
      | (apply G_alloc; eq_refl; intro _)
      | (apply G_stW; (first | exact wr_p | kernel_rfl); eq_refl; eq_refl; eq_refl; eq_refl; (repeat first | exact Upd.here | apply Upd.there | apply Upd.skip); eq_refl))
            all_goals exact ⟨(i + 1, true, two o ((gt c.ands (i : Int)).2.1 / 2) ((gt c.ands (i : Int)).2.2 / 2)), (by repeat first | exact trivial | refine ⟨rfl, ?_⟩), (by repeat first | exact Wk.nil | exact Wk.refl | (apply Wk.cons; (focus ((repeat first | exact Rem.here | apply Rem.there | apply Rem.skip); done))) | apply Wk.nilv | apply Wk.last | apply Wk.drop), ⟨hlt, hg2 hx1, fun _ => Nat.lt_of_lt_of_le (ht (by rw [hx2]; simp)) hc3, fun h => by cases h⟩, by simp only; omega⟩
          · cases hx3 : gt o ((gt c.ands (i : Int)).2.2 / 2)
            · repeat' (first
      | (apply GC_drawsP (id := 17) (C := [.vec booc 1 4 (some ⟨b8, 0, none⟩) (c.max + 1).toNat o]) [.q 0, .q 1, .q 2, .q 3, .q 4, .q 5, .q 6, .q 7, .q 8, .c 9, .q 10, .c 11]; exact mixed; kernel_rfl; kernel_rfl; (repeat first | exact Rems.nil | (apply Rems.cons; (focus ((repeat first | exact Rem.here | apply Rem.there | apply Rem.skip); done)))))
      | (apply GS_nilP)
      | (apply G_stVP true; eq_refl; eq_refl; eq_refl; eq_refl; (repeat first | exact Upd.here | apply Upd.there | apply Upd.skip); infer_instance; infer_instance; eq_refl; omega; (try simp only [List.length_set]); omega)
      | (apply G_rd; eq_refl; (first | (apply Rd.own; (repeat first | exact In.here | apply In.there | apply In.skip); infer_instance) | (apply Rd.old; (repeat first | exact In.here | apply In.there | apply In.skip); assumption) | (apply Rd.oldR; (repeat first | exact In.here | apply In.there | apply In.skip); assumption) | exact Rd.nil | assumption); (case ih => infer_instance); omega; omega; (first | (rw [hx1]; eq_refl) | (rw [hx2]; eq_refl) | (rw [hx3]; eq_refl)))
      | (apply GC_seqK; intro K hK)
      | (apply hK; clear hK K)
      | (apply GC_block)
      | (apply GC_region)
      | (apply GL_nil)
      | (apply thenG_normal)
      | (apply blockG_normal)
      | (apply GC_skip)
      | (apply GC_if_true; eq_refl)
      | (apply GL_on; eq_refl; eq_refl)
      | (apply GS_qon; eq_refl; eq_refl; eq_refl; eq_refl)
      | (apply GS_con; eq_refl; eq_refl; eq_refl; eq_refl)
      | (apply G_pv; eq_refl; first | exact trivial | omega)
      | (apply G_field; eq_refl)
      | (apply G_ld; eq_refl; (repeat first | exact In.here | apply In.there | apply In.skip); eq_refl)
      | (apply G_rdW; eq_refl; (first | (apply Rd.own; (repeat first | exact In.here | apply In.there | apply In.skip); infer_instance) | (apply Rd.old; (repeat first | exact In.here | apply In.there | apply In.skip); assumption) | (apply Rd.oldR; (repeat first | exact In.here | apply In.there | apply In.skip); assumption) | exact Rd.nil | assumption); infer_instance; (case ih => infer_instance); omega; omega)
      | (apply G_cmpT; eq_refl; eq_refl; omega)
      | (apply G_len; eq_refl)
      | (apply G_ix; eq_refl; eq_refl; (first | (apply Rd.own; (repeat first | exact In.here | apply In.there | apply In.skip); infer_instance) | (apply Rd.old; (repeat first | exact In.here | apply In.there | apply In.skip); assumption) | (apply Rd.oldR; (repeat first | exact In.here | apply In.there | apply In.skip); assumption) | exact Rd.nil | assumption); (first | eq_refl | omega); omega; omega)
      | (apply G_ixA; eq_refl; eq_refl; omega; omega)
      | (apply G_alloc; eq_refl; intro _)
      | (apply G_stW; (first | exact wr_p | kernel_rfl); eq_refl; eq_refl; eq_refl; eq_refl; (repeat first | exact Upd.here | apply Upd.there | apply Upd.skip); eq_refl))
              all_goals exact ⟨(i + 1, true, two o ((gt c.ands (i : Int)).2.1 / 2) ((gt c.ands (i : Int)).2.2 / 2)), (by repeat first | exact trivial | refine ⟨rfl, ?_⟩), (by repeat first | exact Wk.nil | exact Wk.refl | (apply Wk.cons; (focus ((repeat first | exact Rem.here | apply Rem.there | apply Rem.skip); done))) | apply Wk.nilv | apply Wk.last | apply Wk.drop), ⟨hlt, hg2 hx1, fun _ => Nat.lt_of_lt_of_le (ht (by rw [hx3]; simp)) hc3, fun h => by cases h⟩, by simp only; omega⟩
            · repeat' (first
      | (apply G_rd; eq_refl; (first | (apply Rd.own; (repeat first | exact In.here | apply In.there | apply In.skip); infer_instance) | (apply Rd.old; (repeat first | exact In.here | apply In.there | apply In.skip); assumption) | (apply Rd.oldR; (repeat first | exact In.here | apply In.there | apply In.skip); assumption) | exact Rd.nil | assumption); (case ih => infer_instance); omega; omega; (first | (rw [hx1]; eq_refl) | (rw [hx2]; eq_refl) | (rw [hx3]; eq_refl)))
      | (apply GC_seqK; intro K hK)
      | (apply hK; clear hK K)
      | (apply GC_block)
      | (apply GC_region)
      | (apply GL_nil)
      | (apply thenG_normal)
      | (apply blockG_normal)
      | (apply GC_skip)
      | (apply GC_if_true; eq_refl)
      | (apply GC_if_false; eq_refl)
      | (apply GL_on; eq_refl; eq_refl)
      | (apply G_pv; eq_refl; first | exact trivial | omega)
      | (apply G_field; eq_refl)
      | (apply G_ld; eq_refl; (repeat first | exact In.here | apply In.there | apply In.skip); eq_refl)
      | (apply G_rdW; eq_refl; (first | (apply Rd.own; (repeat first | exact In.here | apply In.there | apply In.skip); infer_instance) | (apply Rd.old; (repeat first | exact In.here | apply In.there | apply In.skip); assumption) | (apply Rd.oldR; (repeat first | exact In.here | apply In.there | apply In.skip); assumption) | exact Rd.nil | assumption); infer_instance; (case ih => infer_instance); omega; omega)
      | (apply G_cmpT; eq_refl; eq_refl; omega)
      | (apply G_len; eq_refl)
      | (apply G_ix; eq_refl; eq_refl; (first | (apply Rd.own; (repeat first | exact In.here | apply In.there | apply In.skip); infer_instance) | (apply Rd.old; (repeat first | exact In.here | apply In.there | apply In.skip); assumption) | (apply Rd.oldR; (repeat first | exact In.here | apply In.there | apply In.skip); assumption) | exact Rd.nil | assumption); (first | eq_refl | omega); omega; omega)
      | (apply G_alloc; eq_refl; intro _)
      | (apply G_stW; (first | exact wr_p | kernel_rfl); eq_refl; eq_refl; eq_refl; eq_refl; (repeat first | exact Upd.here | apply Upd.there | apply Upd.skip); eq_refl))
              all_goals exact ⟨(i + 1, ag, o), (by repeat first | exact trivial | refine ⟨rfl, ?_⟩), (by repeat first | exact Wk.nil | exact Wk.refl | (apply Wk.cons; (focus ((repeat first | exact Rem.here | apply Rem.there | apply Rem.skip); done))) | apply Wk.nilv | apply Wk.last | apply Wk.drop), ⟨hlt, hgo, hc1, hkeep fun _ => ⟨hx2, hx3⟩⟩, by simp only; omega⟩
      · have hms : 2 * cntF o + (if ag = true then 1 else 0) < 2 * cntF m + (if true = true then 1 else 0) := by
          cases ag
          · rw [(hc2 rfl).1]; simp
          · have := hc1 rfl
            simp
            omega
        repeat' (first
      | (apply GC_seqK; intro K hK)
      | (apply hK; clear hK K)
      | (apply GC_region)
      | (apply GL_nil)
      | (apply thenG_normal)
      | (apply thenG_exit)
      | (apply blockG_hit)
      | (apply blockG_normal)
      | (apply GC_exit)
      | (apply GC_if_false; eq_refl)
      | (apply GL_on; eq_refl; eq_refl)
      | (apply G_pv; eq_refl; first | exact trivial | omega)
      | (apply G_field; eq_refl)
      | (apply G_ld; eq_refl; (repeat first | exact In.here | apply In.there | apply In.skip); eq_refl)
      | (apply G_cmpF; eq_refl; eq_refl; omega)
      | (apply G_len; eq_refl))
        exact ⟨(ag, o), (by repeat first | exact trivial | refine ⟨rfl, ?_⟩), (by repeat first | exact Wk.nil | exact Wk.refl | (apply Wk.cons; (focus ((repeat first | exact Rem.here | apply Rem.there | apply Rem.skip); done))) | apply Wk.nilv | apply Wk.last | apply Wk.drop), ⟨hgo, fun hag j h0 h1 => (hc2 hag).2 j h0 (by omega)⟩, hms⟩
  · have e1 : conV c ls = 0 := if_neg hz
    have e2 : conM c ls = [] := if_neg hz
    generalize conE c ls = ε at *
    repeat' (first
      | (apply G_call; eq_refl; eq_refl; (apply hip; (repeat first | exact In.here | apply In.there | apply In.skip)); rintro _ _ ⟨A0, k0, l0, rfl, rfl⟩)
      | (apply GC_seqK; intro K hK)
      | (apply hK; clear hK K)
      | (apply GC_region)
      | (apply GL_nil)
      | (apply thenG_normal)
      | (apply thenG_ret)
      | (apply GC_ret)
      | (apply GC_if_true; eq_refl)
      | (apply retGC1r; eq_refl; (repeat first | exact In.here | apply In.there | apply In.skip); eq_refl; eq_refl)
      | (apply GL_on; eq_refl; eq_refl)
      | (apply G_pv; eq_refl; first | exact trivial | omega)
      | (apply G_ldW; eq_refl; (repeat first | exact In.here | apply In.there | apply In.skip); eq_refl)
      | (apply G_cmpT; eq_refl; eq_refl; omega)
      | (apply G_alloc; eq_refl; intro _)
      | (apply G_box; eq_refl; eq_refl; intro _)
      | (apply G_stW; (first | exact wr_p | kernel_rfl); eq_refl; eq_refl; eq_refl; eq_refl; (repeat first | exact Upd.here | apply Upd.there | apply Upd.skip); eq_refl)
      | (apply GX_pure; apply build44_))
    exact cnfRE_no e1 e2 (by repeat first | exact Wk.nil | exact Wk.refl | (apply Wk.cons; (focus ((repeat first | exact Rem.here | apply Rem.there | apply Rem.skip); done))) | apply Wk.nilv | apply Wk.last | apply Wk.drop)
end SC
end Go.Proofs.Yticndofcfacopaa
end
section
/- encode: Cone; Lit of both. -/
set_option linter.unusedVariables false
set_option linter.unusedSimpArgs false
namespace Go.Proofs.Yticndofcfacopaa
namespace SC
open Go.Proofs
noncomputable def liE (c : Circ) (l : Int) : Int := if (lookM c).2 ≠ 0 then (lookM c).2 else if inB c l then 0 else 1
noncomputable def liV (c : Circ) (l : Int) : Int := if liE c l = 0 then formM l else 0
theorem closB_ord {c : Circ} {B : List Bool} (R : Right c) (h : ∀ j : Nat, j < (ordM c).length → closAt c B (gt c.ands (gt (ordM c) (j : Int)))) : closB c B := fun i h0 hi => by
  have hm := R.ordAll (i := i.toNat) (by omega)
  obtain ⟨j, hj, e⟩ := List.mem_iff_getElem.1 hm
  have := h j hj
  rw [gt_nat hj, e] at this
  rwa [show ((i.toNat : Nat) : Int) = i by omega] at this
theorem clos_two {c : Circ} {o : List Bool} (R : Right c) {k : Nat} (hk : k < (ordM c).length) (hl : o.length = (c.max + 1).toNat) (h : ∀ j : Nat, k < j → j < (ordM c).length → closAt c o (gt c.ands (gt (ordM c) (j : Int)))) :
    ∀ j : Nat, k ≤ j → j < (ordM c).length → closAt c (two o ((gt c.ands (gt (ordM c) (k : Int))).2.1 / 2) ((gt c.ands (gt (ordM c) (k : Int))).2.2 / 2)) (gt c.ands (gt (ordM c) (j : Int))) := fun j hkj hj => by
  have gg : ∀ {i : Nat}, i < (ordM c).length → defR c (gt c.ands (gt (ordM c) (i : Int))).1 ∧ inR c (gt c.ands (gt (ordM c) (i : Int))).2.1 ∧ inR c (gt c.ands (gt (ordM c) (i : Int))).2.2 := fun {i} hi => by
    have ho := R.ord (gt_mem (l := ordM c) (i := (i : Int)) (by omega) (by omega))
    exact R.gate (gt_mem ho.1 ho.2)
  obtain ⟨g1, g2, g3⟩ := gg hk
  obtain ⟨j1, j2, j3⟩ := gg hj
  have m0 := R.m0
  unfold defR at g1 j1
  unfold inR at g2 g3 j2 j3
  have T := fun (x : Int) (hx : 0 ≤ x) => two_gt (l := o) (u := (gt c.ands (gt (ordM c) (k : Int))).2.1 / 2) (v := (gt c.ands (gt (ordM c) (k : Int))).2.2 / 2) (x := x) (by omega) (by omega) hx (by omega) (by omega)
  intro hx
  rcases Nat.lt_or_ge k j with hlt | hge
  · have hox : gt o ((gt c.ands (gt (ordM c) (j : Int))).1 / 2) = true := by
      rcases (T _ (by omega)).1 hx with e | e | e
      · exact e
      · exfalso
        have := R.low hk (l := (gt c.ands (gt (ordM c) (k : Int))).2.1) (.inl (by rw [gt_nat hk]; rfl)) hj (by rw [← e, gt_nat hj]; rfl)
        omega
      · exfalso
        have := R.low hk (l := (gt c.ands (gt (ordM c) (k : Int))).2.2) (.inr (by rw [gt_nat hk]; rfl)) hj (by rw [← e, gt_nat hj]; rfl)
        omega
    have := h j hlt hj hox
    exact ⟨(T _ (by omega)).2 (.inl this.1), (T _ (by omega)).2 (.inl this.2)⟩
  · obtain rfl : j = k := by omega
    exact ⟨(T _ (by omega)).2 (.inr (.inl rfl)), (T _ (by omega)).2 (.inr (.inr rfl))⟩
attribute [local irreducible] WC WL WX WS WO OX Does DoesU Enters CV Pure thenQ blockQ retQ Wants retQC GC GL GS GX RdB thenG blockG retG Rd At gt CVN CVM
set_option maxRecDepth 100000
theorem isLit_cv {w : World} {c : Circ} {h : Hd} {l : Int} (hm : -1 ≤ c.max) (hm2 : c.max ≤ 16384) : CVN Try.prog 58 [.agg (ccells c h).toArray, nu l] w fun v N => N = [] ∧ v = .bool (inB c l) := by
  refine CVN.enter 15 [4] Try.func58 rfl rfl rfl (by decide) rfl ?_
  by_cases h0 : 0 ≤ l
  · by_cases h1 : l ≤ 2 * c.max + 1
    · have e : inB c l = true := by unfold inB; simp [h0, h1]
      rw [e]
      repeat' (first
      | (apply GC_seqK; intro K hK)
      | (apply hK; clear hK K)
      | (apply GC_region)
      | (apply GL_nil)
      | (apply thenG_normal)
      | (apply GC_ret)
      | (apply retG1; eq_refl)
      | (apply GL_on; eq_refl; eq_refl)
      | (apply G_pv; eq_refl; first | exact trivial | omega)
      | (apply G_field; eq_refl)
      | (apply G_ld; eq_refl; (repeat first | exact In.here | apply In.there | apply In.skip); eq_refl)
      | (apply G_cmpT; eq_refl; eq_refl; omega)
      | (apply G_box; eq_refl; eq_refl; intro _))
      all_goals first
        | (exfalso; omega)
        | exact ⟨[], (by repeat first | exact Wk.nil | exact Wk.refl | (apply Wk.cons; (focus ((repeat first | exact Rem.here | apply Rem.there | apply Rem.skip); done))) | apply Wk.nilv | apply Wk.last | apply Wk.drop), rfl, rfl⟩
    · have e : inB c l = false := by unfold inB; simp [h1]
      rw [e]
      repeat' (first
      | (apply GC_seqK; intro K hK)
      | (apply hK; clear hK K)
      | (apply GC_region)
      | (apply GL_nil)
      | (apply thenG_normal)
      | (apply GC_ret)
      | (apply retG1; eq_refl)
      | (apply GL_on; eq_refl; eq_refl)
      | (apply G_pv; eq_refl; first | exact trivial | omega)
      | (apply G_field; eq_refl)
      | (apply G_ld; eq_refl; (repeat first | exact In.here | apply In.there | apply In.skip); eq_refl)
      | (apply G_cmpT; eq_refl; eq_refl; omega)
      | (apply G_cmpF; eq_refl; eq_refl; omega)
      | (apply G_box; eq_refl; eq_refl; intro _))
      all_goals first
        | (exfalso; omega)
        | exact ⟨[], (by repeat first | exact Wk.nil | exact Wk.refl | (apply Wk.cons; (focus ((repeat first | exact Rem.here | apply Rem.there | apply Rem.skip); done))) | apply Wk.nilv | apply Wk.last | apply Wk.drop), rfl, rfl⟩
  · have e : inB c l = false := by unfold inB; simp [h0]
    rw [e]
    repeat' (first
      | (apply GC_seqK; intro K hK)
      | (apply hK; clear hK K)
      | (apply GC_region)
      | (apply GL_nil)
      | (apply thenG_normal)
      | (apply GC_ret)
      | (apply retG1; eq_refl)
      | (apply GL_on; eq_refl; eq_refl)
      | (apply GL_off; eq_refl; eq_refl)
      | (apply G_pv; eq_refl; first | exact trivial | omega)
      | (apply G_cmpF; eq_refl; eq_refl; omega)
      | (apply G_box; eq_refl; eq_refl; intro _))
    all_goals first
      | (exfalso; omega)
      | exact ⟨[], (by repeat first | exact Wk.nil | exact Wk.refl | (apply Wk.cons; (focus ((repeat first | exact Rem.here | apply Rem.there | apply Rem.skip); done))) | apply Wk.nilv | apply Wk.last | apply Wk.drop), rfl, rfl⟩
theorem LitP_cv {w : World} {c : Circ} {h js : Hd} {l : Int} (H : CirIn w c h js) : CVN Try.prog 23 [.agg (ccells c h).toArray, nu l] w fun v N => N = [] ∧ v = .tuple #[nu (liV c l), nu (liE c l)] := by
  have hck : ∀ Γ, In Γ (.old w none_) → ∀ w', Mem w' Γ → CVN Try.prog 52 [.agg (ccells c h).toArray] w' fun v N => N = [] ∧ v = .tuple #[nu (lookM c).1, nu (lookM c).2] := fun Γ hi w' M => have H' := H.chg (hi.old M); CVN.of (check_cv H'.at_ H'.sane) fun v w' h => ⟨h.2, h.1⟩
  refine CVN.enter 22 [4, 5] Try.func23 rfl rfl rfl (by decide) rfl ?_
  by_cases he : (lookM c).2 = 0
  · have R := right_of H.at_ H.sane he
    have m0 := R.m0
    have m1 := R.m1
    have his : ∀ w', CVN Try.prog 58 [.agg (ccells c h).toArray, nu l] w' fun v N => N = [] ∧ v = .bool (inB c l) := fun w' => isLit_cv (by omega) m1
    rw [he] at hck
    generalize (lookM c).1 = n0 at *
    cases hb : inB c l
    · have e1 : liE c l = 1 := by unfold liE; rw [if_neg (by omega), hb]; rfl
      have e2 : liV c l = 0 := if_neg (by rw [e1]; decide)
      rw [e1, e2]
      rw [hb] at his
      repeat' (first
      | (apply G_call; eq_refl; eq_refl; (apply hck; (repeat first | exact In.here | apply In.there | apply In.skip)); rintro _ _ ⟨rfl, rfl⟩)
      | (apply G_call; eq_refl; eq_refl; (exact fun w' _ => his w'); rintro _ _ ⟨rfl, rfl⟩)
      | (apply GC_seqK; intro K hK)
      | (apply hK; clear hK K)
      | (apply GC_region)
      | (apply GL_nil)
      | (apply thenG_normal)
      | (apply thenG_ret)
      | (apply GC_ret)
      | (apply GC_skip)
      | (apply GC_if_true; eq_refl)
      | (apply GC_if_false; eq_refl)
      | (apply retG2; eq_refl; eq_refl)
      | (apply GL_on; eq_refl; eq_refl)
      | (apply G_pv; eq_refl; first | exact trivial | omega)
      | (apply G_ldW; eq_refl; (repeat first | exact In.here | apply In.there | apply In.skip); eq_refl)
      | (apply G_cmpF; eq_refl; eq_refl; omega)
      | (apply G_box; eq_refl; eq_refl; intro _))
      exact ⟨[], (by repeat first | exact Wk.nil | exact Wk.refl | (apply Wk.cons; (focus ((repeat first | exact Rem.here | apply Rem.there | apply Rem.skip); done))) | apply Wk.nilv | apply Wk.last | apply Wk.drop), rfl, rfl⟩
    · have e1 : liE c l = 0 := by unfold liE; rw [if_neg (by omega), hb]; rfl
      have e2 : liV c l = formM l := if_pos e1
      have hl := inB_t hb
      unfold inR at hl
      have hf : ∀ w', CVN Try.prog 59 [nu l] w' fun v N => N = [] ∧ v = nu (formM l) := fun w' => form_cv (by omega) (by omega)
      rw [e1, e2]
      rw [hb] at his
      repeat' (first
      | (apply G_call; eq_refl; eq_refl; (apply hck; (repeat first | exact In.here | apply In.there | apply In.skip)); rintro _ _ ⟨rfl, rfl⟩)
      | (apply G_call; eq_refl; eq_refl; (exact fun w' _ => his w'); rintro _ _ ⟨rfl, rfl⟩)
      | (apply G_call; eq_refl; eq_refl; (exact fun w' _ => hf w'); rintro _ _ ⟨rfl, rfl⟩)
      | (apply GC_seqK; intro K hK)
      | (apply hK; clear hK K)
      | (apply GC_region)
      | (apply GL_nil)
      | (apply thenG_normal)
      | (apply GC_ret)
      | (apply GC_skip)
      | (apply GC_if_false; eq_refl)
      | (apply retG2; eq_refl; eq_refl)
      | (apply GL_on; eq_refl; eq_refl)
      | (apply G_pv; eq_refl; first | exact trivial | omega)
      | (apply G_ldW; eq_refl; (repeat first | exact In.here | apply In.there | apply In.skip); eq_refl)
      | (apply G_cmpF; eq_refl; eq_refl; omega)
      | (apply G_box; eq_refl; eq_refl; intro _))
      exact ⟨[], (by repeat first | exact Wk.nil | exact Wk.refl | (apply Wk.cons; (focus ((repeat first | exact Rem.here | apply Rem.there | apply Rem.skip); done))) | apply Wk.nilv | apply Wk.last | apply Wk.drop), rfl, rfl⟩
  · have e1 : liE c l = (lookM c).2 := if_pos he
    have e2 : liV c l = 0 := if_neg (by rw [e1]; exact he)
    rw [e1, e2]
    generalize (lookM c).1 = n0 at *
    generalize (lookM c).2 = ε at *
    repeat' (first
      | (apply G_call; eq_refl; eq_refl; (apply hck; (repeat first | exact In.here | apply In.there | apply In.skip)); rintro _ _ ⟨rfl, rfl⟩)
      | (apply GC_seqK; intro K hK)
      | (apply hK; clear hK K)
      | (apply GC_region)
      | (apply GL_nil)
      | (apply thenG_normal)
      | (apply thenG_ret)
      | (apply GC_ret)
      | (apply GC_if_true; eq_refl)
      | (apply retG2; eq_refl; eq_refl)
      | (apply GL_on; eq_refl; eq_refl)
      | (apply G_pv; eq_refl; first | exact trivial | omega)
      | (apply G_ldW; eq_refl; (repeat first | exact In.here | apply In.there | apply In.skip); eq_refl)
      | (apply G_cmpT; eq_refl; eq_refl; omega)
      | (apply G_box; eq_refl; eq_refl; intro _))
    exact ⟨[], (by repeat first | exact Wk.nil | exact Wk.refl | (apply Wk.cons; (focus ((repeat first | exact Rem.here | apply Rem.there | apply Rem.skip); done))) | apply Wk.nilv | apply Wk.last | apply Wk.drop), rfl, rfl⟩
theorem LitRef_cv {w : World} {c : Circ} {h js : Hd} {l : Int} (H : CirIn w c h js) : CVN Try.prog 24 [.agg (ccells c h).toArray, nu l] w fun v N => N = [] ∧ v = .tuple #[nu (liV c l), nu (liE c l)] := by
  have hck : ∀ Γ, In Γ (.old w none_) → ∀ w', Mem w' Γ → CVN Try.prog 53 [.agg (ccells c h).toArray] w' fun v N => N = [] ∧ v = .tuple #[nu (lookM c).1, nu (lookM c).2] := fun Γ hi w' M => have H' := H.chg (hi.old M); CVN.of (checkRef_cv H'.at_ H'.sane H'.okay H'.fits) fun v w' h => ⟨h.2, h.1⟩
  refine CVN.enter 28 [4, 5] Try.func24 rfl rfl rfl (by decide) rfl ?_
  by_cases he : (lookM c).2 = 0
  · have R := right_of H.at_ H.sane he
    have m0 := R.m0
    have m1 := R.m1
    rw [he] at hck
    generalize (lookM c).1 = n0 at *
    by_cases hb : 0 ≤ l ∧ l ≤ 2 * c.max + 1
    · have hb' : inB c l = true := by unfold inB; simpa using hb
      have e1 : liE c l = 0 := by unfold liE; rw [if_neg (by omega), hb']; rfl
      have e2 : liV c l = formM l := if_pos e1
      have hf : ∀ w', CVN Try.prog 60 [nu l] w' fun v N => N = [] ∧ v = nu (formM l) := fun w' => Form_cv (by omega) (by omega)
      rw [e1, e2]
      repeat' (first
      | (apply G_call; eq_refl; eq_refl; (apply hck; (repeat first | exact In.here | apply In.there | apply In.skip)); rintro _ _ ⟨rfl, rfl⟩)
      | (apply G_call; eq_refl; eq_refl; (exact fun w' _ => hf w'); rintro _ _ ⟨rfl, rfl⟩)
      | (apply GC_seqK; intro K hK)
      | (apply hK; clear hK K)
      | (apply GC_region)
      | (apply GL_nil)
      | (apply thenG_normal)
      | (apply GC_ret)
      | (apply GC_skip)
      | (apply GC_if_false; eq_refl)
      | (apply retG2; eq_refl; eq_refl)
      | (apply GL_on; eq_refl; eq_refl)
      | (apply G_pv; eq_refl; first | exact trivial | omega)
      | (apply G_field; eq_refl)
      | (apply G_ld; eq_refl; (repeat first | exact In.here | apply In.there | apply In.skip); eq_refl)
      | (apply G_ldW; eq_refl; (repeat first | exact In.here | apply In.there | apply In.skip); eq_refl)
      | (apply G_cmpF; eq_refl; eq_refl; omega)
      | (apply G_box; eq_refl; eq_refl; intro _))
      all_goals first
        | (exfalso; omega)
        | exact ⟨[], (by repeat first | exact Wk.nil | exact Wk.refl | (apply Wk.cons; (focus ((repeat first | exact Rem.here | apply Rem.there | apply Rem.skip); done))) | apply Wk.nilv | apply Wk.last | apply Wk.drop), rfl, rfl⟩
    · have hb' : inB c l = false := by unfold inB; simpa using hb
      have e1 : liE c l = 1 := by unfold liE; rw [if_neg (by omega), hb']; rfl
      have e2 : liV c l = 0 := if_neg (by rw [e1]; decide)
      rw [e1, e2]
      by_cases h0 : 0 ≤ l
      · repeat' (first
      | (apply G_call; eq_refl; eq_refl; (apply hck; (repeat first | exact In.here | apply In.there | apply In.skip)); rintro _ _ ⟨rfl, rfl⟩)
      | (apply GC_seqK; intro K hK)
      | (apply hK; clear hK K)
      | (apply GC_region)
      | (apply GL_nil)
      | (apply thenG_normal)
      | (apply thenG_ret)
      | (apply GC_ret)
      | (apply GC_skip)
      | (apply GC_if_true; eq_refl)
      | (apply GC_if_false; eq_refl)
      | (apply retG2; eq_refl; eq_refl)
      | (apply GL_on; eq_refl; eq_refl)
      | (apply G_pv; eq_refl; first | exact trivial | omega)
      | (apply G_field; eq_refl)
      | (apply G_ld; eq_refl; (repeat first | exact In.here | apply In.there | apply In.skip); eq_refl)
      | (apply G_ldW; eq_refl; (repeat first | exact In.here | apply In.there | apply In.skip); eq_refl)
      | (apply G_cmpT; eq_refl; eq_refl; omega)
      | (apply G_cmpF; eq_refl; eq_refl; omega)
      | (apply G_box; eq_refl; eq_refl; intro _))
        all_goals first
          | (exfalso; omega)
          | exact ⟨[], (by repeat first | exact Wk.nil | exact Wk.refl | (apply Wk.cons; (focus ((repeat first | exact Rem.here | apply Rem.there | apply Rem.skip); done))) | apply Wk.nilv | apply Wk.last | apply Wk.drop), rfl, rfl⟩
      · repeat' (first
      | (apply G_call; eq_refl; eq_refl; (apply hck; (repeat first | exact In.here | apply In.there | apply In.skip)); rintro _ _ ⟨rfl, rfl⟩)
      | (apply GC_seqK; intro K hK)
      | (apply hK; clear hK K)
      | (apply GC_region)
      | (apply GL_nil)
      | (apply thenG_normal)
      | (apply thenG_ret)
      | (apply GC_ret)
      | (apply GC_skip)
      | (apply GC_if_true; eq_refl)
      | (apply GC_if_false; eq_refl)
      | (apply retG2; eq_refl; eq_refl)
      | (apply GL_on; eq_refl; eq_refl)
      | (apply GL_off; eq_refl; eq_refl)
      | (apply G_pv; eq_refl; first | exact trivial | omega)
      | (apply G_ldW; eq_refl; (repeat first | exact In.here | apply In.there | apply In.skip); eq_refl)
      | (apply G_cmpT; eq_refl; eq_refl; omega)
      | (apply G_cmpF; eq_refl; eq_refl; omega)
      | (apply G_box; eq_refl; eq_refl; intro _))
        all_goals first
          | (exfalso; omega)
          | exact ⟨[], (by repeat first | exact Wk.nil | exact Wk.refl | (apply Wk.cons; (focus ((repeat first | exact Rem.here | apply Rem.there | apply Rem.skip); done))) | apply Wk.nilv | apply Wk.last | apply Wk.drop), rfl, rfl⟩
  · have e1 : liE c l = (lookM c).2 := if_pos he
    have e2 : liV c l = 0 := if_neg (by rw [e1]; exact he)
    rw [e1, e2]
    generalize (lookM c).1 = n0 at *
    generalize (lookM c).2 = ε at *
    repeat' (first
      | (apply G_call; eq_refl; eq_refl; (apply hck; (repeat first | exact In.here | apply In.there | apply In.skip)); rintro _ _ ⟨rfl, rfl⟩)
      | (apply GC_seqK; intro K hK)
      | (apply hK; clear hK K)
      | (apply GC_region)
      | (apply GL_nil)
      | (apply thenG_normal)
      | (apply thenG_ret)
      | (apply GC_ret)
      | (apply GC_if_true; eq_refl)
      | (apply retG2; eq_refl; eq_refl)
      | (apply GL_on; eq_refl; eq_refl)
      | (apply G_pv; eq_refl; first | exact trivial | omega)
      | (apply G_ldW; eq_refl; (repeat first | exact In.here | apply In.there | apply In.skip); eq_refl)
      | (apply G_cmpT; eq_refl; eq_refl; omega)
      | (apply G_box; eq_refl; eq_refl; intro _))
    exact ⟨[], (by repeat first | exact Wk.nil | exact Wk.refl | (apply Wk.cons; (focus ((repeat first | exact Rem.here | apply Rem.there | apply Rem.skip); done))) | apply Wk.nilv | apply Wk.last | apply Wk.drop), rfl, rfl⟩
end SC
end Go.Proofs.Yticndofcfacopaa
end
section
/- encode: Cone. -/
set_option linter.unusedVariables false
set_option linter.unusedSimpArgs false
namespace Go.Proofs.Yticndofcfacopaa
namespace SC
open Go.Proofs
attribute [local irreducible] WC WL WX WS WO OX Does DoesU Enters CV Pure thenQ blockQ retQ Wants retQC GC GL GS GX RdB thenG blockG retG Rd At gt CVN CVM
set_option maxRecDepth 100000
theorem cone1_cv {w : World} {c : Circ} {h js : Hd} {b8 b2 n k : Nat} {A : Option Addr} {l : List Bool} {i : Int} (h8 : Blk w b8 30 [.slice A n k]) (hA : RowA w booc 1 A l) (hn : n = l.length) (h2 : Blk w b2 29 (ccells c h)) (H : CirAt w c h js) (h0 : 0 ≤ i) (hi : i < c.ands.length) (hg : 0 ≤ (gt c.ands i).1 ∧ (gt c.ands i).1 / 2 < l.length ∧ (gt c.ands i).1 ≤ 100000) :
    CVN Try.prog 62 ([nu i] ++ (#[pt b8, pt b2] : Array Value).toList) w fun v N => N = [] ∧ v = .bool (gt l ((gt c.ands i).1 / 2)) := by
  show CVN Try.prog 62 [nu i, pt b8, pt b2] w _
  have hAnd := H.ands
  obtain ⟨g1, g2, g3⟩ := hg
  refine CVN.enter 15 [4] Try.func62 rfl rfl rfl (by decide) rfl ?_
  repeat' (first
      | (apply GC_seqK; intro K hK)
      | (apply hK; clear hK K)
      | (apply GC_region)
      | (apply GL_nil)
      | (apply thenG_normal)
      | (apply GC_ret)
      | (apply retG1; eq_refl)
      | (apply GL_on; eq_refl; eq_refl)
      | (refine GC_draws (id := 1) [.q 0, .q 1, .q 2, .q 3, .q 4, .q 5, .q 6, .q 7, .q 8, .q 9, .q 10] mixed (by kernel_rfl) (by kernel_rfl) ?_)
      | (apply GS_nil)
      | (apply GS_qon; eq_refl; eq_refl; eq_refl; eq_refl)
      | (apply G_pv; eq_refl; first | exact trivial | omega)
      | (apply G_field; eq_refl)
      | (apply G_fieldP; eq_refl)
      | (apply G_ldO; eq_refl; (repeat first | exact In.here | apply In.there | apply In.skip); assumption; eq_refl)
      | (apply G_rd; eq_refl; (first | (apply Rd.own; (repeat first | exact In.here | apply In.there | apply In.skip); infer_instance) | (apply Rd.old; (repeat first | exact In.here | apply In.there | apply In.skip); assumption) | (apply Rd.oldR; (repeat first | exact In.here | apply In.there | apply In.skip); assumption) | exact Rd.nil | assumption); (case ih => infer_instance); omega; omega; eq_refl)
      | (apply G_ix; eq_refl; eq_refl; (first | (apply Rd.own; (repeat first | exact In.here | apply In.there | apply In.skip); infer_instance) | (apply Rd.old; (repeat first | exact In.here | apply In.there | apply In.skip); assumption) | (apply Rd.oldR; (repeat first | exact In.here | apply In.there | apply In.skip); assumption) | exact Rd.nil | assumption); (first | eq_refl | omega); omega; omega))
  exact ⟨[], (by repeat first | exact Wk.nil | exact Wk.refl | (apply Wk.cons; (focus ((repeat first | exact Rem.here | apply Rem.there | apply Rem.skip); done))) | apply Wk.nilv | apply Wk.last | apply Wk.drop), rfl, rfl⟩
set_option maxHeartbeats 3200000 in
theorem ConeP_cv {w : World} {c : Circ} {h js : Hd} {B : Option Addr} {k : Nat} {ls : List Int} (H : CirIn w c h js) (hB : RowA w icell 1 B ls) (hn : ls.length ≤ 9223372036854775807) : CVN Try.prog 25 [.agg (ccells c h).toArray, .slice B ls.length k] w (CnfRE (conV c ls) (conM c ls) (conE c ls)) := by
  have hor : ∀ Γ, In Γ (.old w none_) → ∀ w', Mem w' Γ → CVN Try.prog 61 [.agg (ccells c h).toArray] w' (OrdR c) := fun Γ hi w' M => OrderG (H.at_.chg (hi.old M)) H.sane
  have hAnd := H.at_.ands
  refine CVN.enterC1 (t := 44) 80 4 5 Try.func25 rfl rfl rfl rfl ?_
  by_cases he : (lookM c).2 = 0
  · have R := right_of H.at_ H.sane he
    have m0 := R.m0
    have m1 := R.m1
    have n3 := R.nAnd
    have ol := R.ordLen
    have hord : ∀ Γ, In Γ (.old w none_) → ∀ w', Mem w' Γ → CVN Try.prog 61 [.agg (ccells c h).toArray] w' fun v N => ∃ A k, v = .tuple #[.slice A (ordM c).length k, nu 0] ∧ N = [.vec icell 1 3 A k (ordM c)] := fun Γ hi w' M => (hor Γ hi w' M).mono fun v N hv => by
      rcases hv with ⟨h1, _⟩ | ⟨_, hv⟩
      · exact absurd he h1
      · exact hv
    have e0 : conE c ls = litE c ls := if_neg (by omega)
    have his : ∀ l w', CVN Try.prog 58 [.agg (ccells c h).toArray, nu l] w' fun v N => N = [] ∧ v = .bool (inB c l) := fun l w' => isLit_cv (by omega) m1
    by_cases hlen : ls.length > 16384
    · have e3 : conE c ls = 2 := by rw [e0]; exact if_pos hlen
      have e1 : conV c ls = 0 := if_neg (by rw [e3]; decide)
      have e2 : conM c ls = [] := if_neg (by rw [e3]; decide)
      rw [e3]
      repeat' (first
      | (apply G_call; eq_refl; eq_refl; (apply hord; (repeat first | exact In.here | apply In.there | apply In.skip)); rintro _ _ ⟨A0, k0, rfl, rfl⟩)
      | (apply GC_seqK; intro K hK)
      | (apply hK; clear hK K)
      | (apply GC_region)
      | (apply GL_nil)
      | (apply thenG_normal)
      | (apply thenG_ret)
      | (apply GC_ret)
      | (apply GC_skip)
      | (apply GC_if_true; eq_refl)
      | (apply GC_if_false; eq_refl)
      | (apply retGC1r; eq_refl; (repeat first | exact In.here | apply In.there | apply In.skip); eq_refl; eq_refl)
      | (apply GL_on; eq_refl; eq_refl)
      | (apply G_pv; eq_refl; first | exact trivial | omega)
      | (apply G_ldW; eq_refl; (repeat first | exact In.here | apply In.there | apply In.skip); eq_refl)
      | (apply G_cmpT; eq_refl; eq_refl; omega)
      | (apply G_cmpF; eq_refl; eq_refl; omega)
      | (apply G_len; eq_refl)
      | (apply G_alloc; eq_refl; intro _)
      | (apply G_box; eq_refl; eq_refl; intro _)
      | (apply G_stW; (first | exact wr_p | kernel_rfl); eq_refl; eq_refl; eq_refl; eq_refl; (repeat first | exact Upd.here | apply Upd.there | apply Upd.skip); eq_refl)
      | (apply GX_pure; apply build44_))
      exact cnfRE_no e1 e2 (by repeat first | exact Wk.nil | exact Wk.refl | (apply Wk.cons; (focus ((repeat first | exact Rem.here | apply Rem.there | apply Rem.skip); done))) | apply Wk.nilv | apply Wk.last | apply Wk.drop)
    · have e3 : litE c ls = if ls.all (inB c) then 0 else 1 := if_neg hlen
      repeat' (first
      | (apply G_call; eq_refl; eq_refl; (apply hord; (repeat first | exact In.here | apply In.there | apply In.skip)); rintro _ _ ⟨A0, k0, rfl, rfl⟩)
      | (apply GC_seqK; intro K hK)
      | (apply hK; clear hK K)
      | (apply GC_block)
      | (apply GC_region)
      | (apply GL_nil)
      | (apply thenG_normal)
      | (apply GC_skip)
      | (apply GC_if_false; eq_refl)
      | (apply GL_on; eq_refl; eq_refl)
      | (apply G_pv; eq_refl; first | exact trivial | omega)
      | (apply G_field; eq_refl)
      | (apply G_ld; eq_refl; (repeat first | exact In.here | apply In.there | apply In.skip); eq_refl)
      | (apply G_ldW; eq_refl; (repeat first | exact In.here | apply In.there | apply In.skip); eq_refl)
      | (apply G_cmpF; eq_refl; eq_refl; omega)
      | (apply G_len; eq_refl)
      | (apply G_alloc; eq_refl; intro _)
      | (apply G_box; eq_refl; eq_refl; intro _)
      | (apply G_st; (first | exact wr_p | kernel_rfl); eq_refl; eq_refl; eq_refl; eq_refl; (repeat first | exact Upd.here | apply Upd.there | apply Upd.skip); (first | decide | exact Nat.le_of_ble_eq_true rfl))
      | (apply G_makeI booc; eq_refl; eq_refl; omega; eq_refl; omega; decide; intro _))
      rename_i b2 b4 bm b8
      refine GC_loopK [1, 2, 4, 5, 6, 8, 30, 31] (fun s : Nat × List Bool => [(32, nu s.1)]) (fun s => [.vec booc 1 4 (some ⟨bm, 0, none⟩) (c.max + 1).toNat s.2, .box b8 30 [.slice (some ⟨bm, 0, none⟩) (c.max + 1).toNat (c.max + 1).toNat], .vec icell 1 3 A0 k0 (ordM c), .box b4 44 [nu 0, .slice none 0 0], .box b2 29 (ccells c h), .old w none_]) (fun s => s.1 ≤ ls.length ∧ s.2 = askM c ls s.1 ∧ ∀ j : Int, 0 ≤ j → j < s.1 → inB c (gt ls j) = true) (fun s => ls.length - s.1) (0, List.replicate (c.max + 1).toNat false) (by repeat first | exact Pick.nil | (apply Pick.cons; eq_refl)) (by repeat first | exact trivial | refine ⟨rfl, ?_⟩) (by repeat first | exact Wk.nil | exact Wk.refl | (apply Wk.cons; (focus ((repeat first | exact Rem.here | apply Rem.there | apply Rem.skip); done))) | apply Wk.nilv | apply Wk.last | apply Wk.drop) ⟨Nat.zero_le _, rfl, fun j h0 h1 => absurd h1 (by simp only; omega)⟩ ?_
      rintro ⟨i, l⟩ ⟨hi, hl, hall⟩
      dsimp only at hi hl hall ⊢
      have hll := askM_len c ls i
      rw [← hl] at hll
      rcases Nat.lt_or_ge i ls.length with hlt | hge
      · cases hb : inB c (gt ls (i : Int))
        · have e5 : conE c ls = 1 := by
            rw [e0, e3, if_neg]
            rw [Bool.not_eq_true, List.all_eq_false]
            exact ⟨_, gt_mem (l := ls) (i := (i : Int)) (by omega) (by omega), by rw [hb]; decide⟩
          have e1 : conV c ls = 0 := if_neg (by rw [e5]; decide)
          have e2 : conM c ls = [] := if_neg (by rw [e5]; decide)
          rw [e5]
          have his' := his (gt ls (i : Int))
          rw [hb] at his'
          repeat' (first
      | (apply G_call; eq_refl; eq_refl; (exact fun w' _ => his' w'); rintro _ _ ⟨rfl, rfl⟩)
      | (apply GC_seqK; intro K hK)
      | (apply hK; clear hK K)
      | (apply GC_block)
      | (apply GC_region)
      | (apply GL_nil)
      | (apply thenG_normal)
      | (apply thenG_ret)
      | (apply blockG_ret)
      | (apply GC_ret)
      | (apply GC_skip)
      | (apply GC_if_true; eq_refl)
      | (apply retGC1r; eq_refl; (repeat first | exact In.here | apply In.there | apply In.skip); eq_refl; eq_refl)
      | (apply GL_on; eq_refl; eq_refl)
      | (apply G_pv; eq_refl; first | exact trivial | omega)
      | (apply G_ldW; eq_refl; (repeat first | exact In.here | apply In.there | apply In.skip); eq_refl)
      | (apply G_rd; eq_refl; (first | (apply Rd.own; (repeat first | exact In.here | apply In.there | apply In.skip); infer_instance) | (apply Rd.old; (repeat first | exact In.here | apply In.there | apply In.skip); assumption) | (apply Rd.oldR; (repeat first | exact In.here | apply In.there | apply In.skip); assumption) | exact Rd.nil | assumption); (case ih => infer_instance); omega; omega; eq_refl)
      | (apply G_cmpT; eq_refl; eq_refl; omega)
      | (apply G_ix; eq_refl; eq_refl; (first | (apply Rd.own; (repeat first | exact In.here | apply In.there | apply In.skip); infer_instance) | (apply Rd.old; (repeat first | exact In.here | apply In.there | apply In.skip); assumption) | (apply Rd.oldR; (repeat first | exact In.here | apply In.there | apply In.skip); assumption) | exact Rd.nil | assumption); (first | eq_refl | omega); omega; omega)
      | (apply G_stW; (first | exact wr_p | kernel_rfl); eq_refl; eq_refl; eq_refl; eq_refl; (repeat first | exact Upd.here | apply Upd.there | apply Upd.skip); eq_refl)
      | (apply GX_pure; apply build44_))
          exact cnfRE_no e1 e2 (by repeat first | exact Wk.nil | exact Wk.refl | (apply Wk.cons; (focus ((repeat first | exact Rem.here | apply Rem.there | apply Rem.skip); done))) | apply Wk.nilv | apply Wk.last | apply Wk.drop)
        · have g0 := inB_t hb
          have hst := askM_succ c ls i
          rw [← hl] at hst
          unfold inR at g0
          have his' := his (gt ls (i : Int))
          rw [hb] at his'
          repeat' (first
      | (apply G_call; eq_refl; eq_refl; (exact fun w' _ => his' w'); rintro _ _ ⟨rfl, rfl⟩)
      | (apply GC_seqK; intro K hK)
      | (apply hK; clear hK K)
      | (apply GC_block)
      | (apply GC_region)
      | (apply GL_nil)
      | (apply thenG_normal)
      | (apply blockG_normal)
      | (apply GC_skip)
      | (apply GC_if_true; eq_refl)
      | (apply GC_if_false; eq_refl)
      | (apply GL_on; eq_refl; eq_refl)
      | (apply G_pv; eq_refl; first | exact trivial | omega)
      | (apply G_ld; eq_refl; (repeat first | exact In.here | apply In.there | apply In.skip); eq_refl)
      | (apply G_ldW; eq_refl; (repeat first | exact In.here | apply In.there | apply In.skip); eq_refl)
      | (apply G_rd; eq_refl; (first | (apply Rd.own; (repeat first | exact In.here | apply In.there | apply In.skip); infer_instance) | (apply Rd.old; (repeat first | exact In.here | apply In.there | apply In.skip); assumption) | (apply Rd.oldR; (repeat first | exact In.here | apply In.there | apply In.skip); assumption) | exact Rd.nil | assumption); (case ih => infer_instance); omega; omega; eq_refl)
      | (apply G_cmpT; eq_refl; eq_refl; omega)
      | (apply G_ix; eq_refl; eq_refl; (first | (apply Rd.own; (repeat first | exact In.here | apply In.there | apply In.skip); infer_instance) | (apply Rd.old; (repeat first | exact In.here | apply In.there | apply In.skip); assumption) | (apply Rd.oldR; (repeat first | exact In.here | apply In.there | apply In.skip); assumption) | exact Rd.nil | assumption); (first | eq_refl | omega); omega; omega)
      | (apply G_stV; (first | exact wr_p | kernel_rfl); eq_refl; eq_refl; eq_refl; eq_refl; (repeat first | exact Upd.here | apply Upd.there | apply Upd.skip); infer_instance; infer_instance; eq_refl; omega; (try simp only [List.length_set, List.length_append, List.length_replicate]); omega))
          exact ⟨(i + 1, _), (by repeat first | exact trivial | refine ⟨rfl, ?_⟩), (by repeat first | exact Wk.nil | exact Wk.refl | (apply Wk.cons; (focus ((repeat first | exact Rem.here | apply Rem.there | apply Rem.skip); done))) | apply Wk.nilv | apply Wk.last | apply Wk.drop), ⟨hlt, hst.symm, fun j h0 h1 => if hj : j = i then by rw [hj]; exact hb else hall j h0 (by simp only at h1; omega)⟩, by simp only; omega⟩
      obtain rfl : i = ls.length := by omega
      have e5 : conE c ls = 0 := by
        rw [e0, e3, if_pos]
        rw [List.all_eq_true]
        intro x hx
        obtain ⟨j, hj, rfl⟩ := List.mem_iff_getElem.1 hx
        have := hall (j : Int) (by omega) (by omega)
        rwa [gt_nat hj] at this
      have e1 : conV c ls = c.max + 1 := if_pos e5
      have e2 : conM c ls = clsM c (fun i => gt (conB c ls) ((gt c.ands i).1 / 2)) c.ands.length := if_pos e5
      repeat' (first
      | (apply GC_seqK; intro K hK)
      | (apply hK; clear hK K)
      | (clear hK K; apply hK; clear hK K)
      | (apply GC_block)
      | (apply GC_region)
      | (apply GL_nil)
      | (apply thenG_normal)
      | (apply thenG_exit)
      | (apply blockG_hit)
      | (apply GC_exit)
      | (apply GC_if_false; eq_refl)
      | (apply GL_on; eq_refl; eq_refl)
      | (apply G_pv; eq_refl; first | exact trivial | omega)
      | (apply G_cmpF; eq_refl; eq_refl; omega)
      | (apply G_len; eq_refl))
      refine GC_loopK [1, 2, 4, 6, 8] (fun s : Int × List Bool => [(11, nu s.1)]) (fun s => [.vec booc 1 4 (some ⟨bm, 0, none⟩) (c.max + 1).toNat s.2, .box b8 30 [.slice (some ⟨bm, 0, none⟩) (c.max + 1).toNat (c.max + 1).toNat], .vec icell 1 3 A0 k0 (ordM c), .box b4 44 [nu 0, .slice none 0 0], .box b2 29 (ccells c h), .old w none_]) (fun s => -1 ≤ s.1 ∧ s.1 < (ordM c).length ∧ Grow c l s.2 ∧ ∀ j : Nat, s.1 < j → j < (ordM c).length → closAt c s.2 (gt c.ands (gt (ordM c) (j : Int)))) (fun s => (s.1 + 1).toNat) (((ordM c).length : Int) - 1, l) (by repeat first | exact Pick.nil | (apply Pick.cons; eq_refl)) (by repeat first | exact trivial | refine ⟨rfl, ?_⟩) (by repeat first | exact Wk.nil | exact Wk.refl | (apply Wk.cons; (focus ((repeat first | exact Rem.here | apply Rem.there | apply Rem.skip); done))) | apply Wk.nilv | apply Wk.last | apply Wk.drop) ⟨by simp only; omega, by simp only; omega, Grow.refl c l, fun j h0 h1 => absurd h1 (by simp only at h0; omega)⟩ ?_
      rintro ⟨q, o⟩ ⟨hq0, hq1, hgr, hcl⟩
      dsimp only at hq0 hq1 hgr hcl ⊢
      have ho := hgr.len
      by_cases hq : 0 ≤ q
      · obtain ⟨t, rfl⟩ : ∃ t : Nat, q = (t : Int) := ⟨q.toNat, by omega⟩
        have hor2 := R.ord (gt_mem (l := ordM c) (i := (t : Int)) (by omega) (by omega))
        obtain ⟨g1, g2, g3⟩ := R.gate (gt_mem hor2.1 hor2.2)
        have hct := clos_two R (k := t) (o := o) (by omega) (by omega) fun j hj hj2 => hcl j (by omega) hj2
        unfold defR at g1
        unfold inR at g2 g3
        have hg2 := fun hb => hgr.two hor2.1 hor2.2 hb (by omega) (by omega) (by omega) (by omega) (by omega)
        cases hx1 : gt o ((gt c.ands (gt (ordM c) (t : Int))).1 / 2)
        · repeat' (first
      | (apply G_rd; eq_refl; (first | (apply Rd.own; (repeat first | exact In.here | apply In.there | apply In.skip); infer_instance) | (apply Rd.old; (repeat first | exact In.here | apply In.there | apply In.skip); assumption) | (apply Rd.oldR; (repeat first | exact In.here | apply In.there | apply In.skip); assumption) | exact Rd.nil | assumption); (case ih => infer_instance); omega; omega; (rw [hx1]; eq_refl))
      | (apply GC_seqK; intro K hK)
      | (apply hK; clear hK K)
      | (apply GC_block)
      | (apply GC_region)
      | (apply GL_nil)
      | (apply thenG_normal)
      | (apply blockG_normal)
      | (apply GC_skip)
      | (apply GC_if_true; eq_refl)
      | (apply GC_if_false; eq_refl)
      | (apply GL_on; eq_refl; eq_refl)
      | (refine GC_draws (id := 17) [.q 0, .q 1, .q 2, .q 3, .q 4, .q 5, .q 6, .q 7, .c 8, .c 9] mixed (by kernel_rfl) (by kernel_rfl) ?_)
      | (apply GS_nil)
      | (apply GS_qon; eq_refl; eq_refl; eq_refl; eq_refl)
      | (apply GS_con; eq_refl; eq_refl; eq_refl; eq_refl)
      | (apply G_pv; eq_refl; first | exact trivial | omega)
      | (apply G_field; eq_refl)
      | (apply G_ld; eq_refl; (repeat first | exact In.here | apply In.there | apply In.skip); eq_refl)
      | (apply G_rd; eq_refl; (first | (apply Rd.own; (repeat first | exact In.here | apply In.there | apply In.skip); infer_instance) | (apply Rd.old; (repeat first | exact In.here | apply In.there | apply In.skip); assumption) | (apply Rd.oldR; (repeat first | exact In.here | apply In.there | apply In.skip); assumption) | exact Rd.nil | assumption); (case ih => infer_instance); omega; omega; eq_refl)
      | (apply G_rdW; eq_refl; (first | (apply Rd.own; (repeat first | exact In.here | apply In.there | apply In.skip); infer_instance) | (apply Rd.old; (repeat first | exact In.here | apply In.there | apply In.skip); assumption) | (apply Rd.oldR; (repeat first | exact In.here | apply In.there | apply In.skip); assumption) | exact Rd.nil | assumption); infer_instance; (case ih => infer_instance); omega; omega)
      | (apply G_cmpT; eq_refl; eq_refl; omega)
      | (apply G_ix; eq_refl; eq_refl; (first | (apply Rd.own; (repeat first | exact In.here | apply In.there | apply In.skip); infer_instance) | (apply Rd.old; (repeat first | exact In.here | apply In.there | apply In.skip); assumption) | (apply Rd.oldR; (repeat first | exact In.here | apply In.there | apply In.skip); assumption) | exact Rd.nil | assumption); (first | eq_refl | omega); omega; omega)
      | (apply G_alloc; eq_refl; intro _)
      | (apply G_stW; (first | exact wr_p | kernel_rfl); eq_refl; eq_refl; eq_refl; eq_refl; (repeat first | exact Upd.here | apply Upd.there | apply Upd.skip); eq_refl))
          exact ⟨((t : Int) - 1, o), (by repeat first | exact trivial | refine ⟨rfl, ?_⟩), (by repeat first | exact Wk.nil | exact Wk.refl | (apply Wk.cons; (focus ((repeat first | exact Rem.here | apply Rem.there | apply Rem.skip); done))) | apply Wk.nilv | apply Wk.last | apply Wk.drop), ⟨by simp only; omega, by simp only; omega, hgr, fun j h0 h1 => if hj : j = t then by rw [hj]; exact fun hx => by rw [hx1] at hx; cases hx else hcl j (by simp only at h0; omega) h1⟩, by simp only; omega⟩
        · repeat' (first
      | (apply GC_drawsP (id := 19) (C := [.vec booc 1 4 (some ⟨bm, 0, none⟩) (c.max + 1).toNat o]) [.q 0, .q 1, .q 2, .q 3, .q 4, .q 5, .q 6, .q 7, .q 8, .c 9, .q 10, .c 11]; exact mixed; kernel_rfl; kernel_rfl; (repeat first | exact Rems.nil | (apply Rems.cons; (focus ((repeat first | exact Rem.here | apply Rem.there | apply Rem.skip); done)))))
      | (apply GS_nilP)
      | (apply G_stVP true; eq_refl; eq_refl; eq_refl; eq_refl; (repeat first | exact Upd.here | apply Upd.there | apply Upd.skip); infer_instance; infer_instance; eq_refl; omega; (try simp only [List.length_set]); omega)
      | (apply G_rd; eq_refl; (first | (apply Rd.own; (repeat first | exact In.here | apply In.there | apply In.skip); infer_instance) | (apply Rd.old; (repeat first | exact In.here | apply In.there | apply In.skip); assumption) | (apply Rd.oldR; (repeat first | exact In.here | apply In.there | apply In.skip); assumption) | exact Rd.nil | assumption); (case ih => infer_instance); omega; omega; (rw [hx1]; eq_refl))
      | (apply GC_seqK; intro K hK)
      | (apply hK; clear hK K)
      | (apply GC_block)
      | (apply GC_region)
      | (apply GL_nil)
      | (apply thenG_normal)
      | (apply blockG_normal)
      | (apply GC_skip)
      | (apply GC_if_true; eq_refl)
      | (apply GL_on; eq_refl; eq_refl)
      | (refine GC_draws (id := 17) [.q 0, .q 1, .q 2, .q 3, .q 4, .q 5, .q 6, .q 7, .c 8, .c 9] mixed (by kernel_rfl) (by kernel_rfl) ?_)
      | (apply GS_qon; eq_refl; eq_refl; eq_refl; eq_refl)
      | (apply GS_con; eq_refl; eq_refl; eq_refl; eq_refl)
      | (apply G_pv; eq_refl; first | exact trivial | omega)
      | (apply G_field; eq_refl)
      | (apply G_ld; eq_refl; (repeat first | exact In.here | apply In.there | apply In.skip); eq_refl)
      | (apply G_rd; eq_refl; (first | (apply Rd.own; (repeat first | exact In.here | apply In.there | apply In.skip); infer_instance) | (apply Rd.old; (repeat first | exact In.here | apply In.there | apply In.skip); assumption) | (apply Rd.oldR; (repeat first | exact In.here | apply In.there | apply In.skip); assumption) | exact Rd.nil | assumption); (case ih => infer_instance); omega; omega; eq_refl)
      | (apply G_rdW; eq_refl; (first | (apply Rd.own; (repeat first | exact In.here | apply In.there | apply In.skip); infer_instance) | (apply Rd.old; (repeat first | exact In.here | apply In.there | apply In.skip); assumption) | (apply Rd.oldR; (repeat first | exact In.here | apply In.there | apply In.skip); assumption) | exact Rd.nil | assumption); infer_instance; (case ih => infer_instance); omega; omega)
      | (apply G_cmpT; eq_refl; eq_refl; omega)
      | (apply G_ix; eq_refl; eq_refl; (first | (apply Rd.own; (repeat first | exact In.here | apply In.there | apply In.skip); infer_instance) | (apply Rd.old; (repeat first | exact In.here | apply In.there | apply In.skip); assumption) | (apply Rd.oldR; (repeat first | exact In.here | apply In.there | apply In.skip); assumption) | exact Rd.nil | assumption); (first | eq_refl | omega); omega; omega)
      | (apply G_ixA; eq_refl; eq_refl; omega; omega)
      | (apply G_alloc; eq_refl; intro _)
      | (apply G_stW; (first | exact wr_p | kernel_rfl); eq_refl; eq_refl; eq_refl; eq_refl; (repeat first | exact Upd.here | apply Upd.there | apply Upd.skip); eq_refl))
          exact ⟨((t : Int) - 1, two o ((gt c.ands (gt (ordM c) (t : Int))).2.1 / 2) ((gt c.ands (gt (ordM c) (t : Int))).2.2 / 2)), (by repeat first | exact trivial | refine ⟨rfl, ?_⟩), (by repeat first | exact Wk.nil | exact Wk.refl | (apply Wk.cons; (focus ((repeat first | exact Rem.here | apply Rem.there | apply Rem.skip); done))) | apply Wk.nilv | apply Wk.last | apply Wk.drop), ⟨by simp only; omega, by simp only; omega, hg2 hx1, fun j h0 h1 => hct j (by simp only at h0; omega) h1⟩, by simp only; omega⟩
      · have hcB := conB_eq (B := o) (by rw [← hl]; exact hgr.done (closB_ord R fun j hj => hcl j (by omega) hj))
        have hm : ∀ Γ, In Γ (.old w none_) → In Γ (.box b8 30 [.slice (some ⟨bm, 0, none⟩) (c.max + 1).toNat (c.max + 1).toNat]) → In Γ (.vec booc 1 4 (some ⟨bm, 0, none⟩) (c.max + 1).toNat o) → In Γ (.box b2 29 (ccells c h)) → ∀ w', Mem w' Γ → CVN Try.prog 55 [.agg (ccells c h).toArray, .func (.func 62) #[] #[pt b8, pt b2]] w' (CnfR (c.max + 1) (clsM c (fun i => gt (conB c ls) ((gt c.ands i).1 / 2)) c.ands.length)) := fun Γ h0 h8 hv h2 w' M => by
          rw [hcB]
          refine made_cv R (H.at_.chg (h0.old M)) fun i hi0 hi1 w2 hc2 => ?_
          have hg := (R.gate (gt_mem (l := c.ands) hi0 hi1)).1
          unfold defR at hg
          exact cone1_cv ((h8.box M).chg hc2 id) ((hv.row M).chg hc2) (by omega) ((h2.box M).chg hc2 id) ((H.at_.chg (h0.old M)).chg hc2) hi0 hi1 ⟨by omega, by omega, by omega⟩
        repeat' (first
      | (apply G_call; eq_refl; eq_refl; (apply hm; (repeat first | exact In.here | apply In.there | apply In.skip); (repeat first | exact In.here | apply In.there | apply In.skip); (repeat first | exact In.here | apply In.there | apply In.skip); (repeat first | exact In.here | apply In.there | apply In.skip)); rintro _ _ ⟨ps, A, kA, rfl, hps, rfl⟩)
      | (apply GC_seqK; intro K hK)
      | (apply hK; clear hK K)
      | (clear hK K; apply hK; clear hK K)
      | (apply GC_region)
      | (apply GL_nil)
      | (apply thenG_normal)
      | (apply thenG_exit)
      | (apply blockG_hit)
      | (apply GC_ret)
      | (apply GC_exit)
      | (apply GC_if_false; eq_refl)
      | (apply retGC1r; eq_refl; (repeat first | exact In.here | apply In.there | apply In.skip); eq_refl; eq_refl)
      | (apply GL_on; eq_refl; eq_refl)
      | (apply G_pv; eq_refl; first | exact trivial | omega)
      | (apply G_ldW; eq_refl; (repeat first | exact In.here | apply In.there | apply In.skip); eq_refl)
      | (apply G_cmpF; eq_refl; eq_refl; omega)
      | (apply G_stW; (first | exact wr_p | kernel_rfl); eq_refl; eq_refl; eq_refl; eq_refl; (repeat first | exact Upd.here | apply Upd.there | apply Upd.skip); eq_refl)
      | (apply G_fun; eq_refl))
        refine ⟨cnB ps A kA, (by repeat first | exact Wk.left | exact Wk.nil | exact Wk.refl | (apply Wk.cons; (focus ((repeat first | exact Rem.here | apply Rem.there | apply Rem.skip); done))) | apply Wk.nilv | apply Wk.last | apply Wk.drop), ps, A, kA, ?_, ?_, rfl⟩
        · rw [e1, e5]
        · rw [e2]; exact hps
  · have e5 : conE c ls = (lookM c).2 := if_pos he
    have e1 : conV c ls = 0 := if_neg (by rw [e5]; exact he)
    have e2 : conM c ls = [] := if_neg (by rw [e5]; exact he)
    have hord : ∀ Γ, In Γ (.old w none_) → ∀ w', Mem w' Γ → CVN Try.prog 61 [.agg (ccells c h).toArray] w' fun v N => v = .tuple #[.slice none 0 0, nu (lookM c).2] ∧ N = [] := fun Γ hi w' M => (hor Γ hi w' M).mono fun v N hv => by
      rcases hv with ⟨_, hv⟩ | ⟨h1, _⟩
      · exact hv
      · exact absurd h1 he
    rw [e5]
    generalize (lookM c).2 = ε at *
    repeat' (first
      | (apply G_call; eq_refl; eq_refl; (apply hord; (repeat first | exact In.here | apply In.there | apply In.skip)); rintro _ _ ⟨rfl, rfl⟩)
      | (apply GC_seqK; intro K hK)
      | (apply hK; clear hK K)
      | (apply GC_region)
      | (apply GL_nil)
      | (apply thenG_normal)
      | (apply thenG_ret)
      | (apply GC_ret)
      | (apply GC_if_true; eq_refl)
      | (apply retGC1r; eq_refl; (repeat first | exact In.here | apply In.there | apply In.skip); eq_refl; eq_refl)
      | (apply GL_on; eq_refl; eq_refl)
      | (apply G_pv; eq_refl; first | exact trivial | omega)
      | (apply G_ldW; eq_refl; (repeat first | exact In.here | apply In.there | apply In.skip); eq_refl)
      | (apply G_cmpT; eq_refl; eq_refl; omega)
      | (apply G_alloc; eq_refl; intro _)
      | (apply G_box; eq_refl; eq_refl; intro _)
      | (apply G_stW; (first | exact wr_p | kernel_rfl); eq_refl; eq_refl; eq_refl; eq_refl; (repeat first | exact Upd.here | apply Upd.there | apply Upd.skip); eq_refl)
      | (apply GX_pure; apply build44_))
    exact cnfRE_no e1 e2 (by repeat first | exact Wk.nil | exact Wk.refl | (apply Wk.cons; (focus ((repeat first | exact Rem.here | apply Rem.there | apply Rem.skip); done))) | apply Wk.nilv | apply Wk.last | apply Wk.drop)
end SC
end Go.Proofs.Yticndofcfacopaa
end
section
/- trestlelaw15: EncodeGates: the walk; numbers that come in. -/
set_option linter.unusedVariables false
set_option linter.unusedSimpArgs false
namespace Go.Proofs.Yticndofcfacopaa
namespace SC
open Go.Proofs
theorem clsM_small (c : Circ) (p : Int → Bool) : ∀ (n : Nat), ∀ l ∈ clsM c p n, l.length ≤ 3
  | 0, l, h => by rw [clsM_zero] at h; simp at h; subst h; decide
  | n + 1, l, h => by
    rw [clsM_succ] at h
    rcases List.mem_append.1 h with h | h
    · exact clsM_small c p n l h
    · split at h
      · unfold gateCl at h
        simp only [List.mem_cons, List.not_mem_nil, or_false] at h
        rcases h with rfl | rfl | rfl <;> exact Nat.le_of_ble_eq_true rfl
      · cases h
def SmallC (m : List (List Int)) : Prop := m.length ≤ 50000 ∧ ∀ l ∈ m, l.length ≤ 3
theorem clsM_sm {c : Circ} (R : Right c) (p : Int → Bool) : SmallC (clsM c p c.ands.length) := ⟨by have := clsM_len c p c.ands.length; have := R.nAnd; omega, clsM_small c p _⟩
theorem nil_sm : SmallC [] := ⟨Nat.zero_le _, fun l h => by cases h⟩
theorem cnfGM_sm {w : World} {c : Circ} {h js : Hd} (H : CirIn w c h js) : SmallC (cnfGM c) := by
  unfold cnfGM
  split
  · rename_i he
    exact clsM_sm (right_of H.at_ H.sane he) _
  · exact nil_sm
theorem conM_sm {w : World} {c : Circ} {h js : Hd} (H : CirIn w c h js) (ls : List Int) : SmallC (conM c ls) := by
  unfold conM
  split
  · rename_i hz
    have he : (lookM c).2 = 0 := by
      unfold conE at hz
      split at hz
      · exact absurd hz (by assumption)
      · omega
    exact clsM_sm (right_of H.at_ H.sane he) _
  · exact nil_sm
theorem CnfAt.bun {Γ : Mm} {w : World} {A : Option Addr} {k : Nat} {ps : List (Hdl × List Int)} (hi : In Γ (.any (bun (cnB ps A k)))) (M : Mem w Γ) : CnfAt w A ps := by
  have M' := hi.bun M
  refine ⟨(In.here (E := .vec encS 1 62 A k ps) (Γ := fam rowJ ps)).row M', fun p hp => ?_⟩
  have hE := fam_mem (f := rowJ) hp (E := .vec icell 1 3 p.1.1 p.1.2 p.2) (by unfold rowJ; simp)
  exact (In.there (In.of hE)).row M'
/-- A formula, bound together. -/
def CnfB (V : Int) (m : List (List Int)) (ε : Int) (v : Value) (N : Mm) : Prop := ∃ ps A k, v = .tuple #[.agg #[nu V, .slice A ps.length k], nu ε] ∧ ps.map (·.2) = m ∧ N = [.any (bun (cnB ps A k))]
theorem CnfRE.to {P : Program} {f : FuncId} {args : List Value} {w : World} {V ε : Int} {m : List (List Int)} (h : CVN P f args w (CnfRE V m ε)) : CVN P f args w (CnfB V m ε) := h.bun.mono fun v N ⟨N', ⟨ps, A, k, e1, e2, e3⟩, e4⟩ => ⟨ps, A, k, e1, e2, by rw [e4, e3]⟩
theorem owns_bun {Δ : Mm} {k : Nat} : owns Δ k ↔ owns [.any (bun Δ)] k := by rw [owns_cons]; exact ⟨fun h => .inl h, fun h => h.elim id fun h => absurd h owns_nil⟩
theorem spoilCnfB {w : World} {V mark : Int} {A : Option Addr} {k : Nat} {ps : List (Hdl × List Int)} (hn : ps.length ≤ 1000000) (M : Mem w [.any (bun (cnB ps A k))]) : CVM Try.prog 28 [.agg #[nu V, .slice A ps.length k], nu mark] w [.any (bun (cnB ps A k))] fun v N => N = [] :=
  CVM.same (spoilCnf_cv hn (In.here.bun M)) fun k => owns_bun
theorem sameCnfB {Γ : Mm} {w : World} {V : Int} {m : List (List Int)} {A B : Option Addr} {k k2 : Nat} {ps qs : List (Hdl × List Int)} (hs : SmallC m) (h1 : In Γ (.any (bun (cnB ps A k)))) (h2 : In Γ (.any (bun (cnB qs B k2)))) (e1 : ps.map (·.2) = m) (e2 : qs.map (·.2) = m) (M : Mem w Γ) :
    CVN Try.prog 27 [.agg #[nu V, .slice A ps.length k], .agg #[nu V, .slice B qs.length k2]] w fun v N => N = [] ∧ v = .bool true := by
  have hl := congrArg List.length e1
  rw [List.length_map] at hl
  have := hs.1
  exact sameCnf_cv (CnfAt.bun h1 M) (CnfAt.bun h2 M) (e1.trans e2.symm) (by omega) fun p hp => by
    have := hs.2 p.2 (by rw [← e1]; exact List.mem_map.2 ⟨p, hp, rfl⟩)
    omega
attribute [local irreducible] WC WL WX WS WO OX Does DoesU Enters CV Pure thenQ blockQ retQ Wants retQC GC GL GS GX RdB thenG blockG retG Rd At gt CVN CVM
attribute [local irreducible] lentX bun
set_option maxRecDepth 100000
set_option maxHeartbeats 1600000 in
theorem encodeGates_cv {w : World} {c : Circ} {h js : Hd} {l : Int} {S : Option Addr} {k : Nat} {ls : List Int} (H : CirGot w c h js) (hS : RowA w icell 1 S ls) (hk : S = none → k = 0) (hn : ls.length ≤ 17592186044000) :
    CVN Try.prog 4 [.agg (ccells c h).toArray, nu l, .slice S ls.length k] w fun v N => N = [] ∧ v = .bool true := by
  have sm1 := cnfGM_sm H.toCirIn
  have sm2 := conM_sm H.toCirIn ls
  have hL : ∀ Γ, In Γ (.old w none_) → ∀ w', Mem w' Γ → CVN Try.prog 12 [.agg (ccells c h).toArray] w' (LendR c) := fun Γ hi w' M => LendG (H.at_.chg (hi.old M)) H.fits1 H.nils
  have hLI : ∀ Γ, In Γ (.old w none_) → ∀ w', Mem w' Γ → CVN Try.prog 20 [.slice S ls.length k] w' (LendIR ls) := fun Γ ho w' M => lendIntsG (hS.chg (ho.old M)) hk hn
  have hG : ∀ Γ base h' js', In Γ (.any (lentX base c h' js')) → ∀ w', Mem w' Γ → CVN Try.prog 21 [.agg (ccells c h').toArray] w' (CnfB (cnfGV c) (cnfGM c) (lookM c).2) := fun Γ base h' js' hi w' M => CnfRE.to (GatesP_cv (In.lent H.toCirIn hi M))
  have hG2 : ∀ Γ, In Γ (.old w none_) → ∀ w', Mem w' Γ → CVN Try.prog 22 [.agg (ccells c h).toArray] w' (CnfB (cnfGV c) (cnfGM c) (lookM c).2) := fun Γ ho w' M => CnfRE.to (GatesRef_cv (H.toCirIn.chg (ho.old M)))
  have hl1 : ∀ Γ base h' js', In Γ (.any (lentX base c h' js')) → ∀ w', Mem w' Γ → CVN Try.prog 23 [.agg (ccells c h').toArray, nu l] w' _ := fun Γ base h' js' hi w' M => LitP_cv (In.lent H.toCirIn hi M)
  have hl2 : ∀ Γ, In Γ (.old w none_) → ∀ w', Mem w' Γ → CVN Try.prog 24 [.agg (ccells c h).toArray, nu l] w' _ := fun Γ ho w' M => LitRef_cv (H.toCirIn.chg (ho.old M))
  have hC : ∀ Γ base h' js' A k', In Γ (.any (lentX base c h' js')) → In Γ (.vec icell 1 3 A k' (ls ++ [-77])) → ∀ w', Mem w' Γ → CVN Try.prog 25 [.agg (ccells c h').toArray, .slice A ls.length k'] w' (CnfB (conV c ls) (conM c ls) (conE c ls)) := fun Γ base h' js' A k' hi hv w' M => CnfRE.to (ConeP_cv (In.lent H.toCirIn hi M) (hv.rowL M) (by omega))
  have hC2 : ∀ Γ, In Γ (.old w none_) → ∀ w', Mem w' Γ → CVN Try.prog 26 [.agg (ccells c h).toArray, .slice S ls.length k] w' (CnfB (conV c ls) (conM c ls) (conE c ls)) := fun Γ ho w' M => CnfRE.to (ConeRef_cv (H.toCirIn.chg (ho.old M)) (hS.chg (ho.old M)) (by omega))
  have hKp : ∀ Γ base h' js', In Γ (.any (lentX base c h' js')) → In Γ (.old w none_) → ∀ w', Mem w' Γ → CVN Try.prog 18 [.agg (ccells c h').toArray, .agg (ccells c h).toArray] w' _ := fun Γ base h' js' hi ho w' M => KeptG H hi ho M
  have hKI : ∀ Γ A k', In Γ (.vec icell 1 3 A k' (ls ++ [-77])) → In Γ (.old w none_) → ∀ w', Mem w' Γ → CVN Try.prog 29 [.slice A ls.length k', .slice S ls.length k] w' _ := fun Γ A k' hv ho w' M => keptIntsG hv (hS.chg (ho.old M)) hn M
  have hW : ∀ w', CVN Try.prog 19 [] w' _ := fun w' => works15_cv
  refine CVN.enter 114 [6] Try.func4 rfl rfl rfl (by decide) rfl ?_
  generalize cnfGV c = V at *
  generalize cnfGM c = m at *
  generalize conV c ls = V2 at *
  generalize conM c ls = m2 at *
  generalize conE c ls = ε2 at *
  generalize liV c l = x at *
  generalize liE c l = ε3 at *
  generalize (lookM c).2 = ε at *
  have hs1 : ∀ Γ A B k k2 ps qs, In Γ (.any (bun (cnB ps A k))) → In Γ (.any (bun (cnB qs B k2))) → ps.map (·.2) = m → qs.map (·.2) = m → ∀ w', Mem w' Γ → CVN Try.prog 27 [.agg #[nu V, .slice A ps.length k], .agg #[nu V, .slice B qs.length k2]] w' fun v N => N = [] ∧ v = .bool true := fun Γ A B k k2 ps qs h1 h2 e1 e2 w' M => sameCnfB sm1 h1 h2 e1 e2 M
  have hs2 : ∀ Γ A B k k2 ps qs, In Γ (.any (bun (cnB ps A k))) → In Γ (.any (bun (cnB qs B k2))) → ps.map (·.2) = m2 → qs.map (·.2) = m2 → ∀ w', Mem w' Γ → CVN Try.prog 27 [.agg #[nu V2, .slice A ps.length k], .agg #[nu V2, .slice B qs.length k2]] w' fun v N => N = [] ∧ v = .bool true := fun Γ A B k k2 ps qs h1 h2 e1 e2 w' M => sameCnfB sm2 h1 h2 e1 e2 M
  have hsp : ∀ (A : Option Addr) (k : Nat) (ps : List (Hdl × List Int)), ps.map (·.2) = m → ∀ w', Mem w' [.any (bun (cnB ps A k))] → CVM Try.prog 28 [.agg #[nu V, .slice A ps.length k], nu (-7)] w' [.any (bun (cnB ps A k))] fun v N => N = [] := fun A k ps e w' M => spoilCnfB (by have hl := congrArg List.length e; rw [List.length_map] at hl; have := sm1.1; omega) M
  repeat' (first
      | (apply G_call; eq_refl; eq_refl; (apply hL; (repeat first | exact In.here | apply In.there | apply In.skip)); rintro _ _ ⟨base, h', js', rfl, rfl⟩)
      | (apply G_call; eq_refl; eq_refl; (apply hLI; (repeat first | exact In.here | apply In.there | apply In.skip)); rintro _ _ ⟨A0, k0, rfl, rfl⟩)
      | (apply GC_seqK; intro K hK)
      | (apply hK; clear hK K)
      | (apply GC_region)
      | (apply GL_nil)
      | (apply thenG_normal)
      | (apply GL_on; eq_refl; eq_refl)
      | (apply G_pv; eq_refl; first | exact trivial | omega)
      | (apply G_ldW; eq_refl; (repeat first | exact In.here | apply In.there | apply In.skip); eq_refl)
      | (apply G_alloc; eq_refl; intro _)
      | (apply G_box; eq_refl; eq_refl; intro _)
      | (apply G_stW; (first | exact wr_p | kernel_rfl); eq_refl; eq_refl; eq_refl; eq_refl; (repeat first | exact Upd.here | apply Upd.there | apply Upd.skip); eq_refl))
  apply G_call; eq_refl; eq_refl; (apply hG; (repeat first | exact In.here | apply In.there | apply In.skip)); rintro _ _ ⟨p1, A1, k1, rfl, e1, rfl⟩
  repeat' (first
      | (apply G_call; eq_refl; eq_refl; (apply hG; (repeat first | exact In.here | apply In.there | apply In.skip)); rintro _ _ ⟨p2, A2, k2, rfl, e2, rfl⟩)
      | (apply G_call; eq_refl; eq_refl; (apply hG2; (repeat first | exact In.here | apply In.there | apply In.skip)); rintro _ _ ⟨p3, A3, k3, rfl, e3, rfl⟩)
      | (apply G_call; eq_refl; eq_refl; (apply hl1; (repeat first | exact In.here | apply In.there | apply In.skip)); rintro _ _ ⟨rfl, rfl⟩)
      | (apply G_call; eq_refl; eq_refl; (apply hl2; (repeat first | exact In.here | apply In.there | apply In.skip)); rintro _ _ ⟨rfl, rfl⟩)
      | (apply G_call; eq_refl; eq_refl; (apply hC; (repeat first | exact In.here | apply In.there | apply In.skip); (repeat first | exact In.here | apply In.there | apply In.skip)); rintro _ _ ⟨p4, A4, k4, rfl, e4, rfl⟩)
      | (apply G_call; eq_refl; eq_refl; (apply hC2; (repeat first | exact In.here | apply In.there | apply In.skip)); rintro _ _ ⟨p5, A5, k5, rfl, e5, rfl⟩)
      | (apply G_call; eq_refl; eq_refl; (apply hs1; (repeat first | exact In.here | apply In.there | apply In.skip); (repeat first | exact In.here | apply In.there | apply In.skip); (first | exact e1 | exact e2); exact e3); rintro _ _ ⟨rfl, rfl⟩)
      | (apply G_call; eq_refl; eq_refl; (apply hs2; (repeat first | exact In.here | apply In.there | apply In.skip); (repeat first | exact In.here | apply In.there | apply In.skip); exact e4; exact e5); rintro _ _ ⟨rfl, rfl⟩)
      | (apply G_callM2; exact wr_p; eq_refl; (exact hsp A1 k1 p1 e1); (repeat first | exact Rems.nil | (apply Rems.cons; (focus ((repeat first | exact Rem.here | apply Rem.there | apply Rem.skip); done)))); rintro _ _ rfl)
      | (apply G_call; eq_refl; eq_refl; (apply hKp; (repeat first | exact In.here | apply In.there | apply In.skip); (repeat first | exact In.here | apply In.there | apply In.skip)); rintro _ _ ⟨rfl, rfl⟩)
      | (apply G_call; eq_refl; eq_refl; (apply hKI; (repeat first | exact In.here | apply In.there | apply In.skip); (repeat first | exact In.here | apply In.there | apply In.skip)); rintro _ _ ⟨rfl, rfl⟩)
      | (apply G_call; eq_refl; eq_refl; (exact fun w' _ => hW w'); rintro _ _ ⟨rfl, rfl⟩)
      | (apply GC_seqK; intro K hK)
      | (apply hK; clear hK K)
      | (apply GC_region)
      | (apply GL_nil)
      | (apply thenG_normal)
      | (apply GC_ret)
      | (apply GC_skip)
      | (apply GC_if_false; eq_refl)
      | (apply retG1; eq_refl)
      | (apply GL_on; eq_refl; eq_refl)
      | (apply G_pv; eq_refl; first | exact trivial | omega)
      | (apply G_ldW; eq_refl; (repeat first | exact In.here | apply In.there | apply In.skip); eq_refl)
      | (apply G_cmpF; eq_refl; eq_refl; omega)
      | (apply G_alloc; eq_refl; intro _)
      | (apply G_stW; (first | exact wr_p | kernel_rfl); eq_refl; eq_refl; eq_refl; eq_refl; (repeat first | exact Upd.here | apply Upd.there | apply Upd.skip); eq_refl))
  exact ⟨[], (by repeat first | exact Wk.nil | exact Wk.refl | (apply Wk.cons; (focus ((repeat first | exact Rem.here | apply Rem.there | apply Rem.skip); done))) | apply Wk.nilv | apply Wk.last | apply Wk.drop), rfl, rfl⟩
end SC
end Go.Proofs.Yticndofcfacopaa
end
section
/- Lists of numbers and numbers that come in. -/
set_option linter.unusedVariables false
set_option linter.unusedSimpArgs false
namespace Go.Proofs.Yticndofcfacopaa
namespace SC
open Go.Proofs
set_option maxRecDepth 100000
section
variable {H : Type} {enc : TypeId × Value → H} {W : World} {base : Nat} {spare : Nat → Bool} {held : Bool}
theorem openNumsF {fuel : Nat} {cs : List Value} {x : DataW H × List MemPlace} (h : DataW.trod enc Try.prog W base spare held fuel 22 cs = some x) : ∃ (A : Option Addr) (cp : Nat) (l : List Int), cs = [.slice A l.length cp] ∧ RowA W icell 1 A l ∧ (∀ a ∈ l, fits a) ∧ (A = none → cp = 0) ∧ (∀ R, (∀ n ∈ x.1.weights Try.prog 22, n ≤ R) → l.length * 8 ≤ R) := by
  obtain ⟨A, cp, l, e, r, g, _, z, w⟩ := openRowS icell (fun a _ => fits a) Try.underlying22 (by kernel_rfl) (fun _ => rfl) (fun _ _ _ h => openIntS h) h
  refine ⟨A, cp, l, e, r, fun a ha => ?_, z, fun R hR => ?_⟩
  · obtain ⟨d, hd, _⟩ := g a ha
    exact hd
  · have := w R hR
    rw [bytes3] at this
    exact this
theorem openNumsS {v : Value} {d : DataW H} {ps : List MemPlace} {r : Reach} {b0 : Nat} (hv : Value.okWide Try.prog W r b0 22 v) (h : DataW.Trod enc Try.prog W base spare held 22 v d ps) (hz : ∀ n ∈ d.weights Try.prog 22, n ≤ 140737488351232) :
    ∃ (A : Option Addr) (cp : Nat) (l : List Int), v = .slice A l.length cp ∧ RowA W icell 1 A l ∧ (A = none → cp = 0) ∧ l.length ≤ 17592186043904 ∧ (∀ a ∈ l, fits a) := by
  obtain ⟨A, n, cp, rfl⟩ := Go.WideShapes.okWide_slice Try.underlying22 hv
  obtain ⟨fuel, hf⟩ := h
  rw [cells_slice] at hf
  obtain ⟨A', cp', l, e, r, g, z, w⟩ := openNumsF hf
  cases (List.cons.inj e).1
  exact ⟨_, _, l, rfl, r, z, by have := w _ hz; omega, g⟩
theorem openNumS {v : Value} {d : DataW H} {ps : List MemPlace} {r : Reach} {b0 : Nat} (hv : Value.okWide Try.prog W r b0 3 v) (h : DataW.Trod enc Try.prog W base spare held 3 v d ps) : ∃ a, v = nu a ∧ fits a := by
  obtain ⟨z, rfl, _⟩ := Go.WideShapes.okWide_int Try.underlying3 hv
  obtain ⟨fuel, hf⟩ := h
  obtain ⟨a, e, ha⟩ := openIntS (cs := [nu z]) hf
  cases (List.cons.inj e).1
  exact ⟨z, rfl, ha⟩
end
end SC
end Go.Proofs.Yticndofcfacopaa
end
