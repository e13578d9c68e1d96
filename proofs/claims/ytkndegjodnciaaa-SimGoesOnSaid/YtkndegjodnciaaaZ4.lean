/- Texts of this seat, one behind the other: S19 S20 S21 S22 S23 S24 S25 S26. -/
import Derived.Test.YtkndegjodnciaaaZ3
section
/- trestlebook: SameInts, SpoilInts, SameTrace; trestlelaw07: same. -/
set_option linter.unusedVariables false
set_option linter.unusedSimpArgs false
namespace Go.Proofs.Ytkndegjodnciaaa
namespace SC
open Go.Proofs Go.Maps
set_option maxRecDepth 100000
theorem sameIntsG {w : World} {A B : Option Addr} {c d : Nat} {l : List Int} (R : RowA w icell 1 A l) (R' : RowA w icell 1 B l) (hl : l.length ≤ 9223372036854775807) : CVN Try.prog 28 [.slice A l.length c, .slice B l.length d] w fun v N => N = [] ∧ v = .bool true :=
  CVN.of (sameInts_cv R R' hl hl) fun v w' h => ⟨h.2, by rw [h.1, decide_eq_true rfl]⟩
/-! ### spots -/
theorem wide138 : (match Try.prog.underlying 138 with | some (.array _ _) | some (.struct _) => true | _ => false) = true := by rw [Try.underlying138]
theorem formed138 {a b : Value} : (Value.agg #[a, b]).formed Try.prog 138 = true := by
  have : Try.prog.cellsOf 138 = 2 := by kernel_rfl
  simp [Value.formed, Try.underlying138, this]
theorem key138 {a b : Int} (ha : fits a) (hb : fits b) : keyOf Try.prog 138 (.agg #[.int .i64 a, .int .i64 b]) = some (.string (keyBytes [.int .i64 a, .int .i64 b])) := by
  have h1 : Try.prog.keyType 138 = true := by kernel_rfl
  have h2 : Try.prog.cellsOf 138 = 2 := by kernel_rfl
  have h3 : Try.prog.cellsOf 3 = 1 := by kernel_rfl
  have h4 : ∃ k, Try.prog.types.size = k + 1 := ⟨Try.prog.types.size - 1, by have : 0 < Try.prog.types.size := of_decide_eq_true (by kernel_rfl); omega⟩
  obtain ⟨k, hk⟩ := h4
  unfold keyOf
  rw [Try.underlying138]
  simp only [h1, formed138, Bool.and_self, if_true]
  rw [hk]
  simp [Program.keyLits, Try.underlying138, Try.underlying3, h2, h3, Value.cells, wf_of_fits ha, wf_of_fits hb]
theorem run_same138 {a b : Int} (ha : fits a) (hb : fits b) (w : World) : ∃ r, (Op.equal 138 (.agg #[.int .i64 a, .int .i64 b]) (.agg #[.int .i64 a, .int .i64 b])).run Try.prog w = .ok r w ∧ (r = true ↔ True) := by
  obtain ⟨r, h2, h3⟩ := run_equal_deep (P := Try.prog) w (m := 2) (by decide) (k := 138) (by kernel_rfl) wide138 (key138 ha hb) (key138 ha hb)
  exact ⟨r, h2, h3.trans ⟨fun _ => trivial, fun _ => rfl⟩⟩
theorem G_neqSp {n : Nat} {all : List Oper} {K : Env → Mm → Prop} {m : Md} {e : Env} {Γ : Mm} {d : Option Tmp} {ty : TypeId} {x y : Operand} {p : Int × Int} (h : ev e x = some (.agg (spotc p).toArray)) (h1 : ev e y = some (.agg (spotc p).toArray)) (hf : fits p.1 ∧ fits p.2) (hr : GN Try.prog n all K m (push d (.bool false) e) Γ) :
    GX Try.prog n all K m d (.binOp .neq 138 x y 138) ty e Γ :=
  GX_pure ((p_neqV (C := True) (by kernel_rfl) (run_same138 hf.1 hf.2) h h1).2 trivial) hr
/-! ### traces -/
structure TrcEq (t t' : Trc) : Prop where
  init : t.init = t'.init
  loop : t.loop = t'.loop
  rows : t.rows.map (·.2) = t'.rows.map (·.2)
theorem gt_snd {α β γ : Type} [Inhabited α] [Inhabited β] [Inhabited γ] {ps : List (α × β)} {qs : List (γ × β)} (h : ps.map (·.2) = qs.map (·.2)) {i : Nat} (hi : i < ps.length) : (gt ps (i : Int)).2 = (gt qs (i : Int)).2 := by
  have hl := congrArg List.length h
  simp only [List.length_map] at hl
  rw [gt_nat hi, gt_nat (by omega)]
  have := congrArg (fun l => l[i]?) h
  simp only [List.getElem?_map, List.getElem?_eq_getElem hi, List.getElem?_eq_getElem (show i < qs.length by omega), Option.map_some, Option.some.injEq] at this
  exact this
/-! ### the moments of a run, in memory -/
structure MomsIn (w : World) (A : Option Addr) (ps : List (HMom × Mom)) : Prop where
  row : RowA w encM 4 A ps
  st : ∀ p ∈ ps, RowA w booc 1 p.1.1.1 p.2.state
  bd : ∀ p ∈ ps, RowA w icell 1 p.1.2.1.1 p.2.bads
  fr : ∀ p ∈ ps, RowA w spotc 2 p.1.2.2.1 p.2.fair
  len : ps.length ≤ 9223372036854775807
  le : ∀ p ∈ ps, p.2.state.length ≤ 9223372036854775807 ∧ p.2.bads.length ≤ 9223372036854775807 ∧ p.2.fair.length ≤ 9223372036854775807
theorem vec_len {α : Type} {enc : α → List Value} {sz : Nat} {w : World} {t : TypeId} {A : Option Addr} {c : Nat} {l : List α} (h : w.ownsRow 0 t sz (.slice A l.length c) l.length (l.flatMap enc)) : l.length ≤ 9223372036854775807 := by
  rcases h.2 with ⟨_, h2⟩ | ⟨g, cap, cur, _, _, _, hc, hm, _⟩
  · omega
  · simp only [maxLen] at hm
    omega
theorem MomsIn.of {Γ : Mm} {w : World} {A : Option Addr} {k : Nat} {ps : List (HMom × Mom)} (hi : In Γ (.vec encM 4 82 A k ps)) (hf : ∀ E ∈ fam momE ps, In Γ E) (M : Mem w Γ) : MomsIn w A ps := by
  have h1 : ∀ p ∈ ps, In Γ (.vec booc 1 4 p.1.1.1 p.1.1.2 p.2.state) := fun p hp => hf _ (fam_mem hp (by unfold momE; simp))
  have h2 : ∀ p ∈ ps, In Γ (.vec icell 1 3 p.1.2.1.1 p.1.2.1.2 p.2.bads) := fun p hp => hf _ (fam_mem hp (by unfold momE; simp))
  have h3 : ∀ p ∈ ps, In Γ (.vec spotc 2 138 p.1.2.2.1 p.1.2.2.2 p.2.fair) := fun p hp => hf _ (fam_mem hp (by unfold momE; simp))
  exact ⟨hi.row M, fun p hp => (h1 p hp).row M, fun p hp => (h2 p hp).row M, fun p hp => (h3 p hp).row M, vec_len (hi.ok M), fun p hp => ⟨vec_len ((h1 p hp).ok M), vec_len ((h2 p hp).ok M), vec_len ((h3 p hp).ok M)⟩⟩
attribute [local irreducible] WC WL WX WS WO OX Does DoesU Enters CV Pure thenQ blockQ retQ Wants retQC GC GL GS GX RdB thenG blockG retG Rd At gt CVN CVM
theorem same_cv {w : World} {A B : Option Addr} {k k2 : Nat} {ps qs : List (HMom × Mom)} (H : MomsIn w A ps) (H' : MomsIn w B qs) (E : ps.map (·.2) = qs.map (·.2)) (hf : ∀ p ∈ ps, ∀ x ∈ p.2.fair, fits x.1 ∧ fits x.2) : CVN Try.prog 44 [.slice A ps.length k, .slice B qs.length k2] w fun v N => N = [] ∧ v = .bool true := by
  have e3 := congrArg List.length E
  simp only [List.length_map] at e3
  have hR := H.row
  have hR' := H'.row
  have hlr := H.len
  refine CVN.enter 99 [4] Try.func44 rfl rfl rfl (by decide) rfl ?_
  repeat' (first
      | (apply GC_seqK; intro K hK)
      | (apply hK; clear hK K)
      | (apply GC_block)
      | (apply GC_region)
      | (apply GL_nil)
      | (apply thenG_normal)
      | (apply GC_skip)
      | (apply GC_if_false; eq_refl)
      | (apply GL_on; eq_refl; eq_refl)
      | (apply G_pv; eq_refl; first | exact trivial | omega)
      | (apply G_cmpF; eq_refl; eq_refl; omega)
      | (apply G_len; eq_refl))
  refine GC_loopK [0, 1] (fun i : Nat => [(5, nu i)]) (fun _ => [.old w none_]) (fun i => i ≤ ps.length) (fun i => ps.length - i) 0 (by repeat first | exact Pick.nil | (apply Pick.cons; eq_refl)) (by repeat first | exact trivial | refine ⟨rfl, ?_⟩) (by repeat first | exact Wk.nil | exact Wk.refl | (apply Wk.cons; (focus ((repeat first | exact Rem.here | apply Rem.there | apply Rem.skip); done))) | apply Wk.nilv | apply Wk.last | apply Wk.drop) (Nat.zero_le _) ?_
  intro i hi
  rcases Nat.lt_or_ge i ps.length with hlt | hge
  · have hm := gt_mem (l := ps) (i := (i : Int)) (by omega) (by omega)
    have hm' := gt_mem (l := qs) (i := (i : Int)) (by omega) (by omega)
    have es := gt_snd E hlt
    have s1 := H.st _ hm
    have s2 := H'.st _ hm'
    have b1 := H.bd _ hm
    have b2 := H'.bd _ hm'
    have f1 := H.fr _ hm
    have f2 := H'.fr _ hm'
    obtain ⟨l1, l2, l3⟩ := H.le _ hm
    have hft := hf _ hm
    clear hm hm'
    generalize hx : gt ps (i : Int) = x at *
    generalize hy : gt qs (i : Int) = y at *
    obtain ⟨x1, m⟩ := x
    obtain ⟨y1, m'⟩ := y
    simp only at es s1 s2 b1 b2 f1 f2 l1 l2 l3 hft
    subst es
    obtain ⟨st, ho, bd, fr⟩ := m
    simp only at s1 s2 b1 b2 f1 f2 l1 l2 l3 hft
    have hb0 : ∀ Γ, In Γ (.old w none_) → ∀ w', Mem w' Γ → CVN Try.prog 46 [.slice x1.1.1 st.length x1.1.2, .slice y1.1.1 st.length y1.1.2] w' fun v N => N = [] ∧ v = .bool true := fun Γ hi w' M => (sameBools_cv (s1.chg (hi.old M)) (s2.chg (hi.old M)) (by omega) (by omega)).mono fun v N ⟨e1', e2'⟩ => ⟨e1', by rw [e2', decide_eq_true rfl]⟩
    have hb1 : ∀ Γ, In Γ (.old w none_) → ∀ w', Mem w' Γ → CVN Try.prog 28 [.slice x1.2.1.1 bd.length x1.2.1.2, .slice y1.2.1.1 bd.length y1.2.1.2] w' fun v N => N = [] ∧ v = .bool true := fun Γ hi w' M => sameIntsG (b1.chg (hi.old M)) (b2.chg (hi.old M)) (by omega)
    cases ho
    all_goals
      repeat' (first
      | (apply G_call; eq_refl; eq_refl; (apply hb0; (repeat first | exact In.here | apply In.there | apply In.skip)); rintro _ _ ⟨rfl, rfl⟩)
      | (apply G_call; eq_refl; eq_refl; (apply hb1; (repeat first | exact In.here | apply In.there | apply In.skip)); rintro _ _ ⟨rfl, rfl⟩)
      | (apply G_rdF; eq_refl; (apply Rd.old; (repeat first | exact In.here | apply In.there | apply In.skip); assumption); (case ih => infer_instance); omega; omega; (first | (rw [hx]; dsimp only [encM]; eq_refl) | (rw [hy]; dsimp only [encM]; eq_refl)))
      | (apply GC_seqK; intro K hK)
      | (apply hK; clear hK K)
      | (apply GC_block)
      | (apply GC_region)
      | (apply GL_nil)
      | (apply thenG_normal)
      | (apply GC_skip)
      | (apply GC_if_true; eq_refl)
      | (apply GC_if_false; eq_refl)
      | (apply GL_on; eq_refl; eq_refl)
      | (refine GC_draws (id := 6) [.q 0, .q 1, .q 2, .q 3, .q 4, .q 5, .q 6, .q 7, .q 8, .q 9, .c 10, .q 11, .q 12, .q 13, .q 14, .q 15, .q 16, .q 17, .q 18, .q 19, .q 20, .q 21, .q 22, .q 23, .q 24, .q 25, .q 26, .q 27, .q 28, .q 29, .q 30, .q 31, .q 32, .q 33, .q 34, .q 35, .c 36, .q 37, .q 38, .q 39, .q 40, .q 41, .q 42, .q 43, .q 44, .q 45, .q 46, .q 47, .q 48, .q 49, .q 50, .q 51, .q 52, .q 53] mixed (by kernel_rfl) (by kernel_rfl) ?_)
      | (apply GS_nil)
      | (apply GS_qon; eq_refl; eq_refl; eq_refl; eq_refl)
      | (apply GS_con; eq_refl; eq_refl; eq_refl; eq_refl)
      | (apply G_pv; eq_refl; first | exact trivial | omega)
      | (apply G_fieldP; eq_refl)
      | (apply G_cmpT; eq_refl; eq_refl; omega)
      | (apply G_cmpF; eq_refl; eq_refl; omega)
      | (apply G_len; eq_refl)
      | (apply G_ix; eq_refl; eq_refl; (first | (apply Rd.own; (repeat first | exact In.here | apply In.there | apply In.skip); infer_instance) | (apply Rd.old; (repeat first | exact In.here | apply In.there | apply In.skip); assumption) | (apply Rd.oldR; (repeat first | exact In.here | apply In.there | apply In.skip); assumption) | exact Rd.nil | assumption); (first | eq_refl | omega); omega; omega)
      | (apply G_neqB; eq_refl; eq_refl))
      refine GC_loopK [0, 1, 5] (fun j : Nat => [(6, nu j)]) (fun _ => [.old w none_]) (fun j => j ≤ fr.length) (fun j => fr.length - j) 0 (by repeat first | exact Pick.nil | (apply Pick.cons; eq_refl)) (by repeat first | exact trivial | refine ⟨rfl, ?_⟩) (by repeat first | exact Wk.nil | exact Wk.refl | (apply Wk.cons; (focus ((repeat first | exact Rem.here | apply Rem.there | apply Rem.skip); done))) | apply Wk.nilv | apply Wk.last | apply Wk.drop) (Nat.zero_le _) ?_
      intro j hj
      rcases Nat.lt_or_ge j fr.length with hltj | hgej
      · have hfj := hft _ (gt_mem (l := fr) (i := (j : Int)) (by omega) (by omega))
        repeat' (first
      | (apply G_rdF; eq_refl; (apply Rd.old; (repeat first | exact In.here | apply In.there | apply In.skip); assumption); (case ih => infer_instance); omega; omega; (first | (rw [hx]; dsimp only [encM]; eq_refl) | (rw [hy]; dsimp only [encM]; eq_refl)))
      | (apply G_neqSp; eq_refl; eq_refl; exact hfj)
      | (apply GC_seqK; intro K hK)
      | (apply hK; clear hK K)
      | (apply GC_block)
      | (apply GC_region)
      | (apply GL_nil)
      | (apply thenG_normal)
      | (apply blockG_normal)
      | (apply GC_skip)
      | (apply GC_if_true; eq_refl)
      | (apply GC_if_false; eq_refl)
      | (apply GL_on; eq_refl; eq_refl)
      | (refine GC_draws (id := 11) [.q 0, .q 1, .q 2, .q 3, .q 4, .q 5, .q 6, .q 7, .q 8, .q 9, .q 10, .q 11, .q 12, .q 13, .q 14, .q 15, .q 16] mixed (by kernel_rfl) (by kernel_rfl) ?_)
      | (apply GS_nil)
      | (apply GS_qon; eq_refl; eq_refl; eq_refl; eq_refl)
      | (apply G_pv; eq_refl; first | exact trivial | omega)
      | (apply G_fieldP; eq_refl)
      | (apply G_rdW; eq_refl; (first | (apply Rd.own; (repeat first | exact In.here | apply In.there | apply In.skip); infer_instance) | (apply Rd.old; (repeat first | exact In.here | apply In.there | apply In.skip); assumption) | (apply Rd.oldR; (repeat first | exact In.here | apply In.there | apply In.skip); assumption) | exact Rd.nil | assumption); infer_instance; (case ih => infer_instance); omega; omega)
      | (apply G_cmpT; eq_refl; eq_refl; omega)
      | (apply G_len; eq_refl)
      | (apply G_ix; eq_refl; eq_refl; (first | (apply Rd.own; (repeat first | exact In.here | apply In.there | apply In.skip); infer_instance) | (apply Rd.old; (repeat first | exact In.here | apply In.there | apply In.skip); assumption) | (apply Rd.oldR; (repeat first | exact In.here | apply In.there | apply In.skip); assumption) | exact Rd.nil | assumption); (first | eq_refl | omega); omega; omega))
        exact ⟨j + 1, (by repeat first | exact trivial | refine ⟨rfl, ?_⟩), (by repeat first | exact Wk.nil | exact Wk.refl | (apply Wk.cons; (focus ((repeat first | exact Rem.here | apply Rem.there | apply Rem.skip); done))) | apply Wk.nilv | apply Wk.last | apply Wk.drop), hltj, by omega⟩
      · repeat' (first
      | (apply G_rdF; eq_refl; (apply Rd.old; (repeat first | exact In.here | apply In.there | apply In.skip); assumption); (case ih => infer_instance); omega; omega; (first | (rw [hx]; dsimp only [encM]; eq_refl) | (rw [hy]; dsimp only [encM]; eq_refl)))
      | (apply GC_seqK; intro K hK)
      | (apply hK; clear hK K)
      | (clear hK K; apply hK; clear hK K)
      | (apply GC_region)
      | (apply GL_nil)
      | (apply thenG_normal)
      | (apply thenG_exit)
      | (apply blockG_hit)
      | (apply blockG_normal)
      | (apply GC_exit)
      | (apply GC_if_false; eq_refl)
      | (apply GL_on; eq_refl; eq_refl)
      | (apply G_pv; eq_refl; first | exact trivial | omega)
      | (apply G_fieldP; eq_refl)
      | (apply G_cmpF; eq_refl; eq_refl; omega)
      | (apply G_len; eq_refl)
      | (apply G_ix; eq_refl; eq_refl; (first | (apply Rd.own; (repeat first | exact In.here | apply In.there | apply In.skip); infer_instance) | (apply Rd.old; (repeat first | exact In.here | apply In.there | apply In.skip); assumption) | (apply Rd.oldR; (repeat first | exact In.here | apply In.there | apply In.skip); assumption) | exact Rd.nil | assumption); (first | eq_refl | omega); omega; omega))
        exact ⟨i + 1, (by repeat first | exact trivial | refine ⟨rfl, ?_⟩), (by repeat first | exact Wk.nil | exact Wk.refl | (apply Wk.cons; (focus ((repeat first | exact Rem.here | apply Rem.there | apply Rem.skip); done))) | apply Wk.nilv | apply Wk.last | apply Wk.drop), hlt, by omega⟩
  · repeat' (first
      | (apply GC_seqK; intro K hK)
      | (apply hK; clear hK K)
      | (clear hK K; apply hK; clear hK K)
      | (apply GC_region)
      | (apply GL_nil)
      | (apply thenG_normal)
      | (apply thenG_exit)
      | (apply blockG_hit)
      | (apply GC_ret)
      | (apply GC_exit)
      | (apply GC_if_false; eq_refl)
      | (apply retG1; eq_refl)
      | (apply GL_on; eq_refl; eq_refl)
      | (apply G_pv; eq_refl; first | exact trivial | omega)
      | (apply G_cmpF; eq_refl; eq_refl; omega)
      | (apply G_len; eq_refl))
    exact ⟨[], (by repeat first | exact Wk.nil | exact Wk.refl | (apply Wk.cons; (focus ((repeat first | exact Rem.here | apply Rem.there | apply Rem.skip); done))) | apply Wk.nilv | apply Wk.last | apply Wk.drop), rfl, rfl⟩
end SC
end Go.Proofs.Ytkndegjodnciaaa
end
section
/- trestlebook: CopyTrace; runs of traces that read the same. -/
set_option linter.unusedVariables false
set_option linter.unusedSimpArgs false
namespace Go.Proofs.Ytkndegjodnciaaa
namespace SC
open Go.Proofs
theorem map_snd_get {α β γ : Type} [Inhabited α] [Inhabited β] [Inhabited γ] {ps : List (α × β)} {qs : List (γ × β)} (h : ps.map (·.2) = qs.map (·.2)) (i : Nat) : (gt ps (i : Int)).2 = (gt qs (i : Int)).2 := by
  have hl := congrArg List.length h
  simp only [List.length_map] at hl
  by_cases hi : i < ps.length
  · exact gt_snd h hi
  · unfold gt
    simp only [Int.toNat_natCast]
    rw [List.getD_eq_getElem?_getD, List.getD_eq_getElem?_getD, List.getElem?_eq_none (by omega), List.getElem?_eq_none (by omega)]
    rfl
theorem TrcEq.fit {c : Circ} {t t' : Trc} (E : TrcEq t t') : fitsM c t = fitsM c t' := by
  have e3 := congrArg List.length E.rows
  simp only [List.length_map] at e3
  have e4 : ∀ (r : List (Hdl × List Bool)), (r.all fun p => decide (p.2.length = c.inputs.length)) = (r.map (·.2)).all fun l => decide (l.length = c.inputs.length) := fun r => by rw [List.all_map]; rfl
  unfold fitsM
  rw [E.init, E.loop, e3, e4, e4, E.rows]
theorem TrcEq.st {c : Circ} {t t' : Trc} (E : TrcEq t t') : ∀ k, stM c t k = stM c t' k
  | 0 => E.init
  | k + 1 => by unfold stM; rw [TrcEq.st E k, map_snd_get E.rows k]
theorem TrcEq.runE {c : Circ} {t t' : Trc} (E : TrcEq t t') : runE c t = runE c t' := by unfold SC.runE; rw [E.fit]
theorem TrcEq.runs {c : Circ} {t t' : Trc} (E : TrcEq t t') : runsM c t = runsM c t' := by
  have e3 := congrArg List.length E.rows
  simp only [List.length_map] at e3
  unfold runsM runM
  rw [E.runE, e3]
  congr 1
  exact List.map_congr_left fun k _ => by rw [E.st k, map_snd_get E.rows k]
def rowE (p : Hdl × List Bool) : Mm := [.vec booc 1 4 p.1.1 p.1.2 p.2]
def CopyR (t : Trc) (v : Value) (N : Mm) : Prop := ∃ t' a' b', TrcEq t' t ∧ v = .agg (tcs t' a' b').toArray ∧ N = .vec booc 1 4 a'.1 a'.2 t'.init :: .vec encS 1 62 b'.1 b'.2 t'.rows :: fam rowE t'.rows
/-- A trace in memory of its own. -/
theorem TrcIn.own {Γ : Mm} {w w0 : World} {t t' : Trc} {a b a' b' : Hdl} (H : TrcIn w0 t a b) (E : TrcEq t' t) (h1 : In Γ (.vec booc 1 4 a'.1 a'.2 t'.init)) (h2 : In Γ (.vec encS 1 62 b'.1 b'.2 t'.rows)) (h3 : ∀ F ∈ fam rowE t'.rows, In Γ F) (M : Mem w Γ) : TrcIn w t' a' b' := by
  have e3 := congrArg List.length E.rows
  simp only [List.length_map] at e3
  have hp : ∀ p ∈ t'.rows, In Γ (.vec booc 1 4 p.1.1 p.1.2 p.2) := fun p hp => h3 _ (fam_mem hp (by unfold rowE; simp))
  refine ⟨h1.row M, h2.row M, fun p h => (hp p h).row M, fun h => h1.nil0 M h, fun h => h2.nil0 M h, fun p h hA => (hp p h).nil0 M hA, by rw [E.init]; exact H.li, by rw [e3]; exact H.lr, fun p h => ?_, by rw [E.loop]; exact H.lo⟩
  have : p.2 ∈ t.rows.map (·.2) := by rw [← E.rows]; exact List.mem_map.2 ⟨p, h, rfl⟩
  obtain ⟨q, hq, e⟩ := List.mem_map.1 this
  rw [← e]
  exact H.le q hq
attribute [local irreducible] WC WL WX WS WO OX Does DoesU Enters CV Pure thenQ blockQ retQ Wants retQC GC GL GS GX RdB thenG blockG retG Rd At gt CVN CVM
set_option maxRecDepth 100000
end SC
end Go.Proofs.Ytkndegjodnciaaa
end
section
/- Entries bound together; what runs answer. -/
set_option linter.unusedVariables false
set_option linter.unusedSimpArgs false
namespace Go.Proofs.Ytkndegjodnciaaa
namespace SC
open Go.Proofs
/-- Entries as one. -/
def bun (Δ : Mm) : EntX where
  own := owns Δ
  ok := fun w => Mem w Δ
  lt := fun w M k hk => M.lt hk
  keep := fun w w' S M hc hn => M.chg hc hn
theorem In.bun {Γ Δ : Mm} {w : World} (h : In Γ (.any (bun Δ))) (M : Mem w Γ) : Mem w Δ := h.ok M
theorem Rd.bun {α : Type} {Γ Δ : Mm} {enc : α → List Value} {sz : Nat} {A : Option Addr} {l : List α} (h : In Γ (.any (bun Δ))) (h0 : Rd Δ enc sz A l) : Rd Γ enc sz A l := fun w M => h0.at (h.bun M)
theorem CVN.bun {P : Program} {f : FuncId} {args : List Value} {w : World} {R : Value → Mm → Prop} (h : CVN P f args w R) : CVN P f args w fun v N => ∃ N', R v N' ∧ N = [.any (bun N')] :=
  CV.mono h fun v w' ⟨N, M, hR⟩ => ⟨[.any (SC.bun N)], Mem.join (.one M.left) M.right fun k ⟨E, hE, h1⟩ h2 => by
    simp only [List.mem_singleton] at hE
    subst hE
    exact M.sep k h1 h2, N, hR, rfl⟩
theorem Wk.left {Γ Δ : Mm} : Wk (Δ ++ Γ) Δ := ⟨fun w M => M.left, fun k hk => owns_append.2 (.inl hk)⟩
/-- A run's moments, bound together. -/
abbrev runB (ps : List (HMom × Mom)) (A : Option Addr) (k : Nat) : Mm := .vec encM 4 82 A k ps :: fam momE ps
theorem MomsIn.bun {Γ : Mm} {w : World} {A : Option Addr} {k : Nat} {ps : List (HMom × Mom)} (hi : In Γ (.any (bun (runB ps A k)))) (M : Mem w Γ) : MomsIn w A ps := MomsIn.of .here (fun E hE => .there (In.of hE)) (hi.bun M)
abbrev trcB (t : Trc) (a b : Hdl) : Mm := .vec booc 1 4 a.1 a.2 t.init :: .vec encS 1 62 b.1 b.2 t.rows :: fam rowE t.rows
theorem TrcIn.bun {Γ : Mm} {w w0 : World} {t t' : Trc} {a b a' b' : Hdl} (H : TrcIn w0 t a b) (E : TrcEq t' t) (hi : In Γ (.any (bun (trcB t' a' b')))) (M : Mem w Γ) : TrcIn w t' a' b' := H.own E .here (.there .here) (fun F hF => .there (.there (In.of hF))) (hi.bun M)
theorem mem_selF {a : Int} {v : List Bool} {ls : List Int} {i : Nat} {x : Int × Int} (h : x ∈ selF a v ls i) : x.1 = a ∧ 0 ≤ x.2 ∧ x.2 < i := by
  unfold selF at h
  obtain ⟨k, hk, rfl⟩ := List.mem_map.1 h
  have := (List.mem_filter.1 hk).1
  simp at this
  exact ⟨rfl, by simp, by simp; omega⟩
theorem mem_fairJ {v : List Bool} {js : List (List Int)} {i : Nat} {x : Int × Int} (h : x ∈ fairJ v js i) : 0 ≤ x.1 ∧ x.1 < i ∧ 0 ≤ x.2 ∧ ∃ l, x.2 < l ∧ (l : Int) ≤ (js.getD x.1.toNat []).length := by
  unfold fairJ at h
  obtain ⟨k, hk, h2⟩ := List.mem_flatMap.1 h
  obtain ⟨e1, e2, e3⟩ := mem_selF h2
  simp at hk
  refine ⟨by omega, by omega, e2, ((js.getD k []).length : Int), e3, ?_⟩
  rw [e1]
  simp
/-- What is so of a run's moments. -/
theorem runs_facts {w : World} {c : Circ} {h js : Hd} {t : Trc} (H : CirIn w c h js) : ∀ m ∈ runsM c t, m.state.length ≤ 16384 ∧ ∀ x ∈ m.fair, fits x.1 ∧ fits x.2 := by
  intro m hm
  unfold runsM at hm
  split at hm
  · rename_i he
    obtain ⟨z1, F⟩ := runE_zero he
    have R := right_of H.at_ H.sane z1
    have n2 := R.nLat
    have n3 := R.nJust
    have n4 := R.nFair
    have n5 := R.sumJ H.fits
    unfold runM at hm
    obtain ⟨k, hk, rfl⟩ := List.mem_map.1 hm
    refine ⟨by show (stM c t k).length ≤ _; rw [stM_len F.init]; exact n2, fun x hx => ?_⟩
    rcases List.mem_append.1 (show x ∈ fairJ _ c.justice c.justice.length ++ selF (-1) _ c.fairness c.fairness.length from hx) with h1 | h1
    · obtain ⟨g1, g2, g3, l, g4, g5⟩ := mem_fairJ h1
      have hlt : x.1.toNat < c.justice.length := by omega
      have := each_sum hlt
      have e1 : c.justice.getD x.1.toNat [] = c.justice[x.1.toNat] := by simp [hlt]
      rw [e1] at g5
      unfold fits
      omega
    · obtain ⟨g1, g2, g3⟩ := mem_selF h1
      unfold fits
      omega
  · cases hm
def RunR' (ε : Int) (m : List Mom) (v : Value) (N : Mm) : Prop := ∃ (ps : List (HMom × Mom)) (A : Option Addr) (k : Nat), v = .tuple #[.slice A ps.length k, nu ε] ∧ ps.map (·.2) = m ∧ N = runB ps A k
def RunB (ε : Int) (m : List Mom) (v : Value) (N : Mm) : Prop := ∃ (ps : List (HMom × Mom)) (A : Option Addr) (k : Nat), v = .tuple #[.slice A ps.length k, nu ε] ∧ ps.map (·.2) = m ∧ N = [.any (bun (runB ps A k))]
theorem RunR.to {P : Program} {f : FuncId} {args : List Value} {w : World} {c : Circ} {t : Trc} {ε : Int} {m : List Mom} (h : CVN P f args w (RunR c t)) (h1 : runE c t = ε) (h2 : runsM c t = m) : CVN P f args w (RunR' ε m) := by
  subst h1 h2
  exact h
theorem RunB.to {P : Program} {f : FuncId} {args : List Value} {w : World} {ε : Int} {m : List Mom} (h : CVN P f args w (RunR' ε m)) : CVN P f args w (RunB ε m) :=
  h.bun.mono fun v N ⟨N', ⟨ps, A, k, e1, e2, e3⟩, e4⟩ => ⟨ps, A, k, e1, e2, by rw [e4, e3]⟩
end SC
end Go.Proofs.Ytkndegjodnciaaa
end
section
/- trestlelaw07: SimRuns: the walk. -/
set_option linter.unusedVariables false
set_option linter.unusedSimpArgs false
namespace Go.Proofs.Ytkndegjodnciaaa
namespace SC
open Go.Proofs
attribute [local irreducible] WC WL WX WS WO OX Does DoesU Enters CV Pure thenQ blockQ retQ Wants retQC GC GL GS GX RdB thenG blockG retG Rd At gt CVN CVM
attribute [local irreducible] fam bun
set_option maxRecDepth 100000
end SC
end Go.Proofs.Ytkndegjodnciaaa
end
section
/- Traces that come in. -/
set_option linter.unusedVariables false
set_option linter.unusedSimpArgs false
namespace Go.Proofs.Ytkndegjodnciaaa
namespace SC
open Go.Proofs
set_option maxRecDepth 100000
section
variable {H : Type} {enc : TypeId × Value → H} {W : World} {base : Nat} {spare : Nat → Bool} {held : Bool}
theorem bytes62 : Try.prog.bytesOf 62 = 24 := by kernel_rfl
/-- A row of a trace that comes in. -/
theorem openTrowS {fuel : Nat} {cs : List Value} {x : DataW H × List MemPlace} (h : DataW.trod enc Try.prog W base spare held fuel 62 cs = some x) : ∃ y : Hdl × List Bool, encS y = cs ∧ (RowA W booc 1 y.1.1 y.2 ∧ (y.1.1 = none → y.1.2 = 0) ∧ ∀ R, (∀ n ∈ x.1.weights Try.prog 62, n ≤ R) → y.2.length ≤ R) := by
  obtain ⟨A, cp, l, rfl, r, z, w⟩ := openBoolsF h
  exact ⟨((A, cp), l), rfl, r, z, w⟩
/-- A trace that comes in. -/
theorem openTrcS {v : Value} {d : DataW H} {ps : List MemPlace} {r : Reach} {b0 : Nat} (hv : Value.okWide Try.prog W r b0 73 v) (h : DataW.Trod enc Try.prog W base spare held 73 v d ps) (hz : ∀ n ∈ d.weights Try.prog 73, n ≤ 140737488351232) :
    ∃ (t : Trc) (a b : Hdl), v = .agg (tcs t a b).toArray ∧ TrcIn W t a b := by
  obtain ⟨cs, rfl, hsz⟩ := Go.WideShapes.okWide_struct Try.underlying73 hv
  obtain ⟨fuel, hf⟩ := h
  rw [agg_cells] at hf
  obtain ⟨hl, n, hfl⟩ := openFieldS Try.underlying73 (by kernel_rfl) hf
  have hl : cs.toList.length = 3 := hl
  obtain ⟨y0, h0, g0⟩ := hfl 0 _ (by rw [hl]; decide) rfl rfl (by kernel_rfl)
  obtain ⟨y1, h1, g1⟩ := hfl 1 _ (by rw [hl]; decide) rfl rfl (by kernel_rfl)
  obtain ⟨y2, h2, g2⟩ := hfl 2 _ (by rw [hl]; decide) rfl rfl (by kernel_rfl)
  obtain ⟨A0, c0, l0, e0, r0, z0, w0⟩ := openBoolsF h0
  obtain ⟨A1, c1, l1, e1, r1, k1, n1, z1, w1⟩ := openRowS encS (fun y d => RowA W booc 1 y.1.1 y.2 ∧ (y.1.1 = none → y.1.2 = 0) ∧ ∀ R, (∀ n ∈ d.weights Try.prog 62, n ≤ R) → y.2.length ≤ R) Try.underlying71 (by kernel_rfl) (fun _ => rfl) (fun _ _ _ h => openTrowS h) h1
  obtain ⟨lo, e2, f2⟩ := openIntS h2
  rw [bytes62] at w1
  have v0 := w0 _ fun n hn => hz n (g0 n hn)
  have v1 := w1 _ fun n hn => hz n (g1 n hn)
  have k1' : ∀ y ∈ l1, RowA W booc 1 y.1.1 y.2 ∧ (y.1.1 = none → y.1.2 = 0) ∧ y.2.length ≤ 140737488351232 := fun y hy => by
    obtain ⟨d, ⟨q1, q2, q3⟩, q5⟩ := k1 y hy
    exact ⟨q1, q2, q3 _ fun n hn => hz n (g1 n (q5 n hn))⟩
  refine ⟨⟨l0, l1, lo⟩, (A0, c0), (A1, c1), ?_, r0, r1, fun p hp => (k1' p hp).1, z0, z1, fun p hp => (k1' p hp).2.1, v0, (by show l1.length ≤ _; omega), fun p hp => (k1' p hp).2.2, f2⟩
  congr 1
  apply Array.ext'
  apply List.ext_getElem (by rw [hl]; rfl)
  intro i hi1 hi2
  match i, hi2 with
  | 0, _ => exact (List.cons.inj e0).1
  | 1, _ => exact (List.cons.inj e1).1
  | 2, _ => exact (List.cons.inj e2).1.symm
end
end SC
end Go.Proofs.Ytkndegjodnciaaa
end
section
/- A back part of a slice; numbers without a sign; a run from one of its states. -/
set_option linter.unusedVariables false
set_option linter.unusedSimpArgs false
namespace Go.Proofs.Ytkndegjodnciaaa
namespace SC
open Go.Proofs
set_option maxRecDepth 100000
section
variable {n : Nat} {all : List Oper} {K : Env → Mm → Prop} {m : Md} {e : Env} {Γ : Mm} {d : Option Tmp} {ty t t' t0 : TypeId} {x y : Operand} {td : TypeDesc} {sz sz1 by_ by1 : Nat} {zv z1 : Value} {ag ag1 : Bool}
theorem p_toU64 {a : Int} (h : ev e x = some (nu a)) : Pure Try.prog (.convert 3 86 x) ty e (.int .u64 (a % 18446744073709551616)) := by
  unfold Pure Does
  intro w ρ dst pos af g hρ
  have hw : IntKind.u64.wrap a = a % 18446744073709551616 := by rw [IntKind.wrap_u64]
  simp [execOp, hρ _ _ h, convert, Conv.intToInt, run_underlying Try.underlying3, run_underlying Try.underlying86, hw]
theorem p_ofU64 {a : Int} (h : ev e x = some (.int .u64 a)) (h0 : 0 ≤ a) (h1 : a ≤ 9223372036854775807) : Pure Try.prog (.convert 86 3 x) ty e (nu a) := by
  unfold Pure Does
  intro w ρ dst pos af g hρ
  simp [execOp, hρ _ _ h, convert, Conv.intToInt, run_underlying Try.underlying3, run_underlying Try.underlying86, wrap64_id (n := a) (by omega) (by omega)]
theorem p_remU {P : Program} {a b : Int} (h : ev e x = some (.int .u64 a)) (h1 : ev e y = some (.int .u64 b)) (h2 : 0 ≤ a) (h4 : 0 < b) : Pure P (.binOp .rem t x y t') ty e (.int .u64 (a % b)) := by
  intro w ρ dst pos af g hρ
  have h5 : b ≠ 0 := by omega
  simp [execOp, hρ _ _ h, hρ _ _ h1, eqGuard, binOp, Op.intDiv, h5, Int.tmod_eq_emod_of_nonneg h2]
theorem p_sliceFrom {P : Program} {t0 : TypeId} (hu : P.underlying t = some (.slice t0)) (T : Ty P t0 td sz zv by_ ag) {A : Option Addr} {n c : Nat} {k : IntKind} {i : Nat} (h : ev e x = some (.slice A n c)) (h1 : ev e y = some (.int k (i : Int))) (h0 : i < n) (h2 : n ≤ c) :
    Pure P (.slice t x (some y) none none) ty e (.slice (A.map (·.add (i * sz))) (n - i) (c - i)) := by
  intro w ρ dst pos af g hρ
  have := run_sliceBound (P := P) (w := w) k (i : Int) n .sliceB (by omega) (by omega)
  have hc : c ≠ i := by omega
  cases A <;> simp [execOp, hρ _ _ h, hρ _ _ h1, Instr.sliceAt, Instr.slice, Instr.sliceBounds, run_underlying hu, T.size, this, hc]
theorem G_toU {a : Int} (h : ev e x = some (nu a)) (hr : GN Try.prog n all K m (push d (.int .u64 (a % 18446744073709551616)) e) Γ) : GX Try.prog n all K m d (.convert 3 86 x) ty e Γ := GX_pure (p_toU64 h) hr
theorem G_ofU {a b : Int} (h : ev e x = some (.int .u64 a)) (hab : a = b) (h0 : 0 ≤ b) (h1 : b ≤ 9223372036854775807) (hr : GN Try.prog n all K m (push d (nu b) e) Γ) : GX Try.prog n all K m d (.convert 86 3 x) ty e Γ := GX_pure (p_ofU64 (by rw [← hab]; exact h) h0 h1) hr
theorem G_remU {P : Program} {a b : Int} (h : ev e x = some (.int .u64 a)) (h1 : ev e y = some (.int .u64 b)) (h2 : 0 ≤ a) (h4 : 0 < b) (hr : GN P n all K m (push d (.int .u64 (a % b)) e) Γ) : GX P n all K m d (.binOp .rem t x y t') ty e Γ := GX_pure (p_remU h h1 h2 h4) hr
theorem G_slFrom {P : Program} {α : Type} (l l' : List α) [U : Ty P t (.slice t0) sz1 z1 by1 ag1] [T : Ty P t0 td sz zv by_ ag] {A : Option Addr} {k c i : Nat} {ik : IntKind} (h : ev e x = some (.slice A k c)) (h1 : ev e y = some (.int ik (i : Int))) (hk : k = l.length) (h0 : i < l.length) (h2 : l.length ≤ c) (hl : l.drop i = l')
    (hr : GN P n all K m (push d (.slice (A.map (·.add (i * sz))) l'.length (c - i)) e) Γ) : GX P n all K m d (.slice t x (some y) none none) ty e Γ := by
  subst hk hl
  rw [List.length_drop] at hr
  exact GX_pure (p_sliceFrom U.und T h h1 h0 h2) hr
end
theorem RowA.drop {α : Type} {w : World} {enc : α → List Value} {sz : Nat} {A : Option Addr} {l : List α} (h : RowA w enc sz A l) (i : Nat) : RowA w enc sz (A.map (·.add (i * sz))) (l.drop i) := fun k hk => by
  rw [List.length_drop] at hk
  obtain ⟨p, rfl, hp⟩ := h (i + k) (by omega)
  refine ⟨p.add (i * sz), rfl, fun j u hj => ?_⟩
  rw [List.getElem_drop] at hj
  have := hp j u hj
  rw [show ((i + k : Nat) : Int).toNat = i + k by omega, Nat.add_mul] at this
  rw [show (k : Int).toNat = k by omega, Addr.add_add p]
  exact this
theorem MomsIn.drop {w : World} {A : Option Addr} {ps : List (HMom × Mom)} (H : MomsIn w A ps) (i : Nat) : MomsIn w (A.map (·.add (i * 4))) (ps.drop i) :=
  ⟨H.row.drop i, fun p hp => H.st p (List.mem_of_mem_drop hp), fun p hp => H.bd p (List.mem_of_mem_drop hp), fun p hp => H.fr p (List.mem_of_mem_drop hp), by have := H.len; rw [List.length_drop]; omega, fun p hp => H.le p (List.mem_of_mem_drop hp)⟩
/-- The trace from a state on. -/
noncomputable def tail (c : Circ) (t : Trc) (i : Nat) : Trc := ⟨stM c t i, t.rows.drop i, -1⟩
theorem tail_row {c : Circ} {t : Trc} {i k : Nat} : gt (tail c t i).rows (k : Int) = gt t.rows ((i + k : Nat) : Int) := by
  unfold tail gt
  simp only [Int.toNat_natCast]
  rw [List.getD_eq_getElem?_getD, List.getD_eq_getElem?_getD, List.getElem?_drop]
theorem tail_st {c : Circ} {t : Trc} {i : Nat} : ∀ k, stM c (tail c t i) k = stM c t (i + k)
  | 0 => rfl
  | k + 1 => by
    show nxtM c (valM c (stM c (tail c t i) k) (gt (tail c t i).rows (k : Int)).2) = nxtM c (valM c (stM c t (i + k)) (gt t.rows ((i + k : Nat) : Int)).2)
    rw [tail_st k, tail_row]
theorem tail_fit {c : Circ} {t : Trc} {i : Nat} (F : Fit c t) (hi : i < t.rows.length) : Fit c (tail c t i) := by
  have := F.few
  have e1 : (tail c t i).rows.length = t.rows.length - i := by unfold tail; simp
  have e2 : (tail c t i).loop = -1 := rfl
  exact ⟨stM_len F.init i, by omega, by omega, by omega, by omega, fun p hp => F.rows p (List.mem_of_mem_drop hp)⟩
theorem tail_run {c : Circ} {t : Trc} {i : Nat} : runM c (tail c t i) (t.rows.length - i) = (runM c t t.rows.length).drop i := by
  unfold runM
  rw [← List.map_drop]
  apply List.ext_getElem
  · simp
  · intro k h1 h2
    simp only [List.length_map, List.length_range] at h1
    simp only [List.getElem_map, List.getElem_range, List.getElem_drop]
    rw [tail_st, tail_row]
theorem tail_runs {c : Circ} {t : Trc} {i : Nat} (he : runE c t = 0) (hi : i < t.rows.length) : runE c (tail c t i) = 0 ∧ runsM c (tail c t i) = (runsM c t).drop i := by
  obtain ⟨z1, F⟩ := runE_zero he
  have h1 := runE_fit z1 (tail_fit F hi)
  refine ⟨h1, ?_⟩
  unfold runsM
  rw [if_pos he, if_pos h1, ← tail_run]
  congr 1
  unfold tail
  simp
end SC
end Go.Proofs.Ytkndegjodnciaaa
end
section
/- trestlelaw07: SimGoesOn: the walk. -/
set_option linter.unusedVariables false
set_option linter.unusedSimpArgs false
namespace Go.Proofs.Ytkndegjodnciaaa
namespace SC
open Go.Proofs
theorem vec_cap {α : Type} {enc : α → List Value} {sz : Nat} {w : World} {t : TypeId} {A : Option Addr} {c : Nat} {l : List α} (h : w.ownsRow 0 t sz (.slice A l.length c) l.length (l.flatMap enc)) : l.length ≤ c := by
  rcases h.2 with ⟨_, h2⟩ | ⟨g, cap, cur, h1, _, _, hc, hm, _⟩
  · omega
  · simp only [Value.slice.injEq] at h1
    omega
def RunC (ε : Int) (m : List Mom) (v : Value) (N : Mm) : Prop := ∃ (ps : List (HMom × Mom)) (A : Option Addr) (k : Nat), v = .tuple #[.slice A ps.length k, nu ε] ∧ ps.map (·.2) = m ∧ ps.length ≤ k ∧ N = [.any (bun (runB ps A k))]
theorem RunC.to {P : Program} {f : FuncId} {args : List Value} {w : World} {ε : Int} {m : List Mom} (h : CVN P f args w (RunR' ε m)) : CVN P f args w (RunC ε m) :=
  CV.mono h.bun fun v w' ⟨N, M, N', ⟨ps, A, k, e1, e2, e3⟩, e4⟩ => by
    subst e3 e4
    exact ⟨_, M, ps, A, k, e1, e2, vec_cap ((In.here (E := .vec encM 4 82 A k ps) (Γ := fam momE ps)).ok (In.here.bun M)), rfl⟩
theorem run_gt {c : Circ} {t : Trc} {ps : List (HMom × Mom)} {n : Nat} (h : ps.map (·.2) = runM c t n) {j : Nat} (hj : j < n) : (gt ps (j : Int)).2.state = stM c t j := by
  have hl := congrArg List.length h
  rw [List.length_map, runM_len] at hl
  have := congrArg (fun l => l[j]?) h
  unfold runM at this
  simp only [List.getElem?_map, List.getElem?_eq_getElem (show j < ps.length by omega), Option.map_some, List.getElem?_range hj, Option.some.injEq] at this
  rw [gt_nat (by omega), this]
  rfl
theorem tailIn {Γ : Mm} {w w0 : World} {c : Circ} {t : Trc} {a b : Hdl} {ps : List (HMom × Mom)} {A : Option Addr} {k i : Nat} (HT : TrcIn w0 t a b) (hi : In Γ (.any (bun (runB ps A k)))) (ho : In Γ (.old w0 none_)) (M : Mem w Γ) (hlt : i < t.rows.length) (hp : i < ps.length) (hst : (gt ps (i : Int)).2.state = stM c t i) (hl : (stM c t i).length ≤ 16384) :
    TrcIn w (tail c t i) (gt ps (i : Int)).1.1 (b.1.map (·.add (i * 1)), b.2 - i) := by
  have hm := gt_mem (l := ps) (i := (i : Int)) (by omega) (by omega)
  have h1 := (MomsIn.bun hi M).st _ hm
  have hv : In (runB ps A k) (.vec booc 1 4 (gt ps (i : Int)).1.1.1 (gt ps (i : Int)).1.1.2 (gt ps (i : Int)).2.state) := .there (In.of (fam_mem hm (by unfold momE; simp)))
  have HT' := HT.chg (ho.old M)
  rw [hst] at h1
  refine ⟨h1, HT'.rows.drop i, fun p hp => HT'.each p (List.mem_of_mem_drop hp), fun h => hv.nil0 (hi.bun M) h, fun h => ?_, fun p hp => HT'.nile p (List.mem_of_mem_drop hp), (by show (stM c t i).length ≤ _; omega), ?_, fun p hp => HT'.le p (List.mem_of_mem_drop hp), (by show fits (-1); unfold fits; omega)⟩
  · obtain ⟨p, hp, _⟩ := HT'.rows i hlt
    rw [hp] at h
    cases h
  · show (t.rows.drop i).length ≤ _
    have := HT.lr
    rw [List.length_drop]
    omega
attribute [local irreducible] WC WL WX WS WO OX Does DoesU Enters CV Pure thenQ blockQ retQ Wants retQC GC GL GS GX RdB thenG blockG retG Rd At gt CVN CVM
attribute [local irreducible] fam bun
set_option maxRecDepth 100000
set_option maxHeartbeats 1600000 in
theorem simGoesOn_cv {w : World} {c : Circ} {h js : Hd} {t : Trc} {a b : Hdl} {at_ : Int} (H : CirIn w c h js) (HT : TrcIn w t a b) (hcap : t.rows.length ≤ b.2) :
    CVN Try.prog 10 [.agg (ccells c h).toArray, .agg (tcs t a b).toArray, nu at_] w fun v N => N = [] ∧ v = .bool true := by
  have hM := runs_facts (t := t) H
  have hr0 : ∀ Γ, In Γ (.old w none_) → ∀ w', Mem w' Γ → CVN Try.prog 42 [.agg (ccells c h).toArray, .agg (tcs t a b).toArray] w' (RunC (runE c t) (runsM c t)) := fun Γ ho w' M => RunC.to (RunR.to (Run_cv (H.chg (ho.old M)) (HT.chg (ho.old M))) rfl rfl)
  have h5 : ∀ w', CVN Try.prog 48 [] w' _ := fun w' => worksSim_cv
  refine CVN.enter 105 [6] Try.func10 rfl rfl rfl (by decide) rfl ?_
  by_cases he : runE c t = 0
  · obtain ⟨z1, F⟩ := runE_zero he
    have R := right_of H.at_ H.sane z1
    have n2 := R.nLat
    have f1 := F.pos
    have f2 := F.few
    have hR := HT.rows
    have eM : runsM c t = runM c t t.rows.length := if_pos he
    have eT := fun i => tail_runs (c := c) (t := t) (i := i) he
    rw [he] at hr0
    repeat' (first
      | (apply G_call; eq_refl; eq_refl; (exact fun w' _ => h5 w'); rintro _ _ ⟨rfl, rfl⟩)
      | (apply G_call; eq_refl; eq_refl; (apply hr0; (repeat first | exact In.here | apply In.there | apply In.skip)); rintro _ _ ⟨ps, A, kA, rfl, hps, hk, rfl⟩; (have hpl : ps.length = t.rows.length := (by have := congrArg List.length hps; rw [List.length_map, eM, runM_len] at this; exact this)))
      | (apply GC_seqK; intro K hK)
      | (apply hK; clear hK K)
      | (apply GC_region)
      | (apply GL_nil)
      | (apply thenG_normal)
      | (apply GC_skip)
      | (apply GC_if_false; eq_refl)
      | (apply GL_on; eq_refl; eq_refl)
      | (apply G_pv; eq_refl; first | exact trivial | omega)
      | (apply G_field; eq_refl)
      | (apply G_ld; eq_refl; (repeat first | exact In.here | apply In.there | apply In.skip); eq_refl)
      | (apply G_ldW; eq_refl; (repeat first | exact In.here | apply In.there | apply In.skip); eq_refl)
      | (apply G_cmpF; eq_refl; eq_refl; omega)
      | (apply G_len; eq_refl)
      | (apply G_box; eq_refl; eq_refl; intro _))
    have hqR : Rd (runB ps A kA) encM 4 A ps := Rd.own .here inferInstance
    have hlt0 := Int.emod_lt_of_pos (at_ % 18446744073709551616) (show (0 : Int) < (ps.length : Int) by omega)
    have hge0 := Int.emod_nonneg (at_ % 18446744073709551616) (show (ps.length : Int) ≠ 0 by omega)
    have hge1 := Int.emod_nonneg at_ (show (18446744073709551616 : Int) ≠ 0 by decide)
    obtain ⟨i, hi⟩ : ∃ i : Nat, at_ % 18446744073709551616 % (ps.length : Int) = i := ⟨(at_ % 18446744073709551616 % (ps.length : Int)).toNat, by omega⟩
    have hi1 : i < ps.length := by omega
    have hpm : (ps.length : Int) % 18446744073709551616 = ps.length := Int.emod_eq_of_lt (by omega) (by omega)
    have hi' : at_ % 18446744073709551616 % ((ps.length : Int) % 18446744073709551616) = (i : Int) := by rw [hpm]; exact hi
    have hi2 : i < t.rows.length := by omega
    have hst := run_gt (hps.trans eM) hi2
    have hsl : ∀ j, (stM c t j).length = c.latches.length := fun j => stM_len F.init j
    have hrt : ∀ Γ, In Γ (.any (bun (runB ps A kA))) → In Γ (.old w none_) → ∀ w', Mem w' Γ → CVN Try.prog 42 [.agg (ccells c h).toArray, .agg (tcs (tail c t i) (gt ps (i : Int)).1.1 (b.1.map (·.add (i * 1)), b.2 - i)).toArray] w' (RunC 0 ((runsM c t).drop i)) := fun Γ hb ho w' M => by
      obtain ⟨g1, g2⟩ := eT i hi2
      exact RunC.to (RunR.to (Run_cv (H.chg (ho.old M)) (tailIn HT hb ho M hi2 hi1 hst (by rw [hsl]; exact n2))) g1 g2)
    have hs2 : ∀ Γ ks B kB, In Γ (.any (bun (runB ks B kB))) → In Γ (.any (bun (runB ps A kA))) → ks.map (·.2) = (runsM c t).drop i → ∀ w', Mem w' Γ → CVN Try.prog 44 [.slice B ks.length kB, .slice (A.map (·.add (i * 4))) (ps.drop i).length (kA - i)] w' fun v N => N = [] ∧ v = .bool true := fun Γ ks B kB h1 h3 e1 w' M =>
      same_cv (MomsIn.bun h1 M) ((MomsIn.bun h3 M).drop i) (by rw [e1, ← hps, List.map_drop]) fun p hp x hx => (hM p.2 (List.mem_of_mem_drop (by rw [← e1]; exact List.mem_map.2 ⟨p, hp, rfl⟩))).2 x hx
    unfold tail tcs at hrt
    rw [← hst] at hrt
    dsimp only at hrt
    repeat' (first
      | (apply G_toU; eq_refl)
      | (apply G_remU; eq_refl; eq_refl; omega; omega)
      | (apply G_ofU; eq_refl; exact hi'; omega; omega)
      | (apply G_ix; eq_refl; eq_refl; (apply Rd.bun (Δ := runB ps A kA); (repeat first | exact In.here | apply In.there | apply In.skip); exact hqR); (first | eq_refl | omega); omega; omega)
      | (apply G_rdF; eq_refl; (apply Rd.bun (Δ := runB ps A kA); (repeat first | exact In.here | apply In.there | apply In.skip); exact hqR); (case ih => infer_instance); omega; omega; eq_refl)
      | (apply G_slFrom t.rows (t.rows.drop i); eq_refl; eq_refl; rfl; omega; omega; rfl)
      | (apply G_slFrom ps (ps.drop i); eq_refl; eq_refl; rfl; omega; omega; rfl)
      | (apply G_call; eq_refl; eq_refl; (apply hrt; (repeat first | exact In.here | apply In.there | apply In.skip); (repeat first | exact In.here | apply In.there | apply In.skip)); rintro _ _ ⟨ks, B, kB, rfl, hks, hkB, rfl⟩)
      | (apply G_call; eq_refl; eq_refl; (apply hs2; (repeat first | exact In.here | apply In.there | apply In.skip); (repeat first | exact In.here | apply In.there | apply In.skip); exact hks); rintro _ _ ⟨rfl, rfl⟩)
      | (apply GC_seqK; intro K hK)
      | (apply hK; clear hK K)
      | (apply GC_block)
      | (apply GC_region)
      | (apply GL_nil)
      | (apply thenG_normal)
      | (apply GC_skip)
      | (apply GC_if_false; eq_refl)
      | (apply GL_on; eq_refl; eq_refl)
      | (refine GC_draws (id := 9) [.q 0, .q 1, .q 2, .q 3, .q 4, .q 5, .q 6, .q 7, .q 8, .q 9, .q 10, .c 11, .q 12, .q 13, .q 14, .q 15, .q 16] mixed (by kernel_rfl) (by kernel_rfl) ?_)
      | (apply GS_nil)
      | (apply GS_qon; eq_refl; eq_refl; eq_refl; eq_refl)
      | (apply GS_con; eq_refl; eq_refl; eq_refl; eq_refl)
      | (apply G_pv; eq_refl; first | exact trivial | omega)
      | (apply G_field; eq_refl)
      | (apply G_fieldP; eq_refl)
      | (apply G_ld; eq_refl; (repeat first | exact In.here | apply In.there | apply In.skip); eq_refl)
      | (apply G_ldW; eq_refl; (repeat first | exact In.here | apply In.there | apply In.skip); eq_refl)
      | (apply G_cmpF; eq_refl; eq_refl; omega)
      | (apply G_len; eq_refl)
      | (apply GX_pure; apply build73_0_1_2 <;> eq_refl))
    rename_i b3 b4
    have hnx : ∀ (j : Nat), j < t.rows.length → ∀ Γ, In Γ (.any (bun (runB ps A kA))) → In Γ (.old w none_) → ∀ w', Mem w' Γ → CVN Try.prog 49 [.agg (ccells c h).toArray, .slice (gt ps (j : Int)).1.1.1 (gt ps (j : Int)).2.state.length (gt ps (j : Int)).1.1.2, .slice (gt t.rows (j : Int)).1.1 (gt t.rows (j : Int)).2.length (gt t.rows (j : Int)).1.2] w' fun v N => ∃ A' k', v = .tuple #[.slice A' (stM c t (j + 1)).length k', nu 0] ∧ N = [.vec booc 1 4 A' k' (stM c t (j + 1))] := fun j hj Γ hb ho w' M => by
      have hm := gt_mem (l := ps) (i := (j : Int)) (by omega) (by omega)
      have hm' := gt_mem (l := t.rows) (i := (j : Int)) (by omega) (by omega)
      have hs := run_gt (hps.trans eM) hj
      have e0 : stepE c (gt ps (j : Int)).2.state (gt t.rows (j : Int)).2 = 0 := stepE_ok z1 (by rw [hs]; exact hsl j) (F.rows _ hm')
      have key : nextM c (gt ps (j : Int)).2.state (gt t.rows (j : Int)).2 = stM c t (j + 1) := by
        rw [show nextM c (gt ps (j : Int)).2.state (gt t.rows (j : Int)).2 = nxtM c (valM c (gt ps (j : Int)).2.state (gt t.rows (j : Int)).2) from if_pos e0, hs]
        rfl
      have := NextP_cv (k2 := (gt ps (j : Int)).1.1.2) (k3 := (gt t.rows (j : Int)).1.2) (H.chg (ho.old M)) ((MomsIn.bun hb M).st _ hm) ((HT.each _ hm').chg (ho.old M))
      unfold NextR at this
      rw [key, e0] at this
      exact this
    refine GC_loopK [3, 4, 7] (fun j : Nat => [(11, nu j)]) (fun _ => [.any (bun (runB ps A kA)), .box b4 73 (tcs t a b), .box b3 51 (ccells c h), .old w none_]) (fun j => j + 1 ≤ ps.length) (fun j => ps.length - j) 0 (by repeat first | exact Pick.nil | (apply Pick.cons; eq_refl)) (by repeat first | exact trivial | refine ⟨rfl, ?_⟩) (by repeat first | exact Wk.nil | exact Wk.refl | (apply Wk.cons; (focus ((repeat first | exact Rem.here | apply Rem.there | apply Rem.skip); done))) | apply Wk.nilv | apply Wk.last | apply Wk.drop) (by omega) ?_
    intro j hj
    by_cases hn : j + 1 < ps.length
    · have hs1 := run_gt (hps.trans eM) (show j + 1 < t.rows.length by omega)
      rw [show (((j + 1 : Nat)) : Int) = (j : Int) + 1 by omega] at hs1
      have hb0 : ∀ Γ A1 k1, In Γ (.vec booc 1 4 A1 k1 (stM c t (j + 1))) → In Γ (.any (bun (runB ps A kA))) → ∀ w', Mem w' Γ → CVN Try.prog 46 [.slice A1 (stM c t (j + 1)).length k1, .slice (gt ps ((j : Int) + 1)).1.1.1 (gt ps ((j : Int) + 1)).2.state.length (gt ps ((j : Int) + 1)).1.1.2] w' fun v N => N = [] ∧ v = .bool true := fun Γ A1 k1 hi hb w' M => by
        have hm := gt_mem (l := ps) (i := (j : Int) + 1) (by omega) (by omega)
        have h1 := (MomsIn.bun hb M).st _ hm
        have e1 := hsl (j + 1)
        exact (sameBools_cv (hi.row M) h1 (by omega) (by rw [hs1]; omega)).mono fun v N ⟨e1', e2'⟩ => ⟨e1', by rw [e2', decide_eq_true hs1.symm]⟩
      repeat' (first
      | (apply G_ix; eq_refl; eq_refl; (apply Rd.bun (Δ := runB ps A kA); (repeat first | exact In.here | apply In.there | apply In.skip); exact hqR); (first | eq_refl | omega); omega; omega)
      | (apply G_rdF; eq_refl; (apply Rd.bun (Δ := runB ps A kA); (repeat first | exact In.here | apply In.there | apply In.skip); exact hqR); (case ih => infer_instance); omega; omega; eq_refl)
      | (apply G_call; eq_refl; eq_refl; (apply hnx j (by omega); (repeat first | exact In.here | apply In.there | apply In.skip); (repeat first | exact In.here | apply In.there | apply In.skip)); rintro _ _ ⟨A1, k1, rfl, rfl⟩)
      | (apply G_call; eq_refl; eq_refl; (apply hb0; (repeat first | exact In.here | apply In.there | apply In.skip); (repeat first | exact In.here | apply In.there | apply In.skip)); rintro _ _ ⟨rfl, rfl⟩)
      | (apply GC_seqK; intro K hK)
      | (apply hK; clear hK K)
      | (apply GC_block)
      | (apply GC_region)
      | (apply GL_nil)
      | (apply thenG_normal)
      | (apply blockG_normal)
      | (apply GC_skip)
      | (apply GC_if_true; eq_refl)
      | (apply GC_if_false; eq_refl)
      | (apply GL_on; eq_refl; eq_refl)
      | (refine GC_draws (id := 15) [.q 0, .q 1, .q 2, .q 3, .q 4, .q 5, .q 6, .q 7, .q 8, .q 9, .q 10, .c 11, .q 12, .q 13, .q 14, .q 15, .q 16] mixed (by kernel_rfl) (by kernel_rfl) ?_)
      | (apply GS_nil)
      | (apply GS_qon; eq_refl; eq_refl; eq_refl; eq_refl)
      | (apply GS_con; eq_refl; eq_refl; eq_refl; eq_refl)
      | (apply G_pv; eq_refl; first | exact trivial | omega)
      | (apply G_field; eq_refl)
      | (apply G_fieldP; eq_refl)
      | (apply G_ld; eq_refl; (repeat first | exact In.here | apply In.there | apply In.skip); eq_refl)
      | (apply G_ldW; eq_refl; (repeat first | exact In.here | apply In.there | apply In.skip); eq_refl)
      | (apply G_rd; eq_refl; (first | (apply Rd.own; (repeat first | exact In.here | apply In.there | apply In.skip); infer_instance) | (apply Rd.old; (repeat first | exact In.here | apply In.there | apply In.skip); assumption) | (apply Rd.oldR; (repeat first | exact In.here | apply In.there | apply In.skip); assumption) | exact Rd.nil | assumption); (case ih => infer_instance); omega; omega; eq_refl)
      | (apply G_cmpT; eq_refl; eq_refl; omega)
      | (apply G_cmpF; eq_refl; eq_refl; omega)
      | (apply G_len; eq_refl)
      | (apply G_ix; eq_refl; eq_refl; (first | (apply Rd.own; (repeat first | exact In.here | apply In.there | apply In.skip); infer_instance) | (apply Rd.old; (repeat first | exact In.here | apply In.there | apply In.skip); assumption) | (apply Rd.oldR; (repeat first | exact In.here | apply In.there | apply In.skip); assumption) | exact Rd.nil | assumption); (first | eq_refl | omega); omega; omega))
      exact ⟨j + 1, (by repeat first | exact trivial | refine ⟨rfl, ?_⟩), (by repeat first | exact Wk.nil | exact Wk.refl | (apply Wk.cons; (focus ((repeat first | exact Rem.here | apply Rem.there | apply Rem.skip); done))) | apply Wk.nilv | apply Wk.last | apply Wk.drop), hn, by omega⟩
    · repeat' (first
      | (apply GC_seqK; intro K hK)
      | (apply hK; clear hK K)
      | (clear hK K; apply hK; clear hK K)
      | (apply GC_region)
      | (apply GL_nil)
      | (apply thenG_normal)
      | (apply thenG_exit)
      | (apply blockG_hit)
      | (apply GC_ret)
      | (apply GC_exit)
      | (apply GC_if_false; eq_refl)
      | (apply retG1; eq_refl)
      | (apply GL_on; eq_refl; eq_refl)
      | (apply G_pv; eq_refl; first | exact trivial | omega)
      | (apply G_cmpF; eq_refl; eq_refl; omega)
      | (apply G_len; eq_refl))
      exact ⟨[], (by repeat first | exact Wk.nil | exact Wk.refl | (apply Wk.cons; (focus ((repeat first | exact Rem.here | apply Rem.there | apply Rem.skip); done))) | apply Wk.nilv | apply Wk.last | apply Wk.drop), rfl, rfl⟩
  · have eM : runsM c t = [] := if_neg he
    rw [eM] at hr0
    have hl0 : ([] : List (HMom × Mom)).length = 0 := rfl
    generalize runE c t = ε at *
    repeat' (first
      | (apply G_call; eq_refl; eq_refl; (exact fun w' _ => h5 w'); rintro _ _ ⟨rfl, rfl⟩)
      | (apply G_call; eq_refl; eq_refl; (apply hr0; (repeat first | exact In.here | apply In.there | apply In.skip)); rintro _ _ ⟨ps, A, kA, rfl, hps, hk, rfl⟩; (obtain rfl : ps = [] := List.map_eq_nil_iff.1 hps))
      | (apply GC_seqK; intro K hK)
      | (apply hK; clear hK K)
      | (apply GC_region)
      | (apply GL_nil)
      | (apply thenG_normal)
      | (apply thenG_ret)
      | (apply GC_ret)
      | (apply GC_skip)
      | (apply GC_if_true; eq_refl)
      | (apply GC_if_false; eq_refl)
      | (apply retG1; eq_refl)
      | (apply GL_on; eq_refl; eq_refl)
      | (apply G_pv; eq_refl; first | exact trivial | omega)
      | (apply G_ldW; eq_refl; (repeat first | exact In.here | apply In.there | apply In.skip); eq_refl)
      | (apply G_cmpT; eq_refl; eq_refl; omega)
      | (apply G_len; eq_refl)
      | (apply G_box; eq_refl; eq_refl; intro _))
    exact ⟨[], (by repeat first | exact Wk.nil | exact Wk.refl | (apply Wk.cons; (focus ((repeat first | exact Rem.here | apply Rem.there | apply Rem.skip); done))) | apply Wk.nilv | apply Wk.last | apply Wk.drop), rfl, rfl⟩
end SC
end Go.Proofs.Ytkndegjodnciaaa
end
section
/- A trace's room; a number that comes in. -/
set_option linter.unusedVariables false
set_option linter.unusedSimpArgs false
namespace Go.Proofs.Ytkndegjodnciaaa
namespace SC
open Go.Proofs
set_option maxRecDepth 100000
section
variable {H : Type} {enc : TypeId × Value → H} {W : World} {base : Nat} {spare : Nat → Bool} {held : Bool}
theorem openTrcCap {t : Trc} {a b : Hdl} {d : DataW H} {ps : List MemPlace} (h : DataW.Trod enc Try.prog W base spare held 73 (.agg (tcs t a b).toArray) d ps) : t.rows.length ≤ b.2 := by
  obtain ⟨fuel, hf⟩ := h
  rw [agg_cells] at hf
  obtain ⟨hl, n, hfl⟩ := openFieldS Try.underlying73 (by kernel_rfl) hf
  obtain ⟨y1, h1, _⟩ := hfl 1 _ (by rw [hl]; decide) rfl rfl (by kernel_rfl)
  rcases DataW.trod_slice Try.underlying71 h1 with ⟨e, _⟩ | ⟨_, len, cap, elems, rest, n, _, e, _, _, hlc, _⟩
  · have e := (List.cons.inj e).1
    simp only [tcs, List.getElem_cons_succ, List.getElem_cons_zero, Value.slice.injEq] at e
    omega
  · have e := (List.cons.inj e).1
    simp only [tcs, List.getElem_cons_succ, List.getElem_cons_zero, Value.slice.injEq] at e
    omega
theorem openIntV {v : Value} {d : DataW H} {ps : List MemPlace} {r : Reach} {b0 : Nat} (hv : Value.okWide Try.prog W r b0 3 v) (h : DataW.Trod enc Try.prog W base spare held 3 v d ps) (hz : ∀ n ∈ d.weights Try.prog 3, n ≤ 140737488351232) : ∃ z : Int, v = nu z := Go.WideShapes.okWide_int Try.underlying3 hv
end
end SC
end Go.Proofs.Ytkndegjodnciaaa
end
