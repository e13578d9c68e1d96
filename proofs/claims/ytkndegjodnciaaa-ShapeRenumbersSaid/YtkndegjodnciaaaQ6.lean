/- Texts of this seat, one behind the other: S41 S42 S43. -/
import Derived.Test.YtkndegjodnciaaaQ5
section
/- trestleref03: Renumber. -/
set_option linter.unusedVariables false
set_option linter.unusedSimpArgs false
namespace Go.Proofs.Ytkndegjodnciaaa
namespace SC
open Go.Proofs
theorem Right.mapOk {c : Circ} (R : Right c) : MapOk (toM c) := mapOf_ok R.m0 _ (by have := R.nDefs_le; have := R.m1; omega) fun _ => R.defs_rg
theorem map_step {max : Int} {ks : List Int} {i : Nat} {x y : Int} (h : i < ks.length) (hx : ks[i] = x) (hy : y = 2 * (i : Int) + 2) : mapOf max (ks.take (i + 1)) = (mapOf max (ks.take i)).set (x / 2).toNat y := by
  rw [List.take_succ_eq_append_getElem h, mapOf_snoc, List.length_take, Nat.min_eq_left (by omega), hx, hy]
theorem gt_and (c : Circ) (i : Int) : gt c.ands i = andAt c i := rfl
/-- What Renumber of the reference answers. -/
def RefRenR (c : Circ) (v : Value) (N : Mm) : Prop :=
  ((lookM c).2 ≠ 0 ∧ v = .tuple #[.agg Zc.toArray, .slice none 0 0, nu (lookM c).2] ∧ N = []) ∨
    ((lookM c).2 = 0 ∧ ∃ h' js' A k, v = .tuple #[.agg (ccells (renC c) h').toArray, .slice A (toM c).length k, nu 0] ∧ ∀ w, Mem w N → CirAt w (renC c) h' js' ∧ RowA w icell 1 A (toM c))
def hdOf (h : Hd) (a3 a4 a5 a7 : Hdl) : Hd := fun
  | 3 => a3
  | 4 => a4
  | 5 => a5
  | 7 => a7
  | i => h i
/-- The rows of the reference's circuit. -/
theorem refCir {w : World} {c : Circ} {h : Hd} {a3 a4 a5 a7 : Hdl} {ps : List (Hdl × List Int)} (hps : ps.map (·.2) = (renC c).justice) (r1 : RowA w icell 1 (h 1).1 (renC c).inputs) (r2 : RowA w tcells 3 (h 2).1 (renC c).latches) (r3 : RowA w icell 1 a3.1 (renC c).outputs) (r4 : RowA w icell 1 a4.1 (renC c).bads) (r5 : RowA w icell 1 a5.1 (renC c).constraints)
    (r6 : RowA w encS 1 (h 6).1 ps) (rj : ∀ p ∈ ps, RowA w icell 1 p.1.1 p.2) (r7 : RowA w icell 1 a7.1 (renC c).fairness) (r8 : RowA w tcells 3 (h 8).1 (renC c).ands) (r9 : RowA w scells 3 (h 9).1 c.symbols) (r10 : RowA w bcell 1 (h 10).1 c.comments) :
    CirAt w (renC c) (hdOf h a3 a4 a5 a7) (fun k => (gt ps (k : Int)).1) := by
  have hl : ps.length = (renC c).justice.length := by rw [← hps, List.length_map]
  have he : ∀ k (hk : k < (renC c).justice.length), (gt ps (k : Int)).2 = (renC c).justice[k] := fun k hk => by
    have hk' : k < ps.length := by omega
    rw [gt_nat hk']
    have : (ps.map (·.2))[k]'(by simpa using hk') = (renC c).justice[k] := by simp only [hps]
    rw [← this, List.getElem_map]
  refine ⟨r1, r2, r3, r4, r5, fun k hk => ?_, fun k hk => ?_, r7, r8, r9, r10⟩
  · have hk' : k < ps.length := by omega
    obtain ⟨p, h1, h2⟩ := r6 k hk'
    refine ⟨p, h1, ?_⟩
    have := h2 0 _ rfl
    rw [add_zero] at this
    rw [this]
    show some (Value.slice ps[k].1.1 ps[k].2.length ps[k].1.2) = _
    rw [← he k hk, gt_nat hk']
  · rw [← he k hk]
    exact rj _ (gt_mem (by omega) (by omega))
def rowJ (p : Hdl × List Int) : Mm := [.vec icell 1 3 p.1.1 p.1.2 p.2]
theorem set_app {α : Type} {ps l : List α} {i : Nat} {a : α} (h : ps.length = i) (hl : i < l.length) : (ps ++ l.drop i).set (i : Int).toNat a = (ps ++ [a]) ++ l.drop (i + 1) := by
  rw [Int.toNat_natCast, List.set_append_right _ _ (by omega), h, Nat.sub_self, List.drop_eq_getElem_cons hl, List.set_cons_zero, List.append_assoc]
  rfl
attribute [local irreducible] WC WL WX WS WO OX Does DoesU Enters CV Pure thenQ blockQ retQ Wants retQC GC GL GS GX RdB thenG blockG retG Rd At gt CVN CVM
set_option maxRecDepth 100000
set_option maxHeartbeats 3200000 in
theorem renumberRef_ok {w : World} {c : Circ} {h js : Hd} (H : CirIn w c h js) (hn : Nils h js) (he : (lookM c).2 = 0) : CVN Try.prog 38 [.agg (ccells c h).toArray] w (RefRenR c) := by
  have R := right_of H.at_ H.sane he
  have hord : ∀ Γ, In Γ (.old w none_) → ∀ w', Mem w' Γ → CVN Try.prog 27 [.agg (ccells c h).toArray] w' fun v N => ∃ A k, v = .tuple #[.slice A (ordM c).length k, nu 0] ∧ N = [.vec icell 1 3 A k (ordM c)] := fun Γ hi w' M => (OrderRefG (H.at_.chg (hi.old M)) H.sane H.okay H.fits).mono fun v N hv => by
    rcases hv with ⟨h1, _⟩ | ⟨_, hv⟩
    · exact absurd he h1
    · exact hv
  have hcp : ∀ Γ, In Γ (.old w none_) → ∀ w', Mem w' Γ → CVN Try.prog 73 [.agg (ccells c h).toArray] w' fun v N => ∃ h' js', v = .agg (ccells c h').toArray ∧ N = [.vec icell 1 3 (h' 1).1 (h' 1).2 c.inputs, .vec tcells 3 70 (h' 2).1 (h' 2).2 c.latches, .vec encS 1 45 (h' 6).1 (h' 6).2 (jps c js'), .vec tcells 3 43 (h' 8).1 (h' 8).2 c.ands, .vec scells 3 117 (h' 9).1 (h' 9).2 c.symbols, .vec bcell 1 9 (h' 10).1 (h' 10).2 c.comments] := fun Γ hi w' M => copyG (H.at_.chg (hi.old M)) H.fits hn
  have hlit : ∀ Γ A K k, In Γ (.vec icell 1 3 A K (toM c)) → ∀ l, inR c l → ∀ w', Mem w' Γ → CVN Try.prog 104 [.slice A (c.max + 1).toNat k, nu l] w' fun v N => N = [] ∧ v = nu (litM (toM c) l) := fun Γ A K k hi l hl w' M => by
    have e := mapOf_len c.max (defsOf c (ordM c))
    rw [← e]
    unfold inR at hl
    have := R.m1
    have := R.m0
    exact Lit3_cv (hi.row M) R.mapOk (by rw [e]; unfold rg; omega) (by omega)
  have hlits : ∀ Γ A K k B k2 ls, In Γ (.old w none_) → In Γ (.vec icell 1 3 A K (toM c)) → RowA w icell 1 B ls → (∀ l ∈ ls, inR c l) → ls.length ≤ 100000 → ∀ w', Mem w' Γ → CVN Try.prog 105 [.slice A (c.max + 1).toNat k, .slice B ls.length k2] w' fun v N => ∃ A' k', v = .slice A' (ls.map (litM (toM c))).length k' ∧ N = [.vec icell 1 3 A' k' (ls.map (litM (toM c)))] := fun Γ A K k B k2 ls ho hi hB hl hn w' M => by
    have e := mapOf_len c.max (defsOf c (ordM c))
    rw [← e]
    have := R.m1
    have := R.m0
    exact Lits3_cv (hi.row M) (hB.chg (ho.old M)) R.mapOk (fun l h => by have := hl l h; unfold inR at this; exact ⟨by rw [e]; unfold rg; omega, by omega⟩) hn
  have hInp := H.at_.inputs
  have hLat := H.at_.latches
  have hAnd := H.at_.ands
  have m0 := R.m0
  have m1 := R.m1
  have n1 := R.nIn
  have n2 := R.nLat
  have n3 := R.nAnd
  have nd := R.nDefs
  have nl := R.nDefs_le
  have ol := R.ordLen
  have htl : (toM c).length = (c.max + 1).toNat := mapOf_len _ _
  refine CVN.enterC (t := 51) 214 2 [3, 4] Try.func38 rfl rfl rfl (.inr rfl) rfl ?_
  repeat' (first
      | (apply G_call; eq_refl; eq_refl; (apply hord; (repeat first | exact In.here | apply In.there | apply In.skip)); rintro _ _ ⟨Ao, ko, rfl, rfl⟩)
      | (apply G_call; eq_refl; eq_refl; (apply hcp; (repeat first | exact In.here | apply In.there | apply In.skip)); rintro _ _ ⟨h', js', rfl, rfl⟩)
      | (apply GC_seqK; intro K hK)
      | (apply hK; clear hK K)
      | (apply GC_block)
      | (apply GC_region)
      | (apply GL_nil)
      | (apply thenG_normal)
      | (apply GC_skip)
      | (apply GC_if_false; eq_refl)
      | (apply GL_on; eq_refl; eq_refl)
      | (apply G_pv; eq_refl; first | exact trivial | omega)
      | (apply G_field; eq_refl)
      | (apply G_ld; eq_refl; (repeat first | exact In.here | apply In.there | apply In.skip); eq_refl)
      | (apply G_ldW; eq_refl; (repeat first | exact In.here | apply In.there | apply In.skip); eq_refl)
      | (apply G_cmpF; eq_refl; eq_refl; omega)
      | (apply G_alloc; eq_refl; intro _)
      | (apply G_box; eq_refl; eq_refl; intro _)
      | (apply G_stW; (first | exact wr_p | kernel_rfl); eq_refl; eq_refl; eq_refl; eq_refl; (repeat first | exact Upd.here | apply Upd.there | apply Upd.skip); eq_refl)
      | (apply G_makeI icell; eq_refl; eq_refl; omega; eq_refl; omega; decide; intro _))
  rename_i b1 b2 b7 b9
  have mlen : ∀ i, (mapOf c.max ((defsOf c (ordM c)).take i)).length = (c.max + 1).toNat := fun i => mapOf_len _ _
  have il : (c.inputs.map (litM (toM c))).length = c.inputs.length := List.length_map _
  refine GC_loopK [1, 2, 5, 7, 9] (fun s : Nat × Int => [(8, nu s.2), (10, nu s.1)]) (fun s => [.vec icell 1 3 (some ⟨b7, 0, none⟩) (c.max + 1).toNat (mapOf c.max ((defsOf c (ordM c)).take s.1)), .vec icell 1 3 (h' 1).1 (h' 1).2 (mix (c.inputs.map (litM (toM c))) c.inputs s.1), .vec tcells 3 70 (h' 2).1 (h' 2).2 c.latches, .vec encS 1 45 (h' 6).1 (h' 6).2 (jps c js'), .vec tcells 3 43 (h' 8).1 (h' 8).2 c.ands, .vec scells 3 117 (h' 9).1 (h' 9).2 c.symbols, .vec bcell 1 9 (h' 10).1 (h' 10).2 c.comments, .vec icell 1 3 Ao ko (ordM c), .box b9 51 (ccells c h'), .box b2 51 Zc, .box b1 51 (ccells c h), .old w none_]) (fun s => s.1 ≤ c.inputs.length ∧ s.2 = 2 * s.1 + 2) (fun s => c.inputs.length - s.1) (0, 2) (by repeat first | exact Pick.nil | (apply Pick.cons; eq_refl)) (by repeat first | exact trivial | refine ⟨rfl, ?_⟩) (by repeat first | exact Wk.nil | exact Wk.refl | (apply Wk.cons; (focus ((repeat first | exact Rem.here | apply Rem.there | apply Rem.skip); done))) | apply Wk.nilv | apply Wk.last | apply Wk.drop) ⟨Nat.zero_le _, rfl⟩ ?_
  rintro ⟨i, x⟩ ⟨hi, hx⟩
  dsimp only at hi hx ⊢
  rcases Nat.lt_or_ge i c.inputs.length with hlt | hge
  · obtain ⟨hd, e2⟩ := R.def_inp hlt
    have e3 := R.lit_def hd
    rw [e2] at e3
    have e4 : mapOf c.max ((defsOf c (ordM c)).take (i + 1)) = (mapOf c.max ((defsOf c (ordM c)).take i)).set (gt c.inputs (i : Int) / 2).toNat x := map_step hd (by rw [e2, gt_nat hlt]) hx
    have e5 : mix (c.inputs.map (litM (toM c))) c.inputs (i + 1) = (mix (c.inputs.map (litM (toM c))) c.inputs i).set (i : Int).toNat x := (mix_step (by omega) il (by rw [List.getElem_map, e3, hx])).symm
    have e6 : (mix (c.inputs.map (litM (toM c))) c.inputs i).length = c.inputs.length := mix_len il
    have e7 := R.defs_rg (k := gt c.inputs (i : Int)) (by rw [gt_nat hlt, ← e2]; exact List.getElem_mem hd)
    unfold rg at e7
    have e8 := mlen i
    generalize mix (c.inputs.map (litM (toM c))) c.inputs i = ml at *
    generalize mapOf c.max ((defsOf c (ordM c)).take i) = mm at *
    repeat' (first
      | (apply GC_seqK; intro K hK)
      | (apply hK; clear hK K)
      | (apply GC_block)
      | (apply GC_region)
      | (apply GL_nil)
      | (apply thenG_normal)
      | (apply blockG_normal)
      | (apply GC_skip)
      | (apply GC_if_true; eq_refl)
      | (apply GL_on; eq_refl; eq_refl)
      | (apply G_pv; eq_refl; first | exact trivial | omega)
      | (apply G_field; eq_refl)
      | (apply G_ld; eq_refl; (repeat first | exact In.here | apply In.there | apply In.skip); eq_refl)
      | (apply G_rd; eq_refl; (first | (apply Rd.own; (repeat first | exact In.here | apply In.there | apply In.skip); infer_instance) | (apply Rd.old; (repeat first | exact In.here | apply In.there | apply In.skip); assumption) | (apply Rd.oldR; (repeat first | exact In.here | apply In.there | apply In.skip); assumption) | exact Rd.nil | assumption); (case ih => infer_instance); omega; omega; eq_refl)
      | (apply G_cmpT; eq_refl; eq_refl; omega)
      | (apply G_len; eq_refl)
      | (apply G_ix; eq_refl; eq_refl; (first | (apply Rd.own; (repeat first | exact In.here | apply In.there | apply In.skip); infer_instance) | (apply Rd.old; (repeat first | exact In.here | apply In.there | apply In.skip); assumption) | (apply Rd.oldR; (repeat first | exact In.here | apply In.there | apply In.skip); assumption) | exact Rd.nil | assumption); (first | eq_refl | omega); omega; omega)
      | (apply G_stV; (first | exact wr_p | kernel_rfl); eq_refl; eq_refl; eq_refl; eq_refl; (repeat first | exact Upd.here | apply Upd.there | apply Upd.skip); infer_instance; infer_instance; eq_refl; omega; (try simp only [List.length_set, List.length_append, List.length_replicate]); omega))
    refine ⟨(i + 1, _), (by repeat first | exact trivial | refine ⟨rfl, ?_⟩), ?_, ⟨hlt, by simp only; omega⟩, by simp only; omega⟩
    dsimp only
    rw [e4, e5]
    exact (by repeat first | exact Wk.nil | exact Wk.refl | (apply Wk.cons; (focus ((repeat first | exact Rem.here | apply Rem.there | apply Rem.skip); done))) | apply Wk.nilv | apply Wk.last | apply Wk.drop)
  obtain rfl : i = c.inputs.length := by omega
  rw [show mix (c.inputs.map (litM (toM c))) c.inputs c.inputs.length = (c.inputs.map (litM (toM c))) from mix_all (by omega) (Nat.le_refl _)]
  repeat' (first
      | (apply GC_seqK; intro K hK)
      | (apply hK; clear hK K)
      | (clear hK K; apply hK; clear hK K)
      | (apply GC_block)
      | (apply GC_region)
      | (apply GL_nil)
      | (apply thenG_normal)
      | (apply thenG_exit)
      | (apply blockG_hit)
      | (apply GC_exit)
      | (apply GC_if_false; eq_refl)
      | (apply GL_on; eq_refl; eq_refl)
      | (apply G_pv; eq_refl; first | exact trivial | omega)
      | (apply G_field; eq_refl)
      | (apply G_ld; eq_refl; (repeat first | exact In.here | apply In.there | apply In.skip); eq_refl)
      | (apply G_cmpF; eq_refl; eq_refl; omega)
      | (apply G_len; eq_refl))
  refine GC_loopK [1, 2, 5, 7, 9] (fun s : Nat × Int => [(8, nu s.2), (11, nu s.1)]) (fun s => [.vec icell 1 3 (some ⟨b7, 0, none⟩) (c.max + 1).toNat (mapOf c.max ((defsOf c (ordM c)).take (c.inputs.length + s.1))), .vec icell 1 3 (h' 1).1 (h' 1).2 (c.inputs.map (litM (toM c))), .vec tcells 3 70 (h' 2).1 (h' 2).2 c.latches, .vec encS 1 45 (h' 6).1 (h' 6).2 (jps c js'), .vec tcells 3 43 (h' 8).1 (h' 8).2 c.ands, .vec scells 3 117 (h' 9).1 (h' 9).2 c.symbols, .vec bcell 1 9 (h' 10).1 (h' 10).2 c.comments, .vec icell 1 3 Ao ko (ordM c), .box b9 51 (ccells c h'), .box b2 51 Zc, .box b1 51 (ccells c h), .old w none_]) (fun s => s.1 ≤ c.latches.length ∧ s.2 = 2 * (c.inputs.length + s.1) + 2) (fun s => c.latches.length - s.1) (0, x) (by repeat first | exact Pick.nil | (apply Pick.cons; eq_refl)) (by repeat first | exact trivial | refine ⟨rfl, ?_⟩) (by repeat first | exact Wk.nil | exact Wk.refl | (apply Wk.cons; (focus ((repeat first | exact Rem.here | apply Rem.there | apply Rem.skip); done))) | apply Wk.nilv | apply Wk.last | apply Wk.drop) ⟨Nat.zero_le _, by simp only; omega⟩ ?_
  rintro ⟨i, x2⟩ ⟨hi2, hx2⟩
  dsimp only at hi2 hx2 ⊢
  rcases Nat.lt_or_ge i c.latches.length with hlt | hge2
  · obtain ⟨hd, e2⟩ := R.def_lat hlt
    have e4 : mapOf c.max ((defsOf c (ordM c)).take (c.inputs.length + (i + 1))) = (mapOf c.max ((defsOf c (ordM c)).take (c.inputs.length + i))).set ((gt c.latches (i : Int)).1 / 2).toNat x2 := map_step (i := c.inputs.length + i) hd (by rw [e2, gt_nat hlt]) (by omega)
    have e7 := R.defs_rg (k := (gt c.latches (i : Int)).1) (by rw [gt_nat hlt, ← e2]; exact List.getElem_mem hd)
    unfold rg at e7
    have e8 := mlen (c.inputs.length + i)
    generalize mapOf c.max ((defsOf c (ordM c)).take (c.inputs.length + i)) = mm at *
    repeat' (first
      | (apply GC_seqK; intro K hK)
      | (apply hK; clear hK K)
      | (apply GC_block)
      | (apply GC_region)
      | (apply GL_nil)
      | (apply thenG_normal)
      | (apply blockG_normal)
      | (apply GC_skip)
      | (apply GC_if_true; eq_refl)
      | (apply GL_on; eq_refl; eq_refl)
      | (apply G_pv; eq_refl; first | exact trivial | omega)
      | (apply G_field; eq_refl)
      | (apply G_fieldP; eq_refl)
      | (apply G_ld; eq_refl; (repeat first | exact In.here | apply In.there | apply In.skip); eq_refl)
      | (apply G_rd; eq_refl; (first | (apply Rd.own; (repeat first | exact In.here | apply In.there | apply In.skip); infer_instance) | (apply Rd.old; (repeat first | exact In.here | apply In.there | apply In.skip); assumption) | (apply Rd.oldR; (repeat first | exact In.here | apply In.there | apply In.skip); assumption) | exact Rd.nil | assumption); (case ih => infer_instance); omega; omega; eq_refl)
      | (apply G_cmpT; eq_refl; eq_refl; omega)
      | (apply G_len; eq_refl)
      | (apply G_ix; eq_refl; eq_refl; (first | (apply Rd.own; (repeat first | exact In.here | apply In.there | apply In.skip); infer_instance) | (apply Rd.old; (repeat first | exact In.here | apply In.there | apply In.skip); assumption) | (apply Rd.oldR; (repeat first | exact In.here | apply In.there | apply In.skip); assumption) | exact Rd.nil | assumption); (first | eq_refl | omega); omega; omega)
      | (apply G_stV; (first | exact wr_p | kernel_rfl); eq_refl; eq_refl; eq_refl; eq_refl; (repeat first | exact Upd.here | apply Upd.there | apply Upd.skip); infer_instance; infer_instance; eq_refl; omega; (try simp only [List.length_set, List.length_append, List.length_replicate]); omega))
    refine ⟨(i + 1, _), (by repeat first | exact trivial | refine ⟨rfl, ?_⟩), ?_, ⟨hlt, by simp only; omega⟩, by simp only; omega⟩
    dsimp only
    rw [e4]
    exact (by repeat first | exact Wk.nil | exact Wk.refl | (apply Wk.cons; (focus ((repeat first | exact Rem.here | apply Rem.there | apply Rem.skip); done))) | apply Wk.nilv | apply Wk.last | apply Wk.drop)
  obtain rfl : i = c.latches.length := by omega
  repeat' (first
      | (apply GC_seqK; intro K hK)
      | (apply hK; clear hK K)
      | (clear hK K; apply hK; clear hK K)
      | (apply GC_block)
      | (apply GC_region)
      | (apply GL_nil)
      | (apply thenG_normal)
      | (apply thenG_exit)
      | (apply blockG_hit)
      | (apply GC_exit)
      | (apply GC_if_false; eq_refl)
      | (apply GL_on; eq_refl; eq_refl)
      | (apply G_pv; eq_refl; first | exact trivial | omega)
      | (apply G_field; eq_refl)
      | (apply G_ld; eq_refl; (repeat first | exact In.here | apply In.there | apply In.skip); eq_refl)
      | (apply G_cmpF; eq_refl; eq_refl; omega)
      | (apply G_len; eq_refl))
  refine GC_loopK [1, 2, 5, 7, 9] (fun s : Nat × Int => [(8, nu s.2), (12, nu s.1)]) (fun s => [.vec icell 1 3 (some ⟨b7, 0, none⟩) (c.max + 1).toNat (mapOf c.max ((defsOf c (ordM c)).take (c.inputs.length + c.latches.length + s.1))), .vec icell 1 3 (h' 1).1 (h' 1).2 (c.inputs.map (litM (toM c))), .vec tcells 3 70 (h' 2).1 (h' 2).2 c.latches, .vec encS 1 45 (h' 6).1 (h' 6).2 (jps c js'), .vec tcells 3 43 (h' 8).1 (h' 8).2 c.ands, .vec scells 3 117 (h' 9).1 (h' 9).2 c.symbols, .vec bcell 1 9 (h' 10).1 (h' 10).2 c.comments, .vec icell 1 3 Ao ko (ordM c), .box b9 51 (ccells c h'), .box b2 51 Zc, .box b1 51 (ccells c h), .old w none_]) (fun s => s.1 ≤ (ordM c).length ∧ s.2 = 2 * (c.inputs.length + c.latches.length + s.1) + 2) (fun s => (ordM c).length - s.1) (0, x2) (by repeat first | exact Pick.nil | (apply Pick.cons; eq_refl)) (by repeat first | exact trivial | refine ⟨rfl, ?_⟩) (by repeat first | exact Wk.nil | exact Wk.refl | (apply Wk.cons; (focus ((repeat first | exact Rem.here | apply Rem.there | apply Rem.skip); done))) | apply Wk.nilv | apply Wk.last | apply Wk.drop) ⟨Nat.zero_le _, by simp only; omega⟩ ?_
  rintro ⟨i, x3⟩ ⟨hi3, hx3⟩
  dsimp only at hi3 hx3 ⊢
  rcases Nat.lt_or_ge i (ordM c).length with hlt | hge3
  · obtain ⟨hd, e2⟩ := R.def_and hlt
    have ho := R.ord (gt_mem (l := ordM c) (i := (i : Int)) (by omega) (by omega))
    have e4 : mapOf c.max ((defsOf c (ordM c)).take (c.inputs.length + c.latches.length + (i + 1))) = (mapOf c.max ((defsOf c (ordM c)).take (c.inputs.length + c.latches.length + i))).set ((gt c.ands (gt (ordM c) (i : Int))).1 / 2).toNat x3 := map_step (i := c.inputs.length + c.latches.length + i) hd (by rw [e2, gt_and, gt_nat hlt]) (by omega)
    have e7 := R.defs_rg (k := (gt c.ands (gt (ordM c) (i : Int))).1) (by rw [gt_and, gt_nat hlt, ← e2]; exact List.getElem_mem hd)
    unfold rg at e7
    have e8 := mlen (c.inputs.length + c.latches.length + i)
    generalize mapOf c.max ((defsOf c (ordM c)).take (c.inputs.length + c.latches.length + i)) = mm at *
    repeat' (first
      | (apply GC_seqK; intro K hK)
      | (apply hK; clear hK K)
      | (apply GC_block)
      | (apply GC_region)
      | (apply GL_nil)
      | (apply thenG_normal)
      | (apply blockG_normal)
      | (apply GC_skip)
      | (apply GC_if_true; eq_refl)
      | (apply GL_on; eq_refl; eq_refl)
      | (refine GC_draws (id := 21) [.q 0, .q 1, .q 2, .q 3, .q 4, .q 5, .q 6, .q 7, .q 8, .q 9, .q 10, .q 11, .q 12, .c 13] mixed (by kernel_rfl) (by kernel_rfl) ?_)
      | (apply GS_nil)
      | (apply GS_qon; eq_refl; eq_refl; eq_refl; eq_refl)
      | (apply GS_con; eq_refl; eq_refl; eq_refl; eq_refl)
      | (apply G_pv; eq_refl; first | exact trivial | omega)
      | (apply G_field; eq_refl)
      | (apply G_fieldP; eq_refl)
      | (apply G_ld; eq_refl; (repeat first | exact In.here | apply In.there | apply In.skip); eq_refl)
      | (apply G_rd; eq_refl; (first | (apply Rd.own; (repeat first | exact In.here | apply In.there | apply In.skip); infer_instance) | (apply Rd.old; (repeat first | exact In.here | apply In.there | apply In.skip); assumption) | (apply Rd.oldR; (repeat first | exact In.here | apply In.there | apply In.skip); assumption) | exact Rd.nil | assumption); (case ih => infer_instance); omega; omega; eq_refl)
      | (apply G_cmpT; eq_refl; eq_refl; omega)
      | (apply G_len; eq_refl)
      | (apply G_ix; eq_refl; eq_refl; (first | (apply Rd.own; (repeat first | exact In.here | apply In.there | apply In.skip); infer_instance) | (apply Rd.old; (repeat first | exact In.here | apply In.there | apply In.skip); assumption) | (apply Rd.oldR; (repeat first | exact In.here | apply In.there | apply In.skip); assumption) | exact Rd.nil | assumption); (first | eq_refl | omega); omega; omega)
      | (apply G_stV; (first | exact wr_p | kernel_rfl); eq_refl; eq_refl; eq_refl; eq_refl; (repeat first | exact Upd.here | apply Upd.there | apply Upd.skip); infer_instance; infer_instance; eq_refl; omega; (try simp only [List.length_set, List.length_append, List.length_replicate]); omega))
    refine ⟨(i + 1, _), (by repeat first | exact trivial | refine ⟨rfl, ?_⟩), ?_, ⟨hlt, by simp only; omega⟩, by simp only; omega⟩
    dsimp only
    rw [e4]
    exact (by repeat first | exact Wk.nil | exact Wk.refl | (apply Wk.cons; (focus ((repeat first | exact Rem.here | apply Rem.there | apply Rem.skip); done))) | apply Wk.nilv | apply Wk.last | apply Wk.drop)
  obtain rfl : i = (ordM c).length := by omega
  rw [show mapOf c.max ((defsOf c (ordM c)).take (c.inputs.length + c.latches.length + (ordM c).length)) = toM c by rw [List.take_of_length_le (by omega)]]
  have kl : (c.latches.map (renLatch (toM c))).length = c.latches.length := List.length_map _
  have ka : ((ordM c).map fun i => renAnd (toM c) (andAt c i)).length = c.ands.length := by rw [List.length_map]; exact ol
  repeat' (first
      | (apply GC_seqK; intro K hK)
      | (apply hK; clear hK K)
      | (clear hK K; apply hK; clear hK K)
      | (apply GC_block)
      | (apply GC_region)
      | (apply GL_nil)
      | (apply thenG_normal)
      | (apply thenG_exit)
      | (apply blockG_hit)
      | (apply GC_exit)
      | (apply GC_if_false; eq_refl)
      | (apply GL_on; eq_refl; eq_refl)
      | (apply G_pv; eq_refl; first | exact trivial | omega)
      | (apply G_cmpF; eq_refl; eq_refl; omega)
      | (apply G_len; eq_refl))
  refine GC_loopK [1, 2, 5, 7, 8, 9] (fun i : Nat => [(13, nu i)]) (fun i => [.vec icell 1 3 (some ⟨b7, 0, none⟩) (c.max + 1).toNat (toM c), .vec icell 1 3 (h' 1).1 (h' 1).2 (c.inputs.map (litM (toM c))), .vec tcells 3 70 (h' 2).1 (h' 2).2 (mix (c.latches.map (renLatch (toM c))) c.latches i), .vec encS 1 45 (h' 6).1 (h' 6).2 (jps c js'), .vec tcells 3 43 (h' 8).1 (h' 8).2 c.ands, .vec scells 3 117 (h' 9).1 (h' 9).2 c.symbols, .vec bcell 1 9 (h' 10).1 (h' 10).2 c.comments, .vec icell 1 3 Ao ko (ordM c), .box b9 51 (ccells c h'), .box b2 51 Zc, .box b1 51 (ccells c h), .old w none_]) (fun i => i ≤ c.latches.length) (fun i => c.latches.length - i) 0 (by repeat first | exact Pick.nil | (apply Pick.cons; eq_refl)) (by repeat first | exact trivial | refine ⟨rfl, ?_⟩) (by repeat first | exact Wk.nil | exact Wk.refl | (apply Wk.cons; (focus ((repeat first | exact Rem.here | apply Rem.there | apply Rem.skip); done))) | apply Wk.nilv | apply Wk.last | apply Wk.drop) (Nat.zero_le _) ?_
  intro i hi4
  rcases Nat.lt_or_ge i c.latches.length with hlt | hge4
  · have hm := gt_mem (l := c.latches) (i := (i : Int)) (by omega) (by omega)
    obtain ⟨g1, g2, g3⟩ := R.lat hm
    have g0 : inR c (gt c.latches (i : Int)).1 := by unfold defR at g1; unfold inR; omega
    have e5 : mix (c.latches.map (renLatch (toM c))) c.latches (i + 1) = (mix (c.latches.map (renLatch (toM c))) c.latches i).set (i : Int).toNat (renLatch (toM c) (gt c.latches (i : Int))) := (mix_step (by omega) kl (by rw [List.getElem_map, gt_nat hlt])).symm
    have e6 : (mix (c.latches.map (renLatch (toM c))) c.latches i).length = c.latches.length := mix_len kl
    generalize mix (c.latches.map (renLatch (toM c))) c.latches i = ml at *
    by_cases hr : 1 < (gt c.latches (i : Int)).2.2
    · have e9 : tcells (renLatch (toM c) (gt c.latches (i : Int))) = [nu (litM (toM c) (gt c.latches (i : Int)).1), nu (litM (toM c) (gt c.latches (i : Int)).2.1), nu (litM (toM c) (gt c.latches (i : Int)).1)] := by
        unfold renLatch tcells
        rw [if_pos hr]
        have : (gt c.latches (i : Int)).2.2 = (gt c.latches (i : Int)).1 := by omega
        rw [this]
      repeat' (first
      | (apply G_call; eq_refl; eq_refl; (apply hlit; (repeat first | exact In.here | apply In.there | apply In.skip); first | exact g0 | exact g2); rintro _ _ ⟨rfl, rfl⟩)
      | (apply G_stVW (renLatch (toM c) (gt c.latches (i : Int))); (first | exact wr_p | kernel_rfl); eq_refl; eq_refl; exact e9.symm; (repeat first | exact Upd.here | apply Upd.there | apply Upd.skip); infer_instance; omega; omega)
      | (apply GC_seqK; intro K hK)
      | (apply hK; clear hK K)
      | (apply GC_block)
      | (apply GC_region)
      | (apply GL_nil)
      | (apply thenG_normal)
      | (apply blockG_normal)
      | (apply GC_skip)
      | (apply GC_if_true; eq_refl)
      | (apply GL_on; eq_refl; eq_refl)
      | (refine GC_draws (id := 30) [.q 0, .q 1, .q 2, .q 3, .q 4, .q 5, .q 7, .q 8, .q 9, .q 11, .c 6, .c 10, .q 12, .q 13, .c 14] mixed (by kernel_rfl) (by kernel_rfl) ?_)
      | (apply GS_nil)
      | (apply GS_qon; eq_refl; eq_refl; eq_refl; eq_refl)
      | (apply GS_con; eq_refl; eq_refl; eq_refl; eq_refl)
      | (apply G_pv; eq_refl; first | exact trivial | omega)
      | (apply G_field; eq_refl)
      | (apply G_ld; eq_refl; (repeat first | exact In.here | apply In.there | apply In.skip); eq_refl)
      | (apply G_rdW; eq_refl; (first | (apply Rd.own; (repeat first | exact In.here | apply In.there | apply In.skip); infer_instance) | (apply Rd.old; (repeat first | exact In.here | apply In.there | apply In.skip); assumption) | (apply Rd.oldR; (repeat first | exact In.here | apply In.there | apply In.skip); assumption) | exact Rd.nil | assumption); infer_instance; (case ih => infer_instance); omega; omega)
      | (apply G_cmpT; eq_refl; eq_refl; omega)
      | (apply G_len; eq_refl)
      | (apply G_ix; eq_refl; eq_refl; (first | (apply Rd.own; (repeat first | exact In.here | apply In.there | apply In.skip); infer_instance) | (apply Rd.old; (repeat first | exact In.here | apply In.there | apply In.skip); assumption) | (apply Rd.oldR; (repeat first | exact In.here | apply In.there | apply In.skip); assumption) | exact Rd.nil | assumption); (first | eq_refl | omega); omega; omega)
      | (apply G_alloc; eq_refl; intro _)
      | (apply G_stW; (first | exact wr_p | kernel_rfl); eq_refl; eq_refl; eq_refl; eq_refl; (repeat first | exact Upd.here | apply Upd.there | apply Upd.skip); eq_refl)
      | (apply GX_pure; apply build70_0_1_2 <;> eq_refl))
      refine ⟨i + 1, (by repeat first | exact trivial | refine ⟨rfl, ?_⟩), ?_, hlt, by omega⟩
      rw [e5]
      exact (by repeat first | exact Wk.nil | exact Wk.refl | (apply Wk.cons; (focus ((repeat first | exact Rem.here | apply Rem.there | apply Rem.skip); done))) | apply Wk.nilv | apply Wk.last | apply Wk.drop)
    · have e9 : tcells (renLatch (toM c) (gt c.latches (i : Int))) = [nu (litM (toM c) (gt c.latches (i : Int)).1), nu (litM (toM c) (gt c.latches (i : Int)).2.1), nu (gt c.latches (i : Int)).2.2] := by
        unfold renLatch tcells
        rw [if_neg hr]
      repeat' (first
      | (apply G_call; eq_refl; eq_refl; (apply hlit; (repeat first | exact In.here | apply In.there | apply In.skip); first | exact g0 | exact g2); rintro _ _ ⟨rfl, rfl⟩)
      | (apply G_stVW (renLatch (toM c) (gt c.latches (i : Int))); (first | exact wr_p | kernel_rfl); eq_refl; eq_refl; exact e9.symm; (repeat first | exact Upd.here | apply Upd.there | apply Upd.skip); infer_instance; omega; omega)
      | (apply GC_seqK; intro K hK)
      | (apply hK; clear hK K)
      | (apply GC_block)
      | (apply GC_region)
      | (apply GL_nil)
      | (apply thenG_normal)
      | (apply blockG_normal)
      | (apply GC_skip)
      | (apply GC_if_true; eq_refl)
      | (apply GC_if_false; eq_refl)
      | (apply GL_on; eq_refl; eq_refl)
      | (refine GC_draws (id := 30) [.q 0, .q 1, .q 2, .q 3, .q 4, .q 5, .q 7, .q 8, .q 9, .q 11, .c 6, .c 10, .q 12, .q 13, .c 14] mixed (by kernel_rfl) (by kernel_rfl) ?_)
      | (apply GS_nil)
      | (apply GS_qon; eq_refl; eq_refl; eq_refl; eq_refl)
      | (apply GS_con; eq_refl; eq_refl; eq_refl; eq_refl)
      | (apply G_pv; eq_refl; first | exact trivial | omega)
      | (apply G_field; eq_refl)
      | (apply G_ld; eq_refl; (repeat first | exact In.here | apply In.there | apply In.skip); eq_refl)
      | (apply G_rdW; eq_refl; (first | (apply Rd.own; (repeat first | exact In.here | apply In.there | apply In.skip); infer_instance) | (apply Rd.old; (repeat first | exact In.here | apply In.there | apply In.skip); assumption) | (apply Rd.oldR; (repeat first | exact In.here | apply In.there | apply In.skip); assumption) | exact Rd.nil | assumption); infer_instance; (case ih => infer_instance); omega; omega)
      | (apply G_cmpT; eq_refl; eq_refl; omega)
      | (apply G_cmpF; eq_refl; eq_refl; omega)
      | (apply G_len; eq_refl)
      | (apply G_ix; eq_refl; eq_refl; (first | (apply Rd.own; (repeat first | exact In.here | apply In.there | apply In.skip); infer_instance) | (apply Rd.old; (repeat first | exact In.here | apply In.there | apply In.skip); assumption) | (apply Rd.oldR; (repeat first | exact In.here | apply In.there | apply In.skip); assumption) | exact Rd.nil | assumption); (first | eq_refl | omega); omega; omega)
      | (apply G_alloc; eq_refl; intro _)
      | (apply G_stW; (first | exact wr_p | kernel_rfl); eq_refl; eq_refl; eq_refl; eq_refl; (repeat first | exact Upd.here | apply Upd.there | apply Upd.skip); eq_refl)
      | (apply GX_pure; apply build70_0_1_2 <;> eq_refl))
      refine ⟨i + 1, (by repeat first | exact trivial | refine ⟨rfl, ?_⟩), ?_, hlt, by omega⟩
      rw [e5]
      exact (by repeat first | exact Wk.nil | exact Wk.refl | (apply Wk.cons; (focus ((repeat first | exact Rem.here | apply Rem.there | apply Rem.skip); done))) | apply Wk.nilv | apply Wk.last | apply Wk.drop)
  obtain rfl : i = c.latches.length := by omega
  rw [show mix (c.latches.map (renLatch (toM c))) c.latches c.latches.length = (c.latches.map (renLatch (toM c))) from mix_all (by omega) (Nat.le_refl _)]
  repeat' (first
      | (apply GC_seqK; intro K hK)
      | (apply hK; clear hK K)
      | (clear hK K; apply hK; clear hK K)
      | (apply GC_block)
      | (apply GC_region)
      | (apply GL_nil)
      | (apply thenG_normal)
      | (apply thenG_exit)
      | (apply blockG_hit)
      | (apply GC_exit)
      | (apply GC_if_false; eq_refl)
      | (apply GL_on; eq_refl; eq_refl)
      | (apply G_pv; eq_refl; first | exact trivial | omega)
      | (apply G_field; eq_refl)
      | (apply G_ld; eq_refl; (repeat first | exact In.here | apply In.there | apply In.skip); eq_refl)
      | (apply G_cmpF; eq_refl; eq_refl; omega)
      | (apply G_len; eq_refl))
  refine GC_loopK [1, 2, 5, 7, 8, 9] (fun i : Nat => [(16, nu i)]) (fun i => [.vec icell 1 3 (some ⟨b7, 0, none⟩) (c.max + 1).toNat (toM c), .vec icell 1 3 (h' 1).1 (h' 1).2 (c.inputs.map (litM (toM c))), .vec tcells 3 70 (h' 2).1 (h' 2).2 (c.latches.map (renLatch (toM c))), .vec encS 1 45 (h' 6).1 (h' 6).2 (jps c js'), .vec tcells 3 43 (h' 8).1 (h' 8).2 (mix ((ordM c).map fun i => renAnd (toM c) (andAt c i)) c.ands i), .vec scells 3 117 (h' 9).1 (h' 9).2 c.symbols, .vec bcell 1 9 (h' 10).1 (h' 10).2 c.comments, .vec icell 1 3 Ao ko (ordM c), .box b9 51 (ccells c h'), .box b2 51 Zc, .box b1 51 (ccells c h), .old w none_]) (fun i => i ≤ (ordM c).length) (fun i => (ordM c).length - i) 0 (by repeat first | exact Pick.nil | (apply Pick.cons; eq_refl)) (by repeat first | exact trivial | refine ⟨rfl, ?_⟩) (by repeat first | exact Wk.nil | exact Wk.refl | (apply Wk.cons; (focus ((repeat first | exact Rem.here | apply Rem.there | apply Rem.skip); done))) | apply Wk.nilv | apply Wk.last | apply Wk.drop) (Nat.zero_le _) ?_
  intro i hi5
  rcases Nat.lt_or_ge i (ordM c).length with hlt | hge5
  · have ho := R.ord (gt_mem (l := ordM c) (i := (i : Int)) (by omega) (by omega))
    have hm := gt_mem (l := c.ands) (i := gt (ordM c) (i : Int)) (by omega) (by omega)
    obtain ⟨g1, g2, g3⟩ := R.gate hm
    have e9 : tcells (renAnd (toM c) (gt c.ands (gt (ordM c) (i : Int)))) = [nu (litM (toM c) (gt c.ands (gt (ordM c) (i : Int))).1), nu (max (litM (toM c) (gt c.ands (gt (ordM c) (i : Int))).2.1) (litM (toM c) (gt c.ands (gt (ordM c) (i : Int))).2.2)), nu (min (litM (toM c) (gt c.ands (gt (ordM c) (i : Int))).2.1) (litM (toM c) (gt c.ands (gt (ordM c) (i : Int))).2.2))] := rfl
    have g0 : inR c (gt c.ands (gt (ordM c) (i : Int))).1 := by unfold defR at g1; unfold inR; omega
    have e5 : mix ((ordM c).map fun i => renAnd (toM c) (andAt c i)) c.ands (i + 1) = (mix ((ordM c).map fun i => renAnd (toM c) (andAt c i)) c.ands i).set (i : Int).toNat (renAnd (toM c) (gt c.ands (gt (ordM c) (i : Int)))) := (mix_step (by omega) ka (by rw [List.getElem_map, gt_and, gt_nat hlt])).symm
    have e6 : (mix ((ordM c).map fun i => renAnd (toM c) (andAt c i)) c.ands i).length = c.ands.length := mix_len ka
    generalize mix ((ordM c).map fun i => renAnd (toM c) (andAt c i)) c.ands i = ml at *
    repeat' (first
      | (apply G_call; eq_refl; eq_refl; (apply hlit; (repeat first | exact In.here | apply In.there | apply In.skip); first | exact g0 | exact g2 | exact g3); rintro _ _ ⟨rfl, rfl⟩)
      | (apply G_stVW (renAnd (toM c) (gt c.ands (gt (ordM c) (i : Int)))); (first | exact wr_p | kernel_rfl); eq_refl; eq_refl; exact e9.symm; (repeat first | exact Upd.here | apply Upd.there | apply Upd.skip); infer_instance; omega; omega)
      | (apply GC_seqK; intro K hK)
      | (apply hK; clear hK K)
      | (apply GC_block)
      | (apply GC_region)
      | (apply GL_nil)
      | (apply thenG_normal)
      | (apply blockG_normal)
      | (apply GC_skip)
      | (apply GC_if_true; eq_refl)
      | (apply GL_on; eq_refl; eq_refl)
      | (refine GC_draws (id := 34) [.q 0, .q 1, .q 2, .q 3, .q 4, .q 5, .q 6, .q 7, .c 8, .c 9] mixed (by kernel_rfl) (by kernel_rfl) ?_)
      | (refine GC_draws (id := 35) [.q 0, .q 1, .q 2, .q 4, .q 5, .q 6, .c 3, .c 7, .q 8, .q 9] mixed (by kernel_rfl) (by kernel_rfl) ?_)
      | (refine GC_draws (id := 36) [.q 0, .q 1, .q 2, .q 3, .q 4, .q 5, .q 7, .q 8, .q 9, .q 10, .q 11, .q 12, .c 6, .q 13, .q 14, .c 15] mixed (by kernel_rfl) (by kernel_rfl) ?_)
      | (apply GS_nil)
      | (apply GS_qon; eq_refl; eq_refl; eq_refl; eq_refl)
      | (apply GS_con; eq_refl; eq_refl; eq_refl; eq_refl)
      | (apply G_pv; eq_refl; first | exact trivial | omega)
      | (apply G_field; eq_refl)
      | (apply G_ld; eq_refl; (repeat first | exact In.here | apply In.there | apply In.skip); eq_refl)
      | (apply G_rd; eq_refl; (first | (apply Rd.own; (repeat first | exact In.here | apply In.there | apply In.skip); infer_instance) | (apply Rd.old; (repeat first | exact In.here | apply In.there | apply In.skip); assumption) | (apply Rd.oldR; (repeat first | exact In.here | apply In.there | apply In.skip); assumption) | exact Rd.nil | assumption); (case ih => infer_instance); omega; omega; eq_refl)
      | (apply G_rdW; eq_refl; (first | (apply Rd.own; (repeat first | exact In.here | apply In.there | apply In.skip); infer_instance) | (apply Rd.old; (repeat first | exact In.here | apply In.there | apply In.skip); assumption) | (apply Rd.oldR; (repeat first | exact In.here | apply In.there | apply In.skip); assumption) | exact Rd.nil | assumption); infer_instance; (case ih => infer_instance); omega; omega)
      | (apply G_cmpT; eq_refl; eq_refl; omega)
      | (apply G_len; eq_refl)
      | (apply G_max; eq_refl; eq_refl)
      | (apply G_min; eq_refl; eq_refl)
      | (apply G_ix; eq_refl; eq_refl; (first | (apply Rd.own; (repeat first | exact In.here | apply In.there | apply In.skip); infer_instance) | (apply Rd.old; (repeat first | exact In.here | apply In.there | apply In.skip); assumption) | (apply Rd.oldR; (repeat first | exact In.here | apply In.there | apply In.skip); assumption) | exact Rd.nil | assumption); (first | eq_refl | omega); omega; omega)
      | (apply G_alloc; eq_refl; intro _)
      | (apply G_stW; (first | exact wr_p | kernel_rfl); eq_refl; eq_refl; eq_refl; eq_refl; (repeat first | exact Upd.here | apply Upd.there | apply Upd.skip); eq_refl)
      | (apply GX_pure; apply build43_0_1_2 <;> eq_refl))
    refine ⟨i + 1, (by repeat first | exact trivial | refine ⟨rfl, ?_⟩), ?_, hlt, by omega⟩
    rw [e5]
    exact (by repeat first | exact Wk.nil | exact Wk.refl | (apply Wk.cons; (focus ((repeat first | exact Rem.here | apply Rem.there | apply Rem.skip); done))) | apply Wk.nilv | apply Wk.last | apply Wk.drop)
  obtain rfl : i = (ordM c).length := by omega
  rw [show mix ((ordM c).map fun i => renAnd (toM c) (andAt c i)) c.ands (ordM c).length = ((ordM c).map fun i => renAnd (toM c) (andAt c i)) from mix_all (by omega) (by omega)]
  have hOut := H.at_.outputs
  have hBad := H.at_.bads
  have hCon := H.at_.constraints
  have hFai := H.at_.fairness
  have n4 : c.outputs.length ≤ 16384 := by have := R.lens c.outputs.length (by simp [Circ.lens]); omega
  have n5 := R.nBad
  have n6 := R.nCon
  have n7 := R.nFair
  have n8 := R.nJust
  have u4 : ∀ l ∈ c.outputs, inR c l := fun l h => ⟨(R.use.outputs l h).1, (R.use.outputs l h).2.1⟩
  have u5 : ∀ l ∈ c.bads, inR c l := fun l h => R.bad h
  have u6 : ∀ l ∈ c.constraints, inR c l := fun l h => R.con h
  have u7 : ∀ l ∈ c.fairness, inR c l := fun l h => R.fair h
  repeat' (first
      | (apply G_call; eq_refl; eq_refl; (apply hlits; (repeat first | exact In.here | apply In.there | apply In.skip); (repeat first | exact In.here | apply In.there | apply In.skip); exact hOut; exact u4; omega); rintro _ _ ⟨A3, k3, rfl, rfl⟩)
      | (apply G_call; eq_refl; eq_refl; (apply hlits; (repeat first | exact In.here | apply In.there | apply In.skip); (repeat first | exact In.here | apply In.there | apply In.skip); exact hBad; exact u5; omega); rintro _ _ ⟨A4, k4, rfl, rfl⟩)
      | (apply G_call; eq_refl; eq_refl; (apply hlits; (repeat first | exact In.here | apply In.there | apply In.skip); (repeat first | exact In.here | apply In.there | apply In.skip); exact hCon; exact u6; omega); rintro _ _ ⟨A5, k5, rfl, rfl⟩)
      | (apply G_call; eq_refl; eq_refl; (apply hlits; (repeat first | exact In.here | apply In.there | apply In.skip); (repeat first | exact In.here | apply In.there | apply In.skip); exact hFai; exact u7; omega); rintro _ _ ⟨A7, k7, rfl, rfl⟩)
      | (apply GC_seqK; intro K hK)
      | (apply hK; clear hK K)
      | (clear hK K; apply hK; clear hK K)
      | (apply GC_block)
      | (apply GC_region)
      | (apply GL_nil)
      | (apply thenG_normal)
      | (apply thenG_exit)
      | (apply blockG_hit)
      | (apply GC_exit)
      | (apply GC_if_false; eq_refl)
      | (apply GL_on; eq_refl; eq_refl)
      | (refine GC_draws (id := 38) [.q 0, .q 1, .q 2, .q 4, .q 5, .q 6, .q 8, .q 9, .q 10, .q 12, .q 13, .q 14, .c 3, .q 16, .c 7, .c 11, .c 15, .c 17, .q 18, .c 19, .q 20, .c 21, .q 22, .c 23] mixed (by kernel_rfl) (by kernel_rfl) ?_)
      | (apply GS_nil)
      | (apply GS_qon; eq_refl; eq_refl; eq_refl; eq_refl)
      | (apply GS_con; eq_refl; eq_refl; eq_refl; eq_refl)
      | (apply G_pv; eq_refl; first | exact trivial | omega)
      | (apply G_field; eq_refl)
      | (apply G_ld; eq_refl; (repeat first | exact In.here | apply In.there | apply In.skip); eq_refl)
      | (apply G_cmpF; eq_refl; eq_refl; omega)
      | (apply G_len; eq_refl)
      | (apply G_st; (first | exact wr_p | kernel_rfl); eq_refl; eq_refl; eq_refl; eq_refl; (repeat first | exact Upd.here | apply Upd.there | apply Upd.skip); (first | decide | exact Nat.le_of_ble_eq_true rfl)))
  have e9 : ((((((ccells c h').set (0 + 0) (Value.int IntKind.i64 (x3 / 2 - 1))).set (0 + 3) (Value.slice A3 (c.outputs.map (litM (toM c))).length k3)).set (0 + 4) (Value.slice A4 (c.bads.map (litM (toM c))).length k4)).set (0 + 5) (Value.slice A5 (c.constraints.map (litM (toM c))).length k5)).set (0 + 7) (Value.slice A7 (c.fairness.map (litM (toM c))).length k7)) = ccells (renC c) (hdOf h' (A3, k3) (A4, k4) (A5, k5) (A7, k7)) := by
    have q0 : (renC c).max = x3 / 2 - 1 := by rw [ren_max]; omega
    have q1 : (renC c).inputs.length = c.inputs.length := List.length_map _
    have q2 : (renC c).latches.length = c.latches.length := List.length_map _
    have q6 : (renC c).justice.length = c.justice.length := List.length_map _
    have q8 := R.ren_ands
    unfold ccells
    rw [q0, q1, q2, q6, q8]
    rfl
  rw [e9]
  have hJ := H.at_.jrow
  have jl := jps_len c js
  have jl' := jps_len c js'
  have jl2 : (renC c).justice.length = c.justice.length := List.length_map _
  refine GC_loopK [1, 2, 7, 9] (fun s : Nat × List (Hdl × List Int) => [(20, nu s.1)]) (fun s => .vec encS 1 45 (h' 6).1 (h' 6).2 (s.2 ++ (jps c js').drop s.1) :: .vec icell 1 3 A7 k7 (c.fairness.map (litM (toM c))) :: .vec icell 1 3 A5 k5 (c.constraints.map (litM (toM c))) :: .vec icell 1 3 A4 k4 (c.bads.map (litM (toM c))) :: .vec icell 1 3 A3 k3 (c.outputs.map (litM (toM c))) :: .vec icell 1 3 (some ⟨b7, 0, none⟩) (c.max + 1).toNat (toM c) :: .vec icell 1 3 (h' 1).1 (h' 1).2 (c.inputs.map (litM (toM c))) :: .vec tcells 3 70 (h' 2).1 (h' 2).2 (c.latches.map (renLatch (toM c))) :: .vec tcells 3 43 (h' 8).1 (h' 8).2 ((ordM c).map fun i => renAnd (toM c) (andAt c i)) :: .vec scells 3 117 (h' 9).1 (h' 9).2 c.symbols :: .vec bcell 1 9 (h' 10).1 (h' 10).2 c.comments :: .box b9 51 (ccells (renC c) (hdOf h' (A3, k3) (A4, k4) (A5, k5) (A7, k7))) :: .box b2 51 Zc :: .box b1 51 (ccells c h) :: .old w none_ :: fam rowJ s.2)
    (fun s => s.1 ≤ c.justice.length ∧ s.2.map (·.2) = (c.justice.take s.1).map fun l => l.map (litM (toM c))) (fun s => c.justice.length - s.1) (0, []) (by repeat first | exact Pick.nil | (apply Pick.cons; eq_refl)) (by repeat first | exact trivial | refine ⟨rfl, ?_⟩) (by repeat first | exact Wk.nil | exact Wk.refl | (apply Wk.cons; (focus ((repeat first | exact Rem.here | apply Rem.there | apply Rem.skip); done))) | apply Wk.nilv | apply Wk.last | apply Wk.drop) ⟨Nat.zero_le _, rfl⟩ ?_
  rintro ⟨i, ps⟩ ⟨hi6, hps⟩
  dsimp only at hi6 hps ⊢
  have hpl : ps.length = i := by have := congrArg List.length hps; simp only [List.length_map, List.length_take] at this; omega
  rcases Nat.lt_or_ge i c.justice.length with hlt | hge6
  · have hjm : (gt (jps c js) (i : Int)).2 = c.justice[i] := by rw [jps_gt c js hlt]
    have hjr := H.at_.jeach hlt
    have hju : ∀ l ∈ (gt (jps c js) (i : Int)).2, inR c l := fun l hl => R.just (List.getElem_mem hlt) (by rw [← hjm]; exact hl)
    have hjn : (gt (jps c js) (i : Int)).2.length ≤ 100000 := by
      rw [hjm]
      have q := each_sum hlt
      have := R.sumJ H.fits
      omega
    have hll : (ps ++ (jps c js').drop i).length = c.justice.length := by simp; omega
    repeat' (first
      | (apply G_call; eq_refl; eq_refl; (apply hlits; (repeat first | exact In.here | apply In.there | apply In.skip); (repeat first | exact In.here | apply In.there | apply In.skip); exact hjr; exact hju; exact hjn); rintro _ _ ⟨A', k', rfl, rfl⟩)
      | (apply G_stV (a := ((A', k'), (gt (jps c js) (i : Int)).2.map (litM (toM c)))); (first | exact wr_p | kernel_rfl); eq_refl; eq_refl; eq_refl; eq_refl; (repeat first | exact Upd.here | apply Upd.there | apply Upd.skip); infer_instance; infer_instance; eq_refl; omega; omega)
      | (apply GC_seqK; intro K hK)
      | (apply hK; clear hK K)
      | (apply GC_block)
      | (apply GC_region)
      | (apply GL_nil)
      | (apply thenG_normal)
      | (apply blockG_normal)
      | (apply GC_skip)
      | (apply GC_if_true; eq_refl)
      | (apply GL_on; eq_refl; eq_refl)
      | (refine GC_draws (id := 42) [.q 0, .q 1, .q 2, .q 3, .q 4, .q 5, .q 6, .q 7, .q 8, .c 9, .q 10, .c 11] mixed (by kernel_rfl) (by kernel_rfl) ?_)
      | (apply GS_nil)
      | (apply GS_qon; eq_refl; eq_refl; eq_refl; eq_refl)
      | (apply GS_con; eq_refl; eq_refl; eq_refl; eq_refl)
      | (apply G_pv; eq_refl; first | exact trivial | omega)
      | (apply G_field; eq_refl)
      | (apply G_ld; eq_refl; (repeat first | exact In.here | apply In.there | apply In.skip); eq_refl)
      | (apply G_rd; eq_refl; (first | (apply Rd.own; (repeat first | exact In.here | apply In.there | apply In.skip); infer_instance) | (apply Rd.old; (repeat first | exact In.here | apply In.there | apply In.skip); assumption) | (apply Rd.oldR; (repeat first | exact In.here | apply In.there | apply In.skip); assumption) | exact Rd.nil | assumption); (case ih => infer_instance); omega; omega; eq_refl)
      | (apply G_cmpT; eq_refl; eq_refl; omega)
      | (apply G_len; eq_refl)
      | (apply G_ix; eq_refl; eq_refl; (first | (apply Rd.own; (repeat first | exact In.here | apply In.there | apply In.skip); infer_instance) | (apply Rd.old; (repeat first | exact In.here | apply In.there | apply In.skip); assumption) | (apply Rd.oldR; (repeat first | exact In.here | apply In.there | apply In.skip); assumption) | exact Rd.nil | assumption); (first | eq_refl | omega); omega; omega))
    refine ⟨(i + 1, ps ++ [((A', k'), (gt (jps c js) (i : Int)).2.map (litM (toM c)))]), (by repeat first | exact trivial | refine ⟨rfl, ?_⟩), ?_, ⟨hlt, ?_⟩, by simp only; omega⟩
    · dsimp only
      rw [fam_snoc, ← set_app hpl (by omega)]
      exact (by repeat first | exact Wk.nil | exact Wk.refl | (apply Wk.cons; (focus ((repeat first | exact Rem.here | apply Rem.there | apply Rem.skip); done))) | apply Wk.nilv | apply Wk.last | apply Wk.drop)
    · dsimp only
      rw [List.map_append, hps, List.take_succ_eq_append_getElem hlt, List.map_append, hjm]
      rfl
  obtain rfl : i = c.justice.length := by omega
  rw [show (jps c js').drop c.justice.length = [] from List.drop_of_length_le (by omega), List.append_nil]
  rw [List.take_length] at hps
  repeat' (first
      | (apply GC_seqK; intro K hK)
      | (apply hK; clear hK K)
      | (clear hK K; apply hK; clear hK K)
      | (apply GC_region)
      | (apply GL_nil)
      | (apply thenG_normal)
      | (apply thenG_exit)
      | (apply blockG_hit)
      | (apply GC_ret)
      | (apply GC_exit)
      | (apply GC_if_false; eq_refl)
      | (apply retGC2; eq_refl; (repeat first | exact In.here | apply In.there | apply In.skip); eq_refl; eq_refl; eq_refl)
      | (apply GL_on; eq_refl; eq_refl)
      | (apply G_pv; eq_refl; first | exact trivial | omega)
      | (apply G_field; eq_refl)
      | (apply G_ld; eq_refl; (repeat first | exact In.here | apply In.there | apply In.skip); eq_refl)
      | (apply G_ldW; eq_refl; (repeat first | exact In.here | apply In.there | apply In.skip); eq_refl)
      | (apply G_cmpF; eq_refl; eq_refl; omega)
      | (apply G_len; eq_refl)
      | (apply G_stW; (first | exact wr_p | kernel_rfl); eq_refl; eq_refl; eq_refl; eq_refl; (repeat first | exact Upd.here | apply Upd.there | apply Upd.skip); eq_refl))
  refine ⟨.vec encS 1 45 (h' 6).1 (h' 6).2 ps :: .vec icell 1 3 A7 k7 (c.fairness.map (litM (toM c))) :: .vec icell 1 3 A5 k5 (c.constraints.map (litM (toM c))) :: .vec icell 1 3 A4 k4 (c.bads.map (litM (toM c))) :: .vec icell 1 3 A3 k3 (c.outputs.map (litM (toM c))) :: .vec icell 1 3 (some ⟨b7, 0, none⟩) (c.max + 1).toNat (toM c) :: .vec icell 1 3 (h' 1).1 (h' 1).2 (c.inputs.map (litM (toM c))) :: .vec tcells 3 70 (h' 2).1 (h' 2).2 (c.latches.map (renLatch (toM c))) :: .vec tcells 3 43 (h' 8).1 (h' 8).2 ((ordM c).map fun i => renAnd (toM c) (andAt c i)) :: .vec scells 3 117 (h' 9).1 (h' 9).2 c.symbols :: .vec bcell 1 9 (h' 10).1 (h' 10).2 c.comments :: fam rowJ ps, (by repeat first | exact Wk.nil | exact Wk.refl | (apply Wk.cons; (focus ((repeat first | exact Rem.here | apply Rem.there | apply Rem.skip); done))) | apply Wk.nilv | apply Wk.last | apply Wk.drop), .inr ⟨he, hdOf h' (A3, k3) (A4, k4) (A5, k5) (A7, k7), fun k => (gt ps (k : Int)).1, some ⟨b7, 0, none⟩, (c.max + 1).toNat, by rw [htl], fun w M => ⟨refCir hps ?_ ?_ ?_ ?_ ?_ ?_ ?_ ?_ ?_ ?_ ?_, ?_⟩⟩⟩
  rotate_left 6
  · intro p hp
    have hE := fam_mem (f := rowJ) hp (E := .vec icell 1 3 p.1.1 p.1.2 p.2) (by unfold rowJ; simp)
    exact In.row (by repeat first | exact In.of hE | apply In.there) M
  all_goals exact In.row (by (repeat first | exact In.here | apply In.there | apply In.skip)) M
end SC
end Go.Proofs.Ytkndegjodnciaaa
end
section
/- trestlelaw03: ShapeRenumbers: the walk. -/
set_option linter.unusedVariables false
set_option linter.unusedSimpArgs false
namespace Go.Proofs.Ytkndegjodnciaaa
namespace SC
open Go.Proofs
/-- A circuit of its own, as an entry. -/
def cirX (base : Nat) (c : Circ) (h js : Hd) : EntX where
  own := fun b => ∃ i, (cirRows c h js js c.justice.length i).v.ownBlock = some b
  ok := fun w => CirOwn w base c h js
  lt := fun w H b ⟨i, hi⟩ => (Rows.lt H hi).2
  keep := fun w w' S H hc hn => Rows.chg H hc fun i b hb => hn b ⟨i, hb⟩
theorem RenumberG2 {w : World} {c : Circ} {h js : Hd} (H : CirIn w c h js) (he : (lookM c).2 = 0) : CVN Try.prog 37 [.agg (ccells c h).toArray] w fun v N => ∃ h' js' A k base, v = .tuple #[.agg (ccells (renC c) h').toArray, .slice A (toM c).length k, nu 0] ∧ N = [.any (cirX base (renC c) h' js'), .vec icell 1 3 A k (toM c)] := by
  have R := right_of H.at_ H.sane he
  refine CV.mono (Renumber_cv H.at_ H.sane (R.sumJ H.fits)) fun v w' ⟨hc, hv⟩ => ?_
  rcases hv with ⟨h1, _⟩ | ⟨_, ord, h', js', u, h2, _, rfl, ⟨h4, mid, h6, h7⟩, h5⟩
  · exact absurd he h1
  · have e := ordM_eq h2
    subst e
    rw [← flat_icell] at h5
    obtain ⟨A, k, rfl⟩ := row_form' h5
    have o2 : (Ent.vec icell 1 3 A k (toM c)).ok w' := ownsRow_low h5
    have M1 : Mem w' [.any (cirX mid (renC c) h' js'), .vec icell 1 3 A k (toM c)] := (Mem.one o2).cons (E := .any (cirX mid (renC c) h' js')) h6 fun b ⟨i, hi⟩ ⟨F, hF, hb⟩ => by
      simp only [List.mem_singleton] at hF
      subst hF
      have := (Rows.lt h6 hi).1
      have := h7 b hb
      omega
    refine ⟨_, Mem.join M1 (.one hc) fun b ⟨E, hE, h1⟩ ⟨F, hF, h2⟩ => ?_, h', js', A, k, mid, rfl, rfl⟩
    simp only [List.mem_singleton] at hF
    subst hF
    have hlt := h2.1
    simp only [List.mem_cons, List.not_mem_nil, or_false] at hE
    rcases hE with rfl | rfl
    · obtain ⟨i, hi⟩ := h1
      have := (Rows.lt h4 hi).1
      omega
    · have := (World.ownsRow.lt h5 b h1).1
      omega
theorem In.cir {Γ : Mm} {w w0 : World} {base : Nat} {c : Circ} {h js h' js' : Hd} (H : CirIn w0 c h js) (he : (lookM c).2 = 0) (hi : In Γ (.any (cirX base (renC c) h' js'))) (M : Mem w Γ) : CirIn w (renC c) h' js' := by
  have R := right_of H.at_ H.sane he
  exact ⟨CirOwn.at (hi.ok M), R.ren_sane H.sane, R.ren_okay H.okay, R.ren_fits H.fits⟩
theorem spoilCirG {w : World} {base : Nat} {c : Circ} {h js : Hd} {mark : Int} (ho : c.Okay) (M : Mem w [.any (cirX base c h js)]) : CVM Try.prog 36 [.agg (ccells c h).toArray, nu mark] w [.any (cirX base c h js)] fun v N => N = [] :=
  CV.mono (spoilCircuit_cv (mark := mark) ((In.here (E := .any (cirX base c h js)) (Γ := [])).ok M) ho) fun v w' h => ⟨[], .one (h.mono fun k hk => owns_cons.2 (.inl hk)), rfl⟩
/-- The zero circuit. -/
def zCir : Circ := ⟨0, [], [], [], [], [], [], [], [], [], []⟩
theorem zc_cells : Zc = ccells zCir fun _ => (none, 0) := rfl
theorem zc_own {w : World} : CirOwn w 0 zCir (fun _ => (none, 0)) (fun _ => (none, 0)) := by
  refine ⟨fun i => ?_, fun i j k _ h => ?_⟩
  · match i with
    | 0 | 1 | 2 | 3 | 4 | 5 | 6 | 7 | 8 | 9 | 10 => exact World.ownsRow_nil _ _ _ _
    | k + 11 => exact World.ownsRow_nil _ _ _ _
  · match i with
    | 0 | 1 | 2 | 3 | 4 | 5 | 6 | 7 | 8 | 9 | 10 => cases h
    | k + 11 => cases h
attribute [local irreducible] WC WL WX WS WO OX Does DoesU Enters CV Pure thenQ blockQ retQ Wants retQC GC GL GS GX RdB thenG blockG retG Rd At gt CVN CVM
set_option maxRecDepth 100000
theorem renumberRef_no {w : World} {c : Circ} {h js : Hd} (H : CirIn w c h js) (he : (lookM c).2 ≠ 0) : CVN Try.prog 38 [.agg (ccells c h).toArray] w fun v N => v = .tuple #[.agg Zc.toArray, .slice none 0 0, nu (lookM c).2] ∧ N = [] := by
  have hord : ∀ Γ, In Γ (.old w none_) → ∀ w', Mem w' Γ → CVN Try.prog 27 [.agg (ccells c h).toArray] w' (OrdR c) := fun Γ hi w' M => OrderRefG (H.at_.chg (hi.old M)) H.sane H.okay H.fits
  refine CVN.enterC (t := 51) 214 2 [3, 4] Try.func38 rfl rfl rfl (.inr rfl) rfl ?_
  repeat' (first
      | (apply G_call; eq_refl; eq_refl; (apply hord; (repeat first | exact In.here | apply In.there | apply In.skip)); rintro _ _ (⟨_, rfl, rfl⟩ | ⟨he', A1, k1, rfl, rfl⟩); rotate_left; (exact absurd he' he))
      | (apply GC_seqK; intro K hK)
      | (apply hK; clear hK K)
      | (apply GC_region)
      | (apply GL_nil)
      | (apply thenG_normal)
      | (apply thenG_ret)
      | (apply GC_ret)
      | (apply GC_if_true; eq_refl)
      | (apply retGC2; eq_refl; (repeat first | exact In.here | apply In.there | apply In.skip); eq_refl; eq_refl; eq_refl)
      | (apply GL_on; eq_refl; eq_refl)
      | (apply G_pv; eq_refl; first | exact trivial | omega)
      | (apply G_ldW; eq_refl; (repeat first | exact In.here | apply In.there | apply In.skip); eq_refl)
      | (apply G_cmpT; eq_refl; eq_refl; omega)
      | (apply G_alloc; eq_refl; intro _)
      | (apply G_box; eq_refl; eq_refl; intro _)
      | (apply G_stW; (first | exact wr_p | kernel_rfl); eq_refl; eq_refl; eq_refl; eq_refl; (repeat first | exact Upd.here | apply Upd.there | apply Upd.skip); eq_refl)
      | (apply GX_pure; apply build51_))
  exact ⟨[], (by repeat first | exact Wk.nil | exact Wk.refl | (apply Wk.cons; (focus ((repeat first | exact Rem.here | apply Rem.there | apply Rem.skip); done))) | apply Wk.nilv | apply Wk.last | apply Wk.drop), rfl, rfl⟩
end SC
end Go.Proofs.Ytkndegjodnciaaa
end
section
/- trestlelaw03: ShapeRenumbers: the walk. -/
set_option linter.unusedVariables false
set_option linter.unusedSimpArgs false
namespace Go.Proofs.Ytkndegjodnciaaa
namespace SC
open Go.Proofs
set_option maxRecDepth 100000
theorem In.cirAt {Γ : Mm} {w : World} {base : Nat} {c : Circ} {h js : Hd} (hi : In Γ (.any (cirX base c h js))) (M : Mem w Γ) : CirAt w c h js := CirOwn.at (hi.ok M)
theorem zCir_at {w : World} : CirAt w zCir (fun _ => (none, 0)) (fun _ => (none, 0)) := CirOwn.at zc_own
theorem zCir_ok : zCir.Okay := by
  refine ⟨fun n hn => ?_, fun l hl => ?_, fun l hl => ?_, fun l hl => ?_, fun l hl => ?_⟩
  · simp [zCir, Circ.lens] at hn; omega
  all_goals cases hl
theorem zc_none (i k : Nat) : ¬ (cirRows zCir (fun _ => (none, 0)) (fun _ => (none, 0)) (fun _ => (none, 0)) zCir.justice.length i).v.ownBlock = some k := by
  match i with
  | 0 | 1 | 2 | 3 | 4 | 5 | 6 | 7 | 8 | 9 | 10 => intro h; cases h
  | i + 11 => intro h; cases h
theorem spoilZ {w : World} {mark : Int} : CVN Try.prog 36 [.agg Zc.toArray, nu mark] w fun v N => N = [] := by
  have h0 : CirOwn w 0 zCir (fun _ => (none, 0)) (fun _ => (none, 0)) := zc_own
  have h1 := spoilCircuit_cv (mark := mark) h0 zCir_ok
  rw [← zc_cells] at h1
  exact CV.mono h1 fun v w' h => ⟨[], .one (h.mono fun k ⟨i, hi⟩ => (zc_none i k hi).elim), rfl⟩
theorem spoilN {w : World} {mark : Int} : CVN Try.prog 29 [.slice none 0 0, nu mark] w fun v N => N = [] := CV.mono (spoilNil_cv (w := w) (mark := mark)) fun v w' h => ⟨[], .one h, rfl⟩
theorem sameC {w : World} {c : Circ} {h k js ks : Hd} (H : CirAt w c h js) (H' : CirAt w c k ks) (hc : c.Okay) : CVN Try.prog 34 [.agg (ccells c h).toArray, .agg (ccells c k).toArray] w fun v N => N = [] ∧ v = .bool true :=
  CVN.of (sameCircuit_cv H H' hc hc) fun v w' ⟨b, e1, e2, e3⟩ => ⟨e3, by rw [e1, e2.2 rfl]⟩
attribute [local irreducible] WC WL WX WS WO OX Does DoesU Enters CV Pure thenQ blockQ retQ Wants retQC GC GL GS GX RdB thenG blockG retG Rd At gt CVN CVM
attribute [local irreducible] bun cirX lentX
set_option maxRecDepth 100000
set_option maxHeartbeats 1600000 in
theorem shapeRenumbers_cv {w : World} {c : Circ} {h js : Hd} (H : CirGot w c h js) : CVN Try.prog 7 [.agg (ccells c h).toArray] w fun v N => N = [] ∧ v = .bool true := by
  have hL : ∀ Γ, In Γ (.old w none_) → ∀ w', Mem w' Γ → CVN Try.prog 23 [.agg (ccells c h).toArray] w' (LendR c) := fun Γ hi w' M => LendG (H.at_.chg (hi.old M)) H.fits1 H.nils
  have hKp : ∀ Γ base h' js', In Γ (.any (lentX base c h' js')) → In Γ (.old w none_) → ∀ w', Mem w' Γ → CVN Try.prog 30 [.agg (ccells c h').toArray, .agg (ccells c h).toArray] w' _ := fun Γ base h' js' hi ho w' M => KeptG H hi ho M
  have hW : ∀ w', CVN Try.prog 31 [] w' fun v N => N = [] ∧ v = .bool true := fun w' => CVN.of works_cv fun v w' h => ⟨h.2, h.1⟩
  have hB : ∀ Γ base h' js', In Γ (.any (lentX base c h' js')) → ∀ w', Mem w' Γ → CVN Try.prog 39 [.agg (ccells c h').toArray] w' fun v N => N = [] ∧ v = .tuple #[.bool (isBin c), nu (lookM c).2] := fun Γ base h' js' hi w' M => isBinary_cv (In.lent H.toCirIn hi M)
  have hB2 : ∀ Γ, In Γ (.old w none_) → ∀ w', Mem w' Γ → CVN Try.prog 40 [.agg (ccells c h).toArray] w' fun v N => N = [] ∧ v = .tuple #[.bool (isBin c), nu (lookM c).2] := fun Γ ho w' M => isBinaryRef_cv (H.toCirIn.chg (ho.old M))
  refine CVN.enter 87 [2] Try.func7 rfl rfl rfl (by decide) rfl ?_
  by_cases he : (lookM c).2 = 0
  · have R := right_of H.at_ H.sane he
    have hR : ∀ Γ base h' js', In Γ (.any (lentX base c h' js')) → ∀ w', Mem w' Γ → CVN Try.prog 37 [.agg (ccells c h').toArray] w' fun v N => ∃ h' js' A k base, v = .tuple #[.agg (ccells (renC c) h').toArray, .slice A (toM c).length k, nu 0] ∧ N = [.any (cirX base (renC c) h' js'), .vec icell 1 3 A k (toM c)] := fun Γ base h' js' hi w' M => RenumberG2 (In.lent H.toCirIn hi M) he
    have hRef : ∀ Γ, In Γ (.old w none_) → ∀ w', Mem w' Γ → CVN Try.prog 38 [.agg (ccells c h).toArray] w' fun v N => ∃ h' js' A k N', v = .tuple #[.agg (ccells (renC c) h').toArray, .slice A (toM c).length k, nu 0] ∧ (∀ w, Mem w N' → CirAt w (renC c) h' js' ∧ RowA w icell 1 A (toM c)) ∧ N = [.any (bun N')] := fun Γ ho w' M => (renumberRef_ok (H.toCirIn.chg (ho.old M)) H.nils he).bun.mono fun v N ⟨N', hv, e⟩ => by
      rcases hv with ⟨h1, _⟩ | ⟨_, h', js', A, k, e1, e2⟩
      · exact absurd he h1
      · exact ⟨h', js', A, k, N', e1, e2, e⟩
    have hO := R.ren_okay H.okay
    have hS : ∀ Γ base h1 js1 h2 js2 A2 N', In Γ (.any (cirX base (renC c) h1 js1)) → In Γ (.any (bun N')) → (∀ w, Mem w N' → CirAt w (renC c) h2 js2 ∧ RowA w icell 1 A2 (toM c)) → ∀ w', Mem w' Γ → CVN Try.prog 34 [.agg (ccells (renC c) h1).toArray, .agg (ccells (renC c) h2).toArray] w' fun v N => N = [] ∧ v = .bool true := fun Γ base h1 js1 h2 js2 A2 N' hi hb hN w' M => sameC (hi.cirAt M) (hN w' (hb.bun M)).1 hO
    have hI : ∀ Γ h2 js2 A1 k1 A2 k2 N', In Γ (.vec icell 1 3 A1 k1 (toM c)) → In Γ (.any (bun N')) → (∀ w, Mem w N' → CirAt w (renC c) h2 js2 ∧ RowA w icell 1 A2 (toM c)) → ∀ w', Mem w' Γ → CVN Try.prog 28 [.slice A1 (toM c).length k1, .slice A2 (toM c).length k2] w' fun v N => N = [] ∧ v = .bool true := fun Γ h2 js2 A1 k1 A2 k2 N' hi hb hN w' M => sameIntsG (hi.row M) (hN w' (hb.bun M)).2 (vec_len (hi.ok M))
    have hX : ∀ base h1 js1 w', Mem w' [.any (cirX base (renC c) h1 js1)] → CVM Try.prog 36 [.agg (ccells (renC c) h1).toArray, nu (-7)] w' [.any (cirX base (renC c) h1 js1)] fun v N => N = [] := fun base h1 js1 w' M => spoilCirG hO M
    have hY : ∀ (A : Option Addr) (k : Nat) (l : List Int), ∀ w', Mem w' [.vec icell 1 3 A k l] → CVM Try.prog 29 [.slice A l.length k, nu (-8)] w' [.vec icell 1 3 A k l] _ := fun A k l w' M => spoilIntsG M
    rw [he] at hB hB2
    generalize isBin c = β at *
    generalize toM c = T at *
    generalize renC c = c' at *
    cases β
    all_goals
      repeat' (first
      | (apply G_call; eq_refl; eq_refl; (apply hL; (repeat first | exact In.here | apply In.there | apply In.skip)); rintro _ _ ⟨base, h', js', rfl, rfl⟩)
      | (apply GC_seqK; intro K hK)
      | (apply hK; clear hK K)
      | (apply GC_region)
      | (apply GL_nil)
      | (apply thenG_normal)
      | (apply GL_on; eq_refl; eq_refl)
      | (apply G_pv; eq_refl; first | exact trivial | omega)
      | (apply G_ldW; eq_refl; (repeat first | exact In.here | apply In.there | apply In.skip); eq_refl)
      | (apply G_alloc; eq_refl; intro _)
      | (apply G_box; eq_refl; eq_refl; intro _)
      | (apply G_stW; (first | exact wr_p | kernel_rfl); eq_refl; eq_refl; eq_refl; eq_refl; (repeat first | exact Upd.here | apply Upd.there | apply Upd.skip); eq_refl))
      apply G_call; eq_refl; eq_refl; (apply hR; (repeat first | exact In.here | apply In.there | apply In.skip)); rintro _ _ ⟨h1, js1, A1, k1, base1, rfl, rfl⟩
      repeat' (first
      | (apply G_call; eq_refl; eq_refl; (apply hR; (repeat first | exact In.here | apply In.there | apply In.skip)); rintro _ _ ⟨h2, js2, A2, k2, base2, rfl, rfl⟩)
      | (apply G_call; eq_refl; eq_refl; (apply hRef; (repeat first | exact In.here | apply In.there | apply In.skip)); rintro _ _ ⟨h3, js3, A3, k3, N', rfl, hN, rfl⟩)
      | (apply G_call; eq_refl; eq_refl; (apply hB; (repeat first | exact In.here | apply In.there | apply In.skip)); rintro _ _ ⟨rfl, rfl⟩)
      | (apply G_call; eq_refl; eq_refl; (apply hB2; (repeat first | exact In.here | apply In.there | apply In.skip)); rintro _ _ ⟨rfl, rfl⟩)
      | (apply G_call; eq_refl; eq_refl; (apply hS; (repeat first | exact In.here | apply In.there | apply In.skip); (repeat first | exact In.here | apply In.there | apply In.skip); exact hN); rintro _ _ ⟨rfl, rfl⟩)
      | (apply G_call; eq_refl; eq_refl; (apply hI; (repeat first | exact In.here | apply In.there | apply In.skip); (repeat first | exact In.here | apply In.there | apply In.skip); exact hN); rintro _ _ ⟨rfl, rfl⟩)
      | (apply G_callM2 (C := [.any (cirX base1 c' h1 js1)]); exact wr_p; eq_refl; (apply hX); (repeat first | exact Rems.nil | (apply Rems.cons; (focus ((repeat first | exact Rem.here | apply Rem.there | apply Rem.skip); done)))); rintro _ _ rfl)
      | (apply G_callM2; exact wr_p; eq_refl; (apply hY); (repeat first | exact Rems.nil | (apply Rems.cons; (focus ((repeat first | exact Rem.here | apply Rem.there | apply Rem.skip); done)))); rintro _ _ rfl)
      | (apply G_call; eq_refl; eq_refl; (apply hKp; (repeat first | exact In.here | apply In.there | apply In.skip); (repeat first | exact In.here | apply In.there | apply In.skip)); rintro _ _ ⟨rfl, rfl⟩)
      | (apply G_call; eq_refl; eq_refl; (exact fun w' _ => hW w'); rintro _ _ ⟨rfl, rfl⟩)
      | (apply GC_seqK; intro K hK)
      | (apply hK; clear hK K)
      | (apply GC_region)
      | (apply GL_nil)
      | (apply thenG_normal)
      | (apply GC_ret)
      | (apply GC_skip)
      | (apply GC_if_false; eq_refl)
      | (apply retG1; eq_refl)
      | (apply GL_on; eq_refl; eq_refl)
      | (apply G_pv; eq_refl; first | exact trivial | omega)
      | (apply G_ldW; eq_refl; (repeat first | exact In.here | apply In.there | apply In.skip); eq_refl)
      | (apply G_cmpF; eq_refl; eq_refl; omega)
      | (apply G_neqB; eq_refl; eq_refl)
      | (apply G_alloc; eq_refl; intro _)
      | (apply G_stW; (first | exact wr_p | kernel_rfl); eq_refl; eq_refl; eq_refl; eq_refl; (repeat first | exact Upd.here | apply Upd.there | apply Upd.skip); eq_refl))
      exact ⟨[], (by repeat first | exact Wk.nil | exact Wk.refl | (apply Wk.cons; (focus ((repeat first | exact Rem.here | apply Rem.there | apply Rem.skip); done))) | apply Wk.nilv | apply Wk.last | apply Wk.drop), rfl, rfl⟩
  · have hR : ∀ Γ base h' js', In Γ (.any (lentX base c h' js')) → ∀ w', Mem w' Γ → CVN Try.prog 37 [.agg (ccells c h').toArray] w' fun v N => v = .tuple #[.agg Zc.toArray, .slice none 0 0, nu (lookM c).2] ∧ N = [] := fun Γ base h' js' hi w' M => (renumber_no (In.lent H.toCirIn hi M) he).mono fun v N hv => by
      rcases hv with ⟨_, hv⟩ | ⟨h1, _⟩
      · exact hv
      · exact absurd h1 he
    have hRef : ∀ Γ, In Γ (.old w none_) → ∀ w', Mem w' Γ → CVN Try.prog 38 [.agg (ccells c h).toArray] w' fun v N => v = .tuple #[.agg Zc.toArray, .slice none 0 0, nu (lookM c).2] ∧ N = [] := fun Γ ho w' M => renumberRef_no (H.toCirIn.chg (ho.old M)) he
    have hS : ∀ w', CVN Try.prog 34 [.agg Zc.toArray, .agg Zc.toArray] w' fun v N => N = [] ∧ v = .bool true := fun w' => by
      have := sameC (zCir_at (w := w')) (zCir_at (w := w')) zCir_ok
      rw [← zc_cells] at this
      exact this
    have hI : ∀ w', CVN Try.prog 28 [.slice none 0 0, .slice none 0 0] w' fun v N => N = [] ∧ v = .bool true := fun w' => sameIntsG (l := []) (fun k hk => absurd hk (Nat.not_lt_zero _)) (fun k hk => absurd hk (Nat.not_lt_zero _)) (Nat.zero_le _)
    have hX : ∀ w', CVN Try.prog 36 [.agg Zc.toArray, nu (-7)] w' fun v N => N = [] := fun w' => spoilZ
    have hY : ∀ w', CVN Try.prog 29 [.slice none 0 0, nu (-8)] w' fun v N => N = [] := fun w' => spoilN
    rw [isBin_no he] at hB hB2
    generalize (lookM c).2 = ε at *
    repeat' (first
      | (apply G_call; eq_refl; eq_refl; (apply hL; (repeat first | exact In.here | apply In.there | apply In.skip)); rintro _ _ ⟨base, h', js', rfl, rfl⟩)
      | (apply G_call; eq_refl; eq_refl; (apply hR; (repeat first | exact In.here | apply In.there | apply In.skip)); rintro _ _ ⟨rfl, rfl⟩)
      | (apply G_call; eq_refl; eq_refl; (apply hRef; (repeat first | exact In.here | apply In.there | apply In.skip)); rintro _ _ ⟨rfl, rfl⟩)
      | (apply G_call; eq_refl; eq_refl; (apply hB; (repeat first | exact In.here | apply In.there | apply In.skip)); rintro _ _ ⟨rfl, rfl⟩)
      | (apply G_call; eq_refl; eq_refl; (apply hB2; (repeat first | exact In.here | apply In.there | apply In.skip)); rintro _ _ ⟨rfl, rfl⟩)
      | (apply G_call; eq_refl; eq_refl; (exact fun w' _ => hS w'); rintro _ _ ⟨rfl, rfl⟩)
      | (apply G_call; eq_refl; eq_refl; (exact fun w' _ => hI w'); rintro _ _ ⟨rfl, rfl⟩)
      | (apply G_call; eq_refl; eq_refl; (exact fun w' _ => hX w'); rintro _ _ rfl)
      | (apply G_call; eq_refl; eq_refl; (exact fun w' _ => hY w'); rintro _ _ rfl)
      | (apply G_call; eq_refl; eq_refl; (apply hKp; (repeat first | exact In.here | apply In.there | apply In.skip); (repeat first | exact In.here | apply In.there | apply In.skip)); rintro _ _ ⟨rfl, rfl⟩)
      | (apply G_call; eq_refl; eq_refl; (exact fun w' _ => hW w'); rintro _ _ ⟨rfl, rfl⟩)
      | (apply GC_seqK; intro K hK)
      | (apply hK; clear hK K)
      | (apply GC_region)
      | (apply GL_nil)
      | (apply thenG_normal)
      | (apply GC_ret)
      | (apply GC_skip)
      | (apply GC_if_false; eq_refl)
      | (apply retG1; eq_refl)
      | (apply GL_on; eq_refl; eq_refl)
      | (apply G_pv; eq_refl; first | exact trivial | omega)
      | (apply G_ldW; eq_refl; (repeat first | exact In.here | apply In.there | apply In.skip); eq_refl)
      | (apply G_cmpF; eq_refl; eq_refl; omega)
      | (apply G_neqB; eq_refl; eq_refl)
      | (apply G_alloc; eq_refl; intro _)
      | (apply G_box; eq_refl; eq_refl; intro _)
      | (apply G_stW; (first | exact wr_p | kernel_rfl); eq_refl; eq_refl; eq_refl; eq_refl; (repeat first | exact Upd.here | apply Upd.there | apply Upd.skip); eq_refl))
    exact ⟨[], (by repeat first | exact Wk.nil | exact Wk.refl | (apply Wk.cons; (focus ((repeat first | exact Rem.here | apply Rem.there | apply Rem.skip); done))) | apply Wk.nilv | apply Wk.last | apply Wk.drop), rfl, rfl⟩
end SC
end Go.Proofs.Ytkndegjodnciaaa
end
