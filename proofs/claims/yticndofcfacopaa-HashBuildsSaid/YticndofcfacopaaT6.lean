/- Texts of this seat, one behind the other: N40 N44 N45 N29 N42 N46. -/
import Derived.Test.YticndofcfacopaaT5
section
/- hash: Build of a right circuit: the walk. -/
set_option linter.unusedVariables false
set_option linter.unusedSimpArgs false
namespace Go.Proofs.Yticndofcfacopaa
namespace SC
open Go.Proofs
theorem map_step {max : Int} {ks : List Int} {i : Nat} {x y : Int} (h : i < ks.length) (hx : ks[i] = x) (hy : y = 2 * (i : Int) + 2) : mapOf max (ks.take (i + 1)) = (mapOf max (ks.take i)).set (x / 2).toNat y := by
  rw [List.take_succ_eq_append_getElem h, mapOf_snoc, List.length_take, Nat.min_eq_left (by omega), hx, hy]
theorem gt_and (c : Circ) (i : Int) : gt c.ands i = andAt c i := rfl
theorem mix_get {α : Type} [Inhabited α] {a b : List α} {i : Nat} (h : a.length = b.length) (hi : i < b.length) : gt (mix a b i) (i : Int) = gt b (i : Int) := by
  have e : (a.take i).length = i := by rw [List.length_take]; omega
  rw [gt_nat (by rw [mix_len h]; exact hi), gt_nat hi]
  unfold mix
  rw [List.getElem_append_right (by omega)]
  simp [e]
theorem mix_rows {f : Hdl × List Int → Hdl × List Int} {ps : List (Hdl × List Int)} {i : Nat} (h : i < ps.length) : mix (ps.map f) ps i = (ps.map f).take i ++ gt ps (i : Int) :: ps.drop (i + 1) ∧ mix (ps.map f) ps (i + 1) = (ps.map f).take i ++ f (gt ps (i : Int)) :: ps.drop (i + 1) := by
  rw [gt_nat h]
  unfold mix
  refine ⟨by rw [List.drop_eq_getElem_cons h], ?_⟩
  rw [List.take_succ_eq_append_getElem (by rw [List.length_map]; exact h), List.append_assoc, List.getElem_map]
  rfl
theorem rows_ok {c : Circ} (R : Right c) (hf : c.Fits) {h js : Hd} : ∀ p ∈ rowsOf c h js, (∀ l ∈ p.2, inR c l) ∧ p.2.length ≤ 16384 := by
  intro p hp
  unfold rowsOf at hp
  rcases List.mem_append.1 hp with hp | hp
  · simp only [List.mem_cons, List.not_mem_nil, or_false] at hp
    rcases hp with rfl | rfl | rfl | rfl | rfl
    · exact ⟨fun l hl => (R.inp hl).in, R.nIn⟩
    · exact ⟨fun l hl => ⟨(R.use.outputs l hl).1, (R.use.outputs l hl).2.1⟩, by have h9 := R.lens c.outputs.length (by simp [Circ.lens]); simp only; omega⟩
    · exact ⟨fun l hl => R.bad hl, R.nBad⟩
    · exact ⟨fun l hl => R.con hl, R.nCon⟩
    · exact ⟨fun l hl => R.fair hl, R.nFair⟩
  · have h1 : p.2 ∈ (jps c js).map (·.2) := List.mem_map_of_mem hp
    rw [jps_snd] at h1
    refine ⟨fun l hl => R.just h1 hl, ?_⟩
    have h2 := sumL_mem h1
    have h3 := R.sumJ hf
    omega
theorem bAt_zero (c : Circ) : mapOf c.max ((defsOf c (ordM c)).take (c.inputs.length + c.latches.length)) = (bAt c 0).1 := by
  unfold bAt defsOf
  rw [List.take_zero, List.take_left' (by simp)]
  rfl
attribute [local irreducible] WC WL WX WS WO OX Does DoesU Enters CV Pure thenQ blockQ retQ Wants retQC GC GL GS GX RdB thenG blockG retG Rd At gt CVN CVM
attribute [local irreducible] bldX cirX fam
set_option maxRecDepth 100000
set_option maxHeartbeats 3200000 in
theorem build_ok {w : World} {c : Circ} {h js : Hd} (H : CirIn w c h js) (he : (lookM c).2 = 0) : CVN Try.prog 32 [.agg (ccells c h).toArray] w fun v N => ∃ h' js' A k, v = .tuple #[.agg (ccells (bC c) h').toArray, .slice A (bT c).length k, nu 0] ∧ N = [.any (cirX 0 (bC c) h' js'), .vec icell 1 3 A k (bT c)] := by
  have R := right_of H.at_ H.sane he
  have hord : ∀ Γ, In Γ (.old w none_) → ∀ w', Mem w' Γ → CVN Try.prog 61 [.agg (ccells c h).toArray] w' fun v N => ∃ A k, v = .tuple #[.slice A (ordM c).length k, nu 0] ∧ N = [.vec icell 1 3 A k (ordM c)] := fun Γ hi w' M => (OrderG (H.at_.chg (hi.old M)) H.sane).mono fun v N hv => by
    rcases hv with ⟨h1, _⟩ | ⟨_, hv⟩
    · exact absurd he h1
    · exact hv
  have m0 := R.m0
  have m1 := R.m1
  have n1 := R.nIn
  have n2 := R.nLat
  have n3 := R.nAnd
  have nd := R.nDefs
  have nl := R.nDefs_le
  have ol := R.ordLen
  have hN : ∀ w', CVN Try.prog 39 [nu c.inputs.length, nu c.latches.length] w' _ := fun w' => NewG (by unfold newBad; omega)
  have hInp := H.at_.inputs
  have hLat := H.at_.latches
  have hAnd := H.at_.ands
  refine CVN.enterC (t := 29) 202 2 [3, 4] Try.func32 rfl rfl rfl (.inr rfl) rfl ?_
  repeat' (first
 | (apply G_call; eq_refl; eq_refl; (apply hord; (repeat first | exact In.here | apply In.there | apply In.skip)); rintro _ _ ⟨Ao, ko, rfl, rfl⟩)
 | (apply G_call; eq_refl; eq_refl; (exact fun w' _ => hN w'); rintro _ _ ⟨g, S0, rfl, rfl⟩)
 | (apply GC_seqK; intro K hK)
 | (apply hK; clear hK K)
 | (apply GC_block)
 | (apply GC_region)
 | (apply GL_nil)
 | (apply thenG_normal)
 | (apply GC_skip)
 | (apply GC_if_false; eq_refl)
 | (apply GL_on; eq_refl; eq_refl)
 | (apply G_pv; eq_refl; first | exact trivial | omega)
 | (apply G_field; eq_refl)
 | (apply G_ld; eq_refl; (repeat first | exact In.here | apply In.there | apply In.skip); eq_refl)
 | (apply G_ldW; eq_refl; (repeat first | exact In.here | apply In.there | apply In.skip); eq_refl)
 | (apply G_cmpF; eq_refl; eq_refl; omega)
 | (apply G_len; eq_refl)
 | (apply G_alloc; eq_refl; intro _)
 | (apply G_box; eq_refl; eq_refl; intro _)
 | (apply G_st; (first | exact wr_p | kernel_rfl); eq_refl; eq_refl; eq_refl; eq_refl; (repeat first | exact Upd.here | apply Upd.there | apply Upd.skip); (first | decide | exact Nat.le_of_ble_eq_true rfl))
 | (apply G_makeI icell; eq_refl; eq_refl; omega; eq_refl; omega; decide; intro _)
 | (apply G_fun; eq_refl))
  rename_i b1 b2 bm b8
  refine GC_loopK [1, 2, 5, 7, 8, 9, 52, 53] (fun i : Nat => [(54, nu i)]) (fun i => [.vec icell 1 3 (some ⟨bm, 0, none⟩) (c.max + 1).toNat (mapOf c.max ((defsOf c (ordM c)).take i)), .any (bldX g S0 c.inputs.length c.latches.length []), .vec icell 1 3 Ao ko (ordM c), .box b8 22 [.slice (some ⟨bm, 0, none⟩) (c.max + 1).toNat (c.max + 1).toNat], .box b2 29 Zc, .box b1 29 (ccells c h), .old w none_]) (fun i => i ≤ c.inputs.length) (fun i => c.inputs.length - i) 0 (by repeat first | exact Pick.nil | (apply Pick.cons; eq_refl)) (by repeat first | exact trivial | refine ⟨rfl, ?_⟩) (by repeat first | exact Wk.nil | exact Wk.refl | (apply Wk.cons; (focus ((repeat first | exact Rem.here | apply Rem.there | apply Rem.skip); done))) | apply Wk.nilv | apply Wk.last | apply Wk.drop) (Nat.zero_le _) ?_
  intro i hi
  rcases Nat.lt_or_ge i c.inputs.length with hlt | hge
  · obtain ⟨hd, e2⟩ := R.def_inp hlt
    have e4 : mapOf c.max ((defsOf c (ordM c)).take (i + 1)) = (mapOf c.max ((defsOf c (ordM c)).take i)).set (gt c.inputs (i : Int) / 2).toNat (2 * ((i : Int) + 1)) := map_step hd (by rw [e2, gt_nat hlt]) (by omega)
    have e7 := R.defs_rg (k := gt c.inputs (i : Int)) (by rw [gt_nat hlt, ← e2]; exact List.getElem_mem hd)
    unfold rg at e7
    have e8 : (mapOf c.max ((defsOf c (ordM c)).take i)).length = (c.max + 1).toNat := mapOf_len _ _
    generalize mapOf c.max ((defsOf c (ordM c)).take i) = mm at *
    repeat' (first
 | (apply GC_seqK; intro K hK)
 | (apply hK; clear hK K)
 | (apply GC_block)
 | (apply GC_region)
 | (apply GL_nil)
 | (apply thenG_normal)
 | (apply blockG_normal)
 | (apply GC_skip)
 | (apply GC_if_true; eq_refl)
 | (apply GL_on; eq_refl; eq_refl)
 | (apply G_pv; eq_refl; first | exact trivial | omega)
 | (apply G_ld; eq_refl; (repeat first | exact In.here | apply In.there | apply In.skip); eq_refl)
 | (apply G_rd; eq_refl; (first | (apply Rd.own; (repeat first | exact In.here | apply In.there | apply In.skip); infer_instance) | (apply Rd.old; (repeat first | exact In.here | apply In.there | apply In.skip); assumption) | (apply Rd.oldR; (repeat first | exact In.here | apply In.there | apply In.skip); assumption) | exact Rd.nil | assumption); (case ih => infer_instance); omega; omega; eq_refl)
 | (apply G_cmpT; eq_refl; eq_refl; omega)
 | (apply G_ix; eq_refl; eq_refl; (first | (apply Rd.own; (repeat first | exact In.here | apply In.there | apply In.skip); infer_instance) | (apply Rd.old; (repeat first | exact In.here | apply In.there | apply In.skip); assumption) | (apply Rd.oldR; (repeat first | exact In.here | apply In.there | apply In.skip); assumption) | exact Rd.nil | assumption); (first | eq_refl | omega); omega; omega)
 | (apply G_stV; (first | exact wr_p | kernel_rfl); eq_refl; eq_refl; eq_refl; eq_refl; (repeat first | exact Upd.here | apply Upd.there | apply Upd.skip); infer_instance; infer_instance; eq_refl; omega; (try simp only [List.length_set, List.length_append, List.length_replicate]); omega))
    refine ⟨i + 1, (by repeat first | exact trivial | refine ⟨rfl, ?_⟩), ?_, hlt, by omega⟩
    rw [e4]
    exact (by repeat first | exact Wk.nil | exact Wk.refl | (apply Wk.cons; (focus ((repeat first | exact Rem.here | apply Rem.there | apply Rem.skip); done))) | apply Wk.nilv | apply Wk.last | apply Wk.drop)
  obtain rfl : i = c.inputs.length := by omega
  repeat' (first
 | (apply GC_seqK; intro K hK)
 | (apply hK; clear hK K)
 | (clear hK K; apply hK; clear hK K)
 | (apply GC_block)
 | (apply GC_region)
 | (apply GL_nil)
 | (apply thenG_normal)
 | (apply thenG_exit)
 | (apply blockG_hit)
 | (apply GC_exit)
 | (apply GC_if_false; eq_refl)
 | (apply GL_on; eq_refl; eq_refl)
 | (apply G_pv; eq_refl; first | exact trivial | omega)
 | (apply G_field; eq_refl)
 | (apply G_ld; eq_refl; (repeat first | exact In.here | apply In.there | apply In.skip); eq_refl)
 | (apply G_cmpF; eq_refl; eq_refl; omega)
 | (apply G_len; eq_refl))
  refine GC_loopK [1, 2, 5, 7, 8, 9, 68, 69] (fun i : Nat => [(70, nu i)]) (fun i => [.vec icell 1 3 (some ⟨bm, 0, none⟩) (c.max + 1).toNat (mapOf c.max ((defsOf c (ordM c)).take (c.inputs.length + i))), .any (bldX g S0 c.inputs.length c.latches.length []), .vec icell 1 3 Ao ko (ordM c), .box b8 22 [.slice (some ⟨bm, 0, none⟩) (c.max + 1).toNat (c.max + 1).toNat], .box b2 29 Zc, .box b1 29 (ccells c h), .old w none_]) (fun i => i ≤ c.latches.length) (fun i => c.latches.length - i) 0 (by repeat first | exact Pick.nil | (apply Pick.cons; eq_refl)) (by repeat first | exact trivial | refine ⟨rfl, ?_⟩) (by repeat first | exact Wk.nil | exact Wk.refl | (apply Wk.cons; (focus ((repeat first | exact Rem.here | apply Rem.there | apply Rem.skip); done))) | apply Wk.nilv | apply Wk.last | apply Wk.drop) (Nat.zero_le _) ?_
  intro i hi2
  rcases Nat.lt_or_ge i c.latches.length with hlt | hge2
  · obtain ⟨hd, e2⟩ := R.def_lat hlt
    have e4 : mapOf c.max ((defsOf c (ordM c)).take (c.inputs.length + (i + 1))) = (mapOf c.max ((defsOf c (ordM c)).take (c.inputs.length + i))).set ((gt c.latches (i : Int)).1 / 2).toNat (2 * ((c.inputs.length : Int) + (i : Int) + 1)) := map_step (i := c.inputs.length + i) hd (by rw [e2, gt_nat hlt]) (by omega)
    have e7 := R.defs_rg (k := (gt c.latches (i : Int)).1) (by rw [gt_nat hlt, ← e2]; exact List.getElem_mem hd)
    unfold rg at e7
    have e8 : (mapOf c.max ((defsOf c (ordM c)).take (c.inputs.length + i))).length = (c.max + 1).toNat := mapOf_len _ _
    generalize mapOf c.max ((defsOf c (ordM c)).take (c.inputs.length + i)) = mm at *
    repeat' (first
 | (apply G_ldIn; eq_refl; (focus ((repeat first | exact In.here | apply In.there | apply In.skip); done)))
 | (apply GC_seqK; intro K hK)
 | (apply hK; clear hK K)
 | (apply GC_block)
 | (apply GC_region)
 | (apply GL_nil)
 | (apply thenG_normal)
 | (apply blockG_normal)
 | (apply GC_skip)
 | (apply GC_if_true; eq_refl)
 | (apply GL_on; eq_refl; eq_refl)
 | (refine GC_draws (id := 17) [.q 0, .q 1, .q 2, .q 3, .q 4, .q 5, .q 6, .q 7, .q 8, .q 9, .q 10, .q 11, .q 12, .c 13] mixed (by kernel_rfl) (by kernel_rfl) ?_)
 | (apply GS_nil)
 | (apply GS_qon; eq_refl; eq_refl; eq_refl; eq_refl)
 | (apply GS_con; eq_refl; eq_refl; eq_refl; eq_refl)
 | (apply G_pv; eq_refl; first | exact trivial | omega)
 | (apply G_field; eq_refl)
 | (apply G_ld; eq_refl; (repeat first | exact In.here | apply In.there | apply In.skip); eq_refl)
 | (apply G_rdW; eq_refl; (first | (apply Rd.own; (repeat first | exact In.here | apply In.there | apply In.skip); infer_instance) | (apply Rd.old; (repeat first | exact In.here | apply In.there | apply In.skip); assumption) | (apply Rd.oldR; (repeat first | exact In.here | apply In.there | apply In.skip); assumption) | exact Rd.nil | assumption); infer_instance; (case ih => infer_instance); omega; omega)
 | (apply G_cmpT; eq_refl; eq_refl; omega)
 | (apply G_ix; eq_refl; eq_refl; (first | (apply Rd.own; (repeat first | exact In.here | apply In.there | apply In.skip); infer_instance) | (apply Rd.old; (repeat first | exact In.here | apply In.there | apply In.skip); assumption) | (apply Rd.oldR; (repeat first | exact In.here | apply In.there | apply In.skip); assumption) | exact Rd.nil | assumption); (first | eq_refl | omega); omega; omega)
 | (apply G_alloc; eq_refl; intro _)
 | (apply G_stV; (first | exact wr_p | kernel_rfl); eq_refl; eq_refl; eq_refl; eq_refl; (repeat first | exact Upd.here | apply Upd.there | apply Upd.skip); infer_instance; infer_instance; eq_refl; omega; (try simp only [List.length_set, List.length_append, List.length_replicate]); omega)
 | (apply G_stW; (first | exact wr_p | kernel_rfl); eq_refl; eq_refl; eq_refl; eq_refl; (repeat first | exact Upd.here | apply Upd.there | apply Upd.skip); eq_refl))
    refine ⟨i + 1, (by repeat first | exact trivial | refine ⟨rfl, ?_⟩), ?_, hlt, by omega⟩
    rw [e4]
    exact (by repeat first | exact Wk.nil | exact Wk.refl | (apply Wk.cons; (focus ((repeat first | exact Rem.here | apply Rem.there | apply Rem.skip); done))) | apply Wk.nilv | apply Wk.last | apply Wk.drop)
  obtain rfl : i = c.latches.length := by omega
  rw [bAt_zero c]
  repeat' (first
 | (apply GC_seqK; intro K hK)
 | (apply hK; clear hK K)
 | (clear hK K; apply hK; clear hK K)
 | (apply GC_block)
 | (apply GC_region)
 | (apply GL_nil)
 | (apply thenG_normal)
 | (apply thenG_exit)
 | (apply blockG_hit)
 | (apply GC_exit)
 | (apply GC_if_false; eq_refl)
 | (apply GL_on; eq_refl; eq_refl)
 | (apply G_pv; eq_refl; first | exact trivial | omega)
 | (apply G_cmpF; eq_refl; eq_refl; omega)
 | (apply G_len; eq_refl))
  refine GC_loopK [1, 2, 7, 8, 9, 89, 90] (fun s : Nat × (Nat → Prop) => [(91, nu s.1)]) (fun s => [.vec icell 1 3 (some ⟨bm, 0, none⟩) (c.max + 1).toNat (bAt c s.1).1, .any (bldX g s.2 c.inputs.length c.latches.length (bAt c s.1).2), .vec icell 1 3 Ao ko (ordM c), .box b8 22 [.slice (some ⟨bm, 0, none⟩) (c.max + 1).toNat (c.max + 1).toNat], .box b2 29 Zc, .box b1 29 (ccells c h), .old w none_]) (fun s => s.1 ≤ (ordM c).length) (fun s => (ordM c).length - s.1) (0, S0) (by repeat first | exact Pick.nil | (apply Pick.cons; eq_refl)) (by repeat first | exact trivial | refine ⟨rfl, ?_⟩) (by repeat first | exact Wk.nil | exact Wk.refl | (apply Wk.cons; (focus ((repeat first | exact Rem.here | apply Rem.there | apply Rem.skip); done))) | apply Wk.nilv | apply Wk.last | apply Wk.drop) (Nat.zero_le _) ?_
  rintro ⟨i, S⟩ hi3
  dsimp only at hi3 ⊢
  rcases Nat.lt_or_ge i (ordM c).length with hlt | hge3
  · have I := R.bInv i (by omega)
    have M := R.bMade hlt I
    have ho := R.ord (gt_mem (l := ordM c) (i := (i : Int)) (by omega) (by omega))
    have hm := gt_mem (l := c.ands) (i := gt (ordM c) (i : Int)) (by omega) (by omega)
    obtain ⟨g1, g2, g3⟩ := R.gate hm
    have ea : andAt c (ordM c)[i] = gt c.ands (gt (ordM c) (i : Int)) := by rw [gt_and, gt_nat hlt]
    have e4 := bAt_succ hlt
    have hb := R.nB_le
    unfold bStep at e4
    rw [ea] at e4 M
    have i1 := I.gs
    have i2 := I.len
    have i3 := I.mlen
    have i4 := I.ok
    have i5 : ∀ {l : Int}, 0 ≤ l → okM (nB c) (bAt c i).2 (litX (bAt c i).1 l) := fun h => BInv.lit I h
    clear I
    generalize bAt c i = s at *
    obtain ⟨mm, gs⟩ := s
    dsimp only at *
    unfold inR at g2 g3
    unfold defR at g1
    have hcl : ∀ l : Int, 0 ≤ l → l ≤ 2 * c.max + 1 → ∀ Γ, In Γ (.box b8 22 [.slice (some ⟨bm, 0, none⟩) (c.max + 1).toNat (c.max + 1).toNat]) → In Γ (.vec icell 1 3 (some ⟨bm, 0, none⟩) (c.max + 1).toNat mm) → ∀ w', Mem w' Γ → CVN Try.prog 68 ([nu l] ++ (#[pt b8] : Array Value).toList) w' fun v N => N = [] ∧ v = nu (litX mm l) := fun l h0 h1 Γ k1 k2 w' M' => by
      have k3 := i4 (l / 2) (by omega)
      unfold okM nB at k3
      rw [← gt_L] at k3
      exact litB_cv (k := (c.max + 1).toNat) (by rw [i3]; exact k1.ok M') (k2.row M') h0 (by omega) (by omega) (by unfold nB at hb; omega)
    have hc1 := hcl (gt c.ands (gt (ordM c) (i : Int))).2.1 g2.1 g2.2
    have hc2 := hcl (gt c.ands (gt (ordM c) (i : Int))).2.2 g3.1 g3.2
    have hand : ∀ w', Mem w' [.any (bldX g S c.inputs.length c.latches.length gs)] → CVM Try.prog 69 [ptr g, nu (litX mm (gt c.ands (gt (ordM c) (i : Int))).2.1), nu (litX mm (gt c.ands (gt (ordM c) (i : Int))).2.2)] w' [.any (bldX g S c.inputs.length c.latches.length gs)] fun v N => v = .tuple #[nu (andM (nB c) gs (litX mm (gt c.ands (gt (ordM c) (i : Int))).2.1) (litX mm (gt c.ands (gt (ordM c) (i : Int))).2.2)).1, nu 0] ∧ ∃ S', N = [.any (bldX g S' c.inputs.length c.latches.length (andM (nB c) gs (litX mm (gt c.ands (gt (ordM c) (i : Int))).2.1) (litX mm (gt c.ands (gt (ordM c) (i : Int))).2.2)).2.2)] := fun w' M' => by
      have := andG (by omega) (by omega) i1 (by unfold nB at hb; omega) (i5 g2.1) (i5 g3.1) M'
      unfold BldR at this
      rw [show (c.inputs.length : Int) + (c.latches.length : Int) = nB c from rfl, M.err] at this
      exact this
    clear hcl
    generalize andM (nB c) gs (litX mm (gt c.ands (gt (ordM c) (i : Int))).2.1) (litX mm (gt c.ands (gt (ordM c) (i : Int))).2.2) = r at *
    repeat' (first
 | (apply G_callFP; eq_refl; infer_instance; eq_refl; (first | (apply hc1; (repeat first | exact In.here | apply In.there | apply In.skip); (repeat first | exact In.here | apply In.there | apply In.skip)) | (apply hc2; (repeat first | exact In.here | apply In.there | apply In.skip); (repeat first | exact In.here | apply In.there | apply In.skip))); rintro _ _ ⟨rfl, rfl⟩)
 | (apply GC_drawsP (id := 23) (C := [.any (bldX g S c.inputs.length c.latches.length gs), .vec icell 1 3 (some ⟨bm, 0, none⟩) (c.max + 1).toNat mm]) [.q 0, .q 1, .q 2, .q 3, .q 4, .q 5, .q 6, .q 7, .q 9, .q 10, .q 11, .c 8, .c 12, .c 13, .q 14, .q 15, .q 16, .q 17, .c 18, .q 19]; exact mixed; kernel_rfl; kernel_rfl; (repeat first | exact Rems.nil | (apply Rems.cons; (focus ((repeat first | exact Rem.here | apply Rem.there | apply Rem.skip); done)))))
 | (apply GS_nilP)
 | (apply G_callMP; eq_refl; (exact hand); (repeat first | exact Rems.nil | (apply Rems.cons; (focus ((repeat first | exact Rem.here | apply Rem.there | apply Rem.skip); done)))); rintro _ _ ⟨rfl, S1, rfl⟩)
 | (apply G_stVP (enc := icell) r.1; eq_refl; eq_refl; eq_refl; eq_refl; (repeat first | exact Upd.here | apply Upd.there | apply Upd.skip); infer_instance; infer_instance; eq_refl; omega; omega)
 | (apply GC_seqK; intro K hK)
 | (apply hK; clear hK K)
 | (apply GC_block)
 | (apply GC_region)
 | (apply GL_nil)
 | (apply thenG_normal)
 | (apply blockG_normal)
 | (apply GC_skip)
 | (apply GC_if_true; eq_refl)
 | (apply GC_if_false; eq_refl)
 | (apply GL_on; eq_refl; eq_refl)
 | (apply GS_qon; eq_refl; eq_refl; eq_refl; eq_refl)
 | (apply GS_con; eq_refl; eq_refl; eq_refl; eq_refl)
 | (apply G_pv; eq_refl; first | exact trivial | omega)
 | (apply G_field; eq_refl)
 | (apply G_ld; eq_refl; (repeat first | exact In.here | apply In.there | apply In.skip); eq_refl)
 | (apply G_rd; eq_refl; (first | (apply Rd.own; (repeat first | exact In.here | apply In.there | apply In.skip); infer_instance) | (apply Rd.old; (repeat first | exact In.here | apply In.there | apply In.skip); assumption) | (apply Rd.oldR; (repeat first | exact In.here | apply In.there | apply In.skip); assumption) | exact Rd.nil | assumption); (case ih => infer_instance); omega; omega; eq_refl)
 | (apply G_rdW; eq_refl; (first | (apply Rd.own; (repeat first | exact In.here | apply In.there | apply In.skip); infer_instance) | (apply Rd.old; (repeat first | exact In.here | apply In.there | apply In.skip); assumption) | (apply Rd.oldR; (repeat first | exact In.here | apply In.there | apply In.skip); assumption) | exact Rd.nil | assumption); infer_instance; (case ih => infer_instance); omega; omega)
 | (apply G_cmpT; eq_refl; eq_refl; omega)
 | (apply G_cmpF; eq_refl; eq_refl; omega)
 | (apply G_ix; eq_refl; eq_refl; (first | (apply Rd.own; (repeat first | exact In.here | apply In.there | apply In.skip); infer_instance) | (apply Rd.old; (repeat first | exact In.here | apply In.there | apply In.skip); assumption) | (apply Rd.oldR; (repeat first | exact In.here | apply In.there | apply In.skip); assumption) | exact Rd.nil | assumption); (first | eq_refl | omega); omega; omega)
 | (apply G_ixA; eq_refl; eq_refl; omega; omega)
 | (apply G_alloc; eq_refl; intro _)
 | (apply G_stW; (first | exact wr_p | kernel_rfl); eq_refl; eq_refl; eq_refl; eq_refl; (repeat first | exact Upd.here | apply Upd.there | apply Upd.skip); eq_refl))
    refine ⟨(i + 1, S1), (by repeat first | exact trivial | refine ⟨rfl, ?_⟩), ?_, hlt, by simp only; omega⟩
    dsimp only
    rw [e4]
    exact (by repeat first | exact Wk.nil | exact Wk.refl | (apply Wk.cons; (focus ((repeat first | exact Rem.here | apply Rem.there | apply Rem.skip); done))) | apply Wk.nilv | apply Wk.last | apply Wk.drop)
  obtain rfl : i = (ordM c).length := by omega
  rw [show (bAt c (ordM c).length).1 = bT c from rfl, show (bAt c (ordM c).length).2 = bG c from rfl]
  have hcp : ∀ Γ, In Γ (.old w none_) → ∀ w', Mem w' Γ → CVN Try.prog 70 [.agg (ccells c h).toArray] w' _ := fun Γ hi w' M => CopyB (H.at_.chg (hi.old M)) H.fits
  have hjl : ∀ js, (jps c js).length ≤ 16384 := fun js => by rw [jps_len]; exact R.nJust
  repeat' (first
 | (apply G_call; eq_refl; eq_refl; (apply hcp; (repeat first | exact In.here | apply In.there | apply In.skip)); rintro _ _ ⟨h', js', rfl, rfl⟩)
 | (apply G_appBV (enc := encS) [(h' 1, c.inputs), (h' 3, c.outputs), (h' 4, c.bads), (h' 5, c.constraints), (h' 7, c.fairness)]; (first | exact wr_p | kernel_rfl); eq_refl; eq_refl; infer_instance; (repeat first | exact Upd.here | apply Upd.there | apply Upd.skip); (repeat first | exact Dec.nil | (apply Dec.c1; exact rfl)); (repeat first | exact In.here | apply In.there | apply In.skip); (intro A c; (repeat first | exact Upd.here | apply Upd.there | apply Upd.skip)); eq_refl; eq_refl; exact Nat.le_of_ble_eq_true rfl; exact (jps_len _ _).symm; eq_refl; (simp only [List.length_cons, List.length_nil]; have := hjl js'; omega); decide; intro A8 k8)
 | (apply GC_seqK; intro K hK)
 | (apply hK; clear hK K)
 | (clear hK K; apply hK; clear hK K)
 | (apply GC_block)
 | (apply GC_region)
 | (apply GL_nil)
 | (apply thenG_normal)
 | (apply thenG_exit)
 | (apply blockG_hit)
 | (apply GC_exit)
 | (apply GC_if_false; eq_refl)
 | (apply GL_on; eq_refl; eq_refl)
 | (apply G_pv; eq_refl; first | exact trivial | omega)
 | (apply G_field; eq_refl)
 | (apply G_ld; eq_refl; (repeat first | exact In.here | apply In.there | apply In.skip); eq_refl)
 | (apply G_ldW; eq_refl; (repeat first | exact In.here | apply In.there | apply In.skip); eq_refl)
 | (apply G_cmpF; eq_refl; eq_refl; omega)
 | (apply G_len; eq_refl)
 | (apply G_alloc; eq_refl; intro _)
 | (apply G_stW; (first | exact wr_p | kernel_rfl); eq_refl; eq_refl; eq_refl; eq_refl; (repeat first | exact Upd.here | apply Upd.there | apply Upd.skip); eq_refl)
 | (apply G_new (fun b => .slice (some ⟨b, 0, none⟩) 5 5); eq_refl; (intro _; apply buildS24_5 <;> eq_refl); intro _))
  rename_i b17 b5
  have hT := R.bI
  have tl : (bT c).length = (c.max + 1).toNat := hT.mlen
  have bmx := R.b_max
  have hro := rows_ok R H.fits (h := h') (js := js')
  have hrl : (rowsOf c h' js').length = 5 + c.justice.length := by unfold rowsOf; rw [List.length_append, jps_len]; rfl
  have hnj := R.nJust
  have hcl : ∀ l : Int, inR c l → ∀ Γ, In Γ (.box b8 22 [.slice (some ⟨bm, 0, none⟩) (c.max + 1).toNat (c.max + 1).toNat]) → In Γ (.vec icell 1 3 (some ⟨bm, 0, none⟩) (c.max + 1).toNat (bT c)) → ∀ w', Mem w' Γ → CVN Try.prog 68 ([nu l] ++ (#[pt b8] : Array Value).toList) w' fun v N => N = [] ∧ v = nu (litX (bT c) l) := fun l hl Γ k1 k2 w' M' => by
    unfold inR at hl
    have k3 := hT.ok (l / 2) (by omega)
    unfold okM at k3
    rw [← gt_L] at k3
    exact litB_cv (k := (c.max + 1).toNat) (by rw [tl]; exact k1.ok M') (k2.row M') hl.1 (by omega) (by omega) ⟨k3.1, by have := k3.2; dsimp only at this; omega⟩
  rw [show [(h' 1, c.inputs), (h' 3, c.outputs), (h' 4, c.bads), (h' 5, c.constraints), (h' 7, c.fairness)] ++ jps c js' = rowsOf c h' js' from rfl]
  skip
  generalize hps : rowsOf c h' js' = ps at *
  have pl : (ps.map (rowF (bT c))).length = ps.length := List.length_map _
  refine GC_loopK [1, 2, 7, 8, 9, 17, 138, 139] (fun i : Nat => [(140, nu i)]) (fun i => [.any (bun (fam rowJ (mix (ps.map (rowF (bT c))) ps i))), .vec encS 1 22 A8 k8 ps, .vec tcells 3 83 (h' 2).1 (h' 2).2 c.latches, .vec encS 1 22 (h' 6).1 (h' 6).2 (jps c js'), .vec scells 3 110 (h' 9).1 (h' 9).2 c.symbols, .vec bcell 1 9 (h' 10).1 (h' 10).2 c.comments, .vec icell 1 3 (some ⟨bm, 0, none⟩) (c.max + 1).toNat (bT c), .any (bldX g S c.inputs.length c.latches.length (bG c)), .box b8 22 [.slice (some ⟨bm, 0, none⟩) (c.max + 1).toNat (c.max + 1).toNat], .box b17 29 (ccells c h'), .box b2 29 Zc, .box b1 29 (ccells c h), .old w none_]) (fun i => i ≤ ps.length) (fun i => ps.length - i) 0 (by repeat first | exact Pick.nil | (apply Pick.cons; eq_refl)) (by repeat first | exact trivial | refine ⟨rfl, ?_⟩) (by repeat first | exact Wk.nil | exact Wk.refl | (apply Wk.cons; (focus ((repeat first | exact Rem.here | apply Rem.there | apply Rem.skip); done))) | apply Wk.nilv | apply Wk.last | apply Wk.drop) (Nat.zero_le _) ?_
  intro i hi4
  rcases Nat.lt_or_ge i ps.length with hlt | hge4
  · obtain ⟨q1, q2⟩ := mix_rows (f := rowF (bT c)) hlt
    obtain ⟨ro1, ro2⟩ := hro _ (gt_mem (l := ps) (i := (i : Int)) (by omega) (by omega))
    rw [q1]
    generalize (ps.map (rowF (bT c))).take i = aa at *
    generalize ps.drop (i + 1) = dd at *
    generalize hx : gt ps (i : Int) = x at *
    obtain ⟨x1, ls⟩ := x
    dsimp only at ro1 ro2
    refine GC_wk .here (row_out aa dd (x1, ls)) ?_
    repeat' (first
 | (apply G_rd; eq_refl; (first | (apply Rd.own; (repeat first | exact In.here | apply In.there | apply In.skip); infer_instance) | (apply Rd.old; (repeat first | exact In.here | apply In.there | apply In.skip); assumption) | (apply Rd.oldR; (repeat first | exact In.here | apply In.there | apply In.skip); assumption) | exact Rd.nil | assumption); (case ih => infer_instance); omega; omega; (rw [hx]; dsimp only [encS]; eq_refl))
 | (apply GC_seqK; intro K hK)
 | (apply hK; clear hK K)
 | (apply GC_block)
 | (apply GC_region)
 | (apply GL_nil)
 | (apply thenG_normal)
 | (apply GC_skip)
 | (apply GC_if_true; eq_refl)
 | (apply GL_on; eq_refl; eq_refl)
 | (apply G_pv; eq_refl; first | exact trivial | omega)
 | (apply G_cmpT; eq_refl; eq_refl; omega)
 | (apply G_len; eq_refl)
 | (apply G_ix; eq_refl; eq_refl; (first | (apply Rd.own; (repeat first | exact In.here | apply In.there | apply In.skip); infer_instance) | (apply Rd.old; (repeat first | exact In.here | apply In.there | apply In.skip); assumption) | (apply Rd.oldR; (repeat first | exact In.here | apply In.there | apply In.skip); assumption) | exact Rd.nil | assumption); (first | eq_refl | omega); omega; omega))
    have lm : (ls.map (litX (bT c))).length = ls.length := List.length_map _
    refine GC_loopK [1, 2, 7, 8, 9, 17, 138, 139, 140, 19, 144, 145] (fun j : Nat => [(146, nu j)]) (fun j => [.vec icell 1 3 x1.1 x1.2 (mix (ls.map (litX (bT c))) ls j), .any (bun (fam rowJ (aa ++ dd))), .vec encS 1 22 A8 k8 ps, .vec tcells 3 83 (h' 2).1 (h' 2).2 c.latches, .vec encS 1 22 (h' 6).1 (h' 6).2 (jps c js'), .vec scells 3 110 (h' 9).1 (h' 9).2 c.symbols, .vec bcell 1 9 (h' 10).1 (h' 10).2 c.comments, .vec icell 1 3 (some ⟨bm, 0, none⟩) (c.max + 1).toNat (bT c), .any (bldX g S c.inputs.length c.latches.length (bG c)), .box b8 22 [.slice (some ⟨bm, 0, none⟩) (c.max + 1).toNat (c.max + 1).toNat], .box b17 29 (ccells c h'), .box b2 29 Zc, .box b1 29 (ccells c h), .old w none_]) (fun j => j ≤ ls.length) (fun j => ls.length - j) 0 (by repeat first | exact Pick.nil | (apply Pick.cons; eq_refl)) (by repeat first | exact trivial | refine ⟨rfl, ?_⟩) (by repeat first | exact Wk.nil | exact Wk.refl | (apply Wk.cons; (focus ((repeat first | exact Rem.here | apply Rem.there | apply Rem.skip); done))) | apply Wk.nilv | apply Wk.last | apply Wk.drop) (Nat.zero_le _) ?_
    intro j hj
    rcases Nat.lt_or_ge j ls.length with hjl | hjg
    · have f1 := mix_get (i := j) lm hjl
      have hin := ro1 _ (gt_mem (l := ls) (i := (j : Int)) (by omega) (by omega))
      have e5 : mix (ls.map (litX (bT c))) ls (j + 1) = (mix (ls.map (litX (bT c))) ls j).set (j : Int).toNat (litX (bT c) (gt ls (j : Int))) := (mix_step (by omega) lm (by rw [List.getElem_map, gt_nat hjl])).symm
      have e6 : (mix (ls.map (litX (bT c))) ls j).length = ls.length := mix_len lm
      rw [← f1] at e5 hin
      generalize mix (ls.map (litX (bT c))) ls j = ml at *
      repeat' (first
 | (apply G_callF; eq_refl; eq_refl; infer_instance; eq_refl; (apply hcl; (first | exact hin | exact hin1 | exact hin2); (repeat first | exact In.here | apply In.there | apply In.skip); (repeat first | exact In.here | apply In.there | apply In.skip)); rintro _ _ ⟨rfl, rfl⟩)
 | (apply GC_seqK; intro K hK)
 | (apply hK; clear hK K)
 | (apply GC_block)
 | (apply GC_region)
 | (apply GL_nil)
 | (apply thenG_normal)
 | (apply blockG_normal)
 | (apply GC_skip)
 | (apply GC_if_true; eq_refl)
 | (apply GL_on; eq_refl; eq_refl)
 | (apply G_pv; eq_refl; first | exact trivial | omega)
 | (apply G_rd; eq_refl; (first | (apply Rd.own; (repeat first | exact In.here | apply In.there | apply In.skip); infer_instance) | (apply Rd.old; (repeat first | exact In.here | apply In.there | apply In.skip); assumption) | (apply Rd.oldR; (repeat first | exact In.here | apply In.there | apply In.skip); assumption) | exact Rd.nil | assumption); (case ih => infer_instance); omega; omega; eq_refl)
 | (apply G_cmpT; eq_refl; eq_refl; omega)
 | (apply G_ix; eq_refl; eq_refl; (first | (apply Rd.own; (repeat first | exact In.here | apply In.there | apply In.skip); infer_instance) | (apply Rd.old; (repeat first | exact In.here | apply In.there | apply In.skip); assumption) | (apply Rd.oldR; (repeat first | exact In.here | apply In.there | apply In.skip); assumption) | exact Rd.nil | assumption); (first | eq_refl | omega); omega; omega)
 | (apply G_stV; (first | exact wr_p | kernel_rfl); eq_refl; eq_refl; eq_refl; eq_refl; (repeat first | exact Upd.here | apply Upd.there | apply Upd.skip); infer_instance; infer_instance; eq_refl; omega; (try simp only [List.length_set, List.length_append, List.length_replicate]); omega))
      refine ⟨j + 1, (by repeat first | exact trivial | refine ⟨rfl, ?_⟩), ?_, hjl, by omega⟩
      rw [e5]
      exact (by repeat first | exact Wk.nil | exact Wk.refl | (apply Wk.cons; (focus ((repeat first | exact Rem.here | apply Rem.there | apply Rem.skip); done))) | apply Wk.nilv | apply Wk.last | apply Wk.drop)
    obtain rfl : j = ls.length := by omega
    rw [show mix (ls.map (litX (bT c))) ls ls.length = ls.map (litX (bT c)) from mix_all (by omega) (Nat.le_refl _)]
    repeat' (first
 | (apply GC_seqK; intro K hK)
 | (apply hK; clear hK K)
 | (clear hK K; apply hK; clear hK K)
 | (apply GC_region)
 | (apply GL_nil)
 | (apply thenG_normal)
 | (apply thenG_exit)
 | (apply blockG_hit)
 | (apply blockG_normal)
 | (apply GC_exit)
 | (apply GC_if_false; eq_refl)
 | (apply GL_on; eq_refl; eq_refl)
 | (apply G_pv; eq_refl; first | exact trivial | omega)
 | (apply G_cmpF; eq_refl; eq_refl; omega))
    refine ⟨i + 1, (by repeat first | exact trivial | refine ⟨rfl, ?_⟩), ?_, hlt, by omega⟩
    rw [q2]
    exact Wk.part (C := [rowL (x1, ls.map (litX (bT c))), .any (bun (fam rowJ (aa ++ dd)))]) (by (repeat first | exact Rems.nil | (apply Rems.cons; (focus ((repeat first | exact Rem.here | apply Rem.there | apply Rem.skip); done))))) (row_in aa dd (x1, ls.map (litX (bT c)))) (by repeat first | exact Wk.nil | exact Wk.refl | (apply Wk.cons; (focus ((repeat first | exact Rem.here | apply Rem.there | apply Rem.skip); done))) | apply Wk.nilv | apply Wk.last | apply Wk.drop)
  obtain rfl : i = ps.length := by omega
  rw [show mix (ps.map (rowF (bT c))) ps ps.length = ps.map (rowF (bT c)) from mix_all (by omega) (Nat.le_refl _)]
  repeat' (first
 | (apply GC_seqK; intro K hK)
 | (apply hK; clear hK K)
 | (clear hK K; apply hK; clear hK K)
 | (apply GC_block)
 | (apply GC_region)
 | (apply GL_nil)
 | (apply thenG_normal)
 | (apply thenG_exit)
 | (apply blockG_hit)
 | (apply GC_exit)
 | (apply GC_if_false; eq_refl)
 | (apply GL_on; eq_refl; eq_refl)
 | (apply G_pv; eq_refl; first | exact trivial | omega)
 | (apply G_field; eq_refl)
 | (apply G_ld; eq_refl; (repeat first | exact In.here | apply In.there | apply In.skip); eq_refl)
 | (apply G_cmpF; eq_refl; eq_refl; omega)
 | (apply G_len; eq_refl))
  have kl : (c.latches.map (bLatch (bT c))).length = c.latches.length := List.length_map _
  refine GC_loopK [1, 2, 7, 8, 9, 17, 161, 162] (fun i : Nat => [(163, nu i)]) (fun i => [.vec tcells 3 83 (h' 2).1 (h' 2).2 (mix (c.latches.map (bLatch (bT c))) c.latches i), .any (bun (fam rowJ (ps.map (rowF (bT c))))), .vec encS 1 22 (h' 6).1 (h' 6).2 (jps c js'), .vec scells 3 110 (h' 9).1 (h' 9).2 c.symbols, .vec bcell 1 9 (h' 10).1 (h' 10).2 c.comments, .vec icell 1 3 (some ⟨bm, 0, none⟩) (c.max + 1).toNat (bT c), .any (bldX g S c.inputs.length c.latches.length (bG c)), .box b8 22 [.slice (some ⟨bm, 0, none⟩) (c.max + 1).toNat (c.max + 1).toNat], .box b17 29 (ccells c h'), .box b2 29 Zc, .box b1 29 (ccells c h), .old w none_]) (fun i => i ≤ c.latches.length) (fun i => c.latches.length - i) 0 (by repeat first | exact Pick.nil | (apply Pick.cons; eq_refl)) (by repeat first | exact trivial | refine ⟨rfl, ?_⟩) (by repeat first | exact Wk.nil | exact Wk.refl | (apply Wk.cons; (focus ((repeat first | exact Rem.here | apply Rem.there | apply Rem.skip); done))) | apply Wk.nilv | apply Wk.last | apply Wk.drop) (Nat.zero_le _) ?_
  intro i hi5
  rcases Nat.lt_or_ge i c.latches.length with hlt | hge5
  · have hm := gt_mem (l := c.latches) (i := (i : Int)) (by omega) (by omega)
    obtain ⟨g1, hin1, g3⟩ := R.lat hm
    have hin0 := g1.in
    have hin2 : inR c (gt c.latches (i : Int)).2.2 := by
      unfold inR at hin0 ⊢
      rcases g3 with g3 | g3 | g3 <;> omega
    have e5 : mix (c.latches.map (bLatch (bT c))) c.latches (i + 1) = (mix (c.latches.map (bLatch (bT c))) c.latches i).set (i : Int).toNat (bLatch (bT c) (gt c.latches (i : Int))) := (mix_step (by omega) kl (by rw [List.getElem_map, gt_nat hlt])).symm
    have e6 : (mix (c.latches.map (bLatch (bT c))) c.latches i).length = c.latches.length := mix_len kl
    generalize mix (c.latches.map (bLatch (bT c))) c.latches i = ml at *
    by_cases hr : 1 < (gt c.latches (i : Int)).2.2
    · have e9 : tcells (bLatch (bT c) (gt c.latches (i : Int))) = [nu (litX (bT c) (gt c.latches (i : Int)).1), nu (litX (bT c) (gt c.latches (i : Int)).2.1), nu (litX (bT c) (gt c.latches (i : Int)).2.2)] := by
        unfold bLatch tcells
        rw [if_pos hr]
      repeat' (first
 | (apply G_callF; eq_refl; eq_refl; infer_instance; eq_refl; (apply hcl; (first | exact hin0 | exact hin1 | exact hin2); (repeat first | exact In.here | apply In.there | apply In.skip); (repeat first | exact In.here | apply In.there | apply In.skip)); rintro _ _ ⟨rfl, rfl⟩)
 | (apply G_stVW (bLatch (bT c) (gt c.latches (i : Int))); (first | exact wr_p | kernel_rfl); eq_refl; eq_refl; exact e9.symm; (repeat first | exact Upd.here | apply Upd.there | apply Upd.skip); infer_instance; omega; omega)
 | (apply GC_seqK; intro K hK)
 | (apply hK; clear hK K)
 | (apply GC_block)
 | (apply GC_region)
 | (apply GL_nil)
 | (apply thenG_normal)
 | (apply blockG_normal)
 | (apply GC_skip)
 | (apply GC_if_true; eq_refl)
 | (apply GL_on; eq_refl; eq_refl)
 | (refine GC_draws (id := 42) [.q 0, .q 1, .q 2, .q 3, .q 4, .q 5, .q 7, .q 8, .q 9, .q 11, .q 12, .c 6, .c 10, .q 13, .q 14, .c 15] mixed (by kernel_rfl) (by kernel_rfl) ?_)
 | (apply GS_nil)
 | (apply GS_qon; eq_refl; eq_refl; eq_refl; eq_refl)
 | (apply GS_con; eq_refl; eq_refl; eq_refl; eq_refl)
 | (apply G_pv; eq_refl; first | exact trivial | omega)
 | (apply G_field; eq_refl)
 | (apply G_ld; eq_refl; (repeat first | exact In.here | apply In.there | apply In.skip); eq_refl)
 | (apply G_rdW; eq_refl; (first | (apply Rd.own; (repeat first | exact In.here | apply In.there | apply In.skip); infer_instance) | (apply Rd.old; (repeat first | exact In.here | apply In.there | apply In.skip); assumption) | (apply Rd.oldR; (repeat first | exact In.here | apply In.there | apply In.skip); assumption) | exact Rd.nil | assumption); infer_instance; (case ih => infer_instance); omega; omega)
 | (apply G_cmpT; eq_refl; eq_refl; omega)
 | (apply G_ix; eq_refl; eq_refl; (first | (apply Rd.own; (repeat first | exact In.here | apply In.there | apply In.skip); infer_instance) | (apply Rd.old; (repeat first | exact In.here | apply In.there | apply In.skip); assumption) | (apply Rd.oldR; (repeat first | exact In.here | apply In.there | apply In.skip); assumption) | exact Rd.nil | assumption); (first | eq_refl | omega); omega; omega)
 | (apply G_alloc; eq_refl; intro _)
 | (apply G_st; (first | exact wr_p | kernel_rfl); eq_refl; eq_refl; eq_refl; eq_refl; (repeat first | exact Upd.here | apply Upd.there | apply Upd.skip); (first | decide | exact Nat.le_of_ble_eq_true rfl))
 | (apply G_stW; (first | exact wr_p | kernel_rfl); eq_refl; eq_refl; eq_refl; eq_refl; (repeat first | exact Upd.here | apply Upd.there | apply Upd.skip); eq_refl)
 | (apply GX_pure; apply build83_0_1_2 <;> eq_refl))
      refine ⟨i + 1, (by repeat first | exact trivial | refine ⟨rfl, ?_⟩), ?_, hlt, by omega⟩
      rw [e5]
      exact (by repeat first | exact Wk.nil | exact Wk.refl | (apply Wk.cons; (focus ((repeat first | exact Rem.here | apply Rem.there | apply Rem.skip); done))) | apply Wk.nilv | apply Wk.last | apply Wk.drop)
    · have e9 : tcells (bLatch (bT c) (gt c.latches (i : Int))) = [nu (litX (bT c) (gt c.latches (i : Int)).1), nu (litX (bT c) (gt c.latches (i : Int)).2.1), nu (gt c.latches (i : Int)).2.2] := by
        unfold bLatch tcells
        rw [if_neg hr]
      repeat' (first
 | (apply G_callF; eq_refl; eq_refl; infer_instance; eq_refl; (apply hcl; (first | exact hin0 | exact hin1 | exact hin2); (repeat first | exact In.here | apply In.there | apply In.skip); (repeat first | exact In.here | apply In.there | apply In.skip)); rintro _ _ ⟨rfl, rfl⟩)
 | (apply G_stVW (bLatch (bT c) (gt c.latches (i : Int))); (first | exact wr_p | kernel_rfl); eq_refl; eq_refl; exact e9.symm; (repeat first | exact Upd.here | apply Upd.there | apply Upd.skip); infer_instance; omega; omega)
 | (apply GC_seqK; intro K hK)
 | (apply hK; clear hK K)
 | (apply GC_block)
 | (apply GC_region)
 | (apply GL_nil)
 | (apply thenG_normal)
 | (apply blockG_normal)
 | (apply GC_skip)
 | (apply GC_if_true; eq_refl)
 | (apply GC_if_false; eq_refl)
 | (apply GL_on; eq_refl; eq_refl)
 | (refine GC_draws (id := 42) [.q 0, .q 1, .q 2, .q 3, .q 4, .q 5, .q 7, .q 8, .q 9, .q 11, .q 12, .c 6, .c 10, .q 13, .q 14, .c 15] mixed (by kernel_rfl) (by kernel_rfl) ?_)
 | (apply GS_nil)
 | (apply GS_qon; eq_refl; eq_refl; eq_refl; eq_refl)
 | (apply GS_con; eq_refl; eq_refl; eq_refl; eq_refl)
 | (apply G_pv; eq_refl; first | exact trivial | omega)
 | (apply G_field; eq_refl)
 | (apply G_ld; eq_refl; (repeat first | exact In.here | apply In.there | apply In.skip); eq_refl)
 | (apply G_rdW; eq_refl; (first | (apply Rd.own; (repeat first | exact In.here | apply In.there | apply In.skip); infer_instance) | (apply Rd.old; (repeat first | exact In.here | apply In.there | apply In.skip); assumption) | (apply Rd.oldR; (repeat first | exact In.here | apply In.there | apply In.skip); assumption) | exact Rd.nil | assumption); infer_instance; (case ih => infer_instance); omega; omega)
 | (apply G_cmpT; eq_refl; eq_refl; omega)
 | (apply G_cmpF; eq_refl; eq_refl; omega)
 | (apply G_ix; eq_refl; eq_refl; (first | (apply Rd.own; (repeat first | exact In.here | apply In.there | apply In.skip); infer_instance) | (apply Rd.old; (repeat first | exact In.here | apply In.there | apply In.skip); assumption) | (apply Rd.oldR; (repeat first | exact In.here | apply In.there | apply In.skip); assumption) | exact Rd.nil | assumption); (first | eq_refl | omega); omega; omega)
 | (apply G_alloc; eq_refl; intro _)
 | (apply G_stW; (first | exact wr_p | kernel_rfl); eq_refl; eq_refl; eq_refl; eq_refl; (repeat first | exact Upd.here | apply Upd.there | apply Upd.skip); eq_refl)
 | (apply GX_pure; apply build83_0_1_2 <;> eq_refl))
      refine ⟨i + 1, (by repeat first | exact trivial | refine ⟨rfl, ?_⟩), ?_, hlt, by omega⟩
      rw [e5]
      exact (by repeat first | exact Wk.nil | exact Wk.refl | (apply Wk.cons; (focus ((repeat first | exact Rem.here | apply Rem.there | apply Rem.skip); done))) | apply Wk.nilv | apply Wk.last | apply Wk.drop)
  obtain rfl : i = c.latches.length := by omega
  rw [show mix (c.latches.map (bLatch (bT c))) c.latches c.latches.length = c.latches.map (bLatch (bT c)) from mix_all (by omega) (Nat.le_refl _)]
  refine GC_bld (by repeat first | exact Rem.here | apply Rem.there) ?_
  intro AB cB mB
  have hgr : ∀ Γ, In Γ (.box g 101 [num c.inputs.length, num c.latches.length, .slice AB (bG c).length cB, .map (some mB)]) → ∀ w', Mem w' Γ → CVN Try.prog 71 [ptr g] w' fun v N => N = [] ∧ v = num (nB c + (bG c).length) := fun Γ hi w' M => greatestG (hi.ok M) (by omega) (by omega) (by unfold nB at bmx; omega)
  repeat' (first
 | (apply G_call; eq_refl; eq_refl; (apply hgr; (repeat first | exact In.here | apply In.there | apply In.skip)); rintro _ _ ⟨rfl, rfl⟩)
 | (apply GC_drawsP (id := 44) (C := [.box b17 29 (ccells c h')]) [.q 0, .q 2, .q 3, .q 4, .q 5, .c 1, .q 6, .c 7, .q 8, .c 9]; exact mixed; kernel_rfl; kernel_rfl; (repeat first | exact Rems.nil | (apply Rems.cons; (focus ((repeat first | exact Rem.here | apply Rem.there | apply Rem.skip); done)))))
 | (apply GS_nilP)
 | (apply G_stBP; eq_refl; eq_refl; eq_refl; eq_refl; (repeat first | exact Upd.here | apply Upd.there | apply Upd.skip); exact Nat.le_of_ble_eq_true rfl)
 | (apply GC_drawsP (id := 45) (C := [.box b2 29 Zc]) [.q 0, .q 1, .c 2, .q 3, .q 4]; exact mixed; kernel_rfl; kernel_rfl; (repeat first | exact Rems.nil | (apply Rems.cons; (focus ((repeat first | exact Rem.here | apply Rem.there | apply Rem.skip); done)))))
 | (apply G_stWP; eq_refl; eq_refl; eq_refl; eq_refl; (repeat first | exact Upd.here | apply Upd.there | apply Upd.skip); eq_refl)
 | (apply GC_seqK; intro K hK)
 | (apply hK; clear hK K)
 | (clear hK K; apply hK; clear hK K)
 | (apply GC_region)
 | (apply GL_nil)
 | (apply thenG_normal)
 | (apply thenG_exit)
 | (apply blockG_hit)
 | (apply GC_ret)
 | (apply GC_exit)
 | (apply GC_if_false; eq_refl)
 | (apply retGC2; eq_refl; (repeat first | exact In.here | apply In.there | apply In.skip); eq_refl; eq_refl; eq_refl)
 | (apply GL_on; eq_refl; eq_refl)
 | (apply GS_qon; eq_refl; eq_refl; eq_refl; eq_refl)
 | (apply GS_con; eq_refl; eq_refl; eq_refl; eq_refl)
 | (apply G_pv; eq_refl; first | exact trivial | omega)
 | (apply G_field; eq_refl)
 | (apply G_ld; eq_refl; (repeat first | exact In.here | apply In.there | apply In.skip); eq_refl)
 | (apply G_ldW; eq_refl; (repeat first | exact In.here | apply In.there | apply In.skip); eq_refl)
 | (apply G_cmpF; eq_refl; eq_refl; omega))
  have hcells : ((ccells c h').set (0 + 0) (num (nB c + (bG c).length))).set (0 + 8) (.slice AB (bG c).length cB) = ccells (bC c) (hd8 h' AB cB) := by simp [ccells, bC, hd8]
  rw [hcells]
  have hW := built_wk (c := c) (h := h') (js := js') (A := AB) (k := cB)
  rw [hps] at hW
  refine ⟨[.any (cirX 0 (bC c) (hd8 h' AB cB) js'), .vec icell 1 3 (some ⟨bm, 0, none⟩) (c.max + 1).toNat (bT c)], ?_, _, js', _, _, by rw [tl], rfl⟩
  exact Wk.part (D := [.any (cirX 0 (bC c) (hd8 h' AB cB) js')]) (Γ' := [.vec icell 1 3 (some ⟨bm, 0, none⟩) (c.max + 1).toNat (bT c), .old w none_]) (C := [.vec encS 1 22 (h' 6).1 (h' 6).2 (jps c js'), .any (bun (fam rowJ (ps.map (rowF (bT c))))), .vec tcells 3 83 (h' 2).1 (h' 2).2 (c.latches.map (bLatch (bT c))), .vec tcells 3 57 AB cB (bG c), .vec scells 3 110 (h' 9).1 (h' 9).2 c.symbols, .vec bcell 1 9 (h' 10).1 (h' 10).2 c.comments]) (by (repeat first | exact Rems.nil | (apply Rems.cons; (focus ((repeat first | exact Rem.here | apply Rem.there | apply Rem.skip); done))))) hW (by repeat first | exact Wk.nil | exact Wk.refl | (apply Wk.cons; (focus ((repeat first | exact Rem.here | apply Rem.there | apply Rem.skip); done))) | apply Wk.nilv | apply Wk.last | apply Wk.drop)
end SC
end Go.Proofs.Yticndofcfacopaa
end
section
/- trestleref09: the reference's builder by entries; stores into rows that are kept apart; literals by a map whose members may be odd. -/
set_option linter.unusedVariables false
set_option linter.unusedSimpArgs false
namespace Go.Proofs.Yticndofcfacopaa
namespace SC
open Go.Proofs
/-- A builder of the reference, with the blocks that it owns. -/
def rblX (g : Nat) (S : Nat → Prop) (i l : Int) (gs : List Gate) : EntX where
  own := S
  ok := fun w => Rbl w g S i l gs
  lt := fun w ⟨v, H⟩ k hk => H.lt k hk
  keep := fun w w' T H hc hn => H.chg hc hn
theorem rbl_new {g : Nat} {i l : Int} : Wk [.box g 151 [num i, num l, .slice none 0 0]] [.any (rblX g (fun k => k = g) i l [])] :=
  Wk.same (fun w H => (⟨.slice none 0 0, H, World.ownsRow_nil _ _ _ _, rfl, fun k hk => (by cases hk), fun k hk => by subst hk; exact Blk.lt H⟩ : Rbl w g (fun k => k = g) i l [])) fun k hk => hk
theorem rbl_open {w : World} {g : Nat} {S : Nat → Prop} {i l : Int} {gs : List Gate} {Γ : Mm} (M : Mem w (.any (rblX g S i l gs) :: Γ)) : ∃ x : Option Addr × Nat, Mem w (.box g 151 [num i, num l, .slice x.1 gs.length x.2] :: .vec tcells 3 57 x.1 x.2 gs :: Γ) := by
  obtain ⟨v, H⟩ : Rbl w g S i l gs := M.head
  obtain ⟨A, cp, rfl⟩ := row_form H.row
  have hap := (List.pairwise_cons.1 M.ap).1
  have o : (Ent.vec tcells 3 57 A cp gs).ok w := H.row
  have M1 : Mem w (.vec tcells 3 57 A cp gs :: Γ) := M.tail.cons o fun k hk ⟨F, hF, h2⟩ => hap F hF k (H.hv k hk) h2
  refine ⟨(A, cp), M1.cons (E := .box g 151 [num i, num l, .slice A gs.length cp]) H.head fun k hk h2 => ?_⟩
  have hk' : k = g := hk
  subst hk'
  rcases owns_cons.1 h2 with h2 | ⟨F, hF, h2⟩
  · rcases H.row.2 with ⟨hv, _⟩ | ⟨g', cap, cur, hv, _, hg, _⟩
    · have h3 : (Value.slice A gs.length cp).ownBlock = some k := h2
      rw [hv] at h3
      cases h3
    · have e1 : g' = k := by
        have h3 : (Value.slice A gs.length cp).ownBlock = some k := h2
        rw [hv] at h3
        simpa [Value.ownBlock] using h3
      subst e1
      have h4 := H.head
      unfold Blk at h4
      rw [hg] at h4
      simp at h4
  · exact hap F hF k H.hg h2
theorem RAfter.cvm {f : FuncId} {args : List Value} {w : World} {g : Nat} {S : Nat → Prop} {i l : Int} {gs : List Gate} {r : Int × Int × List Gate} (h : CV Try.prog f args w (RAfter w g S i l r)) : CVM Try.prog f args w [.any (rblX g S i l gs)] fun v N => v = .tuple #[nu r.1, nu r.2.1] ∧ ∃ S', N = [.any (rblX g S' i l r.2.2)] :=
  CV.mono h fun v w' ⟨e, S', hB, hS⟩ => by
    have ho : ∀ k, owns [.any (rblX g S i l gs)] k ↔ S k := fun k => by
      rw [owns_cons]
      exact ⟨fun h => h.elim id fun h => absurd h owns_nil, fun h => .inl h⟩
    have hB' : (Ent.any (rblX g S' i l r.2.2)).ok w' := hB
    have hC : (Ent.old w (owns [.any (rblX g S i l gs)])).ok w' := Chg.mono hS.chg fun k hk => (ho k).2 hk
    refine ⟨[.any (rblX g S' i l r.2.2)], Mem.join (.one hB') (.one hC) fun k h1 h2 => ?_, e, S', rfl⟩
    rw [owns_cons] at h1 h2
    have h1' : S' k := h1.elim id fun h => absurd h owns_nil
    have h2' : k < w.heap.size ∧ ¬ owns [.any (rblX g S i l gs)] k := h2.elim id fun h => absurd h owns_nil
    rcases hS.new k h1' with h3 | h3
    · exact h2'.2 ((ho k).2 h3)
    · omega
theorem randG {w : World} {g : Nat} {S : Nat → Prop} {i l : Int} {gs : List Gate} {x y : Int} (hi : 0 ≤ i) (hl : 0 ≤ l) (G : Gs (i + l) gs) (hn : i + l + gs.length ≤ 16384) (hx : okM (i + l) gs x) (hy : okM (i + l) gs y) (M : Mem w [.any (rblX g S i l gs)]) :
    CVM Try.prog 122 [ptr g, num x, num y] w [.any (rblX g S i l gs)] fun v N => v = .tuple #[nu (andM (i + l) gs x y).1, nu (andM (i + l) gs x y).2.1] ∧ ∃ S', N = [.any (rblX g S' i l (andM (i + l) gs x y).2.2)] := RAfter.cvm (rand_cv M.head hi hl (G.inv hn) hx hy)
theorem rInputG {w : World} {g : Nat} {i l x : Int} {v : Value} (hB : Blk w g 151 [num i, num l, v]) (hi : i ≤ 16384) (h0 : 0 ≤ x) (h1 : x < i) : CVN Try.prog 120 [ptr g, num x] w fun u N => N = [] ∧ u = .tuple #[nu (2 * (x + 1)), nu 0] := by
  have := RInput_cv (l := l) (x := x) hB hi
  rw [show inM i x = (2 * (x + 1), 0) from if_neg (by omega)] at this
  exact CVN.of this fun v w' ⟨e1, e2⟩ => ⟨by rw [e2]; exact Chg.refl w none_, e1⟩
theorem rLatchG {w : World} {g : Nat} {i l x : Int} {v : Value} (hB : Blk w g 151 [num i, num l, v]) (hi0 : 0 ≤ i) (hi : i ≤ 16384) (hl : l ≤ 16384) (h0 : 0 ≤ x) (h1 : x < l) : CVN Try.prog 121 [ptr g, num x] w fun u N => N = [] ∧ u = .tuple #[nu (2 * (i + x + 1)), nu 0] := by
  have := RLatch_cv (x := x) hB hi0 hi hl
  rw [show laM i l x = (2 * (i + x + 1), 0) from if_neg (by omega)] at this
  exact CVN.of this fun v w' ⟨e1, e2⟩ => ⟨by rw [e2]; exact Chg.refl w none_, e1⟩
theorem rMaxG {w : World} {g : Nat} {i l : Int} {A : Option Addr} {n c : Nat} (hb : Blk w g 151 [num i, num l, .slice A n c]) (hi : 0 ≤ i) (hl : 0 ≤ l) (hn : i + l + n ≤ 16384) : CVN Try.prog 124 [ptr g] w fun v N => N = [] ∧ v = num (i + l + n) :=
  CVN.of (Max_cv hb hi hl hn) fun v w' ⟨e1, e2⟩ => ⟨by rw [e2]; exact Chg.drew w none_, e1⟩
section
variable {P : Program} {n : Nat} {all : List Oper} {K : Env → Mm → Prop} {m : Md} {e : Env} {Γ Γ' Γ1 : Mm} {d : Option Tmp} {ty t t0 t' : TypeId} {x y : Operand} {c : Code} {Q : PostG} {td : TypeDesc} {sz by_ : Nat} {zv v : Value} {ag : Bool}
theorem GC_rbl {g : Nat} {S : Nat → Prop} {i l : Int} {gs : List Gate} (hR : Rem Γ (.any (rblX g S i l gs)) Γ1) (h : ∀ A cp, GC P n c Q e (.box g 151 [num i, num l, .slice A gs.length cp] :: .vec tcells 3 57 A cp gs :: Γ1)) : GC P n c Q e Γ :=
  GC_ex (Γs := fun x : Option Addr × Nat => .box g 151 [num i, num l, .slice x.1 gs.length x.2] :: .vec tcells 3 57 x.1 x.2 gs :: Γ1) (fun w M => rbl_open (M.perm hR.perm)) fun x => h x.1 x.2
/-- An own slice that is not empty has an array. -/
theorem GC_some {α : Type} {enc : α → List Value} {A : Option Addr} {k : Nat} {l : List α} (hi : In Γ (.vec enc sz t A k l)) (hl : 0 < l.length) (hr : ∀ g, A = some ⟨g, 0, none⟩ → GC P n c Q e Γ) : GC P n c Q e Γ := fun w M => by
  rcases (hi.ok M).2 with ⟨hv, hn⟩ | ⟨g, cap, cur, hv, _⟩
  · omega
  · cases hv
    exact hr g rfl w M
/-- An element's address in a slice whose array is known. -/
theorem G_ixS {A : Option Addr} {g k cp sz1 by1 : Nat} {z1 : Value} {ag1 : Bool} {i : Int} {ik : IntKind} [U : Ty P t (.slice t0) sz1 z1 by1 ag1] [T : Ty P t0 td sz zv by_ ag] (hA : A = some ⟨g, 0, none⟩) (h : ev e x = some (.slice A k cp)) (h1 : ev e y = some (.int ik i)) (h0 : 0 ≤ i) (hk : i < k) (hr : GN P n all K m (push d (.pointer (some ⟨g, 0 + i.toNat * sz, none⟩)) e) Γ) : GX P n all K m d (.indexAddr t x y) ty e Γ := by
  subst hA
  exact G_ixA h h1 h0 hk hr
/-- A store into a row that is kept apart. -/
theorem G_stP {α : Type} [Inhabited α] {enc : α → List Value} [N : Enc enc sz] {A : Option Addr} {g cp j o q : Nat} {i : Int} {l : List α} {Θ Θ' : Mm} {Fs : List Fl} {r : List PStep} [T : Ty P t td 1 zv by_ ag] (a : α) (hA : A = some ⟨g, 0, none⟩) (h : ev e x = some (.pointer (some ⟨g, o, none⟩))) (h1 : ev e y = some v) (hv : v.cells = #[v]) (h2 : v.oneCell' = true)
    (hU : Upd Θ (.vec enc sz t0 A cp l) (.vec enc sz t0 A cp (l.set i.toNat a)) Θ') (ho : o = i.toNat * sz + j) (h0 : 0 ≤ i) (hlt : i < l.length) (hj : j < sz) (ha : enc a = (enc (gt l i)).set j v) (hr : GS P n all K Fs Θ' r (push d undef e) Γ) : GX P n all K (.c q Fs Θ r) d (.store t x y) ty e Γ := fun pos af gd hq hg hd hF =>
  GS_priv (R := fun v Θ1 N => v = undef ∧ Θ1 = Θ' ∧ N = []) hq hg hd hF (fun Δ w M => by
    subst hA
    have hU' := hU.left (Γ := Γ)
    have hb : (Ent.vec enc sz t0 (some ⟨g, 0, none⟩) cp l).ok w := by obtain ⟨R, p, _⟩ := hU'.perm; exact M.right.ok _ (p.mem_iff.2 (by simp))
    obtain ⟨hl, e1⟩ := gt_get h0 hlt
    rw [e1] at ha
    obtain ⟨g', cur, e2, hB, hlt2, hown⟩ := vec_store hb hl hj a v ha
    cases e2
    rw [ho] at h
    have hown' : (Ent.vec enc sz t0 (some ⟨g, 0, none⟩) cp (l.set i.toNat a)).ok (w.setRow g (cur.set (i.toNat * sz + j) v).toArray) := by
      show World.ownsRow _ _ _ _ _ _ _
      rw [List.length_set]
      exact hown
    refine .inr (.inr ⟨_, does_store1 h h1 hB hlt2 hv h2, Θ', [], ?_, rfl, rfl, rfl⟩)
    exact Mem.upd hU' M (Chg.setRow w g _ (S := fun k => k = g) rfl) (fun k _ h => by subst h; rfl) hown' fun k hk => .inl hk) fun v Θ1 N ⟨e1, e2, e3⟩ => by rw [e1, e2, e3]; exact hr
/-- A call that also looks at what is kept apart. -/
theorem G_callLP {f : FuncId} [F : Go.Proofs.Yticndofcfacopaa.SC.Fn P f] {args : Array Operand} {ats : Array TypeId} {vs : List Value} {Θ : Mm} {A : List Fl} {r : List PStep} {j : Nat} {R : Value → Mm → Prop} (h : evs e args.toList = some vs) (hc : ∀ w, Mem w (Θ ++ Γ) → CVN P f vs w R) (hr : ∀ v N, R v N → GS P n all K A Θ r (push d v e) (N ++ Γ)) :
    GX P n all K (.c j A Θ r) d (.call { callee := .value (.func f), args := args, argTypes := ats }) ty e Γ := fun pos af g ho hg hd hA =>
  GS_priv (R := fun v Θ1 N => Θ1 = Θ ∧ R v N) ho hg hd hA (fun Δ w M => by
    refine .inr (.inl ⟨f, vs, enters (evs_map h), CV.mono (hc w M.right) fun v w' ⟨N, M', hR⟩ => ⟨Θ, N, ?_, rfl, hR⟩⟩)
    refine (M.add M').perm ?_
    exact (List.perm_append_comm_assoc ..).trans ((List.perm_append_comm_assoc ..).append_left _)) fun v Θ1 N ⟨e1, hR⟩ => by rw [e1]; exact hr v N hR
end
attribute [local irreducible] WC WL WX WS WO OX Does DoesU Enters CV Pure thenQ blockQ retQ Wants retQC GC GL GS GX RdB thenG blockG retG Rd At gt CVN CVM
set_option maxRecDepth 100000
theorem Lit3X_cv {w : World} {A : Option Addr} {k : Nat} {to : List Int} {l : Int} (hA : RowA w icell 1 A to) (h0 : 0 ≤ l) (h1 : l / 2 < to.length) (h3 : to.length ≤ 1000000) (h2 : 0 ≤ gt to (l / 2) ∧ gt to (l / 2) ≤ 100000) : CVN Try.prog 123 [.slice A to.length k, nu l] w fun v N => N = [] ∧ v = nu (litX to l) := by
  have e0 : litX to l = xorb (gt to (l / 2)) (l % 2) := by
    unfold litX
    rw [show L to (l / 2) = gt to (l / 2) by unfold gt L; rfl]
  rw [e0]
  refine CVN.enter 13 [4] Try.func123 rfl rfl rfl (by decide) rfl ?_
  repeat' (first
 | (apply G_xorb; eq_refl; eq_refl; omega; omega; omega; omega)
 | (apply GC_seqK; intro K hK)
 | (apply hK; clear hK K)
 | (apply GC_region)
 | (apply GL_nil)
 | (apply thenG_normal)
 | (apply GC_ret)
 | (apply retG1; eq_refl)
 | (apply GL_on; eq_refl; eq_refl)
 | (apply G_pv; eq_refl; first | exact trivial | omega)
 | (apply G_rd; eq_refl; (first | (apply Rd.own; (repeat first | exact In.here | apply In.there | apply In.skip); infer_instance) | (apply Rd.old; (repeat first | exact In.here | apply In.there | apply In.skip); assumption) | (apply Rd.oldR; (repeat first | exact In.here | apply In.there | apply In.skip); assumption) | exact Rd.nil | assumption); (case ih => infer_instance); omega; omega; eq_refl)
 | (apply G_ix; eq_refl; eq_refl; (first | (apply Rd.own; (repeat first | exact In.here | apply In.there | apply In.skip); infer_instance) | (apply Rd.old; (repeat first | exact In.here | apply In.there | apply In.skip); assumption) | (apply Rd.oldR; (repeat first | exact In.here | apply In.there | apply In.skip); assumption) | exact Rd.nil | assumption); (first | eq_refl | omega); omega; omega))
  exact ⟨[], (by repeat first | exact Wk.nil | exact Wk.refl | (apply Wk.cons; (focus ((repeat first | exact Rem.here | apply Rem.there | apply Rem.skip); done))) | apply Wk.nilv | apply Wk.last | apply Wk.drop), rfl, rfl⟩
theorem Lits3X_cv {w : World} {A B : Option Addr} {k k2 : Nat} {to ls : List Int} (hA : RowA w icell 1 A to) (hB : RowA w icell 1 B ls) (h3 : to.length ≤ 1000000) (hl : ∀ l ∈ ls, 0 ≤ l ∧ l / 2 < to.length ∧ 0 ≤ L to (l / 2) ∧ L to (l / 2) ≤ 100000) (hn : ls.length ≤ 100000) :
    CVN Try.prog 125 [.slice A to.length k, .slice B ls.length k2] w fun v N => ∃ A' k', v = .slice A' (ls.map (litX to)).length k' ∧ N = [.vec icell 1 3 A' k' (ls.map (litX to))] := by
  refine CVN.enter 23 [4] Try.func125 rfl rfl rfl (by decide) rfl ?_
  repeat' (first
 | (apply GC_seqK; intro K hK)
 | (apply hK; clear hK K)
 | (apply GC_block)
 | (apply GC_region)
 | (apply GL_nil)
 | (apply thenG_normal)
 | (apply GL_on; eq_refl; eq_refl)
 | (apply G_pv; eq_refl; first | exact trivial | omega))
  refine GC_loopK [0, 1] (fun s : Nat × List Int × Option Addr × Nat => [(5, .slice s.2.2.1 s.2.1.length s.2.2.2), (6, nu s.1)]) (fun s => [.vec icell 1 3 s.2.2.1 s.2.2.2 s.2.1, .old w none_]) (fun s => s.1 ≤ ls.length ∧ s.2.1 = (ls.take s.1).map (litX to)) (fun s => ls.length - s.1) (0, [], none, 0) (by repeat first | exact Pick.nil | (apply Pick.cons; eq_refl)) (by repeat first | exact trivial | refine ⟨rfl, ?_⟩) (by repeat first | exact Wk.nil | exact Wk.refl | (apply Wk.cons; (focus ((repeat first | exact Rem.here | apply Rem.there | apply Rem.skip); done))) | apply Wk.nilv | apply Wk.last | apply Wk.drop) ⟨Nat.zero_le _, by simp⟩ ?_
  rintro ⟨i, o, C, kC⟩ ⟨hi, ho⟩
  dsimp only at hi ho ⊢
  have hol : o.length = i := by have := congrArg List.length ho; simp at this; omega
  rcases Nat.lt_or_ge i ls.length with hlt | hge
  · obtain ⟨g1, g2, g3⟩ := hl _ (gt_mem (l := ls) (i := (i : Int)) (by omega) (by omega))
    rw [← gt_L] at g3
    have hlit : ∀ Γ, In Γ (.old w none_) → ∀ w', Mem w' Γ → CVN Try.prog 123 [.slice A to.length k, nu (gt ls (i : Int))] w' fun v N => N = [] ∧ v = nu (litX to (gt ls (i : Int))) := fun Γ hi w' M => Lit3X_cv (hA.chg (hi.old M)) g1 g2 h3 g3
    repeat' (first
 | (apply G_call; eq_refl; eq_refl; (apply hlit; (repeat first | exact In.here | apply In.there | apply In.skip)); rintro _ _ ⟨rfl, rfl⟩)
 | (apply GC_seqK; intro K hK)
 | (apply hK; clear hK K)
 | (apply GC_block)
 | (apply GC_region)
 | (apply GL_nil)
 | (apply thenG_normal)
 | (apply blockG_normal)
 | (apply GC_skip)
 | (apply GC_if_true; eq_refl)
 | (apply GL_on; eq_refl; eq_refl)
 | (apply G_pv; eq_refl; first | exact trivial | omega)
 | (apply G_rd; eq_refl; (first | (apply Rd.own; (repeat first | exact In.here | apply In.there | apply In.skip); infer_instance) | (apply Rd.old; (repeat first | exact In.here | apply In.there | apply In.skip); assumption) | (apply Rd.oldR; (repeat first | exact In.here | apply In.there | apply In.skip); assumption) | exact Rd.nil | assumption); (case ih => infer_instance); omega; omega; eq_refl)
 | (apply G_cmpT; eq_refl; eq_refl; omega)
 | (apply G_len; eq_refl)
 | (apply G_ix; eq_refl; eq_refl; (first | (apply Rd.own; (repeat first | exact In.here | apply In.there | apply In.skip); infer_instance) | (apply Rd.old; (repeat first | exact In.here | apply In.there | apply In.skip); assumption) | (apply Rd.oldR; (repeat first | exact In.here | apply In.there | apply In.skip); assumption) | exact Rd.nil | assumption); (first | eq_refl | omega); omega; omega)
 | (apply G_app; (first | exact wr_p | kernel_rfl); eq_refl; eq_refl; (intro A c; (repeat first | exact Upd.here | apply Upd.there | apply Upd.skip)); infer_instance; (repeat first | exact In.here | apply In.there | apply In.skip); (repeat first | exact Dec.nil | apply Dec.pr | apply Dec.tr | (apply Dec.c1; eq_refl) | (apply Dec.c2; eq_refl) | (apply Dec.c3; eq_refl)); eq_refl; eq_refl; eq_refl; ((try simp only [List.length_append, List.length_cons, List.length_nil]); omega); decide; intro _ _)
 | (apply G_new (fun b => .slice (some ⟨b, 0, none⟩) 1 1); eq_refl; (intro _; apply buildS22_1 <;> eq_refl); intro _))
    exact ⟨(i + 1, _, _, _), (by repeat first | exact trivial | refine ⟨rfl, ?_⟩), (by repeat first | exact Wk.nil | exact Wk.refl | (apply Wk.cons; (focus ((repeat first | exact Rem.here | apply Rem.there | apply Rem.skip); done))) | apply Wk.nilv | apply Wk.last | apply Wk.drop), ⟨hlt, by rw [List.take_succ_eq_append_getElem hlt, List.map_append, ho, gt_nat hlt]; rfl⟩, by simp only; omega⟩
  · repeat' (first
 | (apply GC_seqK; intro K hK)
 | (apply hK; clear hK K)
 | (clear hK K; apply hK; clear hK K)
 | (apply GC_region)
 | (apply GL_nil)
 | (apply thenG_normal)
 | (apply thenG_exit)
 | (apply blockG_hit)
 | (apply GC_ret)
 | (apply GC_exit)
 | (apply GC_if_false; eq_refl)
 | (apply retG1; eq_refl)
 | (apply GL_on; eq_refl; eq_refl)
 | (apply G_pv; eq_refl; first | exact trivial | omega)
 | (apply G_cmpF; eq_refl; eq_refl; omega)
 | (apply G_len; eq_refl))
    rw [List.take_of_length_le hge] at ho
    subst ho
    exact ⟨[_], (by repeat first | exact Wk.nil | exact Wk.refl | (apply Wk.cons; (focus ((repeat first | exact Rem.here | apply Rem.there | apply Rem.skip); done))) | apply Wk.nilv | apply Wk.last | apply Wk.drop), _, _, rfl, rfl⟩
end SC
end Go.Proofs.Yticndofcfacopaa
end
section
/- trestleref09: Build0: the walk. -/
set_option linter.unusedVariables false
set_option linter.unusedSimpArgs false
namespace Go.Proofs.Yticndofcfacopaa
namespace SC
open Go.Proofs
/-- What Build of the reference makes of a latch: first its literal, then the rest. -/
def lt1 (to : List Int) (x : Tri) : Tri := (litX to x.1, x.2.1, x.2.2)
def lt2 (to : List Int) (x : Tri) : Tri := (litX to x.1, litX to x.2.1, if 1 < x.2.2 then litX to x.1 else x.2.2)
theorem lt2_eq {c : Circ} (R : Right c) : c.latches.map (lt2 (bT c)) = c.latches.map (bLatch (bT c)) := List.map_congr_left fun x hx => by
  obtain ⟨h1, _, h3⟩ := R.lat hx
  unfold defR at h1
  unfold lt2 bLatch
  refine Prod.ext rfl (Prod.ext rfl ?_)
  dsimp only
  split
  · rename_i h
    rw [show x.2.2 = x.1 by omega]
  · rfl
def hdB (h : Hd) (a3 a4 a5 a7 a8 : Hdl) : Hd := fun
  | 3 => a3
  | 4 => a4
  | 5 => a5
  | 7 => a7
  | 8 => a8
  | i => h i
/-- The rows of the reference's circuit. -/
theorem refCirB {w : World} {d : Circ} {h : Hd} {a3 a4 a5 a7 a8 : Hdl} {ps : List (Hdl × List Int)} (hps : ps.map (·.2) = d.justice) (r1 : RowA w icell 1 (h 1).1 d.inputs) (r2 : RowA w tcells 3 (h 2).1 d.latches) (r3 : RowA w icell 1 a3.1 d.outputs) (r4 : RowA w icell 1 a4.1 d.bads) (r5 : RowA w icell 1 a5.1 d.constraints)
    (r6 : RowA w encS 1 (h 6).1 ps) (rj : ∀ p ∈ ps, RowA w icell 1 p.1.1 p.2) (r7 : RowA w icell 1 a7.1 d.fairness) (r8 : RowA w tcells 3 a8.1 d.ands) (r9 : RowA w scells 3 (h 9).1 d.symbols) (r10 : RowA w bcell 1 (h 10).1 d.comments) :
    CirAt w d (hdB h a3 a4 a5 a7 a8) (fun k => (gt ps (k : Int)).1) := by
  have hl : ps.length = d.justice.length := by rw [← hps, List.length_map]
  have he : ∀ k (hk : k < d.justice.length), (gt ps (k : Int)).2 = d.justice[k] := fun k hk => by
    have hk' : k < ps.length := by omega
    rw [gt_nat hk']
    have : (ps.map (·.2))[k]'(by simpa using hk') = d.justice[k] := by simp only [hps]
    rw [← this, List.getElem_map]
  refine ⟨r1, r2, r3, r4, r5, fun k hk => ?_, fun k hk => ?_, r7, r8, r9, r10⟩
  · have hk' : k < ps.length := by omega
    obtain ⟨p, h1, h2⟩ := r6 k hk'
    refine ⟨p, h1, ?_⟩
    have := h2 0 _ rfl
    rw [add_zero] at this
    rw [this]
    show some (Value.slice ps[k].1.1 ps[k].2.length ps[k].1.2) = _
    rw [← he k hk, gt_nat hk']
  · rw [← he k hk]
    exact rj _ (gt_mem (by omega) (by omega))
theorem set_app {α : Type} {ps l : List α} {i : Nat} {a : α} (h : ps.length = i) (hl : i < l.length) : (ps ++ l.drop i).set (i : Int).toNat a = (ps ++ [a]) ++ l.drop (i + 1) := by
  rw [Int.toNat_natCast, List.set_append_right _ _ (by omega), h, Nat.sub_self, List.drop_eq_getElem_cons hl, List.set_cons_zero, List.append_assoc]
  rfl
theorem gt_set {α : Type} [Inhabited α] {l : List α} {i : Nat} {a : α} (h : i < l.length) : gt (l.set (i : Int).toNat a) (i : Int) = a := by
  rw [gt_nat (by rw [List.length_set]; exact h)]
  simp
attribute [local irreducible] WC WL WX WS WO OX Does DoesU Enters CV Pure thenQ blockQ retQ Wants retQC GC GL GS GX RdB thenG blockG retG Rd At gt CVN CVM
attribute [local irreducible] rblX
set_option maxRecDepth 100000
set_option maxHeartbeats 3200000 in
theorem build0_cv {w : World} {c : Circ} {h js : Hd} {Ao : Option Addr} {ko : Nat} (H : CirIn w c h js) (hn : Nils h js) (he : (lookM c).2 = 0) (hO : RowA w icell 1 Ao (ordM c)) : CVN Try.prog 73 [.agg (ccells c h).toArray, .slice Ao (ordM c).length ko] w fun v N => ∃ h' js' A k, v = .tuple #[.agg (ccells (bC c) h').toArray, .slice A (bT c).length k] ∧ ∀ w, Mem w N → CirAt w (bC c) h' js' ∧ RowA w icell 1 A (bT c) := by
  have R := right_of H.at_ H.sane he
  have m0 := R.m0
  have m1 := R.m1
  have n1 := R.nIn
  have n2 := R.nLat
  have n3 := R.nAnd
  have nd := R.nDefs
  have nl := R.nDefs_le
  have ol := R.ordLen
  have hInp := H.at_.inputs
  have hLat := H.at_.latches
  have hAnd := H.at_.ands
  have hcp : ∀ Γ, In Γ (.old w none_) → ∀ w', Mem w' Γ → CVN Try.prog 50 [.agg (ccells c h).toArray] w' fun v N => ∃ h' js', v = .agg (ccells c h').toArray ∧ N = [.vec icell 1 3 (h' 1).1 (h' 1).2 c.inputs, .vec tcells 3 83 (h' 2).1 (h' 2).2 c.latches, .vec encS 1 22 (h' 6).1 (h' 6).2 (jps c js'), .vec tcells 3 57 (h' 8).1 (h' 8).2 c.ands, .vec scells 3 110 (h' 9).1 (h' 9).2 c.symbols, .vec bcell 1 9 (h' 10).1 (h' 10).2 c.comments] := fun Γ hi w' M => copyG (H.at_.chg (hi.old M)) H.fits hn
  refine CVN.enterC1 (t := 29) 210 4 5 Try.func73 rfl rfl rfl rfl ?_
  repeat' (first
 | (apply G_call; eq_refl; eq_refl; (apply hcp; (repeat first | exact In.here | apply In.there | apply In.skip)); rintro _ _ ⟨h', js', rfl, rfl⟩)
 | (apply GC_seqK; intro K hK)
 | (apply hK; clear hK K)
 | (apply GC_block)
 | (apply GC_region)
 | (apply GL_nil)
 | (apply thenG_normal)
 | (apply GL_on; eq_refl; eq_refl)
 | (apply G_pv; eq_refl; first | exact trivial | omega)
 | (apply G_field; eq_refl)
 | (apply G_ld; eq_refl; (repeat first | exact In.here | apply In.there | apply In.skip); eq_refl)
 | (apply G_ldW; eq_refl; (repeat first | exact In.here | apply In.there | apply In.skip); eq_refl)
 | (apply G_len; eq_refl)
 | (apply G_alloc; eq_refl; intro _)
 | (apply G_box; eq_refl; eq_refl; intro _)
 | (apply G_stW; (first | exact wr_p | kernel_rfl); eq_refl; eq_refl; eq_refl; eq_refl; (repeat first | exact Upd.here | apply Upd.there | apply Upd.skip); eq_refl)
 | (apply G_makeI icell; eq_refl; eq_refl; omega; eq_refl; omega; decide; intro _)
 | (apply GX_pure; apply build151_0_1 <;> eq_refl))
  rename_i b2 b4 g bm b8
  have hT := R.bI
  have tl : (bT c).length = (c.max + 1).toNat := hT.mlen
  have bmx := R.b_max
  have il : (c.inputs.map (litX (bT c))).length = c.inputs.length := List.length_map _
  refine GC_loopK [1, 2, 4, 6, 7, 8] (fun i : Nat => [(9, nu i)]) (fun i => [.vec icell 1 3 (some ⟨bm, 0, none⟩) (c.max + 1).toNat (mapOf c.max ((defsOf c (ordM c)).take i)), .vec icell 1 3 (h' 1).1 (h' 1).2 (mix (c.inputs.map (litX (bT c))) c.inputs i), .vec tcells 3 83 (h' 2).1 (h' 2).2 (c.latches), .vec encS 1 22 (h' 6).1 (h' 6).2 (jps c js'), .vec scells 3 110 (h' 9).1 (h' 9).2 c.symbols, .vec bcell 1 9 (h' 10).1 (h' 10).2 c.comments, .box g 151 [nu c.inputs.length, nu c.latches.length, .slice none 0 0], .box b8 29 (ccells c h'), .box b4 29 Zc, .box b2 29 (ccells c h), .old w none_] ) (fun i => i ≤ c.inputs.length) (fun i => c.inputs.length - i) 0 (by repeat first | exact Pick.nil | (apply Pick.cons; eq_refl)) (by repeat first | exact trivial | refine ⟨rfl, ?_⟩) (by repeat first | exact Wk.nil | exact Wk.refl | (apply Wk.cons; (focus ((repeat first | exact Rem.here | apply Rem.there | apply Rem.skip); done))) | apply Wk.nilv | apply Wk.last | apply Wk.drop) (Nat.zero_le _) ?_
  intro i hi
  rcases Nat.lt_or_ge i c.inputs.length with hlt | hge
  · obtain ⟨hd, e2⟩ := R.def_inp hlt
    have e4 : mapOf c.max ((defsOf c (ordM c)).take (i + 1)) = (mapOf c.max ((defsOf c (ordM c)).take i)).set (gt c.inputs (i : Int) / 2).toNat (2 * ((i : Int) + 1)) := map_step hd (by rw [e2, gt_nat hlt]) (by omega)
    have e5 : mix (c.inputs.map (litX (bT c))) c.inputs (i + 1) = (mix (c.inputs.map (litX (bT c))) c.inputs i).set (i : Int).toNat (2 * ((i : Int) + 1)) := (mix_step (by omega) il (by rw [List.getElem_map, R.b_inp hlt]; omega)).symm
    have e6 : (mix (c.inputs.map (litX (bT c))) c.inputs i).length = c.inputs.length := mix_len il
    have e7 := R.defs_rg (k := gt c.inputs (i : Int)) (by rw [gt_nat hlt, ← e2]; exact List.getElem_mem hd)
    unfold rg at e7
    have e8 : (mapOf c.max ((defsOf c (ordM c)).take i)).length = (c.max + 1).toNat := mapOf_len _ _
    generalize mix (c.inputs.map (litX (bT c))) c.inputs i = ml at *
    generalize mapOf c.max ((defsOf c (ordM c)).take i) = mm at *
    have hsl : (ml.set (i : Int).toNat (2 * ((i : Int) + 1))).length = c.inputs.length := by rw [List.length_set]; exact e6
    have hgs : gt (ml.set (i : Int).toNat (2 * ((i : Int) + 1))) (i : Int) = 2 * ((i : Int) + 1) := gt_set (by omega)
    have hin : ∀ Γ, In Γ (.box g 151 [nu c.inputs.length, nu c.latches.length, .slice none 0 0]) → ∀ w', Mem w' Γ → CVN Try.prog 120 [ptr g, nu i] w' _ := fun Γ hi w' M => rInputG (hi.ok M) (by omega) (by omega) (by omega)
    refine GC_some (enc := icell) (A := (h' 1).1) (k := (h' 1).2) (by repeat first | exact In.here | apply In.there) (by omega) ?_
    intro g1 hg1
    repeat' (first
 | (apply GC_drawsP (id := 7) (C := [.vec icell 1 3 (h' 1).1 (h' 1).2 ml]) [.q 0, .q 1, .q 2, .q 3, .q 4, .c 5, .q 6, .q 7, .q 8, .q 9, .c 10]; exact mixed; kernel_rfl; kernel_rfl; (repeat first | exact Rems.nil | (apply Rems.cons; (focus ((repeat first | exact Rem.here | apply Rem.there | apply Rem.skip); done)))))
 | (apply GS_nilP)
 | (apply G_ixS (x := .tmp 38) (hA := hg1); eq_refl; eq_refl; omega; omega)
 | (apply G_call; eq_refl; eq_refl; (apply hin; (repeat first | exact In.here | apply In.there | apply In.skip)); rintro _ _ ⟨rfl, rfl⟩)
 | (apply G_stP (enc := icell) (sz := 1) (j := 0) (i := (i : Int)) (2 * ((i : Int) + 1)) hg1; eq_refl; eq_refl; eq_refl; eq_refl; (repeat first | exact Upd.here | apply Upd.there | apply Upd.skip); omega; omega; omega; decide; exact rfl)
 | (apply G_rd; eq_refl; (first | (apply Rd.own; (repeat first | exact In.here | apply In.there | apply In.skip); infer_instance) | (apply Rd.old; (repeat first | exact In.here | apply In.there | apply In.skip); assumption) | (apply Rd.oldR; (repeat first | exact In.here | apply In.there | apply In.skip); assumption) | exact Rd.nil | assumption); (case ih => infer_instance); omega; omega; (rw [hgs]; eq_refl))
 | (apply GC_seqK; intro K hK)
 | (apply hK; clear hK K)
 | (apply GC_block)
 | (apply GC_region)
 | (apply GL_nil)
 | (apply thenG_normal)
 | (apply blockG_normal)
 | (apply GC_skip)
 | (apply GC_if_true; eq_refl)
 | (apply GL_on; eq_refl; eq_refl)
 | (refine GC_draws (id := 8) [.q 0, .q 1, .q 2, .q 3, .q 4, .q 5, .q 6, .q 7, .q 8, .q 9, .q 10, .q 11, .q 12, .c 13] mixed (by kernel_rfl) (by kernel_rfl) ?_)
 | (apply GS_qon; eq_refl; eq_refl; eq_refl; eq_refl)
 | (apply GS_con; eq_refl; eq_refl; eq_refl; eq_refl)
 | (apply G_pv; eq_refl; first | exact trivial | omega)
 | (apply G_field; eq_refl)
 | (apply G_ld; eq_refl; (repeat first | exact In.here | apply In.there | apply In.skip); eq_refl)
 | (apply G_rd; eq_refl; (first | (apply Rd.own; (repeat first | exact In.here | apply In.there | apply In.skip); infer_instance) | (apply Rd.old; (repeat first | exact In.here | apply In.there | apply In.skip); assumption) | (apply Rd.oldR; (repeat first | exact In.here | apply In.there | apply In.skip); assumption) | exact Rd.nil | assumption); (case ih => infer_instance); omega; omega; eq_refl)
 | (apply G_cmpT; eq_refl; eq_refl; omega)
 | (apply G_len; eq_refl)
 | (apply G_ix; eq_refl; eq_refl; (first | (apply Rd.own; (repeat first | exact In.here | apply In.there | apply In.skip); infer_instance) | (apply Rd.old; (repeat first | exact In.here | apply In.there | apply In.skip); assumption) | (apply Rd.oldR; (repeat first | exact In.here | apply In.there | apply In.skip); assumption) | exact Rd.nil | assumption); (first | eq_refl | omega); omega; omega)
 | (apply G_stV; (first | exact wr_p | kernel_rfl); eq_refl; eq_refl; eq_refl; eq_refl; (repeat first | exact Upd.here | apply Upd.there | apply Upd.skip); infer_instance; infer_instance; eq_refl; omega; (try simp only [List.length_set, List.length_append, List.length_replicate]); omega))
    refine ⟨i + 1, (by repeat first | exact trivial | refine ⟨rfl, ?_⟩), ?_, hlt, by omega⟩
    rw [e4, e5]
    exact (by repeat first | exact Wk.nil | exact Wk.refl | (apply Wk.cons; (focus ((repeat first | exact Rem.here | apply Rem.there | apply Rem.skip); done))) | apply Wk.nilv | apply Wk.last | apply Wk.drop)
  obtain rfl : i = c.inputs.length := by omega
  rw [show mix (c.inputs.map (litX (bT c))) c.inputs c.inputs.length = (c.inputs.map (litX (bT c))) from mix_all (by omega) (Nat.le_refl _)]
  repeat' (first
 | (apply GC_seqK; intro K hK)
 | (apply hK; clear hK K)
 | (clear hK K; apply hK; clear hK K)
 | (apply GC_block)
 | (apply GC_region)
 | (apply GL_nil)
 | (apply thenG_normal)
 | (apply thenG_exit)
 | (apply blockG_hit)
 | (apply GC_exit)
 | (apply GC_if_false; eq_refl)
 | (apply GL_on; eq_refl; eq_refl)
 | (apply G_pv; eq_refl; first | exact trivial | omega)
 | (apply G_field; eq_refl)
 | (apply G_ld; eq_refl; (repeat first | exact In.here | apply In.there | apply In.skip); eq_refl)
 | (apply G_cmpF; eq_refl; eq_refl; omega)
 | (apply G_len; eq_refl))
  have l1l : (c.latches.map (lt1 (bT c))).length = c.latches.length := List.length_map _
  have l2l : (c.latches.map (lt2 (bT c))).length = c.latches.length := List.length_map _
  refine GC_loopK [1, 2, 4, 6, 7, 8] (fun i : Nat => [(10, nu i)]) (fun i => [.vec icell 1 3 (some ⟨bm, 0, none⟩) (c.max + 1).toNat (mapOf c.max ((defsOf c (ordM c)).take (c.inputs.length + i))), .vec icell 1 3 (h' 1).1 (h' 1).2 (c.inputs.map (litX (bT c))), .vec tcells 3 83 (h' 2).1 (h' 2).2 (mix (c.latches.map (lt1 (bT c))) c.latches i), .vec encS 1 22 (h' 6).1 (h' 6).2 (jps c js'), .vec scells 3 110 (h' 9).1 (h' 9).2 c.symbols, .vec bcell 1 9 (h' 10).1 (h' 10).2 c.comments, .box g 151 [nu c.inputs.length, nu c.latches.length, .slice none 0 0], .box b8 29 (ccells c h'), .box b4 29 Zc, .box b2 29 (ccells c h), .old w none_] ) (fun i => i ≤ c.latches.length) (fun i => c.latches.length - i) 0 (by repeat first | exact Pick.nil | (apply Pick.cons; eq_refl)) (by repeat first | exact trivial | refine ⟨rfl, ?_⟩) (by repeat first | exact Wk.nil | exact Wk.refl | (apply Wk.cons; (focus ((repeat first | exact Rem.here | apply Rem.there | apply Rem.skip); done))) | apply Wk.nilv | apply Wk.last | apply Wk.drop) (Nat.zero_le _) ?_
  intro i hi2
  rcases Nat.lt_or_ge i c.latches.length with hlt | hge2
  · obtain ⟨hd, e2⟩ := R.def_lat hlt
    have e4 : mapOf c.max ((defsOf c (ordM c)).take (c.inputs.length + (i + 1))) = (mapOf c.max ((defsOf c (ordM c)).take (c.inputs.length + i))).set ((gt c.latches (i : Int)).1 / 2).toNat (2 * ((c.inputs.length : Int) + (i : Int) + 1)) := map_step (i := c.inputs.length + i) hd (by rw [e2, gt_nat hlt]) (by omega)
    have e5 : mix (c.latches.map (lt1 (bT c))) c.latches (i + 1) = (mix (c.latches.map (lt1 (bT c))) c.latches i).set (i : Int).toNat (2 * ((c.inputs.length : Int) + (i : Int) + 1), (gt c.latches (i : Int)).2.1, (gt c.latches (i : Int)).2.2) := (mix_step (by omega) l1l (by
      rw [List.getElem_map, gt_nat hlt]
      unfold lt1
      rw [R.b_lat hlt]
      refine Prod.ext ?_ rfl
      dsimp only
      omega)).symm
    have e6 : (mix (c.latches.map (lt1 (bT c))) c.latches i).length = c.latches.length := mix_len l1l
    have f1 : gt (mix (c.latches.map (lt1 (bT c))) c.latches i) (i : Int) = (gt c.latches (i : Int)) := mix_get l1l hlt
    have e7 := R.defs_rg (k := (gt c.latches (i : Int)).1) (by rw [gt_nat hlt, ← e2]; exact List.getElem_mem hd)
    unfold rg at e7
    have e8 : (mapOf c.max ((defsOf c (ordM c)).take (c.inputs.length + i))).length = (c.max + 1).toNat := mapOf_len _ _
    generalize mix (c.latches.map (lt1 (bT c))) c.latches i = ml at *
    generalize mapOf c.max ((defsOf c (ordM c)).take (c.inputs.length + i)) = mm at *
    have hsl : (ml.set (i : Int).toNat (2 * ((c.inputs.length : Int) + (i : Int) + 1), (gt c.latches (i : Int)).2.1, (gt c.latches (i : Int)).2.2)).length = c.latches.length := by rw [List.length_set]; exact e6
    have hgs : gt (ml.set (i : Int).toNat (2 * ((c.inputs.length : Int) + (i : Int) + 1), (gt c.latches (i : Int)).2.1, (gt c.latches (i : Int)).2.2)) (i : Int) = (2 * ((c.inputs.length : Int) + (i : Int) + 1), (gt c.latches (i : Int)).2.1, (gt c.latches (i : Int)).2.2) := gt_set (by omega)
    have hlt9 : ∀ Γ, In Γ (.box g 151 [nu c.inputs.length, nu c.latches.length, .slice none 0 0]) → ∀ w', Mem w' Γ → CVN Try.prog 121 [ptr g, nu i] w' _ := fun Γ hi w' M => rLatchG (hi.ok M) (by omega) (by omega) (by omega) (by omega) (by omega)
    refine GC_some (enc := tcells) (A := (h' 2).1) (k := (h' 2).2) (by repeat first | exact In.here | apply In.there) (by omega) ?_
    intro g2 hg2
    repeat' (first
 | (apply GC_drawsP (id := 12) (C := [.vec tcells 3 83 (h' 2).1 (h' 2).2 ml]) [.q 0, .q 1, .q 2, .q 3, .q 4, .c 5, .q 6, .q 7, .q 8, .q 9, .q 10, .c 11]; exact mixed; kernel_rfl; kernel_rfl; (repeat first | exact Rems.nil | (apply Rems.cons; (focus ((repeat first | exact Rem.here | apply Rem.there | apply Rem.skip); done)))))
 | (apply GS_nilP)
 | (apply G_ixS (x := .tmp 68) (hA := hg2); eq_refl; eq_refl; omega; omega)
 | (apply G_call; eq_refl; eq_refl; (apply hlt9; (repeat first | exact In.here | apply In.there | apply In.skip)); rintro _ _ ⟨rfl, rfl⟩)
 | (apply G_stP (enc := tcells) (sz := 3) (j := 0) (i := (i : Int)) (2 * ((c.inputs.length : Int) + (i : Int) + 1), (gt c.latches (i : Int)).2.1, (gt c.latches (i : Int)).2.2) hg2; eq_refl; eq_refl; eq_refl; eq_refl; (repeat first | exact Upd.here | apply Upd.there | apply Upd.skip); omega; omega; omega; decide; (rw [f1]; exact rfl))
 | (apply G_rdF; eq_refl; (first | (apply Rd.own; (repeat first | exact In.here | apply In.there | apply In.skip); infer_instance) | (apply Rd.old; (repeat first | exact In.here | apply In.there | apply In.skip); assumption) | (apply Rd.oldR; (repeat first | exact In.here | apply In.there | apply In.skip); assumption) | exact Rd.nil | assumption); (case ih => infer_instance); omega; omega; (rw [hgs]; eq_refl))
 | (apply GC_seqK; intro K hK)
 | (apply hK; clear hK K)
 | (apply GC_block)
 | (apply GC_region)
 | (apply GL_nil)
 | (apply thenG_normal)
 | (apply blockG_normal)
 | (apply GC_skip)
 | (apply GC_if_true; eq_refl)
 | (apply GL_on; eq_refl; eq_refl)
 | (refine GC_draws (id := 13) [.q 0, .q 1, .q 2, .q 3, .q 4, .q 5, .q 6, .q 7, .q 8, .q 9, .q 10, .q 11, .q 12, .q 13, .q 14, .c 15] mixed (by kernel_rfl) (by kernel_rfl) ?_)
 | (apply GS_qon; eq_refl; eq_refl; eq_refl; eq_refl)
 | (apply GS_con; eq_refl; eq_refl; eq_refl; eq_refl)
 | (apply G_pv; eq_refl; first | exact trivial | omega)
 | (apply G_field; eq_refl)
 | (apply G_fieldP; eq_refl)
 | (apply G_ld; eq_refl; (repeat first | exact In.here | apply In.there | apply In.skip); eq_refl)
 | (apply G_rd; eq_refl; (first | (apply Rd.own; (repeat first | exact In.here | apply In.there | apply In.skip); infer_instance) | (apply Rd.old; (repeat first | exact In.here | apply In.there | apply In.skip); assumption) | (apply Rd.oldR; (repeat first | exact In.here | apply In.there | apply In.skip); assumption) | exact Rd.nil | assumption); (case ih => infer_instance); omega; omega; eq_refl)
 | (apply G_cmpT; eq_refl; eq_refl; omega)
 | (apply G_len; eq_refl)
 | (apply G_ix; eq_refl; eq_refl; (first | (apply Rd.own; (repeat first | exact In.here | apply In.there | apply In.skip); infer_instance) | (apply Rd.old; (repeat first | exact In.here | apply In.there | apply In.skip); assumption) | (apply Rd.oldR; (repeat first | exact In.here | apply In.there | apply In.skip); assumption) | exact Rd.nil | assumption); (first | eq_refl | omega); omega; omega)
 | (apply G_stV; (first | exact wr_p | kernel_rfl); eq_refl; eq_refl; eq_refl; eq_refl; (repeat first | exact Upd.here | apply Upd.there | apply Upd.skip); infer_instance; infer_instance; eq_refl; omega; (try simp only [List.length_set, List.length_append, List.length_replicate]); omega))
    refine ⟨i + 1, (by repeat first | exact trivial | refine ⟨rfl, ?_⟩), ?_, hlt, by omega⟩
    rw [e4, e5]
    exact (by repeat first | exact Wk.nil | exact Wk.refl | (apply Wk.cons; (focus ((repeat first | exact Rem.here | apply Rem.there | apply Rem.skip); done))) | apply Wk.nilv | apply Wk.last | apply Wk.drop)
  obtain rfl : i = c.latches.length := by omega
  rw [show mix (c.latches.map (lt1 (bT c))) c.latches c.latches.length = (c.latches.map (lt1 (bT c))) from mix_all (by omega) (Nat.le_refl _), bAt_zero c]
  refine GC_wk (by repeat first | exact Rem.here | apply Rem.there) (rbl_new (g := g) (i := c.inputs.length) (l := c.latches.length)) ?_
  repeat' (first
 | (apply GC_seqK; intro K hK)
 | (apply hK; clear hK K)
 | (clear hK K; apply hK; clear hK K)
 | (apply GC_block)
 | (apply GC_region)
 | (apply GL_nil)
 | (apply thenG_normal)
 | (apply thenG_exit)
 | (apply blockG_hit)
 | (apply GC_exit)
 | (apply GC_if_false; eq_refl)
 | (apply GL_on; eq_refl; eq_refl)
 | (apply G_pv; eq_refl; first | exact trivial | omega)
 | (apply G_field; eq_refl)
 | (apply G_ld; eq_refl; (repeat first | exact In.here | apply In.there | apply In.skip); eq_refl)
 | (apply G_cmpF; eq_refl; eq_refl; omega)
 | (apply G_len; eq_refl))
  refine GC_loopK [1, 2, 4, 6, 7, 8] (fun s : Nat × (Nat → Prop) => [(11, nu s.1)]) (fun s => [.vec icell 1 3 (some ⟨bm, 0, none⟩) (c.max + 1).toNat ((bAt c s.1).1), .any (rblX g s.2 c.inputs.length c.latches.length (bAt c s.1).2), .vec icell 1 3 (h' 1).1 (h' 1).2 (c.inputs.map (litX (bT c))), .vec tcells 3 83 (h' 2).1 (h' 2).2 (c.latches.map (lt1 (bT c))), .vec encS 1 22 (h' 6).1 (h' 6).2 (jps c js'), .vec scells 3 110 (h' 9).1 (h' 9).2 c.symbols, .vec bcell 1 9 (h' 10).1 (h' 10).2 c.comments, .box b8 29 (ccells c h'), .box b4 29 Zc, .box b2 29 (ccells c h), .old w none_] ) (fun s => s.1 ≤ (ordM c).length) (fun s => (ordM c).length - s.1) (0, fun k => k = g) (by repeat first | exact Pick.nil | (apply Pick.cons; eq_refl)) (by repeat first | exact trivial | refine ⟨rfl, ?_⟩) (by repeat first | exact Wk.nil | exact Wk.refl | (apply Wk.cons; (focus ((repeat first | exact Rem.here | apply Rem.there | apply Rem.skip); done))) | apply Wk.nilv | apply Wk.last | apply Wk.drop) (Nat.zero_le _) ?_
  rintro ⟨i, S⟩ hi3
  dsimp only at hi3 ⊢
  rcases Nat.lt_or_ge i (ordM c).length with hlt | hge3
  · have I := R.bInv i (by omega)
    have M := R.bMade hlt I
    have ho := R.ord (gt_mem (l := ordM c) (i := (i : Int)) (by omega) (by omega))
    have hm := gt_mem (l := c.ands) (i := gt (ordM c) (i : Int)) (by omega) (by omega)
    obtain ⟨g1, g2, g3⟩ := R.gate hm
    have ea : andAt c (ordM c)[i] = (gt c.ands (gt (ordM c) (i : Int))) := by rw [gt_and, gt_nat hlt]
    have e4 := bAt_succ hlt
    have hb := R.nB_le
    unfold bStep at e4
    rw [ea] at e4 M
    have i1 := I.gs
    have i2 := I.len
    have i3 := I.mlen
    have i4 := I.ok
    have i5 : ∀ {l : Int}, 0 ≤ l → okM (nB c) (bAt c i).2 (litX (bAt c i).1 l) := fun h => BInv.lit I h
    clear I
    generalize bAt c i = s at *
    obtain ⟨mm, gs⟩ := s
    dsimp only at *
    unfold inR at g2 g3
    unfold defR at g1
    have hcl : ∀ l : Int, 0 ≤ l → l ≤ 2 * c.max + 1 → ∀ Γ, In Γ (.vec icell 1 3 (some ⟨bm, 0, none⟩) (c.max + 1).toNat (mm)) → ∀ w', Mem w' Γ → CVN Try.prog 123 [.slice (some ⟨bm, 0, none⟩) (c.max + 1).toNat (c.max + 1).toNat, nu l] w' fun v N => N = [] ∧ v = nu (litX mm l) := fun l h0 h1 Γ k2 w' M' => by
      have k3 := i4 (l / 2) (by omega)
      unfold okM nB at k3
      rw [← gt_L] at k3
      have := Lit3X_cv (k := (c.max + 1).toNat) (k2.row M') h0 (by omega) (by omega) (by unfold nB at hb; omega)
      rw [i3] at this
      exact this
    have hc1 := hcl (gt c.ands (gt (ordM c) (i : Int))).2.1 g2.1 g2.2
    have hc2 := hcl (gt c.ands (gt (ordM c) (i : Int))).2.2 g3.1 g3.2
    have hand : ∀ w', Mem w' [.any (rblX g S c.inputs.length c.latches.length gs)] → CVM Try.prog 122 [ptr g, nu (litX mm (gt c.ands (gt (ordM c) (i : Int))).2.1), nu (litX mm (gt c.ands (gt (ordM c) (i : Int))).2.2)] w' [.any (rblX g S c.inputs.length c.latches.length gs)] fun v N => v = .tuple #[nu (andM (nB c) gs (litX mm (gt c.ands (gt (ordM c) (i : Int))).2.1) (litX mm (gt c.ands (gt (ordM c) (i : Int))).2.2)).1, nu 0] ∧ ∃ S', N = [.any (rblX g S' c.inputs.length c.latches.length (andM (nB c) gs (litX mm (gt c.ands (gt (ordM c) (i : Int))).2.1) (litX mm (gt c.ands (gt (ordM c) (i : Int))).2.2)).2.2)] := fun w' M' => by
      have := randG (by omega) (by omega) i1 (by unfold nB at hb; omega) (i5 g2.1) (i5 g3.1) M'
      rw [show (c.inputs.length : Int) + (c.latches.length : Int) = nB c from rfl, M.err] at this
      exact this
    clear hcl
    generalize andM (nB c) gs (litX mm (gt c.ands (gt (ordM c) (i : Int))).2.1) (litX mm (gt c.ands (gt (ordM c) (i : Int))).2.2) = r at *
    repeat' (first
 | (apply G_callLP; eq_refl; (first | (apply hc1; (repeat first | exact In.here | apply In.there | apply In.skip)) | (apply hc2; (repeat first | exact In.here | apply In.there | apply In.skip))); rintro _ _ ⟨rfl, rfl⟩)
 | (apply GC_drawsP (id := 18) (C := [.any (rblX g S c.inputs.length c.latches.length gs), .vec icell 1 3 (some ⟨bm, 0, none⟩) (c.max + 1).toNat (mm)]) [.q 0, .q 1, .q 2, .q 3, .q 4, .q 5, .q 6, .q 7, .q 9, .q 10, .q 11, .c 8, .c 12, .c 13, .q 14, .q 15, .q 16, .q 17, .c 18]; exact mixed; kernel_rfl; kernel_rfl; (repeat first | exact Rems.nil | (apply Rems.cons; (focus ((repeat first | exact Rem.here | apply Rem.there | apply Rem.skip); done)))))
 | (apply GS_nilP)
 | (apply G_callMP; eq_refl; (exact hand); (repeat first | exact Rems.nil | (apply Rems.cons; (focus ((repeat first | exact Rem.here | apply Rem.there | apply Rem.skip); done)))); rintro _ _ ⟨rfl, S1, rfl⟩)
 | (apply G_stVP (enc := icell) r.1; eq_refl; eq_refl; eq_refl; eq_refl; (repeat first | exact Upd.here | apply Upd.there | apply Upd.skip); infer_instance; infer_instance; eq_refl; omega; omega)
 | (apply GC_seqK; intro K hK)
 | (apply hK; clear hK K)
 | (apply GC_block)
 | (apply GC_region)
 | (apply GL_nil)
 | (apply thenG_normal)
 | (apply blockG_normal)
 | (apply GC_skip)
 | (apply GC_if_true; eq_refl)
 | (apply GL_on; eq_refl; eq_refl)
 | (refine GC_draws (id := 17) [.q 0, .q 1, .q 2, .q 3, .q 4, .q 5, .q 6, .q 7, .c 8, .c 9] mixed (by kernel_rfl) (by kernel_rfl) ?_)
 | (apply GS_qon; eq_refl; eq_refl; eq_refl; eq_refl)
 | (apply GS_con; eq_refl; eq_refl; eq_refl; eq_refl)
 | (apply G_pv; eq_refl; first | exact trivial | omega)
 | (apply G_field; eq_refl)
 | (apply G_ld; eq_refl; (repeat first | exact In.here | apply In.there | apply In.skip); eq_refl)
 | (apply G_rd; eq_refl; (first | (apply Rd.own; (repeat first | exact In.here | apply In.there | apply In.skip); infer_instance) | (apply Rd.old; (repeat first | exact In.here | apply In.there | apply In.skip); assumption) | (apply Rd.oldR; (repeat first | exact In.here | apply In.there | apply In.skip); assumption) | exact Rd.nil | assumption); (case ih => infer_instance); omega; omega; eq_refl)
 | (apply G_rdW; eq_refl; (first | (apply Rd.own; (repeat first | exact In.here | apply In.there | apply In.skip); infer_instance) | (apply Rd.old; (repeat first | exact In.here | apply In.there | apply In.skip); assumption) | (apply Rd.oldR; (repeat first | exact In.here | apply In.there | apply In.skip); assumption) | exact Rd.nil | assumption); infer_instance; (case ih => infer_instance); omega; omega)
 | (apply G_cmpT; eq_refl; eq_refl; omega)
 | (apply G_len; eq_refl)
 | (apply G_ix; eq_refl; eq_refl; (first | (apply Rd.own; (repeat first | exact In.here | apply In.there | apply In.skip); infer_instance) | (apply Rd.old; (repeat first | exact In.here | apply In.there | apply In.skip); assumption) | (apply Rd.oldR; (repeat first | exact In.here | apply In.there | apply In.skip); assumption) | exact Rd.nil | assumption); (first | eq_refl | omega); omega; omega)
 | (apply G_ixA; eq_refl; eq_refl; omega; omega)
 | (apply G_alloc; eq_refl; intro _)
 | (apply G_stW; (first | exact wr_p | kernel_rfl); eq_refl; eq_refl; eq_refl; eq_refl; (repeat first | exact Upd.here | apply Upd.there | apply Upd.skip); eq_refl))
    refine ⟨(i + 1, S1), (by repeat first | exact trivial | refine ⟨rfl, ?_⟩), ?_, hlt, by simp only; omega⟩
    dsimp only
    rw [e4]
    exact (by repeat first | exact Wk.nil | exact Wk.refl | (apply Wk.cons; (focus ((repeat first | exact Rem.here | apply Rem.there | apply Rem.skip); done))) | apply Wk.nilv | apply Wk.last | apply Wk.drop)
  obtain rfl : i = (ordM c).length := by omega
  rw [show (bAt c (ordM c).length).1 = bT c from rfl, show (bAt c (ordM c).length).2 = bG c from rfl]
  repeat' (first
 | (apply GC_seqK; intro K hK)
 | (apply hK; clear hK K)
 | (clear hK K; apply hK; clear hK K)
 | (apply GC_block)
 | (apply GC_region)
 | (apply GL_nil)
 | (apply thenG_normal)
 | (apply thenG_exit)
 | (apply blockG_hit)
 | (apply GC_exit)
 | (apply GC_if_false; eq_refl)
 | (apply GL_on; eq_refl; eq_refl)
 | (apply G_pv; eq_refl; first | exact trivial | omega)
 | (apply G_cmpF; eq_refl; eq_refl; omega)
 | (apply G_len; eq_refl))
  have hlit : ∀ l, inR c l → ∀ Γ, In Γ (.vec icell 1 3 (some ⟨bm, 0, none⟩) (c.max + 1).toNat (bT c)) → ∀ w', Mem w' Γ → CVN Try.prog 123 [.slice (some ⟨bm, 0, none⟩) (c.max + 1).toNat (c.max + 1).toNat, nu l] w' fun v N => N = [] ∧ v = nu (litX (bT c) l) := fun l hl Γ k2 w' M' => by
    unfold inR at hl
    have k3 : okM (nB c) (bG c) (L (bT c) (l / 2)) := hT.ok (l / 2) (by omega)
    unfold okM at k3
    rw [← gt_L] at k3
    have := Lit3X_cv (k := (c.max + 1).toNat) (k2.row M') hl.1 (by omega) (by omega) (by omega)
    rw [tl] at this
    exact this
  have hlits : ∀ Γ B k2 ls, In Γ (.old w none_) → In Γ (.vec icell 1 3 (some ⟨bm, 0, none⟩) (c.max + 1).toNat (bT c)) → RowA w icell 1 B ls → (∀ l ∈ ls, inR c l) → ls.length ≤ 100000 → ∀ w', Mem w' Γ → CVN Try.prog 125 [.slice (some ⟨bm, 0, none⟩) (c.max + 1).toNat (c.max + 1).toNat, .slice B ls.length k2] w' fun v N => ∃ A' k', v = .slice A' (ls.map (litX (bT c))).length k' ∧ N = [.vec icell 1 3 A' k' (ls.map (litX (bT c)))] := fun Γ B k2 ls ho hi hB hl hn w' M => by
    have := Lits3X_cv (k := (c.max + 1).toNat) (k2 := k2) (hi.row M) (hB.chg (ho.old M)) (by omega) (fun l h => by
      have h1 := hl l h
      unfold inR at h1
      have k3 : okM (nB c) (bG c) (L (bT c) (l / 2)) := hT.ok (l / 2) (by omega)
      unfold okM at k3
      omega) hn
    rw [tl] at this
    exact this
  have l12 : (c.latches.map (lt2 (bT c))).length = (c.latches.map (lt1 (bT c))).length := by omega
  refine GC_loopK [1, 2, 4, 6, 7, 8] (fun i : Nat => [(13, nu i)]) (fun i => [.vec icell 1 3 (some ⟨bm, 0, none⟩) (c.max + 1).toNat (bT c), .any (rblX g S c.inputs.length c.latches.length (bG c)), .vec icell 1 3 (h' 1).1 (h' 1).2 (c.inputs.map (litX (bT c))), .vec tcells 3 83 (h' 2).1 (h' 2).2 (mix (c.latches.map (lt2 (bT c))) (c.latches.map (lt1 (bT c))) i), .vec encS 1 22 (h' 6).1 (h' 6).2 (jps c js'), .vec scells 3 110 (h' 9).1 (h' 9).2 c.symbols, .vec bcell 1 9 (h' 10).1 (h' 10).2 c.comments, .box b8 29 (ccells c h'), .box b4 29 Zc, .box b2 29 (ccells c h), .old w none_] ) (fun i => i ≤ c.latches.length) (fun i => c.latches.length - i) 0 (by repeat first | exact Pick.nil | (apply Pick.cons; eq_refl)) (by repeat first | exact trivial | refine ⟨rfl, ?_⟩) (by repeat first | exact Wk.nil | exact Wk.refl | (apply Wk.cons; (focus ((repeat first | exact Rem.here | apply Rem.there | apply Rem.skip); done))) | apply Wk.nilv | apply Wk.last | apply Wk.drop) (Nat.zero_le _) ?_
  intro i hi4
  rcases Nat.lt_or_ge i c.latches.length with hlt | hge4
  · have hm := gt_mem (l := c.latches) (i := (i : Int)) (by omega) (by omega)
    obtain ⟨gd, g2, g3⟩ := R.lat hm
    have g0 := gd.in
    have e5 : mix (c.latches.map (lt2 (bT c))) (c.latches.map (lt1 (bT c))) (i + 1) = (mix (c.latches.map (lt2 (bT c))) (c.latches.map (lt1 (bT c))) i).set (i : Int).toNat (lt2 (bT c) (gt c.latches (i : Int))) := (mix_step (by omega) l12 (by rw [List.getElem_map, gt_nat hlt])).symm
    have e6 : (mix (c.latches.map (lt2 (bT c))) (c.latches.map (lt1 (bT c))) i).length = c.latches.length := by rw [mix_len l12]; exact l1l
    have f1 : gt (mix (c.latches.map (lt2 (bT c))) (c.latches.map (lt1 (bT c))) i) (i : Int) = lt1 (bT c) (gt c.latches (i : Int)) := by
      rw [mix_get l12 (by omega), gt_nat (by omega), List.getElem_map, gt_nat hlt]
    generalize mix (c.latches.map (lt2 (bT c))) (c.latches.map (lt1 (bT c))) i = ml at *
    have hs1 : (ml.set (i : Int).toNat (litX (bT c) (gt c.latches (i : Int)).1, litX (bT c) (gt c.latches (i : Int)).2.1, (gt c.latches (i : Int)).2.2)).length = c.latches.length := by rw [List.length_set]; exact e6
    have hg1 : gt (ml.set (i : Int).toNat (litX (bT c) (gt c.latches (i : Int)).1, litX (bT c) (gt c.latches (i : Int)).2.1, (gt c.latches (i : Int)).2.2)) (i : Int) = (litX (bT c) (gt c.latches (i : Int)).1, litX (bT c) (gt c.latches (i : Int)).2.1, (gt c.latches (i : Int)).2.2) := gt_set (by omega)
    by_cases hr : 1 < (gt c.latches (i : Int)).2.2
    · have e9 : lt2 (bT c) (gt c.latches (i : Int)) = (litX (bT c) (gt c.latches (i : Int)).1, litX (bT c) (gt c.latches (i : Int)).2.1, litX (bT c) (gt c.latches (i : Int)).1) := by
        unfold lt2
        rw [if_pos hr]
      repeat' (first
 | (apply G_call; eq_refl; eq_refl; (apply hlit; (first | exact g2 | exact g0); (repeat first | exact In.here | apply In.there | apply In.skip)); rintro _ _ ⟨rfl, rfl⟩)
 | (apply G_stV' (enc := tcells) (sz := 3) (j := 1) (i := (i : Int)) (litX (bT c) (gt c.latches (i : Int)).1, litX (bT c) (gt c.latches (i : Int)).2.1, (gt c.latches (i : Int)).2.2); (first | exact wr_p | kernel_rfl); eq_refl; exact rfl; eq_refl; eq_refl; eq_refl; (repeat first | exact Upd.here | apply Upd.there | apply Upd.skip); omega; omega; decide; (rw [f1]; exact rfl))
 | (apply G_stV' (enc := tcells) (sz := 3) (j := 2) (i := (i : Int)) (litX (bT c) (gt c.latches (i : Int)).1, litX (bT c) (gt c.latches (i : Int)).2.1, litX (bT c) (gt c.latches (i : Int)).1); (first | exact wr_p | kernel_rfl); eq_refl; exact rfl; eq_refl; eq_refl; eq_refl; (repeat first | exact Upd.here | apply Upd.there | apply Upd.skip); omega; omega; decide; (rw [hg1]; exact rfl))
 | (apply G_rdF; eq_refl; (first | (apply Rd.own; (repeat first | exact In.here | apply In.there | apply In.skip); infer_instance) | (apply Rd.old; (repeat first | exact In.here | apply In.there | apply In.skip); assumption) | (apply Rd.oldR; (repeat first | exact In.here | apply In.there | apply In.skip); assumption) | exact Rd.nil | assumption); (case ih => infer_instance); omega; omega; (rw [hg1]; eq_refl))
 | (apply GC_seqK; intro K hK)
 | (apply hK; clear hK K)
 | (apply GC_block)
 | (apply GC_region)
 | (apply GL_nil)
 | (apply thenG_normal)
 | (apply blockG_normal)
 | (apply GC_skip)
 | (apply GC_if_true; eq_refl)
 | (apply GL_on; eq_refl; eq_refl)
 | (refine GC_draws (id := 22) [.q 0, .q 1, .q 2, .q 3, .q 4, .q 5, .q 6, .q 7, .q 8, .q 9, .c 10, .q 11, .q 12, .c 13] mixed (by kernel_rfl) (by kernel_rfl) ?_)
 | (refine GC_draws (id := 24) [.q 0, .q 1, .q 2, .q 3, .q 4, .q 5, .q 6, .q 7, .q 8, .q 9, .q 10, .c 11] mixed (by kernel_rfl) (by kernel_rfl) ?_)
 | (apply GS_nil)
 | (apply GS_qon; eq_refl; eq_refl; eq_refl; eq_refl)
 | (apply GS_con; eq_refl; eq_refl; eq_refl; eq_refl)
 | (apply G_pv; eq_refl; first | exact trivial | omega)
 | (apply G_field; eq_refl)
 | (apply G_fieldP; eq_refl)
 | (apply G_ld; eq_refl; (repeat first | exact In.here | apply In.there | apply In.skip); eq_refl)
 | (apply G_rdF; eq_refl; (first | (apply Rd.own; (repeat first | exact In.here | apply In.there | apply In.skip); infer_instance) | (apply Rd.old; (repeat first | exact In.here | apply In.there | apply In.skip); assumption) | (apply Rd.oldR; (repeat first | exact In.here | apply In.there | apply In.skip); assumption) | exact Rd.nil | assumption); (case ih => infer_instance); omega; omega; eq_refl)
 | (apply G_cmpT; eq_refl; eq_refl; omega)
 | (apply G_len; eq_refl)
 | (apply G_ix; eq_refl; eq_refl; (first | (apply Rd.own; (repeat first | exact In.here | apply In.there | apply In.skip); infer_instance) | (apply Rd.old; (repeat first | exact In.here | apply In.there | apply In.skip); assumption) | (apply Rd.oldR; (repeat first | exact In.here | apply In.there | apply In.skip); assumption) | exact Rd.nil | assumption); (first | eq_refl | omega); omega; omega))
      refine ⟨i + 1, (by repeat first | exact trivial | refine ⟨rfl, ?_⟩), ?_, hlt, by omega⟩
      rw [e5, e9, List.set_set]
      exact (by repeat first | exact Wk.nil | exact Wk.refl | (apply Wk.cons; (focus ((repeat first | exact Rem.here | apply Rem.there | apply Rem.skip); done))) | apply Wk.nilv | apply Wk.last | apply Wk.drop)
    · have e9 : lt2 (bT c) (gt c.latches (i : Int)) = (litX (bT c) (gt c.latches (i : Int)).1, litX (bT c) (gt c.latches (i : Int)).2.1, (gt c.latches (i : Int)).2.2) := by
        unfold lt2
        rw [if_neg hr]
      repeat' (first
 | (apply G_call; eq_refl; eq_refl; (apply hlit; (first | exact g2 | exact g0); (repeat first | exact In.here | apply In.there | apply In.skip)); rintro _ _ ⟨rfl, rfl⟩)
 | (apply G_stV' (enc := tcells) (sz := 3) (j := 1) (i := (i : Int)) (litX (bT c) (gt c.latches (i : Int)).1, litX (bT c) (gt c.latches (i : Int)).2.1, (gt c.latches (i : Int)).2.2); (first | exact wr_p | kernel_rfl); eq_refl; exact rfl; eq_refl; eq_refl; eq_refl; (repeat first | exact Upd.here | apply Upd.there | apply Upd.skip); omega; omega; decide; (rw [f1]; exact rfl))
 | (apply GC_seqK; intro K hK)
 | (apply hK; clear hK K)
 | (apply GC_block)
 | (apply GC_region)
 | (apply GL_nil)
 | (apply thenG_normal)
 | (apply blockG_normal)
 | (apply GC_skip)
 | (apply GC_if_true; eq_refl)
 | (apply GC_if_false; eq_refl)
 | (apply GL_on; eq_refl; eq_refl)
 | (refine GC_draws (id := 22) [.q 0, .q 1, .q 2, .q 3, .q 4, .q 5, .q 6, .q 7, .q 8, .q 9, .c 10, .q 11, .q 12, .c 13] mixed (by kernel_rfl) (by kernel_rfl) ?_)
 | (apply GS_nil)
 | (apply GS_qon; eq_refl; eq_refl; eq_refl; eq_refl)
 | (apply GS_con; eq_refl; eq_refl; eq_refl; eq_refl)
 | (apply G_pv; eq_refl; first | exact trivial | omega)
 | (apply G_field; eq_refl)
 | (apply G_fieldP; eq_refl)
 | (apply G_ld; eq_refl; (repeat first | exact In.here | apply In.there | apply In.skip); eq_refl)
 | (apply G_rdF; eq_refl; (first | (apply Rd.own; (repeat first | exact In.here | apply In.there | apply In.skip); infer_instance) | (apply Rd.old; (repeat first | exact In.here | apply In.there | apply In.skip); assumption) | (apply Rd.oldR; (repeat first | exact In.here | apply In.there | apply In.skip); assumption) | exact Rd.nil | assumption); (case ih => infer_instance); omega; omega; eq_refl)
 | (apply G_cmpT; eq_refl; eq_refl; omega)
 | (apply G_cmpF; eq_refl; eq_refl; omega)
 | (apply G_len; eq_refl)
 | (apply G_ix; eq_refl; eq_refl; (first | (apply Rd.own; (repeat first | exact In.here | apply In.there | apply In.skip); infer_instance) | (apply Rd.old; (repeat first | exact In.here | apply In.there | apply In.skip); assumption) | (apply Rd.oldR; (repeat first | exact In.here | apply In.there | apply In.skip); assumption) | exact Rd.nil | assumption); (first | eq_refl | omega); omega; omega))
      refine ⟨i + 1, (by repeat first | exact trivial | refine ⟨rfl, ?_⟩), ?_, hlt, by omega⟩
      rw [e5, e9]
      exact (by repeat first | exact Wk.nil | exact Wk.refl | (apply Wk.cons; (focus ((repeat first | exact Rem.here | apply Rem.there | apply Rem.skip); done))) | apply Wk.nilv | apply Wk.last | apply Wk.drop)
  obtain rfl : i = c.latches.length := by omega
  rw [show mix (c.latches.map (lt2 (bT c))) (c.latches.map (lt1 (bT c))) c.latches.length = c.latches.map (lt2 (bT c)) from mix_all (by omega) (by omega), lt2_eq R]
  refine GC_rbl (by repeat first | exact Rem.here | apply Rem.there) ?_
  intro AB cB
  have hgr : ∀ Γ, In Γ (.box g 151 [num c.inputs.length, num c.latches.length, .slice AB (bG c).length cB]) → ∀ w', Mem w' Γ → CVN Try.prog 124 [ptr g] w' fun v N => N = [] ∧ v = num (nB c + (bG c).length) := fun Γ hi w' M => rMaxG (hi.ok M) (by omega) (by omega) (by unfold nB at bmx; omega)
  have hOut := H.at_.outputs
  have hBad := H.at_.bads
  have hCon := H.at_.constraints
  have hFai := H.at_.fairness
  have n4 : c.outputs.length ≤ 16384 := by have := R.lens c.outputs.length (by simp [Circ.lens]); omega
  have n5 := R.nBad
  have n6 := R.nCon
  have n7 := R.nFair
  have n8 := R.nJust
  have u4 : ∀ l ∈ c.outputs, inR c l := fun l h => ⟨(R.use.outputs l h).1, (R.use.outputs l h).2.1⟩
  have u5 : ∀ l ∈ c.bads, inR c l := fun l h => R.bad h
  have u6 : ∀ l ∈ c.constraints, inR c l := fun l h => R.con h
  have u7 : ∀ l ∈ c.fairness, inR c l := fun l h => R.fair h
  repeat' (first
 | (apply G_call; eq_refl; eq_refl; (apply hgr; (repeat first | exact In.here | apply In.there | apply In.skip)); rintro _ _ ⟨rfl, rfl⟩)
 | (apply GC_drawsP (id := 25) (C := [.box b8 29 (ccells c h')]) [.q 0, .q 2, .q 3, .q 4, .q 5, .c 1, .q 6, .c 7, .q 8, .c 9]; exact mixed; kernel_rfl; kernel_rfl; (repeat first | exact Rems.nil | (apply Rems.cons; (focus ((repeat first | exact Rem.here | apply Rem.there | apply Rem.skip); done)))))
 | (apply GS_nilP)
 | (apply G_stBP; eq_refl; eq_refl; eq_refl; eq_refl; (repeat first | exact Upd.here | apply Upd.there | apply Upd.skip); exact Nat.le_of_ble_eq_true rfl)
 | (apply G_call; eq_refl; eq_refl; (apply hlits; (repeat first | exact In.here | apply In.there | apply In.skip); (repeat first | exact In.here | apply In.there | apply In.skip); exact hOut; exact u4; omega); rintro _ _ ⟨A3, k3, rfl, rfl⟩)
 | (apply G_call; eq_refl; eq_refl; (apply hlits; (repeat first | exact In.here | apply In.there | apply In.skip); (repeat first | exact In.here | apply In.there | apply In.skip); exact hBad; exact u5; omega); rintro _ _ ⟨A4, k4, rfl, rfl⟩)
 | (apply G_call; eq_refl; eq_refl; (apply hlits; (repeat first | exact In.here | apply In.there | apply In.skip); (repeat first | exact In.here | apply In.there | apply In.skip); exact hCon; exact u6; omega); rintro _ _ ⟨A5, k5, rfl, rfl⟩)
 | (apply G_call; eq_refl; eq_refl; (apply hlits; (repeat first | exact In.here | apply In.there | apply In.skip); (repeat first | exact In.here | apply In.there | apply In.skip); exact hFai; exact u7; omega); rintro _ _ ⟨A7, k7, rfl, rfl⟩)
 | (apply GC_seqK; intro K hK)
 | (apply hK; clear hK K)
 | (clear hK K; apply hK; clear hK K)
 | (apply GC_block)
 | (apply GC_region)
 | (apply GL_nil)
 | (apply thenG_normal)
 | (apply thenG_exit)
 | (apply blockG_hit)
 | (apply GC_exit)
 | (apply GC_if_false; eq_refl)
 | (apply GL_on; eq_refl; eq_refl)
 | (refine GC_draws (id := 26) [.q 0, .q 1, .q 2, .q 4, .q 5, .q 6, .q 8, .q 9, .q 10, .q 12, .q 13, .q 14, .c 3, .q 16, .c 7, .c 11, .c 15, .c 17, .q 18, .c 19, .q 20, .c 21, .q 22, .c 23] mixed (by kernel_rfl) (by kernel_rfl) ?_)
 | (apply GS_qon; eq_refl; eq_refl; eq_refl; eq_refl)
 | (apply GS_con; eq_refl; eq_refl; eq_refl; eq_refl)
 | (apply G_pv; eq_refl; first | exact trivial | omega)
 | (apply G_field; eq_refl)
 | (apply G_ld; eq_refl; (repeat first | exact In.here | apply In.there | apply In.skip); eq_refl)
 | (apply G_cmpF; eq_refl; eq_refl; omega)
 | (apply G_len; eq_refl)
 | (apply G_st; (first | exact wr_p | kernel_rfl); eq_refl; eq_refl; eq_refl; eq_refl; (repeat first | exact Upd.here | apply Upd.there | apply Upd.skip); (first | decide | exact Nat.le_of_ble_eq_true rfl)))
  have e9 : ((((((ccells c h').set (0 + 0) (num (nB c + (bG c).length))).set (0 + 8) (.slice AB (bG c).length cB)).set (0 + 3) (.slice A3 (c.outputs.map (litX (bT c))).length k3)).set (0 + 4) (.slice A4 (c.bads.map (litX (bT c))).length k4)).set (0 + 5) (.slice A5 (c.constraints.map (litX (bT c))).length k5)).set (0 + 7) (.slice A7 (c.fairness.map (litX (bT c))).length k7) = ccells (bC c) (hdB h' (A3, k3) (A4, k4) (A5, k5) (A7, k7) (AB, cB)) := by simp [ccells, bC, hdB]
  rw [e9]
  have hJ := H.at_.jrow
  have jl := jps_len c js
  have jl' := jps_len c js'
  have jl2 : (bC c).justice.length = c.justice.length := List.length_map _
  refine GC_loopK [2, 4, 7, 8] (fun s : Nat × List (Hdl × List Int) => [(14, nu s.1)]) (fun s => .vec encS 1 22 (h' 6).1 (h' 6).2 (s.2 ++ (jps c js').drop s.1) :: .vec icell 1 3 A7 k7 (c.fairness.map (litX (bT c))) :: .vec icell 1 3 A5 k5 (c.constraints.map (litX (bT c))) :: .vec icell 1 3 A4 k4 (c.bads.map (litX (bT c))) :: .vec icell 1 3 A3 k3 (c.outputs.map (litX (bT c))) :: .vec icell 1 3 (some ⟨bm, 0, none⟩) (c.max + 1).toNat (bT c) :: .vec icell 1 3 (h' 1).1 (h' 1).2 (c.inputs.map (litX (bT c))) :: .vec tcells 3 83 (h' 2).1 (h' 2).2 (c.latches.map (bLatch (bT c))) :: .vec tcells 3 57 AB cB (bG c) :: .vec scells 3 110 (h' 9).1 (h' 9).2 c.symbols :: .vec bcell 1 9 (h' 10).1 (h' 10).2 c.comments :: .box b8 29 (ccells (bC c) (hdB h' (A3, k3) (A4, k4) (A5, k5) (A7, k7) (AB, cB))) :: .box b4 29 Zc :: .box b2 29 (ccells c h) :: .old w none_ :: fam rowJ s.2)
    (fun s => s.1 ≤ c.justice.length ∧ s.2.map (·.2) = (c.justice.take s.1).map fun l => l.map (litX (bT c))) (fun s => c.justice.length - s.1) (0, []) (by repeat first | exact Pick.nil | (apply Pick.cons; eq_refl)) (by repeat first | exact trivial | refine ⟨rfl, ?_⟩) (by repeat first | exact Wk.nil | exact Wk.refl | (apply Wk.cons; (focus ((repeat first | exact Rem.here | apply Rem.there | apply Rem.skip); done))) | apply Wk.nilv | apply Wk.last | apply Wk.drop) ⟨Nat.zero_le _, rfl⟩ ?_
  rintro ⟨i, ps⟩ ⟨hi6, hps⟩
  dsimp only at hi6 hps ⊢
  have hpl : ps.length = i := by have := congrArg List.length hps; simp only [List.length_map, List.length_take] at this; omega
  rcases Nat.lt_or_ge i c.justice.length with hlt | hge6
  · have hjm : (gt (jps c js) (i : Int)).2 = c.justice[i] := by rw [jps_gt c js hlt]
    have hjr := H.at_.jeach hlt
    have hju : ∀ l ∈ (gt (jps c js) (i : Int)).2, inR c l := fun l hl => R.just (List.getElem_mem hlt) (by rw [← hjm]; exact hl)
    have hjn : (gt (jps c js) (i : Int)).2.length ≤ 100000 := by
      rw [hjm]
      have q := each_sum hlt
      have := R.sumJ H.fits
      omega
    have hll : (ps ++ (jps c js').drop i).length = c.justice.length := by simp; omega
    repeat' (first
 | (apply G_call; eq_refl; eq_refl; (apply hlits; (repeat first | exact In.here | apply In.there | apply In.skip); (repeat first | exact In.here | apply In.there | apply In.skip); exact hjr; exact hju; exact hjn); rintro _ _ ⟨A', k', rfl, rfl⟩)
 | (apply G_stV (a := ((A', k'), (gt (jps c js) (i : Int)).2.map (litX (bT c)))); (first | exact wr_p | kernel_rfl); eq_refl; eq_refl; eq_refl; eq_refl; (repeat first | exact Upd.here | apply Upd.there | apply Upd.skip); infer_instance; infer_instance; eq_refl; omega; omega)
 | (apply GC_seqK; intro K hK)
 | (apply hK; clear hK K)
 | (apply GC_block)
 | (apply GC_region)
 | (apply GL_nil)
 | (apply thenG_normal)
 | (apply blockG_normal)
 | (apply GC_skip)
 | (apply GC_if_true; eq_refl)
 | (apply GL_on; eq_refl; eq_refl)
 | (refine GC_draws (id := 30) [.q 0, .q 1, .q 2, .q 3, .q 4, .q 5, .q 6, .q 7, .q 8, .c 9, .q 10, .c 11] mixed (by kernel_rfl) (by kernel_rfl) ?_)
 | (apply GS_nil)
 | (apply GS_qon; eq_refl; eq_refl; eq_refl; eq_refl)
 | (apply GS_con; eq_refl; eq_refl; eq_refl; eq_refl)
 | (apply G_pv; eq_refl; first | exact trivial | omega)
 | (apply G_field; eq_refl)
 | (apply G_ld; eq_refl; (repeat first | exact In.here | apply In.there | apply In.skip); eq_refl)
 | (apply G_rd; eq_refl; (first | (apply Rd.own; (repeat first | exact In.here | apply In.there | apply In.skip); infer_instance) | (apply Rd.old; (repeat first | exact In.here | apply In.there | apply In.skip); assumption) | (apply Rd.oldR; (repeat first | exact In.here | apply In.there | apply In.skip); assumption) | exact Rd.nil | assumption); (case ih => infer_instance); omega; omega; eq_refl)
 | (apply G_cmpT; eq_refl; eq_refl; omega)
 | (apply G_len; eq_refl)
 | (apply G_ix; eq_refl; eq_refl; (first | (apply Rd.own; (repeat first | exact In.here | apply In.there | apply In.skip); infer_instance) | (apply Rd.old; (repeat first | exact In.here | apply In.there | apply In.skip); assumption) | (apply Rd.oldR; (repeat first | exact In.here | apply In.there | apply In.skip); assumption) | exact Rd.nil | assumption); (first | eq_refl | omega); omega; omega))
    refine ⟨(i + 1, ps ++ [((A', k'), (gt (jps c js) (i : Int)).2.map (litX (bT c)))]), (by repeat first | exact trivial | refine ⟨rfl, ?_⟩), ?_, ⟨hlt, ?_⟩, by simp only; omega⟩
    · dsimp only
      rw [fam_snoc, ← set_app hpl (by omega)]
      exact (by repeat first | exact Wk.nil | exact Wk.refl | (apply Wk.cons; (focus ((repeat first | exact Rem.here | apply Rem.there | apply Rem.skip); done))) | apply Wk.nilv | apply Wk.last | apply Wk.drop)
    · dsimp only
      rw [List.map_append, hps, List.take_succ_eq_append_getElem hlt, List.map_append, hjm]
      rfl
  obtain rfl : i = c.justice.length := by omega
  rw [show (jps c js').drop c.justice.length = [] from List.drop_of_length_le (by omega), List.append_nil]
  rw [List.take_length] at hps
  repeat' (first
 | (apply GC_seqK; intro K hK)
 | (apply hK; clear hK K)
 | (clear hK K; apply hK; clear hK K)
 | (apply GC_region)
 | (apply GL_nil)
 | (apply thenG_normal)
 | (apply thenG_exit)
 | (apply blockG_hit)
 | (apply GC_ret)
 | (apply GC_exit)
 | (apply GC_if_false; eq_refl)
 | (apply retGC1r; eq_refl; (repeat first | exact In.here | apply In.there | apply In.skip); eq_refl; eq_refl)
 | (apply GL_on; eq_refl; eq_refl)
 | (apply G_pv; eq_refl; first | exact trivial | omega)
 | (apply G_field; eq_refl)
 | (apply G_ld; eq_refl; (repeat first | exact In.here | apply In.there | apply In.skip); eq_refl)
 | (apply G_ldW; eq_refl; (repeat first | exact In.here | apply In.there | apply In.skip); eq_refl)
 | (apply G_cmpF; eq_refl; eq_refl; omega)
 | (apply G_len; eq_refl)
 | (apply G_stW; (first | exact wr_p | kernel_rfl); eq_refl; eq_refl; eq_refl; eq_refl; (repeat first | exact Upd.here | apply Upd.there | apply Upd.skip); eq_refl))
  refine ⟨.vec encS 1 22 (h' 6).1 (h' 6).2 ps :: .vec icell 1 3 A7 k7 (c.fairness.map (litX (bT c))) :: .vec icell 1 3 A5 k5 (c.constraints.map (litX (bT c))) :: .vec icell 1 3 A4 k4 (c.bads.map (litX (bT c))) :: .vec icell 1 3 A3 k3 (c.outputs.map (litX (bT c))) :: .vec icell 1 3 (some ⟨bm, 0, none⟩) (c.max + 1).toNat (bT c) :: .vec icell 1 3 (h' 1).1 (h' 1).2 (c.inputs.map (litX (bT c))) :: .vec tcells 3 83 (h' 2).1 (h' 2).2 (c.latches.map (bLatch (bT c))) :: .vec tcells 3 57 AB cB (bG c) :: .vec scells 3 110 (h' 9).1 (h' 9).2 c.symbols :: .vec bcell 1 9 (h' 10).1 (h' 10).2 c.comments :: fam rowJ ps, (by repeat first | exact Wk.nil | exact Wk.refl | (apply Wk.cons; (focus ((repeat first | exact Rem.here | apply Rem.there | apply Rem.skip); done))) | apply Wk.nilv | apply Wk.last | apply Wk.drop), (hdB h' (A3, k3) (A4, k4) (A5, k5) (A7, k7) (AB, cB)), fun k => (gt ps (k : Int)).1, some ⟨bm, 0, none⟩, (c.max + 1).toNat, by rw [tl], fun w M => ⟨refCirB hps ?_ ?_ ?_ ?_ ?_ ?_ ?_ ?_ ?_ ?_ ?_, ?_⟩⟩
  rotate_left 6
  · intro p hp
    have hE := fam_mem (f := rowJ) hp (E := .vec icell 1 3 p.1.1 p.1.2 p.2) (by unfold rowJ; simp)
    exact In.row (by repeat first | exact In.of hE | apply In.there) M
  all_goals exact In.row (by (repeat first | exact In.here | apply In.there | apply In.skip)) M
end SC
end Go.Proofs.Yticndofcfacopaa
end
section
/- trestlelaw09: works, by entries. -/
set_option linter.unusedVariables false
set_option linter.unusedSimpArgs false
namespace Go.Proofs.Yticndofcfacopaa
namespace SC
open Go.Proofs
theorem AndG {w : World} {g : Nat} {S : Nat → Prop} {i l : Int} {gs : List Gate} {x y : Int} (hi : 0 ≤ i) (hl : 0 ≤ l) (G : Gs (i + l) gs) (hn : i + l + gs.length ≤ 16384) (hx : okM (i + l) gs x) (hy : okM (i + l) gs y) (M : Mem w [.any (bldX g S i l gs)]) :
    CVM Try.prog 79 [ptr g, num x, num y] w [.any (bldX g S i l gs)] (BldR g i l (andM (i + l) gs x y)) := by
  have := And_cv (x := x) (y := y) (M.head : Bld w g S i l gs) hi hl (G.inv hn)
  rw [AndM_ok hx hy] at this
  exact After.cvm this
attribute [local irreducible] WC WL WX WS WO OX Does DoesU Enters CV Pure thenQ blockQ retQ Wants retQC GC GL GS GX RdB thenG blockG retG Rd At gt CVN CVM
set_option maxRecDepth 100000
theorem works09_cv {w : World} : CVN Try.prog 38 [] w fun v N => N = [] ∧ v = .bool true := by
  have G0 : Gs 2 [] := Gs.nil (by decide)
  have M1 := andM_made (x := 4) (y := 2) G0 (by unfold okM; decide) (by unfold okM; decide) (by decide)
  have e1 : andM 2 [] 4 2 = (6, 0, [(6, 4, 2)]) := by decide
  rw [e1] at M1
  have G1 : Gs 2 [(6, 4, 2)] := M1.good
  have M2 := xorM_made (x := 2) (y := 4) G1 (by unfold okM; decide) (by unfold okM; decide) (by decide)
  have e2 : xorM 2 [(6, 4, 2)] 2 4 = (10, 0, [(6, 4, 2), (8, 5, 3), (10, 9, 7)]) := by decide
  rw [e2] at M2
  have G2 : Gs 2 [(6, 4, 2), (8, 5, 3), (10, 9, 7)] := M2.good
  have e3 : orM 2 [(6, 4, 2), (8, 5, 3), (10, 9, 7)] 2 4 = (9, 0, [(6, 4, 2), (8, 5, 3), (10, 9, 7)]) := by decide
  have hN : ∀ w', CVN Try.prog 39 [nu 2, nu 0] w' _ := fun w' => NewG (by unfold newBad; decide)
  have hA : ∀ g S w', Mem w' [.any (bldX g S 2 0 [])] → CVM Try.prog 79 [ptr g, nu 4, nu 2] w' [.any (bldX g S 2 0 [])] (BldR g 2 0 (6, 0, [(6, 4, 2)])) := fun g S w' M => by
    have := AndG (x := 4) (y := 2) (by decide) (by decide) G0 (by decide) (by unfold okM; decide) (by unfold okM; decide) M
    rwa [show (2 : Int) + 0 = 2 from rfl, e1] at this
  have hX : ∀ g S w', Mem w' [.any (bldX g S 2 0 [(6, 4, 2)])] → CVM Try.prog 41 [ptr g, nu 2, nu 4] w' [.any (bldX g S 2 0 [(6, 4, 2)])] (BldR g 2 0 (10, 0, [(6, 4, 2), (8, 5, 3), (10, 9, 7)])) := fun g S w' M => by
    have := XorG (x := 2) (y := 4) (by decide) (by decide) G1 (by decide) (by unfold okM; decide) (by unfold okM; decide) M
    rwa [show (2 : Int) + 0 = 2 from rfl, e2] at this
  have hO : ∀ g S w', Mem w' [.any (bldX g S 2 0 [(6, 4, 2), (8, 5, 3), (10, 9, 7)])] → CVM Try.prog 40 [ptr g, nu 2, nu 4] w' [.any (bldX g S 2 0 [(6, 4, 2), (8, 5, 3), (10, 9, 7)])] (BldR g 2 0 (9, 0, [(6, 4, 2), (8, 5, 3), (10, 9, 7)])) := fun g S w' M => by
    have := OrG (x := 2) (y := 4) (by decide) (by decide) G2 (by decide) (by unfold okM; decide) (by unfold okM; decide) M
    rwa [show (2 : Int) + 0 = 2 from rfl, e3] at this
  have hS : ∀ Γ g S, In Γ (.any (bldX g S 2 0 [(6, 4, 2), (8, 5, 3), (10, 9, 7)])) → ∀ w', Mem w' Γ → CVN Try.prog 43 [ptr g] w' fun v N => N = [] ∧ v = nu 3 := fun Γ g S hi w' M => SizeG hi M
  refine CVN.enter 61 [0] Try.func38 rfl rfl rfl (by decide) rfl ?_
  repeat' (first
 | (simp only [Option.isNone_some])
 | (apply G_call; eq_refl; eq_refl; (exact fun w' _ => hN w'); rintro _ _ ⟨g, S, rfl, rfl⟩)
 | (apply G_callM2; exact wr_p; eq_refl; (exact hA g S); (repeat first | exact Rems.nil | (apply Rems.cons; (focus ((repeat first | exact Rem.here | apply Rem.there | apply Rem.skip); done)))); rintro _ _ ⟨rfl, S1, rfl⟩)
 | (apply G_callM2; exact wr_p; eq_refl; (exact hX g S1); (repeat first | exact Rems.nil | (apply Rems.cons; (focus ((repeat first | exact Rem.here | apply Rem.there | apply Rem.skip); done)))); rintro _ _ ⟨rfl, S2, rfl⟩)
 | (apply G_callM2; exact wr_p; eq_refl; (exact hO g S2); (repeat first | exact Rems.nil | (apply Rems.cons; (focus ((repeat first | exact Rem.here | apply Rem.there | apply Rem.skip); done)))); rintro _ _ ⟨rfl, S3, rfl⟩)
 | (apply G_call; eq_refl; eq_refl; (apply hS; (repeat first | exact In.here | apply In.there | apply In.skip)); rintro _ _ ⟨rfl, rfl⟩)
 | (apply GC_seqK; intro K hK)
 | (apply hK; clear hK K)
 | (clear hK K; apply hK; clear hK K)
 | (clear hK K; clear hK K; apply hK; clear hK K)
 | (clear hK K; clear hK K; clear hK K; apply hK; clear hK K)
 | (apply GC_block)
 | (apply GC_region)
 | (apply GL_nil)
 | (apply thenG_normal)
 | (apply thenG_ret)
 | (apply thenG_exit)
 | (apply blockG_hit)
 | (apply blockG_miss; eq_refl)
 | (apply blockG_ret)
 | (apply blockG_normal)
 | (apply GC_ret)
 | (apply GC_exit)
 | (apply GC_skip)
 | (apply GC_if_true; eq_refl)
 | (apply GC_if_false; eq_refl)
 | (apply GC_ifD; eq_refl; all_goals intro _)
 | (apply GC_if; eq_refl; all_goals intro _)
 | (apply retG1; eq_refl)
 | (apply retG2; eq_refl; eq_refl)
 | (apply retG3; eq_refl; eq_refl; eq_refl)
 | (apply retG0)
 | (apply retG0n)
 | (apply GL_on; eq_refl; eq_refl)
 | (apply GL_off; eq_refl; eq_refl)
 | (apply GL_offU; eq_refl; eq_refl; eq_refl)
 | (apply GL_split; eq_refl; eq_refl; all_goals intro _)
 | (apply G_pv; eq_refl; first | exact trivial | omega)
 | (apply G_cmpT; eq_refl; eq_refl; omega)
 | (apply G_cmpF; eq_refl; eq_refl; omega)
 | (apply G_cmp; eq_refl; eq_refl; all_goals intro _)
 | (apply G_eqB; eq_refl; eq_refl)
 | (apply G_neqB; eq_refl; eq_refl)
 | (apply G_eqP; eq_refl; eq_refl)
 | (apply G_eqL; eq_refl; eq_refl)
 | (apply G_pickAnd; eq_refl; eq_refl)
 | (apply G_pickOr; eq_refl; eq_refl))
  exact ⟨[], (by repeat first | exact Wk.nil | exact Wk.refl | (apply Wk.cons; (focus ((repeat first | exact Rem.here | apply Rem.there | apply Rem.skip); done))) | apply Wk.nilv | apply Wk.last | apply Wk.drop), rfl, by first | trivial | rfl⟩
end SC
end Go.Proofs.Yticndofcfacopaa
end
section
/- trestlelaw09: HashSettles: the walk. -/
set_option linter.unusedVariables false
set_option linter.unusedSimpArgs false
namespace Go.Proofs.Yticndofcfacopaa
namespace SC
open Go.Proofs
attribute [local irreducible] WC WL WX WS WO OX Does DoesU Enters CV Pure thenQ blockQ retQ Wants retQC GC GL GS GX RdB thenG blockG retG Rd At gt CVN CVM
attribute [local irreducible] bldX cirX fam
set_option maxRecDepth 100000
theorem build_no {w : World} {c : Circ} {h js : Hd} (H : CirIn w c h js) (he : (lookM c).2 ≠ 0) : CVN Try.prog 32 [.agg (ccells c h).toArray] w fun v N => v = .tuple #[.agg Zc.toArray, .slice none 0 0, nu (lookM c).2] ∧ N = [] := by
  have hord : ∀ Γ, In Γ (.old w none_) → ∀ w', Mem w' Γ → CVN Try.prog 61 [.agg (ccells c h).toArray] w' (OrdR c) := fun Γ hi w' M => OrderG (H.at_.chg (hi.old M)) H.sane
  refine CVN.enterC (t := 29) 202 2 [3, 4] Try.func32 rfl rfl rfl (.inr rfl) rfl ?_
  repeat' (first
 | (apply G_call; eq_refl; eq_refl; (apply hord; (repeat first | exact In.here | apply In.there | apply In.skip)); rintro _ _ (⟨_, rfl, rfl⟩ | ⟨he', A1, k1, rfl, rfl⟩); rotate_left; (exact absurd he' he))
 | (apply GC_seqK; intro K hK)
 | (apply hK; clear hK K)
 | (apply GC_region)
 | (apply GL_nil)
 | (apply thenG_normal)
 | (apply thenG_ret)
 | (apply GC_ret)
 | (apply GC_if_true; eq_refl)
 | (apply retGC2; eq_refl; (repeat first | exact In.here | apply In.there | apply In.skip); eq_refl; eq_refl; eq_refl)
 | (apply GL_on; eq_refl; eq_refl)
 | (apply G_pv; eq_refl; first | exact trivial | omega)
 | (apply G_ldW; eq_refl; (repeat first | exact In.here | apply In.there | apply In.skip); eq_refl)
 | (apply G_cmpT; eq_refl; eq_refl; omega)
 | (apply G_alloc; eq_refl; intro _)
 | (apply G_box; eq_refl; eq_refl; intro _)
 | (apply G_stW; (first | exact wr_p | kernel_rfl); eq_refl; eq_refl; eq_refl; eq_refl; (repeat first | exact Upd.here | apply Upd.there | apply Upd.skip); eq_refl)
 | (apply GX_pure; apply build29_))
  exact ⟨[], (by repeat first | exact Wk.nil | exact Wk.refl | (apply Wk.cons; (focus ((repeat first | exact Rem.here | apply Rem.there | apply Rem.skip); done))) | apply Wk.nilv | apply Wk.last | apply Wk.drop), rfl, rfl⟩
end SC
end Go.Proofs.Yticndofcfacopaa
end
section
/- trestlelaw09: HashBuilds: the walk. -/
set_option linter.unusedVariables false
set_option linter.unusedSimpArgs false
namespace Go.Proofs.Yticndofcfacopaa
namespace SC
open Go.Proofs
set_option maxRecDepth 100000
/-- The zero circuit. -/
def zCir : Circ := ⟨0, [], [], [], [], [], [], [], [], [], []⟩
theorem zc_cells : Zc = ccells zCir fun _ => (none, 0) := rfl
theorem zc_own {w : World} : CirOwn w 0 zCir (fun _ => (none, 0)) (fun _ => (none, 0)) := by
  refine ⟨fun i => ?_, fun i j k _ h => ?_⟩
  · match i with
    | 0 | 1 | 2 | 3 | 4 | 5 | 6 | 7 | 8 | 9 | 10 => exact World.ownsRow_nil _ _ _ _
    | k + 11 => exact World.ownsRow_nil _ _ _ _
  · match i with
    | 0 | 1 | 2 | 3 | 4 | 5 | 6 | 7 | 8 | 9 | 10 => cases h
    | k + 11 => cases h
theorem zCir_at {w : World} : CirAt w zCir (fun _ => (none, 0)) (fun _ => (none, 0)) := CirOwn.at zc_own
theorem zCir_ok : zCir.Okay := by
  refine ⟨fun n hn => ?_, fun l hl => ?_, fun l hl => ?_, fun l hl => ?_, fun l hl => ?_⟩
  · simp [zCir, Circ.lens] at hn; omega
  all_goals cases hl
theorem zc_none (i k : Nat) : ¬ (cirRows zCir (fun _ => (none, 0)) (fun _ => (none, 0)) (fun _ => (none, 0)) zCir.justice.length i).v.ownBlock = some k := by
  match i with
  | 0 | 1 | 2 | 3 | 4 | 5 | 6 | 7 | 8 | 9 | 10 => intro h; cases h
  | i + 11 => intro h; cases h
theorem spoilZ {w : World} {mark : Int} : CVN Try.prog 36 [.agg Zc.toArray, nu mark] w fun v N => N = [] := by
  have h0 : CirOwn w 0 zCir (fun _ => (none, 0)) (fun _ => (none, 0)) := zc_own
  have h1 := spoilCircuit_cv (mark := mark) h0 zCir_ok
  rw [← zc_cells] at h1
  exact CV.mono h1 fun v w' h => ⟨[], .one (h.mono fun k ⟨i, hi⟩ => (zc_none i k hi).elim), rfl⟩
theorem spoilN {w : World} {mark : Int} : CVN Try.prog 37 [.slice none 0 0, nu mark] w fun v N => N = [] := CV.mono (spoilNil_cv (w := w) (mark := mark)) fun v w' h => ⟨[], .one h, rfl⟩
theorem sameC {w : World} {c : Circ} {h k js ks : Hd} (H : CirAt w c h js) (H' : CirAt w c k ks) (hc : c.Okay) : CVN Try.prog 34 [.agg (ccells c h).toArray, .agg (ccells c k).toArray] w fun v N => N = [] ∧ v = .bool true :=
  CVN.of (sameCircuit_cv H H' hc hc) fun v w' ⟨b, e1, e2, e3⟩ => ⟨e3, by rw [e1, e2.2 rfl]⟩
attribute [local irreducible] WC WL WX WS WO OX Does DoesU Enters CV Pure thenQ blockQ retQ Wants retQC GC GL GS GX RdB thenG blockG retG Rd At gt CVN CVM
attribute [local irreducible] bun cirX lentX
theorem refBuild_ok {w : World} {c : Circ} {h js : Hd} (H : CirIn w c h js) (hn : Nils h js) (he : (lookM c).2 = 0) : CVN Try.prog 33 [.agg (ccells c h).toArray] w fun v N => ∃ h' js' A k N', v = .tuple #[.agg (ccells (bC c) h').toArray, .slice A (bT c).length k, nu 0] ∧ (∀ w, Mem w N' → CirAt w (bC c) h' js' ∧ RowA w icell 1 A (bT c)) ∧ N = [.any (bun N')] := by
  have hord : ∀ Γ, In Γ (.old w none_) → ∀ w', Mem w' Γ → CVN Try.prog 72 [.agg (ccells c h).toArray] w' fun v N => ∃ A k, v = .tuple #[.slice A (ordM c).length k, nu 0] ∧ N = [.vec icell 1 3 A k (ordM c)] := fun Γ hi w' M => (OrderRefG (H.at_.chg (hi.old M)) H.sane H.okay H.fits).mono fun v N hv => by
    rcases hv with ⟨h1, _⟩ | ⟨_, hv⟩
    · exact absurd he h1
    · exact hv
  have hB : ∀ Γ A k, In Γ (.old w none_) → In Γ (.vec icell 1 3 A k (ordM c)) → ∀ w', Mem w' Γ → CVN Try.prog 73 [.agg (ccells c h).toArray, .slice A (ordM c).length k] w' fun v N => ∃ h' js' A k N', v = .tuple #[.agg (ccells (bC c) h').toArray, .slice A (bT c).length k] ∧ (∀ w, Mem w N' → CirAt w (bC c) h' js' ∧ RowA w icell 1 A (bT c)) ∧ N = [.any (bun N')] := fun Γ A k hi h2 w' M => (build0_cv (H.chg (hi.old M)) hn he (h2.row M)).bun.mono fun v N ⟨N', ⟨h', js', A, k, e1, e2⟩, e⟩ => ⟨h', js', A, k, N', e1, e2, e⟩
  refine CVN.enterC (t := 29) 26 2 [3, 4] Try.func33 rfl rfl rfl (.inr rfl) rfl ?_
  repeat' (first
 | (apply G_call; eq_refl; eq_refl; (apply hord; (repeat first | exact In.here | apply In.there | apply In.skip)); rintro _ _ ⟨Ao, ko, rfl, rfl⟩)
 | (apply G_call; eq_refl; eq_refl; (apply hB; (repeat first | exact In.here | apply In.there | apply In.skip); (repeat first | exact In.here | apply In.there | apply In.skip)); rintro _ _ ⟨h', js', A, k, N', rfl, hN, rfl⟩)
 | (apply GC_seqK; intro K hK)
 | (apply hK; clear hK K)
 | (apply GC_region)
 | (apply GL_nil)
 | (apply thenG_normal)
 | (apply GC_ret)
 | (apply GC_skip)
 | (apply GC_if_false; eq_refl)
 | (apply retGC2; eq_refl; (repeat first | exact In.here | apply In.there | apply In.skip); eq_refl; eq_refl; eq_refl)
 | (apply GL_on; eq_refl; eq_refl)
 | (apply G_pv; eq_refl; first | exact trivial | omega)
 | (apply G_ldW; eq_refl; (repeat first | exact In.here | apply In.there | apply In.skip); eq_refl)
 | (apply G_cmpF; eq_refl; eq_refl; omega)
 | (apply G_alloc; eq_refl; intro _)
 | (apply G_box; eq_refl; eq_refl; intro _)
 | (apply G_stW; (first | exact wr_p | kernel_rfl); eq_refl; eq_refl; eq_refl; eq_refl; (repeat first | exact Upd.here | apply Upd.there | apply Upd.skip); eq_refl))
  exact ⟨[.any (bun N')], (by repeat first | exact Wk.nil | exact Wk.refl | (apply Wk.cons; (focus ((repeat first | exact Rem.here | apply Rem.there | apply Rem.skip); done))) | apply Wk.nilv | apply Wk.last | apply Wk.drop), h', js', A, k, N', rfl, hN, rfl⟩
theorem refBuild_no {w : World} {c : Circ} {h js : Hd} (H : CirIn w c h js) (he : (lookM c).2 ≠ 0) : CVN Try.prog 33 [.agg (ccells c h).toArray] w fun v N => v = .tuple #[.agg Zc.toArray, .slice none 0 0, nu (lookM c).2] ∧ N = [] := by
  have hord : ∀ Γ, In Γ (.old w none_) → ∀ w', Mem w' Γ → CVN Try.prog 72 [.agg (ccells c h).toArray] w' (OrdR c) := fun Γ hi w' M => OrderRefG (H.at_.chg (hi.old M)) H.sane H.okay H.fits
  refine CVN.enterC (t := 29) 26 2 [3, 4] Try.func33 rfl rfl rfl (.inr rfl) rfl ?_
  repeat' (first
 | (apply G_call; eq_refl; eq_refl; (apply hord; (repeat first | exact In.here | apply In.there | apply In.skip)); rintro _ _ (⟨_, rfl, rfl⟩ | ⟨he', A1, k1, rfl, rfl⟩); rotate_left; (exact absurd he' he))
 | (apply GC_seqK; intro K hK)
 | (apply hK; clear hK K)
 | (apply GC_region)
 | (apply GL_nil)
 | (apply thenG_normal)
 | (apply thenG_ret)
 | (apply GC_ret)
 | (apply GC_if_true; eq_refl)
 | (apply retGC2; eq_refl; (repeat first | exact In.here | apply In.there | apply In.skip); eq_refl; eq_refl; eq_refl)
 | (apply GL_on; eq_refl; eq_refl)
 | (apply G_pv; eq_refl; first | exact trivial | omega)
 | (apply G_ldW; eq_refl; (repeat first | exact In.here | apply In.there | apply In.skip); eq_refl)
 | (apply G_cmpT; eq_refl; eq_refl; omega)
 | (apply G_alloc; eq_refl; intro _)
 | (apply G_box; eq_refl; eq_refl; intro _)
 | (apply G_stW; (first | exact wr_p | kernel_rfl); eq_refl; eq_refl; eq_refl; eq_refl; (repeat first | exact Upd.here | apply Upd.there | apply Upd.skip); eq_refl)
 | (apply GX_pure; apply build29_))
  exact ⟨[], (by repeat first | exact Wk.nil | exact Wk.refl | (apply Wk.cons; (focus ((repeat first | exact Rem.here | apply Rem.there | apply Rem.skip); done))) | apply Wk.nilv | apply Wk.last | apply Wk.drop), rfl, rfl⟩
set_option maxHeartbeats 1600000 in
theorem hashBuilds_cv {w : World} {c : Circ} {h js : Hd} (H : CirGot w c h js) : CVN Try.prog 8 [.agg (ccells c h).toArray] w fun v N => N = [] ∧ v = .bool true := by
  have hL : ∀ Γ, In Γ (.old w none_) → ∀ w', Mem w' Γ → CVN Try.prog 12 [.agg (ccells c h).toArray] w' (LendR c) := fun Γ hi w' M => LendG (H.at_.chg (hi.old M)) H.fits1 H.nils
  have hKp : ∀ Γ base h' js', In Γ (.any (lentX base c h' js')) → In Γ (.old w none_) → ∀ w', Mem w' Γ → CVN Try.prog 18 [.agg (ccells c h').toArray, .agg (ccells c h).toArray] w' _ := fun Γ base h' js' hi ho w' M => KeptG H hi ho M
  have hW : ∀ w', CVN Try.prog 38 [] w' _ := fun w' => works09_cv
  refine CVN.enter 63 [2] Try.func8 rfl rfl rfl (by decide) rfl ?_
  by_cases he : (lookM c).2 = 0
  · have R := right_of H.at_ H.sane he
    have hR : ∀ Γ base h' js', In Γ (.any (lentX base c h' js')) → ∀ w', Mem w' Γ → CVN Try.prog 32 [.agg (ccells c h').toArray] w' _ := fun Γ base h' js' hi w' M => build_ok (In.lent H.toCirIn hi M) he
    have hRef : ∀ Γ, In Γ (.old w none_) → ∀ w', Mem w' Γ → CVN Try.prog 33 [.agg (ccells c h).toArray] w' _ := fun Γ ho w' M => refBuild_ok (H.toCirIn.chg (ho.old M)) H.nils he
    have hO := R.b_okay H.okay
    have hS : ∀ Γ base h1 js1 h2 js2 A2 N', In Γ (.any (cirX base (bC c) h1 js1)) → In Γ (.any (bun N')) → (∀ w, Mem w N' → CirAt w (bC c) h2 js2 ∧ RowA w icell 1 A2 (bT c)) → ∀ w', Mem w' Γ → CVN Try.prog 34 [.agg (ccells (bC c) h1).toArray, .agg (ccells (bC c) h2).toArray] w' fun v N => N = [] ∧ v = .bool true := fun Γ base h1 js1 h2 js2 A2 N' hi hb hN w' M => sameC (hi.cirAt M) (hN w' (hb.bun M)).1 hO
    have hI : ∀ Γ h2 js2 A1 k1 A2 k2 N', In Γ (.vec icell 1 3 A1 k1 (bT c)) → In Γ (.any (bun N')) → (∀ w, Mem w N' → CirAt w (bC c) h2 js2 ∧ RowA w icell 1 A2 (bT c)) → ∀ w', Mem w' Γ → CVN Try.prog 35 [.slice A1 (bT c).length k1, .slice A2 (bT c).length k2] w' fun v N => N = [] ∧ v = .bool true := fun Γ h2 js2 A1 k1 A2 k2 N' hi hb hN w' M => sameIntsG (hi.row M) (hN w' (hb.bun M)).2 (vec_len (hi.ok M))
    have hX : ∀ base h1 js1 w', Mem w' [.any (cirX base (bC c) h1 js1)] → CVM Try.prog 36 [.agg (ccells (bC c) h1).toArray, nu (-7)] w' [.any (cirX base (bC c) h1 js1)] fun v N => N = [] := fun base h1 js1 w' M => spoilCirG hO M
    have hY : ∀ (A : Option Addr) (k : Nat) (l : List Int), ∀ w', Mem w' [.vec icell 1 3 A k l] → CVM Try.prog 37 [.slice A l.length k, nu (-8)] w' [.vec icell 1 3 A k l] _ := fun A k l w' M => spoilIntsG M
    generalize bT c = T at *
    generalize bC c = c' at *
    repeat' (first
 | (apply G_call; eq_refl; eq_refl; (apply hL; (repeat first | exact In.here | apply In.there | apply In.skip)); rintro _ _ ⟨base, h', js', rfl, rfl⟩)
 | (apply GC_seqK; intro K hK)
 | (apply hK; clear hK K)
 | (apply GC_region)
 | (apply GL_nil)
 | (apply thenG_normal)
 | (apply GL_on; eq_refl; eq_refl)
 | (apply G_pv; eq_refl; first | exact trivial | omega)
 | (apply G_ldW; eq_refl; (repeat first | exact In.here | apply In.there | apply In.skip); eq_refl)
 | (apply G_alloc; eq_refl; intro _)
 | (apply G_box; eq_refl; eq_refl; intro _)
 | (apply G_stW; (first | exact wr_p | kernel_rfl); eq_refl; eq_refl; eq_refl; eq_refl; (repeat first | exact Upd.here | apply Upd.there | apply Upd.skip); eq_refl))
    apply G_call; eq_refl; eq_refl; (apply hR; (repeat first | exact In.here | apply In.there | apply In.skip)); rintro _ _ ⟨h1, js1, A1, k1, rfl, rfl⟩
    repeat' (first
 | (apply G_call; eq_refl; eq_refl; (apply hR; (repeat first | exact In.here | apply In.there | apply In.skip)); rintro _ _ ⟨h2, js2, A2, k2, rfl, rfl⟩)
 | (apply G_call; eq_refl; eq_refl; (apply hRef; (repeat first | exact In.here | apply In.there | apply In.skip)); rintro _ _ ⟨h3, js3, A3, k3, N', rfl, hN, rfl⟩)
 | (apply G_call; eq_refl; eq_refl; (apply hS; (repeat first | exact In.here | apply In.there | apply In.skip); (repeat first | exact In.here | apply In.there | apply In.skip); exact hN); rintro _ _ ⟨rfl, rfl⟩)
 | (apply G_call; eq_refl; eq_refl; (apply hI; (repeat first | exact In.here | apply In.there | apply In.skip); (repeat first | exact In.here | apply In.there | apply In.skip); exact hN); rintro _ _ ⟨rfl, rfl⟩)
 | (apply G_callM2 (C := [.any (cirX 0 c' h1 js1)]); exact wr_p; eq_refl; (apply hX); (repeat first | exact Rems.nil | (apply Rems.cons; (focus ((repeat first | exact Rem.here | apply Rem.there | apply Rem.skip); done)))); rintro _ _ rfl)
 | (apply G_callM2; exact wr_p; eq_refl; (apply hY); (repeat first | exact Rems.nil | (apply Rems.cons; (focus ((repeat first | exact Rem.here | apply Rem.there | apply Rem.skip); done)))); rintro _ _ rfl)
 | (apply G_call; eq_refl; eq_refl; (apply hKp; (repeat first | exact In.here | apply In.there | apply In.skip); (repeat first | exact In.here | apply In.there | apply In.skip)); rintro _ _ ⟨rfl, rfl⟩)
 | (apply G_call; eq_refl; eq_refl; (exact fun w' _ => hW w'); rintro _ _ ⟨rfl, rfl⟩)
 | (apply GC_seqK; intro K hK)
 | (apply hK; clear hK K)
 | (apply GC_region)
 | (apply GL_nil)
 | (apply thenG_normal)
 | (apply GC_ret)
 | (apply GC_skip)
 | (apply GC_if_false; eq_refl)
 | (apply retG1; eq_refl)
 | (apply GL_on; eq_refl; eq_refl)
 | (apply G_pv; eq_refl; first | exact trivial | omega)
 | (apply G_ldW; eq_refl; (repeat first | exact In.here | apply In.there | apply In.skip); eq_refl)
 | (apply G_cmpF; eq_refl; eq_refl; omega)
 | (apply G_alloc; eq_refl; intro _)
 | (apply G_stW; (first | exact wr_p | kernel_rfl); eq_refl; eq_refl; eq_refl; eq_refl; (repeat first | exact Upd.here | apply Upd.there | apply Upd.skip); eq_refl))
    exact ⟨[], (by repeat first | exact Wk.nil | exact Wk.refl | (apply Wk.cons; (focus ((repeat first | exact Rem.here | apply Rem.there | apply Rem.skip); done))) | apply Wk.nilv | apply Wk.last | apply Wk.drop), rfl, rfl⟩
  · have hR : ∀ Γ base h' js', In Γ (.any (lentX base c h' js')) → ∀ w', Mem w' Γ → CVN Try.prog 32 [.agg (ccells c h').toArray] w' _ := fun Γ base h' js' hi w' M => build_no (In.lent H.toCirIn hi M) he
    have hRef : ∀ Γ, In Γ (.old w none_) → ∀ w', Mem w' Γ → CVN Try.prog 33 [.agg (ccells c h).toArray] w' _ := fun Γ ho w' M => refBuild_no (H.toCirIn.chg (ho.old M)) he
    have hS : ∀ w', CVN Try.prog 34 [.agg Zc.toArray, .agg Zc.toArray] w' fun v N => N = [] ∧ v = .bool true := fun w' => by
      have := sameC (zCir_at (w := w')) (zCir_at (w := w')) zCir_ok
      rw [← zc_cells] at this
      exact this
    have hI : ∀ w', CVN Try.prog 35 [.slice none 0 0, .slice none 0 0] w' fun v N => N = [] ∧ v = .bool true := fun w' => sameIntsG (l := []) (fun k hk => absurd hk (Nat.not_lt_zero _)) (fun k hk => absurd hk (Nat.not_lt_zero _)) (Nat.zero_le _)
    have hX : ∀ w', CVN Try.prog 36 [.agg Zc.toArray, nu (-7)] w' fun v N => N = [] := fun w' => spoilZ
    have hY : ∀ w', CVN Try.prog 37 [.slice none 0 0, nu (-8)] w' fun v N => N = [] := fun w' => spoilN
    generalize (lookM c).2 = ε at *
    repeat' (first
 | (apply G_call; eq_refl; eq_refl; (apply hL; (repeat first | exact In.here | apply In.there | apply In.skip)); rintro _ _ ⟨base, h', js', rfl, rfl⟩)
 | (apply G_call; eq_refl; eq_refl; (apply hR; (repeat first | exact In.here | apply In.there | apply In.skip)); rintro _ _ ⟨rfl, rfl⟩)
 | (apply G_call; eq_refl; eq_refl; (apply hRef; (repeat first | exact In.here | apply In.there | apply In.skip)); rintro _ _ ⟨rfl, rfl⟩)
 | (apply G_call; eq_refl; eq_refl; (exact fun w' _ => hS w'); rintro _ _ ⟨rfl, rfl⟩)
 | (apply G_call; eq_refl; eq_refl; (exact fun w' _ => hI w'); rintro _ _ ⟨rfl, rfl⟩)
 | (apply G_call; eq_refl; eq_refl; (exact fun w' _ => hX w'); rintro _ _ rfl)
 | (apply G_call; eq_refl; eq_refl; (exact fun w' _ => hY w'); rintro _ _ rfl)
 | (apply G_call; eq_refl; eq_refl; (apply hKp; (repeat first | exact In.here | apply In.there | apply In.skip); (repeat first | exact In.here | apply In.there | apply In.skip)); rintro _ _ ⟨rfl, rfl⟩)
 | (apply G_call; eq_refl; eq_refl; (exact fun w' _ => hW w'); rintro _ _ ⟨rfl, rfl⟩)
 | (apply GC_seqK; intro K hK)
 | (apply hK; clear hK K)
 | (apply GC_region)
 | (apply GL_nil)
 | (apply thenG_normal)
 | (apply GC_ret)
 | (apply GC_skip)
 | (apply GC_if_false; eq_refl)
 | (apply retG1; eq_refl)
 | (apply GL_on; eq_refl; eq_refl)
 | (apply G_pv; eq_refl; first | exact trivial | omega)
 | (apply G_ldW; eq_refl; (repeat first | exact In.here | apply In.there | apply In.skip); eq_refl)
 | (apply G_cmpF; eq_refl; eq_refl; omega)
 | (apply G_alloc; eq_refl; intro _)
 | (apply G_box; eq_refl; eq_refl; intro _)
 | (apply G_stW; (first | exact wr_p | kernel_rfl); eq_refl; eq_refl; eq_refl; eq_refl; (repeat first | exact Upd.here | apply Upd.there | apply Upd.skip); eq_refl))
    exact ⟨[], (by repeat first | exact Wk.nil | exact Wk.refl | (apply Wk.cons; (focus ((repeat first | exact Rem.here | apply Rem.there | apply Rem.skip); done))) | apply Wk.nilv | apply Wk.last | apply Wk.drop), rfl, rfl⟩
end SC
end Go.Proofs.Yticndofcfacopaa
end
