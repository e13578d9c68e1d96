/- Texts of this seat, one behind the other: O5 O6 O7 O8 O10 O11 O12 O13 N16. -/
import Derived.Test.YtbmngkdnebklpaaR4
import Derived.Shelf.Spec.SlicesGrow
section
/- frames: vars, ready, looked, many, step: the walks. -/
set_option linter.unusedVariables false
set_option linter.unusedSimpArgs false
namespace Go.Proofs.Ytbmngkdnebklpaa
namespace SC
open Go.Proofs
theorem ftE_look {c : Circ} {t most n : Int} (h : (lookM c).2 ≠ 0) : ftE c t most n = (lookM c).2 := if_pos h
theorem ftE_rg {c : Circ} {t most n : Int} (h : (lookM c).2 = 0) (h2 : t < 0 ∨ most < t) : ftE c t most n = 1 := by unfold ftE; rw [if_neg (by omega), if_pos h2]
theorem ftE_sz {c : Circ} {t most n : Int} (h : (lookM c).2 = 0) (h2 : ¬ (t < 0 ∨ most < t)) (h3 : 262144 < 1 + n * c.max) : ftE c t most n = 6 := by unfold ftE; rw [if_neg (by omega), if_neg h2, if_pos h3]
theorem ftE_ok {c : Circ} {t most n : Int} (h : (lookM c).2 = 0) (h2 : ¬ (t < 0 ∨ most < t)) (h3 : ¬ 262144 < 1 + n * c.max) : ftE c t most n = 0 := by unfold ftE; rw [if_neg (by omega), if_neg h2, if_neg h3]
theorem ftE_zero {c : Circ} {t most n : Int} (h : ftE c t most n = 0) : (lookM c).2 = 0 ∧ 0 ≤ t ∧ t ≤ most ∧ 1 + n * c.max ≤ 262144 := by
  unfold ftE at h
  split at h
  · exact absurd h (by assumption)
  · split at h
    · cases h
    · split at h
      · cases h
      · exact ⟨by omega, by omega, by omega, by omega⟩
theorem ftE_n {c : Circ} {t most : Int} (n m : Int) (h : t < 0 ∨ most < t) : ftE c t most n = ftE c t most m := by
  by_cases he : (lookM c).2 = 0
  · rw [ftE_rg he h, ftE_rg he h]
  · rw [ftE_look he, ftE_look he]
section
variable {P : Program} {n : Nat} {all : List Oper} {K : Env → Mm → Prop} {m : Md} {e : Env} {Γ : Mm} {d : Option Tmp} {ty t t' elem : TypeId} {x y : Operand} {w : World} {td : TypeDesc} {by_ : Nat} {zv v : Value}
theorem does_index {k : Nat} {i : Int} {ik : IntKind} {cs : Array Value} [T : Ty P elem td 1 zv by_ false] (hu : P.underlying t = some (.array k elem)) (h : ev e x = some (.agg cs)) (h1 : ev e y = some (.int ik i)) (h0 : 0 ≤ i) (hk : i < k) (hv : cs[i.toNat]? = some v) : Does P (.index t x y) ty e w v w := by
  intro ρ dst pos af g hρ
  simp [execOp, hρ _ _ h, hρ _ _ h1, Instr.index, asIntOf, run_underlying hu, h0, hk, Go.part, T.size, T.agg, hv]
theorem G_index {k : Nat} {i : Int} {ik : IntKind} {cs : Array Value} [T : Ty P elem td 1 zv by_ false] (hu : P.underlying t = some (.array k elem)) (h : ev e x = some (.agg cs)) (h1 : ev e y = some (.int ik i)) (h0 : 0 ≤ i) (hk : i < k) (hv : cs[i.toNat]? = some v) (hr : GN P n all K m (push d v e) Γ) : GX P n all K m d (.index t x y) ty e Γ := GX_pure (fun _ => does_index hu h h1 h0 hk hv) hr
theorem G_addW {a b : Int} (h : ev e x = some (.int .i64 a)) (h1 : ev e y = some (.int .i64 b)) (hr : GN P n all K m (push d (nu (IntKind.i64.wrap (a + b))) e) Γ) : GX P n all K m d (.binOp .add t x y t') ty e Γ := GX_pure (fun _ => does_addW h h1) hr
end
attribute [local irreducible] WC WL WX WS WO OX Does DoesU Enters CV Pure thenQ blockQ retQ Wants retQC GC GL GS GX RdB thenG blockG retG Rd At gt CVN CVM
set_option maxRecDepth 100000
theorem vars_cv {w : World} {c : Circ} {h : Hd} {n : Int} (z0 : 0 ≤ n * c.max) (z1 : n * c.max ≤ 10000000) : CVN Try.prog 54 [.agg (ccells c h).toArray, nu n] w fun v N => N = [] ∧ v = nu (1 + n * c.max) := by
  refine CVN.enter 11 [4] Try.func54 rfl rfl rfl (by decide) rfl ?_
  repeat' (first
 | (apply GC_seqK; intro K hK)
 | (apply hK; clear hK K)
 | (apply GC_region)
 | (apply GL_nil)
 | (apply thenG_normal)
 | (apply GC_ret)
 | (apply retG1; eq_refl)
 | (apply GL_on; eq_refl; eq_refl)
 | (apply G_pv; eq_refl; first | exact trivial | omega)
 | (apply G_field; eq_refl)
 | (apply G_ld; eq_refl; (repeat first | exact In.here | apply In.there | apply In.skip); eq_refl)
 | (apply G_box; eq_refl; eq_refl; intro _))
  exact ⟨[], (by repeat first | exact Wk.nil | exact Wk.refl | (apply Wk.cons; (focus ((repeat first | exact Rem.here | apply Rem.there | apply Rem.skip); done))) | apply Wk.nilv | apply Wk.last | apply Wk.drop), rfl, rfl⟩
theorem fits_cv {w : World} {c : Circ} {h : Hd} {n : Int} (z0 : 0 ≤ n * c.max) (z1 : n * c.max ≤ 10000000) : CVN Try.prog 51 [.agg (ccells c h).toArray, nu n] w fun v N => N = [] ∧ v = .bool (decide (1 + n * c.max ≤ 262144)) := by
  refine CVN.enter 11 [4] Try.func51 rfl rfl rfl (by decide) rfl ?_
  repeat' (first
 | (apply GC_seqK; intro K hK)
 | (apply hK; clear hK K)
 | (apply GC_region)
 | (apply GL_nil)
 | (apply thenG_normal)
 | (apply GC_ret)
 | (apply retG1; eq_refl)
 | (apply GL_on; eq_refl; eq_refl)
 | (apply G_pv; eq_refl; first | exact trivial | omega)
 | (apply G_field; eq_refl)
 | (apply G_ld; eq_refl; (repeat first | exact In.here | apply In.there | apply In.skip); eq_refl)
 | (apply G_cmpD; eq_refl; eq_refl; (case hd => infer_instance))
 | (apply G_box; eq_refl; eq_refl; intro _))
  exact ⟨[], (by repeat first | exact Wk.nil | exact Wk.refl | (apply Wk.cons; (focus ((repeat first | exact Rem.here | apply Rem.there | apply Rem.skip); done))) | apply Wk.nilv | apply Wk.last | apply Wk.drop), rfl, rfl⟩
theorem ready16_cv {w : World} {c : Circ} {h js : Hd} (H : CirIn w c h js) : CVN Try.prog 47 [.agg (ccells c h).toArray] w fun v N => N = [] ∧ v = .tuple #[.agg (ccells c h).toArray, nu (lookM c).2] := by
  have hck : ∀ Γ, In Γ (.old w none_) → ∀ w', Mem w' Γ → CVN Try.prog 68 [.agg (ccells c h).toArray] w' fun v N => N = [] ∧ v = .tuple #[nu (lookM c).1, nu (lookM c).2] := fun Γ hi w' M => have H' := H.chg (hi.old M); CVN.of (check_cv H'.at_ H'.sane) fun v w' h => ⟨h.2, h.1⟩
  generalize (lookM c).1 = n0 at *
  generalize (lookM c).2 = ε at *
  refine CVN.enterC1 (t := 69) 14 2 3 Try.func47 rfl rfl rfl rfl ?_
  repeat' (first
 | (apply G_call; eq_refl; eq_refl; (apply hck; (repeat first | exact In.here | apply In.there | apply In.skip)); rintro _ _ ⟨rfl, rfl⟩)
 | (apply GC_seqK; intro K hK)
 | (apply hK; clear hK K)
 | (apply GC_region)
 | (apply GL_nil)
 | (apply thenG_normal)
 | (apply GC_ret)
 | (apply retGC1r; eq_refl; (repeat first | exact In.here | apply In.there | apply In.skip); eq_refl; eq_refl)
 | (apply GL_on; eq_refl; eq_refl)
 | (apply G_pv; eq_refl; first | exact trivial | omega)
 | (apply G_ldW; eq_refl; (repeat first | exact In.here | apply In.there | apply In.skip); eq_refl)
 | (apply G_alloc; eq_refl; intro _)
 | (apply G_box; eq_refl; eq_refl; intro _)
 | (apply G_stW; (first | exact wr_p | kernel_rfl); eq_refl; eq_refl; eq_refl; eq_refl; (repeat first | exact Upd.here | apply Upd.there | apply Upd.skip); eq_refl)
 | (apply GX_pure; apply build69_0 <;> eq_refl))
  exact ⟨[], (by repeat first | exact Wk.nil | exact Wk.refl | (apply Wk.cons; (focus ((repeat first | exact Rem.here | apply Rem.there | apply Rem.skip); done))) | apply Wk.nilv | apply Wk.last | apply Wk.drop), rfl, rfl⟩
theorem looked_cv {w : World} {c : Circ} {h js : Hd} {t most n : Int} (H : CirIn w c h js) (hn : 0 ≤ t → t ≤ most → 0 ≤ n ∧ n ≤ 600) : CVN Try.prog 36 [.agg (ccells c h).toArray, nu t, nu most, nu n] w fun v N => N = [] ∧ v = .tuple #[.agg (ccells c h).toArray, nu (ftE c t most n)] := by
  have hrd : ∀ Γ, In Γ (.old w none_) → ∀ w', Mem w' Γ → CVN Try.prog 47 [.agg (ccells c h).toArray] w' _ := fun Γ hi w' M => ready16_cv (H.chg (hi.old M))
  refine CVN.enterC1 (t := 69) 38 8 9 Try.func36 rfl rfl rfl rfl ?_
  by_cases he : (lookM c).2 = 0
  · have R := right_of H.at_ H.sane he
    have m0 := R.m0
    have m1 := R.m1
    rw [he] at hrd
    by_cases hr : t < 0 ∨ most < t
    · rw [ftE_rg he hr]
      by_cases h0 : t < 0
      · repeat' (first
 | (apply G_call; eq_refl; eq_refl; (apply hrd; (repeat first | exact In.here | apply In.there | apply In.skip)); rintro _ _ ⟨rfl, rfl⟩)
 | (apply GC_seqK; intro K hK)
 | (apply hK; clear hK K)
 | (apply GC_block)
 | (apply GC_region)
 | (apply GL_nil)
 | (apply thenG_normal)
 | (apply thenG_ret)
 | (apply blockG_ret)
 | (apply GC_ret)
 | (apply GC_if_true; eq_refl)
 | (apply GC_if_false; eq_refl)
 | (apply retGC1r; eq_refl; (repeat first | exact In.here | apply In.there | apply In.skip); eq_refl; eq_refl)
 | (apply GL_on; eq_refl; eq_refl)
 | (apply GL_off; eq_refl; eq_refl)
 | (apply G_pv; eq_refl; first | exact trivial | omega)
 | (apply G_ldW; eq_refl; (repeat first | exact In.here | apply In.there | apply In.skip); eq_refl)
 | (apply G_cmpT; eq_refl; eq_refl; omega)
 | (apply G_cmpF; eq_refl; eq_refl; omega)
 | (apply G_alloc; eq_refl; intro _)
 | (apply G_box; eq_refl; eq_refl; intro _)
 | (apply G_stW; (first | exact wr_p | kernel_rfl); eq_refl; eq_refl; eq_refl; eq_refl; (repeat first | exact Upd.here | apply Upd.there | apply Upd.skip); eq_refl))
        exact ⟨[], (by repeat first | exact Wk.nil | exact Wk.refl | (apply Wk.cons; (focus ((repeat first | exact Rem.here | apply Rem.there | apply Rem.skip); done))) | apply Wk.nilv | apply Wk.last | apply Wk.drop), rfl, rfl⟩
      · repeat' (first
 | (apply G_call; eq_refl; eq_refl; (apply hrd; (repeat first | exact In.here | apply In.there | apply In.skip)); rintro _ _ ⟨rfl, rfl⟩)
 | (apply GC_seqK; intro K hK)
 | (apply hK; clear hK K)
 | (apply GC_block)
 | (apply GC_region)
 | (apply GL_nil)
 | (apply thenG_normal)
 | (apply thenG_ret)
 | (apply blockG_ret)
 | (apply GC_ret)
 | (apply GC_if_true; eq_refl)
 | (apply GC_if_false; eq_refl)
 | (apply retGC1r; eq_refl; (repeat first | exact In.here | apply In.there | apply In.skip); eq_refl; eq_refl)
 | (apply GL_on; eq_refl; eq_refl)
 | (apply G_pv; eq_refl; first | exact trivial | omega)
 | (apply G_ldW; eq_refl; (repeat first | exact In.here | apply In.there | apply In.skip); eq_refl)
 | (apply G_cmpT; eq_refl; eq_refl; omega)
 | (apply G_cmpF; eq_refl; eq_refl; omega)
 | (apply G_alloc; eq_refl; intro _)
 | (apply G_box; eq_refl; eq_refl; intro _)
 | (apply G_stW; (first | exact wr_p | kernel_rfl); eq_refl; eq_refl; eq_refl; eq_refl; (repeat first | exact Upd.here | apply Upd.there | apply Upd.skip); eq_refl))
        exact ⟨[], (by repeat first | exact Wk.nil | exact Wk.refl | (apply Wk.cons; (focus ((repeat first | exact Rem.here | apply Rem.there | apply Rem.skip); done))) | apply Wk.nilv | apply Wk.last | apply Wk.drop), rfl, rfl⟩
    · obtain ⟨n0, n1⟩ := hn (by omega) (by omega)
      obtain ⟨z0, z1⟩ := mul_le n0 n1 m0 m1
      have hv : ∀ Γ, ∀ w', Mem w' Γ → CVN Try.prog 54 [.agg (ccells c h).toArray, nu n] w' _ := fun Γ w' M => vars_cv (h := h) z0 z1
      by_cases hs : 262144 < 1 + n * c.max
      · rw [ftE_sz he hr hs]
        repeat' (first
 | (apply G_call; eq_refl; eq_refl; (apply hrd; (repeat first | exact In.here | apply In.there | apply In.skip)); rintro _ _ ⟨rfl, rfl⟩)
 | (apply G_call; eq_refl; eq_refl; (apply hv); rintro _ _ ⟨rfl, rfl⟩)
 | (apply GC_seqK; intro K hK)
 | (apply hK; clear hK K)
 | (apply GC_block)
 | (apply GC_region)
 | (apply GL_nil)
 | (apply thenG_normal)
 | (apply thenG_ret)
 | (apply blockG_ret)
 | (apply GC_ret)
 | (apply GC_if_true; eq_refl)
 | (apply GC_if_false; eq_refl)
 | (apply retGC1r; eq_refl; (repeat first | exact In.here | apply In.there | apply In.skip); eq_refl; eq_refl)
 | (apply GL_on; eq_refl; eq_refl)
 | (apply G_pv; eq_refl; first | exact trivial | omega)
 | (apply G_ldW; eq_refl; (repeat first | exact In.here | apply In.there | apply In.skip); eq_refl)
 | (apply G_cmpT; eq_refl; eq_refl; omega)
 | (apply G_cmpF; eq_refl; eq_refl; omega)
 | (apply G_alloc; eq_refl; intro _)
 | (apply G_box; eq_refl; eq_refl; intro _)
 | (apply G_stW; (first | exact wr_p | kernel_rfl); eq_refl; eq_refl; eq_refl; eq_refl; (repeat first | exact Upd.here | apply Upd.there | apply Upd.skip); eq_refl))
        exact ⟨[], (by repeat first | exact Wk.nil | exact Wk.refl | (apply Wk.cons; (focus ((repeat first | exact Rem.here | apply Rem.there | apply Rem.skip); done))) | apply Wk.nilv | apply Wk.last | apply Wk.drop), rfl, rfl⟩
      · rw [ftE_ok he hr hs]
        repeat' (first
 | (apply G_call; eq_refl; eq_refl; (apply hrd; (repeat first | exact In.here | apply In.there | apply In.skip)); rintro _ _ ⟨rfl, rfl⟩)
 | (apply G_call; eq_refl; eq_refl; (apply hv); rintro _ _ ⟨rfl, rfl⟩)
 | (apply GC_seqK; intro K hK)
 | (apply hK; clear hK K)
 | (apply GC_block)
 | (apply GC_region)
 | (apply GL_nil)
 | (apply thenG_normal)
 | (apply blockG_normal)
 | (apply GC_ret)
 | (apply GC_skip)
 | (apply GC_if_false; eq_refl)
 | (apply retGC1r; eq_refl; (repeat first | exact In.here | apply In.there | apply In.skip); eq_refl; eq_refl)
 | (apply GL_on; eq_refl; eq_refl)
 | (apply G_pv; eq_refl; first | exact trivial | omega)
 | (apply G_ldW; eq_refl; (repeat first | exact In.here | apply In.there | apply In.skip); eq_refl)
 | (apply G_cmpF; eq_refl; eq_refl; omega)
 | (apply G_alloc; eq_refl; intro _)
 | (apply G_box; eq_refl; eq_refl; intro _)
 | (apply G_stW; (first | exact wr_p | kernel_rfl); eq_refl; eq_refl; eq_refl; eq_refl; (repeat first | exact Upd.here | apply Upd.there | apply Upd.skip); eq_refl))
        exact ⟨[], (by repeat first | exact Wk.nil | exact Wk.refl | (apply Wk.cons; (focus ((repeat first | exact Rem.here | apply Rem.there | apply Rem.skip); done))) | apply Wk.nilv | apply Wk.last | apply Wk.drop), rfl, rfl⟩
  · rw [ftE_look he]
    generalize (lookM c).2 = ε at *
    repeat' (first
 | (apply G_call; eq_refl; eq_refl; (apply hrd; (repeat first | exact In.here | apply In.there | apply In.skip)); rintro _ _ ⟨rfl, rfl⟩)
 | (apply GC_seqK; intro K hK)
 | (apply hK; clear hK K)
 | (apply GC_block)
 | (apply GC_region)
 | (apply GL_nil)
 | (apply thenG_normal)
 | (apply thenG_ret)
 | (apply blockG_ret)
 | (apply GC_ret)
 | (apply GC_if_true; eq_refl)
 | (apply retGC1r; eq_refl; (repeat first | exact In.here | apply In.there | apply In.skip); eq_refl; eq_refl)
 | (apply GL_on; eq_refl; eq_refl)
 | (apply G_pv; eq_refl; first | exact trivial | omega)
 | (apply G_ldW; eq_refl; (repeat first | exact In.here | apply In.there | apply In.skip); eq_refl)
 | (apply G_cmpT; eq_refl; eq_refl; omega)
 | (apply G_alloc; eq_refl; intro _)
 | (apply G_box; eq_refl; eq_refl; intro _)
 | (apply G_stW; (first | exact wr_p | kernel_rfl); eq_refl; eq_refl; eq_refl; eq_refl; (repeat first | exact Upd.here | apply Upd.there | apply Upd.skip); eq_refl))
    exact ⟨[], (by repeat first | exact Wk.nil | exact Wk.refl | (apply Wk.cons; (focus ((repeat first | exact Rem.here | apply Rem.there | apply Rem.skip); done))) | apply Wk.nilv | apply Wk.last | apply Wk.drop), rfl, rfl⟩
theorem stepF_cv {w : World} {c : Circ} {h js : Hd} {t : Int} (R : Right c) (H : CirAt w c h js) (t0 : 0 ≤ t) (t1 : t ≤ 600) : CVN Try.prog 34 [.agg (ccells c h).toArray, nu t] w (CliR (stepS c t)) := by
  have n3 := R.nAnd
  have n4 := R.nCon
  have lg := gatesS_len c t
  have lc := consS_len c t
  have hg : ∀ Γ, In Γ (.old w none_) → ∀ w', Mem w' Γ → CVN Try.prog 62 ([.agg (ccells c h).toArray, nu t] ++ (#[] : Array Value).toList) w' _ := fun Γ hi w' M => gatesS_cv R (H.chg (hi.old M)) t0 t1
  have hc : ∀ Γ, In Γ (.old w none_) → ∀ w', Mem w' Γ → CVN Try.prog 63 ([.agg (ccells c h).toArray, nu t] ++ (#[] : Array Value).toList) w' _ := fun Γ hi w' M => consS_cv R (H.chg (hi.old M)) t0 t1
  refine CVN.enter 20 [4] Try.func34 rfl rfl rfl (by decide) rfl ?_
  repeat' (first
 | (apply GC_seqK; intro K hK)
 | (apply hK; clear hK K)
 | (apply GC_block)
 | (apply GC_region)
 | (apply GL_nil)
 | (apply thenG_normal)
 | (apply GL_on; eq_refl; eq_refl)
 | (apply G_pv; eq_refl; first | exact trivial | omega)
 | (apply G_box; eq_refl; eq_refl; intro _)
 | (apply GX_pure; apply build103_0_1 <;> eq_refl))
  rename_i b2
  refine GC_loopK [1, 2, 8] (fun s : Nat × List (Hdl × List Int) × Option Addr × Nat => [(5, .slice s.2.2.1 s.2.1.length s.2.2.2), (9, nu s.1)]) (fun s => [.any (bun (fam rowJ s.2.1)), .vec encS 1 67 s.2.2.1 s.2.2.2 s.2.1, .box b2 69 (ccells c h), .old w none_])
    (fun s => s.1 ≤ 2 ∧ s.2.1.map (·.2) = (if s.1 = 0 then [] else if s.1 = 1 then gatesS c t else stepS c t)) (fun s => 2 - s.1) (0, [], none, 0) (by repeat first | exact Pick.nil | (apply Pick.cons; eq_refl)) (by repeat first | exact trivial | refine ⟨rfl, ?_⟩) (rows_nil (Wk.nilv (by repeat first | exact Wk.nil | exact Wk.refl | (apply Wk.cons; (focus ((repeat first | exact Rem.here | apply Rem.there | apply Rem.skip); done))) | apply Wk.nilv | apply Wk.last | apply Wk.drop))) ⟨Nat.zero_le _, rfl⟩ ?_
  rintro ⟨i, ps, A, kA⟩ ⟨hi, hps⟩
  dsimp only at hi hps ⊢
  obtain rfl | rfl | rfl : i = 0 ∨ i = 1 ∨ i = 2 := by omega
  · have hp0 : ps = [] := by simpa using hps
    subst hp0
    repeat' (first
 | (apply G_index (elem := 102) (k := 2); kernel_rfl; eq_refl; eq_refl; omega; omega; eq_refl)
 | (apply G_callF; eq_refl; eq_refl; infer_instance; eq_refl; (apply hg; (repeat first | exact In.here | apply In.there | apply In.skip)); rintro _ _ ⟨qs, B, kB, rfl, hqs, rfl⟩)
 | (apply G_appV (enc := encS); (first | exact wr_p | kernel_rfl); eq_refl; eq_refl; (intro A c; (repeat first | exact Upd.here | apply Upd.there | apply Upd.skip)); infer_instance; (repeat first | exact In.here | apply In.there | apply In.skip); eq_refl; eq_refl; eq_refl; (have := congrArg List.length hqs; rw [List.length_map] at this; (try simp only [List.length_nil]); omega); decide; intro A9 k9)
 | (apply GC_seqK; intro K hK)
 | (apply hK; clear hK K)
 | (apply GC_block)
 | (apply GC_region)
 | (apply GL_nil)
 | (apply thenG_normal)
 | (apply blockG_normal)
 | (apply GC_skip)
 | (apply GC_if_true; eq_refl)
 | (apply GL_on; eq_refl; eq_refl)
 | (apply G_pv; eq_refl; first | exact trivial | omega)
 | (apply G_ldW; eq_refl; (repeat first | exact In.here | apply In.there | apply In.skip); eq_refl)
 | (apply G_cmpT; eq_refl; eq_refl; omega))
    exact ⟨(1, [] ++ qs, A9, k9), (by repeat first | exact trivial | refine ⟨rfl, ?_⟩), (by dsimp only; exact Wk.rows (by repeat first | exact Rem.here | apply Rem.there | apply Rem.skip) (by repeat first | exact Rem.here | apply Rem.there | apply Rem.skip) (by repeat first | exact Wk.nil | exact Wk.refl | (apply Wk.cons; (focus ((repeat first | exact Rem.here | apply Rem.there | apply Rem.skip); done))) | apply Wk.nilv | apply Wk.last | apply Wk.drop)), ⟨by simp only; omega, hqs⟩, by simp only; omega⟩
  · have hpl : ps.length = 3 * c.ands.length := by have := congrArg List.length hps; rw [List.length_map] at this; rw [this]; exact lg
    repeat' (first
 | (apply G_index (elem := 102) (k := 2); kernel_rfl; eq_refl; eq_refl; omega; omega; eq_refl)
 | (apply G_callF; eq_refl; eq_refl; infer_instance; eq_refl; (apply hc; (repeat first | exact In.here | apply In.there | apply In.skip)); rintro _ _ ⟨qs, B, kB, rfl, hqs, rfl⟩)
 | (apply G_appV (enc := encS); (first | exact wr_p | kernel_rfl); eq_refl; eq_refl; (intro A c; (repeat first | exact Upd.here | apply Upd.there | apply Upd.skip)); infer_instance; (repeat first | exact In.here | apply In.there | apply In.skip); eq_refl; eq_refl; eq_refl; (have := congrArg List.length hqs; rw [List.length_map] at this; (try simp only [List.length_nil]); omega); decide; intro A9 k9)
 | (apply GC_seqK; intro K hK)
 | (apply hK; clear hK K)
 | (apply GC_block)
 | (apply GC_region)
 | (apply GL_nil)
 | (apply thenG_normal)
 | (apply blockG_normal)
 | (apply GC_skip)
 | (apply GC_if_true; eq_refl)
 | (apply GL_on; eq_refl; eq_refl)
 | (apply G_pv; eq_refl; first | exact trivial | omega)
 | (apply G_ldW; eq_refl; (repeat first | exact In.here | apply In.there | apply In.skip); eq_refl)
 | (apply G_cmpT; eq_refl; eq_refl; omega))
    exact ⟨(2, ps ++ qs, A9, k9), (by repeat first | exact trivial | refine ⟨rfl, ?_⟩), (by dsimp only; exact Wk.rows (by repeat first | exact Rem.here | apply Rem.there | apply Rem.skip) (by repeat first | exact Rem.here | apply Rem.there | apply Rem.skip) (by repeat first | exact Wk.nil | exact Wk.refl | (apply Wk.cons; (focus ((repeat first | exact Rem.here | apply Rem.there | apply Rem.skip); done))) | apply Wk.nilv | apply Wk.last | apply Wk.drop)), ⟨by simp only; omega, by simp only; rw [List.map_append, hps, hqs]; rfl⟩, by simp only; omega⟩
  · repeat' (first
 | (apply GC_seqK; intro K hK)
 | (apply hK; clear hK K)
 | (clear hK K; apply hK; clear hK K)
 | (apply GC_region)
 | (apply GL_nil)
 | (apply thenG_normal)
 | (apply thenG_exit)
 | (apply blockG_hit)
 | (apply GC_ret)
 | (apply GC_exit)
 | (apply GC_if_false; eq_refl)
 | (apply retG1; eq_refl)
 | (apply GL_on; eq_refl; eq_refl)
 | (apply G_pv; eq_refl; first | exact trivial | omega)
 | (apply G_cmpF; eq_refl; eq_refl; omega))
    exact ⟨[.vec encS 1 67 A kA ps, .any (bun (fam rowJ ps))], (by repeat first | exact Wk.nil | exact Wk.refl | (apply Wk.cons; (focus ((repeat first | exact Rem.here | apply Rem.there | apply Rem.skip); done))) | apply Wk.nilv | apply Wk.last | apply Wk.drop), ps, A, kA, rfl, hps, rfl⟩
end SC
end Go.Proofs.Ytbmngkdnebklpaa
end
section
/- frames: Step, Next; the reference's. -/
set_option linter.unusedVariables false
set_option linter.unusedSimpArgs false
namespace Go.Proofs.Ytbmngkdnebklpaa
namespace SC
open Go.Proofs
noncomputable def stS (c : Circ) (t : Int) : List (List Int) := if ftE c t 511 (t + 1) = 0 then stepS c t else []
noncomputable def nxS (c : Circ) (t : Int) : List (List Int) := if ftE c t 510 (t + 2) = 0 then nextS c t else []
noncomputable def fsS (c : Circ) : List (List Int) := if ftE c 0 0 1 = 0 then firstS c else []
/-- Clauses and an error as an answer. -/
def CliT (m : List (List Int)) (ε : Int) (v : Value) (N : Mm) : Prop := ∃ ps A k, v = .tuple #[.slice A ps.length k, nu ε] ∧ ps.map (·.2) = m ∧ N = [.vec encS 1 67 A k ps, .any (bun (fam rowJ ps))]
attribute [local irreducible] WC WL WX WS WO OX Does DoesU Enters CV Pure thenQ blockQ retQ Wants retQC GC GL GS GX RdB thenG blockG retG Rd At gt CVN CVM
set_option maxRecDepth 100000
theorem StepP16_cv {w : World} {c : Circ} {h js : Hd} {t : Int} (H : CirIn w c h js) (hx : -9223372036854775808 ≤ t ∧ t ≤ 9223372036854775807) : CVN Try.prog 12 [.agg (ccells c h).toArray, nu t] w (CliT (stS c t) (ftE c t 511 (t + 1))) := by
  have hlk : ∀ n, (n = t + 1 ∨ 511 < t) → ∀ Γ, In Γ (.old w none_) → ∀ w', Mem w' Γ → CVN Try.prog 36 [.agg (ccells c h).toArray, nu t, nu 511, nu n] w' fun v N => N = [] ∧ v = .tuple #[.agg (ccells c h).toArray, nu (ftE c t 511 (t + 1))] := fun n hn Γ hi w' M => by
    have := looked_cv (t := t) (most := 511) (n := n) (H.chg (hi.old M)) (fun h0 h1 => by omega)
    rcases hn with rfl | hb
    · exact this
    · rw [ftE_n n (t + 1) (.inr hb)] at this
      exact this
  refine CVN.enter 22 [4, 5] Try.func12 rfl rfl rfl (by decide) rfl ?_
  by_cases hz : ftE c t 511 (t + 1) = 0
  · obtain ⟨he, t0, t1, _⟩ := ftE_zero hz
    have R := right_of H.at_ H.sane he
    have hst : ∀ Γ, In Γ (.old w none_) → ∀ w', Mem w' Γ → CVN Try.prog 34 [.agg (ccells c h).toArray, nu t] w' (CliR (stepS c t)) := fun Γ hi w' M => stepF_cv R (H.at_.chg (hi.old M)) t0 (by omega)
    rw [show stS c t = stepS c t from if_pos hz, hz]
    rw [hz] at hlk
    repeat' (first
 | (apply G_call; eq_refl; eq_refl; (apply (hlk _ (.inl rfl)); (repeat first | exact In.here | apply In.there | apply In.skip)); rintro _ _ ⟨rfl, rfl⟩)
 | (apply G_call; eq_refl; eq_refl; (apply hst; (repeat first | exact In.here | apply In.there | apply In.skip)); rintro _ _ ⟨ps, A, kA, rfl, hps, rfl⟩)
 | (apply GC_seqK; intro K hK)
 | (apply hK; clear hK K)
 | (apply GC_region)
 | (apply GL_nil)
 | (apply thenG_normal)
 | (apply GC_ret)
 | (apply GC_skip)
 | (apply GC_if_false; eq_refl)
 | (apply retG2; eq_refl; eq_refl)
 | (apply GL_on; eq_refl; eq_refl)
 | (apply G_pv; eq_refl; first | exact trivial | omega)
 | (apply G_ldW; eq_refl; (repeat first | exact In.here | apply In.there | apply In.skip); eq_refl)
 | (apply G_cmpF; eq_refl; eq_refl; omega)
 | (apply G_alloc; eq_refl; intro _)
 | (apply G_box; eq_refl; eq_refl; intro _)
 | (apply G_stW; (first | exact wr_p | kernel_rfl); eq_refl; eq_refl; eq_refl; eq_refl; (repeat first | exact Upd.here | apply Upd.there | apply Upd.skip); eq_refl))
    exact ⟨[.vec encS 1 67 A kA ps, .any (bun (fam rowJ ps))], (by repeat first | exact Wk.nil | exact Wk.refl | (apply Wk.cons; (focus ((repeat first | exact Rem.here | apply Rem.there | apply Rem.skip); done))) | apply Wk.nilv | apply Wk.last | apply Wk.drop), ps, A, kA, rfl, hps, rfl⟩
  · rw [show stS c t = [] from if_neg hz]
    generalize ftE c t 511 (t + 1) = ε at *
    by_cases hb : 511 < t
    · repeat' (first
 | (apply G_addW; eq_refl; eq_refl)
 | (apply G_call; eq_refl; eq_refl; (apply (hlk _ (.inr hb)); (repeat first | exact In.here | apply In.there | apply In.skip)); rintro _ _ ⟨rfl, rfl⟩)
 | (apply GC_seqK; intro K hK)
 | (apply hK; clear hK K)
 | (apply GC_region)
 | (apply GL_nil)
 | (apply thenG_normal)
 | (apply thenG_ret)
 | (apply GC_ret)
 | (apply GC_if_true; eq_refl)
 | (apply retG2; eq_refl; eq_refl)
 | (apply GL_on; eq_refl; eq_refl)
 | (apply G_pv; eq_refl; first | exact trivial | omega)
 | (apply G_ldW; eq_refl; (repeat first | exact In.here | apply In.there | apply In.skip); eq_refl)
 | (apply G_cmpT; eq_refl; eq_refl; omega)
 | (apply G_alloc; eq_refl; intro _)
 | (apply G_box; eq_refl; eq_refl; intro _)
 | (apply G_stW; (first | exact wr_p | kernel_rfl); eq_refl; eq_refl; eq_refl; eq_refl; (repeat first | exact Upd.here | apply Upd.there | apply Upd.skip); eq_refl))
      exact ⟨[.vec encS 1 67 none 0 [], .any (bun (fam rowJ []))], Wk.nilv (rows_nil (by repeat first | exact Wk.nil | exact Wk.refl | (apply Wk.cons; (focus ((repeat first | exact Rem.here | apply Rem.there | apply Rem.skip); done))) | apply Wk.nilv | apply Wk.last | apply Wk.drop)), [], none, 0, rfl, rfl, rfl⟩
    · repeat' (first
 | (apply G_call; eq_refl; eq_refl; (apply (hlk _ (.inl rfl)); (repeat first | exact In.here | apply In.there | apply In.skip)); rintro _ _ ⟨rfl, rfl⟩)
 | (apply GC_seqK; intro K hK)
 | (apply hK; clear hK K)
 | (apply GC_region)
 | (apply GL_nil)
 | (apply thenG_normal)
 | (apply thenG_ret)
 | (apply GC_ret)
 | (apply GC_if_true; eq_refl)
 | (apply retG2; eq_refl; eq_refl)
 | (apply GL_on; eq_refl; eq_refl)
 | (apply G_pv; eq_refl; first | exact trivial | omega)
 | (apply G_ldW; eq_refl; (repeat first | exact In.here | apply In.there | apply In.skip); eq_refl)
 | (apply G_cmpT; eq_refl; eq_refl; omega)
 | (apply G_alloc; eq_refl; intro _)
 | (apply G_box; eq_refl; eq_refl; intro _)
 | (apply G_stW; (first | exact wr_p | kernel_rfl); eq_refl; eq_refl; eq_refl; eq_refl; (repeat first | exact Upd.here | apply Upd.there | apply Upd.skip); eq_refl))
      exact ⟨[.vec encS 1 67 none 0 [], .any (bun (fam rowJ []))], Wk.nilv (rows_nil (by repeat first | exact Wk.nil | exact Wk.refl | (apply Wk.cons; (focus ((repeat first | exact Rem.here | apply Rem.there | apply Rem.skip); done))) | apply Wk.nilv | apply Wk.last | apply Wk.drop)), [], none, 0, rfl, rfl, rfl⟩
theorem NextP16_cv {w : World} {c : Circ} {h js : Hd} {t : Int} (H : CirIn w c h js) (hx : -9223372036854775808 ≤ t ∧ t ≤ 9223372036854775807) : CVN Try.prog 11 [.agg (ccells c h).toArray, nu t] w (CliT (nxS c t) (ftE c t 510 (t + 2))) := by
  have hlk : ∀ n, (n = t + 2 ∨ 510 < t) → ∀ Γ, In Γ (.old w none_) → ∀ w', Mem w' Γ → CVN Try.prog 36 [.agg (ccells c h).toArray, nu t, nu 510, nu n] w' fun v N => N = [] ∧ v = .tuple #[.agg (ccells c h).toArray, nu (ftE c t 510 (t + 2))] := fun n hn Γ hi w' M => by
    have := looked_cv (t := t) (most := 510) (n := n) (H.chg (hi.old M)) (fun h0 h1 => by omega)
    rcases hn with rfl | hb
    · exact this
    · rw [ftE_n n (t + 2) (.inr hb)] at this
      exact this
  refine CVN.enter 22 [4, 5] Try.func11 rfl rfl rfl (by decide) rfl ?_
  by_cases hz : ftE c t 510 (t + 2) = 0
  · obtain ⟨he, t0, t1, _⟩ := ftE_zero hz
    have R := right_of H.at_ H.sane he
    have hst : ∀ Γ, In Γ (.old w none_) → ∀ w', Mem w' Γ → CVN Try.prog 35 [.agg (ccells c h).toArray, nu t] w' (CliR (nextS c t)) := fun Γ hi w' M => nextS_cv R (H.at_.chg (hi.old M)) t0 (by omega)
    rw [show nxS c t = nextS c t from if_pos hz, hz]
    rw [hz] at hlk
    repeat' (first
 | (apply G_call; eq_refl; eq_refl; (apply (hlk _ (.inl rfl)); (repeat first | exact In.here | apply In.there | apply In.skip)); rintro _ _ ⟨rfl, rfl⟩)
 | (apply G_call; eq_refl; eq_refl; (apply hst; (repeat first | exact In.here | apply In.there | apply In.skip)); rintro _ _ ⟨ps, A, kA, rfl, hps, rfl⟩)
 | (apply GC_seqK; intro K hK)
 | (apply hK; clear hK K)
 | (apply GC_region)
 | (apply GL_nil)
 | (apply thenG_normal)
 | (apply GC_ret)
 | (apply GC_skip)
 | (apply GC_if_false; eq_refl)
 | (apply retG2; eq_refl; eq_refl)
 | (apply GL_on; eq_refl; eq_refl)
 | (apply G_pv; eq_refl; first | exact trivial | omega)
 | (apply G_ldW; eq_refl; (repeat first | exact In.here | apply In.there | apply In.skip); eq_refl)
 | (apply G_cmpF; eq_refl; eq_refl; omega)
 | (apply G_alloc; eq_refl; intro _)
 | (apply G_box; eq_refl; eq_refl; intro _)
 | (apply G_stW; (first | exact wr_p | kernel_rfl); eq_refl; eq_refl; eq_refl; eq_refl; (repeat first | exact Upd.here | apply Upd.there | apply Upd.skip); eq_refl))
    exact ⟨[.vec encS 1 67 A kA ps, .any (bun (fam rowJ ps))], (by repeat first | exact Wk.nil | exact Wk.refl | (apply Wk.cons; (focus ((repeat first | exact Rem.here | apply Rem.there | apply Rem.skip); done))) | apply Wk.nilv | apply Wk.last | apply Wk.drop), ps, A, kA, rfl, hps, rfl⟩
  · rw [show nxS c t = [] from if_neg hz]
    generalize ftE c t 510 (t + 2) = ε at *
    by_cases hb : 510 < t
    · repeat' (first
 | (apply G_addW; eq_refl; eq_refl)
 | (apply G_call; eq_refl; eq_refl; (apply (hlk _ (.inr hb)); (repeat first | exact In.here | apply In.there | apply In.skip)); rintro _ _ ⟨rfl, rfl⟩)
 | (apply GC_seqK; intro K hK)
 | (apply hK; clear hK K)
 | (apply GC_region)
 | (apply GL_nil)
 | (apply thenG_normal)
 | (apply thenG_ret)
 | (apply GC_ret)
 | (apply GC_if_true; eq_refl)
 | (apply retG2; eq_refl; eq_refl)
 | (apply GL_on; eq_refl; eq_refl)
 | (apply G_pv; eq_refl; first | exact trivial | omega)
 | (apply G_ldW; eq_refl; (repeat first | exact In.here | apply In.there | apply In.skip); eq_refl)
 | (apply G_cmpT; eq_refl; eq_refl; omega)
 | (apply G_alloc; eq_refl; intro _)
 | (apply G_box; eq_refl; eq_refl; intro _)
 | (apply G_stW; (first | exact wr_p | kernel_rfl); eq_refl; eq_refl; eq_refl; eq_refl; (repeat first | exact Upd.here | apply Upd.there | apply Upd.skip); eq_refl))
      exact ⟨[.vec encS 1 67 none 0 [], .any (bun (fam rowJ []))], Wk.nilv (rows_nil (by repeat first | exact Wk.nil | exact Wk.refl | (apply Wk.cons; (focus ((repeat first | exact Rem.here | apply Rem.there | apply Rem.skip); done))) | apply Wk.nilv | apply Wk.last | apply Wk.drop)), [], none, 0, rfl, rfl, rfl⟩
    · repeat' (first
 | (apply G_call; eq_refl; eq_refl; (apply (hlk _ (.inl rfl)); (repeat first | exact In.here | apply In.there | apply In.skip)); rintro _ _ ⟨rfl, rfl⟩)
 | (apply GC_seqK; intro K hK)
 | (apply hK; clear hK K)
 | (apply GC_region)
 | (apply GL_nil)
 | (apply thenG_normal)
 | (apply thenG_ret)
 | (apply GC_ret)
 | (apply GC_if_true; eq_refl)
 | (apply retG2; eq_refl; eq_refl)
 | (apply GL_on; eq_refl; eq_refl)
 | (apply G_pv; eq_refl; first | exact trivial | omega)
 | (apply G_ldW; eq_refl; (repeat first | exact In.here | apply In.there | apply In.skip); eq_refl)
 | (apply G_cmpT; eq_refl; eq_refl; omega)
 | (apply G_alloc; eq_refl; intro _)
 | (apply G_box; eq_refl; eq_refl; intro _)
 | (apply G_stW; (first | exact wr_p | kernel_rfl); eq_refl; eq_refl; eq_refl; eq_refl; (repeat first | exact Upd.here | apply Upd.there | apply Upd.skip); eq_refl))
      exact ⟨[.vec encS 1 67 none 0 [], .any (bun (fam rowJ []))], Wk.nilv (rows_nil (by repeat first | exact Wk.nil | exact Wk.refl | (apply Wk.cons; (focus ((repeat first | exact Rem.here | apply Rem.there | apply Rem.skip); done))) | apply Wk.nilv | apply Wk.last | apply Wk.drop)), [], none, 0, rfl, rfl, rfl⟩
theorem StepR16_cv {w : World} {c : Circ} {h js : Hd} {t : Int} (H : CirIn w c h js) (hx : -9223372036854775808 ≤ t ∧ t ≤ 9223372036854775807) : CVN Try.prog 24 [.agg (ccells c h).toArray, nu t] w (CliT (stS c t) (ftE c t 511 (t + 1))) := by
  have hck : ∀ Γ, In Γ (.old w none_) → ∀ w', Mem w' Γ → CVN Try.prog 50 [.agg (ccells c h).toArray] w' fun v N => N = [] ∧ v = .tuple #[nu (lookM c).1, nu (lookM c).2] := fun Γ hi w' M => have H' := H.chg (hi.old M); CVN.of (checkRef_cv H'.at_ H'.sane H'.okay H'.fits) fun v w' h => ⟨h.2, h.1⟩
  refine CVN.enter 30 [4, 5] Try.func24 rfl rfl rfl (by decide) rfl ?_
  by_cases he : (lookM c).2 = 0
  · have R := right_of H.at_ H.sane he
    have m0 := R.m0
    have m1 := R.m1
    rw [he] at hck
    generalize (lookM c).1 = n0 at *
    by_cases hr : t < 0 ∨ 511 < t
    · have hz := ftE_rg (n := t + 1) he hr
      rw [show stS c t = [] from if_neg (by rw [hz]; decide), hz]
      by_cases h0 : t < 0
      · repeat' (first
 | (apply G_call; eq_refl; eq_refl; (apply hck; (repeat first | exact In.here | apply In.there | apply In.skip)); rintro _ _ ⟨rfl, rfl⟩)
 | (apply GC_seqK; intro K hK)
 | (apply hK; clear hK K)
 | (apply GC_region)
 | (apply GL_nil)
 | (apply thenG_normal)
 | (apply thenG_ret)
 | (apply GC_ret)
 | (apply GC_skip)
 | (apply GC_if_true; eq_refl)
 | (apply GC_if_false; eq_refl)
 | (apply retG2; eq_refl; eq_refl)
 | (apply GL_on; eq_refl; eq_refl)
 | (apply GL_off; eq_refl; eq_refl)
 | (apply G_pv; eq_refl; first | exact trivial | omega)
 | (apply G_ldW; eq_refl; (repeat first | exact In.here | apply In.there | apply In.skip); eq_refl)
 | (apply G_cmpT; eq_refl; eq_refl; omega)
 | (apply G_cmpF; eq_refl; eq_refl; omega)
 | (apply G_box; eq_refl; eq_refl; intro _))
        exact ⟨[.vec encS 1 67 none 0 [], .any (bun (fam rowJ []))], Wk.nilv (rows_nil (by repeat first | exact Wk.nil | exact Wk.refl | (apply Wk.cons; (focus ((repeat first | exact Rem.here | apply Rem.there | apply Rem.skip); done))) | apply Wk.nilv | apply Wk.last | apply Wk.drop)), [], none, 0, rfl, rfl, rfl⟩
      · repeat' (first
 | (apply G_call; eq_refl; eq_refl; (apply hck; (repeat first | exact In.here | apply In.there | apply In.skip)); rintro _ _ ⟨rfl, rfl⟩)
 | (apply GC_seqK; intro K hK)
 | (apply hK; clear hK K)
 | (apply GC_region)
 | (apply GL_nil)
 | (apply thenG_normal)
 | (apply thenG_ret)
 | (apply GC_ret)
 | (apply GC_skip)
 | (apply GC_if_true; eq_refl)
 | (apply GC_if_false; eq_refl)
 | (apply retG2; eq_refl; eq_refl)
 | (apply GL_on; eq_refl; eq_refl)
 | (apply G_pv; eq_refl; first | exact trivial | omega)
 | (apply G_ldW; eq_refl; (repeat first | exact In.here | apply In.there | apply In.skip); eq_refl)
 | (apply G_cmpT; eq_refl; eq_refl; omega)
 | (apply G_cmpF; eq_refl; eq_refl; omega)
 | (apply G_box; eq_refl; eq_refl; intro _))
        exact ⟨[.vec encS 1 67 none 0 [], .any (bun (fam rowJ []))], Wk.nilv (rows_nil (by repeat first | exact Wk.nil | exact Wk.refl | (apply Wk.cons; (focus ((repeat first | exact Rem.here | apply Rem.there | apply Rem.skip); done))) | apply Wk.nilv | apply Wk.last | apply Wk.drop)), [], none, 0, rfl, rfl, rfl⟩
    · obtain ⟨z0, z1⟩ := mul_le (by omega : 0 ≤ t + 1) (by omega : t + 1 ≤ 600) m0 m1
      by_cases hs : 262144 < 1 + (t + 1) * c.max
      · have hz := ftE_sz (n := t + 1) he hr hs
        have hf : ∀ Γ, ∀ w', Mem w' Γ → CVN Try.prog 51 [.agg (ccells c h).toArray, nu (t + 1)] w' fun v N => N = [] ∧ v = .bool false := fun Γ w' M => by
          have := fits_cv (w := w') (h := h) z0 z1
          rw [decide_eq_false (by omega)] at this
          exact this
        rw [show stS c t = [] from if_neg (by rw [hz]; decide), hz]
        repeat' (first
 | (apply G_call; eq_refl; eq_refl; (apply hck; (repeat first | exact In.here | apply In.there | apply In.skip)); rintro _ _ ⟨rfl, rfl⟩)
 | (apply G_call; eq_refl; eq_refl; (apply hf); rintro _ _ ⟨rfl, rfl⟩)
 | (apply GC_seqK; intro K hK)
 | (apply hK; clear hK K)
 | (apply GC_region)
 | (apply GL_nil)
 | (apply thenG_normal)
 | (apply thenG_ret)
 | (apply GC_ret)
 | (apply GC_skip)
 | (apply GC_if_true; eq_refl)
 | (apply GC_if_false; eq_refl)
 | (apply retG2; eq_refl; eq_refl)
 | (apply GL_on; eq_refl; eq_refl)
 | (apply G_pv; eq_refl; first | exact trivial | omega)
 | (apply G_ldW; eq_refl; (repeat first | exact In.here | apply In.there | apply In.skip); eq_refl)
 | (apply G_cmpF; eq_refl; eq_refl; omega)
 | (apply G_box; eq_refl; eq_refl; intro _))
        exact ⟨[.vec encS 1 67 none 0 [], .any (bun (fam rowJ []))], Wk.nilv (rows_nil (by repeat first | exact Wk.nil | exact Wk.refl | (apply Wk.cons; (focus ((repeat first | exact Rem.here | apply Rem.there | apply Rem.skip); done))) | apply Wk.nilv | apply Wk.last | apply Wk.drop)), [], none, 0, rfl, rfl, rfl⟩
      · have hz := ftE_ok (n := t + 1) he hr hs
        have hf : ∀ Γ, ∀ w', Mem w' Γ → CVN Try.prog 51 [.agg (ccells c h).toArray, nu (t + 1)] w' fun v N => N = [] ∧ v = .bool true := fun Γ w' M => by
          have := fits_cv (w := w') (h := h) z0 z1
          rw [decide_eq_true (by omega)] at this
          exact this
        have hst : ∀ Γ, In Γ (.old w none_) → ∀ w', Mem w' Γ → CVN Try.prog 55 [.agg (ccells c h).toArray, nu t] w' (CliR (stepS c t)) := fun Γ hi w' M => step0_cv R (H.at_.chg (hi.old M)) (by omega) (by omega)
        rw [show stS c t = stepS c t from if_pos hz, hz]
        repeat' (first
 | (apply G_call; eq_refl; eq_refl; (apply hck; (repeat first | exact In.here | apply In.there | apply In.skip)); rintro _ _ ⟨rfl, rfl⟩)
 | (apply G_call; eq_refl; eq_refl; (apply hf); rintro _ _ ⟨rfl, rfl⟩)
 | (apply G_call; eq_refl; eq_refl; (apply hst; (repeat first | exact In.here | apply In.there | apply In.skip)); rintro _ _ ⟨ps, A, kA, rfl, hps, rfl⟩)
 | (apply GC_seqK; intro K hK)
 | (apply hK; clear hK K)
 | (apply GC_region)
 | (apply GL_nil)
 | (apply thenG_normal)
 | (apply GC_ret)
 | (apply GC_skip)
 | (apply GC_if_false; eq_refl)
 | (apply retG2; eq_refl; eq_refl)
 | (apply GL_on; eq_refl; eq_refl)
 | (apply G_pv; eq_refl; first | exact trivial | omega)
 | (apply G_ldW; eq_refl; (repeat first | exact In.here | apply In.there | apply In.skip); eq_refl)
 | (apply G_cmpF; eq_refl; eq_refl; omega)
 | (apply G_box; eq_refl; eq_refl; intro _))
        exact ⟨[.vec encS 1 67 A kA ps, .any (bun (fam rowJ ps))], (by repeat first | exact Wk.nil | exact Wk.refl | (apply Wk.cons; (focus ((repeat first | exact Rem.here | apply Rem.there | apply Rem.skip); done))) | apply Wk.nilv | apply Wk.last | apply Wk.drop), ps, A, kA, rfl, hps, rfl⟩
  · have hz := ftE_look (t := t) (most := 511) (n := t + 1) he
    rw [show stS c t = [] from if_neg (by rw [hz]; exact he), hz]
    generalize (lookM c).1 = n0 at *
    generalize (lookM c).2 = ε at *
    repeat' (first
 | (apply G_call; eq_refl; eq_refl; (apply hck; (repeat first | exact In.here | apply In.there | apply In.skip)); rintro _ _ ⟨rfl, rfl⟩)
 | (apply GC_seqK; intro K hK)
 | (apply hK; clear hK K)
 | (apply GC_region)
 | (apply GL_nil)
 | (apply thenG_normal)
 | (apply thenG_ret)
 | (apply GC_ret)
 | (apply GC_if_true; eq_refl)
 | (apply retG2; eq_refl; eq_refl)
 | (apply GL_on; eq_refl; eq_refl)
 | (apply G_pv; eq_refl; first | exact trivial | omega)
 | (apply G_ldW; eq_refl; (repeat first | exact In.here | apply In.there | apply In.skip); eq_refl)
 | (apply G_cmpT; eq_refl; eq_refl; omega)
 | (apply G_box; eq_refl; eq_refl; intro _))
    exact ⟨[.vec encS 1 67 none 0 [], .any (bun (fam rowJ []))], Wk.nilv (rows_nil (by repeat first | exact Wk.nil | exact Wk.refl | (apply Wk.cons; (focus ((repeat first | exact Rem.here | apply Rem.there | apply Rem.skip); done))) | apply Wk.nilv | apply Wk.last | apply Wk.drop)), [], none, 0, rfl, rfl, rfl⟩
theorem NextR16_cv {w : World} {c : Circ} {h js : Hd} {t : Int} (H : CirIn w c h js) (hx : -9223372036854775808 ≤ t ∧ t ≤ 9223372036854775807) : CVN Try.prog 25 [.agg (ccells c h).toArray, nu t] w (CliT (nxS c t) (ftE c t 510 (t + 2))) := by
  have hck : ∀ Γ, In Γ (.old w none_) → ∀ w', Mem w' Γ → CVN Try.prog 50 [.agg (ccells c h).toArray] w' fun v N => N = [] ∧ v = .tuple #[nu (lookM c).1, nu (lookM c).2] := fun Γ hi w' M => have H' := H.chg (hi.old M); CVN.of (checkRef_cv H'.at_ H'.sane H'.okay H'.fits) fun v w' h => ⟨h.2, h.1⟩
  refine CVN.enter 30 [4, 5] Try.func25 rfl rfl rfl (by decide) rfl ?_
  by_cases he : (lookM c).2 = 0
  · have R := right_of H.at_ H.sane he
    have m0 := R.m0
    have m1 := R.m1
    rw [he] at hck
    generalize (lookM c).1 = n0 at *
    by_cases hr : t < 0 ∨ 510 < t
    · have hz := ftE_rg (n := t + 2) he hr
      rw [show nxS c t = [] from if_neg (by rw [hz]; decide), hz]
      by_cases h0 : t < 0
      · repeat' (first
 | (apply G_call; eq_refl; eq_refl; (apply hck; (repeat first | exact In.here | apply In.there | apply In.skip)); rintro _ _ ⟨rfl, rfl⟩)
 | (apply GC_seqK; intro K hK)
 | (apply hK; clear hK K)
 | (apply GC_region)
 | (apply GL_nil)
 | (apply thenG_normal)
 | (apply thenG_ret)
 | (apply GC_ret)
 | (apply GC_skip)
 | (apply GC_if_true; eq_refl)
 | (apply GC_if_false; eq_refl)
 | (apply retG2; eq_refl; eq_refl)
 | (apply GL_on; eq_refl; eq_refl)
 | (apply GL_off; eq_refl; eq_refl)
 | (apply G_pv; eq_refl; first | exact trivial | omega)
 | (apply G_ldW; eq_refl; (repeat first | exact In.here | apply In.there | apply In.skip); eq_refl)
 | (apply G_cmpT; eq_refl; eq_refl; omega)
 | (apply G_cmpF; eq_refl; eq_refl; omega)
 | (apply G_box; eq_refl; eq_refl; intro _))
        exact ⟨[.vec encS 1 67 none 0 [], .any (bun (fam rowJ []))], Wk.nilv (rows_nil (by repeat first | exact Wk.nil | exact Wk.refl | (apply Wk.cons; (focus ((repeat first | exact Rem.here | apply Rem.there | apply Rem.skip); done))) | apply Wk.nilv | apply Wk.last | apply Wk.drop)), [], none, 0, rfl, rfl, rfl⟩
      · repeat' (first
 | (apply G_call; eq_refl; eq_refl; (apply hck; (repeat first | exact In.here | apply In.there | apply In.skip)); rintro _ _ ⟨rfl, rfl⟩)
 | (apply GC_seqK; intro K hK)
 | (apply hK; clear hK K)
 | (apply GC_region)
 | (apply GL_nil)
 | (apply thenG_normal)
 | (apply thenG_ret)
 | (apply GC_ret)
 | (apply GC_skip)
 | (apply GC_if_true; eq_refl)
 | (apply GC_if_false; eq_refl)
 | (apply retG2; eq_refl; eq_refl)
 | (apply GL_on; eq_refl; eq_refl)
 | (apply G_pv; eq_refl; first | exact trivial | omega)
 | (apply G_ldW; eq_refl; (repeat first | exact In.here | apply In.there | apply In.skip); eq_refl)
 | (apply G_cmpT; eq_refl; eq_refl; omega)
 | (apply G_cmpF; eq_refl; eq_refl; omega)
 | (apply G_box; eq_refl; eq_refl; intro _))
        exact ⟨[.vec encS 1 67 none 0 [], .any (bun (fam rowJ []))], Wk.nilv (rows_nil (by repeat first | exact Wk.nil | exact Wk.refl | (apply Wk.cons; (focus ((repeat first | exact Rem.here | apply Rem.there | apply Rem.skip); done))) | apply Wk.nilv | apply Wk.last | apply Wk.drop)), [], none, 0, rfl, rfl, rfl⟩
    · obtain ⟨z0, z1⟩ := mul_le (by omega : 0 ≤ t + 2) (by omega : t + 2 ≤ 600) m0 m1
      by_cases hs : 262144 < 1 + (t + 2) * c.max
      · have hz := ftE_sz (n := t + 2) he hr hs
        have hf : ∀ Γ, ∀ w', Mem w' Γ → CVN Try.prog 51 [.agg (ccells c h).toArray, nu (t + 2)] w' fun v N => N = [] ∧ v = .bool false := fun Γ w' M => by
          have := fits_cv (w := w') (h := h) z0 z1
          rw [decide_eq_false (by omega)] at this
          exact this
        rw [show nxS c t = [] from if_neg (by rw [hz]; decide), hz]
        repeat' (first
 | (apply G_call; eq_refl; eq_refl; (apply hck; (repeat first | exact In.here | apply In.there | apply In.skip)); rintro _ _ ⟨rfl, rfl⟩)
 | (apply G_call; eq_refl; eq_refl; (apply hf); rintro _ _ ⟨rfl, rfl⟩)
 | (apply GC_seqK; intro K hK)
 | (apply hK; clear hK K)
 | (apply GC_region)
 | (apply GL_nil)
 | (apply thenG_normal)
 | (apply thenG_ret)
 | (apply GC_ret)
 | (apply GC_skip)
 | (apply GC_if_true; eq_refl)
 | (apply GC_if_false; eq_refl)
 | (apply retG2; eq_refl; eq_refl)
 | (apply GL_on; eq_refl; eq_refl)
 | (apply G_pv; eq_refl; first | exact trivial | omega)
 | (apply G_ldW; eq_refl; (repeat first | exact In.here | apply In.there | apply In.skip); eq_refl)
 | (apply G_cmpF; eq_refl; eq_refl; omega)
 | (apply G_box; eq_refl; eq_refl; intro _))
        exact ⟨[.vec encS 1 67 none 0 [], .any (bun (fam rowJ []))], Wk.nilv (rows_nil (by repeat first | exact Wk.nil | exact Wk.refl | (apply Wk.cons; (focus ((repeat first | exact Rem.here | apply Rem.there | apply Rem.skip); done))) | apply Wk.nilv | apply Wk.last | apply Wk.drop)), [], none, 0, rfl, rfl, rfl⟩
      · have hz := ftE_ok (n := t + 2) he hr hs
        have hf : ∀ Γ, ∀ w', Mem w' Γ → CVN Try.prog 51 [.agg (ccells c h).toArray, nu (t + 2)] w' fun v N => N = [] ∧ v = .bool true := fun Γ w' M => by
          have := fits_cv (w := w') (h := h) z0 z1
          rw [decide_eq_true (by omega)] at this
          exact this
        have hst : ∀ Γ, In Γ (.old w none_) → ∀ w', Mem w' Γ → CVN Try.prog 56 [.agg (ccells c h).toArray, nu t] w' (CliR (nextS c t)) := fun Γ hi w' M => next0_cv R (H.at_.chg (hi.old M)) (by omega) (by omega)
        rw [show nxS c t = nextS c t from if_pos hz, hz]
        repeat' (first
 | (apply G_call; eq_refl; eq_refl; (apply hck; (repeat first | exact In.here | apply In.there | apply In.skip)); rintro _ _ ⟨rfl, rfl⟩)
 | (apply G_call; eq_refl; eq_refl; (apply hf); rintro _ _ ⟨rfl, rfl⟩)
 | (apply G_call; eq_refl; eq_refl; (apply hst; (repeat first | exact In.here | apply In.there | apply In.skip)); rintro _ _ ⟨ps, A, kA, rfl, hps, rfl⟩)
 | (apply GC_seqK; intro K hK)
 | (apply hK; clear hK K)
 | (apply GC_region)
 | (apply GL_nil)
 | (apply thenG_normal)
 | (apply GC_ret)
 | (apply GC_skip)
 | (apply GC_if_false; eq_refl)
 | (apply retG2; eq_refl; eq_refl)
 | (apply GL_on; eq_refl; eq_refl)
 | (apply G_pv; eq_refl; first | exact trivial | omega)
 | (apply G_ldW; eq_refl; (repeat first | exact In.here | apply In.there | apply In.skip); eq_refl)
 | (apply G_cmpF; eq_refl; eq_refl; omega)
 | (apply G_box; eq_refl; eq_refl; intro _))
        exact ⟨[.vec encS 1 67 A kA ps, .any (bun (fam rowJ ps))], (by repeat first | exact Wk.nil | exact Wk.refl | (apply Wk.cons; (focus ((repeat first | exact Rem.here | apply Rem.there | apply Rem.skip); done))) | apply Wk.nilv | apply Wk.last | apply Wk.drop), ps, A, kA, rfl, hps, rfl⟩
  · have hz := ftE_look (t := t) (most := 510) (n := t + 2) he
    rw [show nxS c t = [] from if_neg (by rw [hz]; exact he), hz]
    generalize (lookM c).1 = n0 at *
    generalize (lookM c).2 = ε at *
    repeat' (first
 | (apply G_call; eq_refl; eq_refl; (apply hck; (repeat first | exact In.here | apply In.there | apply In.skip)); rintro _ _ ⟨rfl, rfl⟩)
 | (apply GC_seqK; intro K hK)
 | (apply hK; clear hK K)
 | (apply GC_region)
 | (apply GL_nil)
 | (apply thenG_normal)
 | (apply thenG_ret)
 | (apply GC_ret)
 | (apply GC_if_true; eq_refl)
 | (apply retG2; eq_refl; eq_refl)
 | (apply GL_on; eq_refl; eq_refl)
 | (apply G_pv; eq_refl; first | exact trivial | omega)
 | (apply G_ldW; eq_refl; (repeat first | exact In.here | apply In.there | apply In.skip); eq_refl)
 | (apply G_cmpT; eq_refl; eq_refl; omega)
 | (apply G_box; eq_refl; eq_refl; intro _))
    exact ⟨[.vec encS 1 67 none 0 [], .any (bun (fam rowJ []))], Wk.nilv (rows_nil (by repeat first | exact Wk.nil | exact Wk.refl | (apply Wk.cons; (focus ((repeat first | exact Rem.here | apply Rem.there | apply Rem.skip); done))) | apply Wk.nilv | apply Wk.last | apply Wk.drop)), [], none, 0, rfl, rfl, rfl⟩
end SC
end Go.Proofs.Ytbmngkdnebklpaa
end
section
/- frames: First, Lit, Vars; the reference's. -/
set_option linter.unusedVariables false
set_option linter.unusedSimpArgs false
namespace Go.Proofs.Ytbmngkdnebklpaa
namespace SC
open Go.Proofs
/-- What is wrong with a literal at a step. -/
noncomputable def ltE (c : Circ) (l t : Int) : Int := if (lookM c).2 ≠ 0 then (lookM c).2 else if l < 0 ∨ 2 * c.max + 1 < l then 1 else ftE c t 511 (t + 1)
noncomputable def ltM (c : Circ) (l t : Int) : Int := if ltE c l t = 0 then atM c.max l t else 0
noncomputable def vrM (c : Circ) (n : Int) : Int := if vrE c n = 0 then 1 + n * c.max else 0
theorem ltE_look {c : Circ} {l t : Int} (h : (lookM c).2 ≠ 0) : ltE c l t = (lookM c).2 := if_pos h
theorem ltE_rg {c : Circ} {l t : Int} (h : (lookM c).2 = 0) (h2 : l < 0 ∨ 2 * c.max + 1 < l) : ltE c l t = 1 := by unfold ltE; rw [if_neg (by omega), if_pos h2]
theorem ltE_in {c : Circ} {l t : Int} (h : (lookM c).2 = 0) (h2 : ¬ (l < 0 ∨ 2 * c.max + 1 < l)) : ltE c l t = ftE c t 511 (t + 1) := by unfold ltE; rw [if_neg (by omega), if_neg h2]
theorem ltM_no {c : Circ} {l t : Int} (h : ltE c l t ≠ 0) : ltM c l t = 0 := if_neg h
theorem ltM_ok {c : Circ} {l t : Int} (h : ltE c l t = 0) : ltM c l t = atM c.max l t := if_pos h
theorem vrE_look {c : Circ} {n : Int} (h : (lookM c).2 ≠ 0) : vrE c n = (lookM c).2 := if_pos h
theorem vrE_rg {c : Circ} {n : Int} (h : (lookM c).2 = 0) (h2 : n < 1 ∨ 512 < n) : vrE c n = 1 := by unfold vrE; rw [if_neg (by omega), if_pos h2]
theorem vrE_sz {c : Circ} {n : Int} (h : (lookM c).2 = 0) (h2 : ¬ (n < 1 ∨ 512 < n)) (h3 : 262144 < 1 + n * c.max) : vrE c n = 6 := by unfold vrE; rw [if_neg (by omega), if_neg h2, if_pos h3]
theorem vrE_ok {c : Circ} {n : Int} (h : (lookM c).2 = 0) (h2 : ¬ (n < 1 ∨ 512 < n)) (h3 : ¬ 262144 < 1 + n * c.max) : vrE c n = 0 := by unfold vrE; rw [if_neg (by omega), if_neg h2, if_neg h3]
theorem vrE_ft {c : Circ} {n : Int} (h2 : ¬ (n < 1 ∨ 512 < n)) : ftE c (n - 1) 511 n = vrE c n := by
  unfold vrE ftE
  split
  · rfl
  · first
    | rw [if_neg h2, if_neg (show ¬ (n - 1 < 0 ∨ 511 < n - 1) by omega)]
    | rw [if_neg (show ¬ (n - 1 < 0 ∨ 511 < n - 1) by omega)]
theorem vrE_zero {c : Circ} {n : Int} (h : vrE c n = 0) : (lookM c).2 = 0 ∧ 1 ≤ n ∧ n ≤ 512 ∧ 1 + n * c.max ≤ 262144 := by
  unfold vrE at h
  split at h
  · exact absurd h (by assumption)
  · split at h
    · cases h
    · split at h
      · cases h
      · exact ⟨by omega, by omega, by omega, by omega⟩
theorem vrM_no {c : Circ} {n : Int} (h : vrE c n ≠ 0) : vrM c n = 0 := if_neg h
theorem vrM_ok {c : Circ} {n : Int} (h : vrE c n = 0) : vrM c n = 1 + n * c.max := if_pos h
attribute [local irreducible] WC WL WX WS WO OX Does DoesU Enters CV Pure thenQ blockQ retQ Wants retQC GC GL GS GX RdB thenG blockG retG Rd At gt CVN CVM
set_option maxRecDepth 100000
theorem FirstP16_cv {w : World} {c : Circ} {h js : Hd} (H : CirIn w c h js) : CVN Try.prog 26 [.agg (ccells c h).toArray] w (CliT (fsS c) (ftE c 0 0 1)) := by
  have hlk : ∀ Γ, In Γ (.old w none_) → ∀ w', Mem w' Γ → CVN Try.prog 36 [.agg (ccells c h).toArray, nu 0, nu 0, nu 1] w' _ := fun Γ hi w' M => looked_cv (t := 0) (most := 0) (n := 1) (H.chg (hi.old M)) (fun h0 h1 => by omega)
  refine CVN.enter 16 [2, 3] Try.func26 rfl rfl rfl (by decide) rfl ?_
  by_cases hz : ftE c 0 0 1 = 0
  · have R := right_of H.at_ H.sane (ftE_zero hz).1
    have hst : ∀ Γ, In Γ (.old w none_) → ∀ w', Mem w' Γ → CVN Try.prog 33 [.agg (ccells c h).toArray] w' (CliR (firstS c)) := fun Γ hi w' M => firstS_cv R (H.at_.chg (hi.old M))
    rw [show fsS c = firstS c from if_pos hz, hz]
    rw [hz] at hlk
    repeat' (first
 | (apply G_call; eq_refl; eq_refl; (apply hlk; (repeat first | exact In.here | apply In.there | apply In.skip)); rintro _ _ ⟨rfl, rfl⟩)
 | (apply G_call; eq_refl; eq_refl; (apply hst; (repeat first | exact In.here | apply In.there | apply In.skip)); rintro _ _ ⟨ps, A, kA, rfl, hps, rfl⟩)
 | (apply GC_seqK; intro K hK)
 | (apply hK; clear hK K)
 | (apply GC_region)
 | (apply GL_nil)
 | (apply thenG_normal)
 | (apply GC_ret)
 | (apply GC_skip)
 | (apply GC_if_false; eq_refl)
 | (apply retG2; eq_refl; eq_refl)
 | (apply GL_on; eq_refl; eq_refl)
 | (apply G_pv; eq_refl; first | exact trivial | omega)
 | (apply G_ldW; eq_refl; (repeat first | exact In.here | apply In.there | apply In.skip); eq_refl)
 | (apply G_cmpF; eq_refl; eq_refl; omega)
 | (apply G_alloc; eq_refl; intro _)
 | (apply G_box; eq_refl; eq_refl; intro _)
 | (apply G_stW; (first | exact wr_p | kernel_rfl); eq_refl; eq_refl; eq_refl; eq_refl; (repeat first | exact Upd.here | apply Upd.there | apply Upd.skip); eq_refl))
    exact ⟨[.vec encS 1 67 A kA ps, .any (bun (fam rowJ ps))], (by repeat first | exact Wk.nil | exact Wk.refl | (apply Wk.cons; (focus ((repeat first | exact Rem.here | apply Rem.there | apply Rem.skip); done))) | apply Wk.nilv | apply Wk.last | apply Wk.drop), ps, A, kA, rfl, hps, rfl⟩
  · rw [show fsS c = [] from if_neg hz]
    generalize ftE c 0 0 1 = ε at *
    repeat' (first
 | (apply G_call; eq_refl; eq_refl; (apply hlk; (repeat first | exact In.here | apply In.there | apply In.skip)); rintro _ _ ⟨rfl, rfl⟩)
 | (apply GC_seqK; intro K hK)
 | (apply hK; clear hK K)
 | (apply GC_region)
 | (apply GL_nil)
 | (apply thenG_normal)
 | (apply thenG_ret)
 | (apply GC_ret)
 | (apply GC_if_true; eq_refl)
 | (apply retG2; eq_refl; eq_refl)
 | (apply GL_on; eq_refl; eq_refl)
 | (apply G_pv; eq_refl; first | exact trivial | omega)
 | (apply G_ldW; eq_refl; (repeat first | exact In.here | apply In.there | apply In.skip); eq_refl)
 | (apply G_cmpT; eq_refl; eq_refl; omega)
 | (apply G_alloc; eq_refl; intro _)
 | (apply G_box; eq_refl; eq_refl; intro _)
 | (apply G_stW; (first | exact wr_p | kernel_rfl); eq_refl; eq_refl; eq_refl; eq_refl; (repeat first | exact Upd.here | apply Upd.there | apply Upd.skip); eq_refl))
    exact ⟨[.vec encS 1 67 none 0 [], .any (bun (fam rowJ []))], Wk.nilv (rows_nil (by repeat first | exact Wk.nil | exact Wk.refl | (apply Wk.cons; (focus ((repeat first | exact Rem.here | apply Rem.there | apply Rem.skip); done))) | apply Wk.nilv | apply Wk.last | apply Wk.drop)), [], none, 0, rfl, rfl, rfl⟩
theorem FirstR16_cv {w : World} {c : Circ} {h js : Hd} (H : CirIn w c h js) : CVN Try.prog 27 [.agg (ccells c h).toArray] w (CliT (fsS c) (ftE c 0 0 1)) := by
  have hck : ∀ Γ, In Γ (.old w none_) → ∀ w', Mem w' Γ → CVN Try.prog 50 [.agg (ccells c h).toArray] w' fun v N => N = [] ∧ v = .tuple #[nu (lookM c).1, nu (lookM c).2] := fun Γ hi w' M => have H' := H.chg (hi.old M); CVN.of (checkRef_cv H'.at_ H'.sane H'.okay H'.fits) fun v w' h => ⟨h.2, h.1⟩
  refine CVN.enter 19 [2, 3] Try.func27 rfl rfl rfl (by decide) rfl ?_
  by_cases he : (lookM c).2 = 0
  · have R := right_of H.at_ H.sane he
    have m0 := R.m0
    have m1 := R.m1
    rw [he] at hck
    generalize (lookM c).1 = n0 at *
    have hz := ftE_ok (c := c) (t := 0) (most := 0) (n := 1) he (by omega) (by omega)
    have hf : ∀ Γ, ∀ w', Mem w' Γ → CVN Try.prog 51 [.agg (ccells c h).toArray, nu 1] w' fun v N => N = [] ∧ v = .bool true := fun Γ w' M => by
      have := fits_cv (w := w') (h := h) (c := c) (n := 1) (by omega) (by omega)
      rw [decide_eq_true (by omega)] at this
      exact this
    have hst : ∀ Γ, In Γ (.old w none_) → ∀ w', Mem w' Γ → CVN Try.prog 57 [.agg (ccells c h).toArray] w' (CliR (firstS c)) := fun Γ hi w' M => first0_cv R (H.at_.chg (hi.old M))
    rw [show fsS c = firstS c from if_pos hz, hz]
    repeat' (first
 | (apply G_call; eq_refl; eq_refl; (apply hck; (repeat first | exact In.here | apply In.there | apply In.skip)); rintro _ _ ⟨rfl, rfl⟩)
 | (apply G_call; eq_refl; eq_refl; (apply hf); rintro _ _ ⟨rfl, rfl⟩)
 | (apply G_call; eq_refl; eq_refl; (apply hst; (repeat first | exact In.here | apply In.there | apply In.skip)); rintro _ _ ⟨ps, A, kA, rfl, hps, rfl⟩)
 | (apply GC_seqK; intro K hK)
 | (apply hK; clear hK K)
 | (apply GC_region)
 | (apply GL_nil)
 | (apply thenG_normal)
 | (apply GC_ret)
 | (apply GC_skip)
 | (apply GC_if_false; eq_refl)
 | (apply retG2; eq_refl; eq_refl)
 | (apply GL_on; eq_refl; eq_refl)
 | (apply G_pv; eq_refl; first | exact trivial | omega)
 | (apply G_ldW; eq_refl; (repeat first | exact In.here | apply In.there | apply In.skip); eq_refl)
 | (apply G_cmpF; eq_refl; eq_refl; omega)
 | (apply G_box; eq_refl; eq_refl; intro _))
    exact ⟨[.vec encS 1 67 A kA ps, .any (bun (fam rowJ ps))], (by repeat first | exact Wk.nil | exact Wk.refl | (apply Wk.cons; (focus ((repeat first | exact Rem.here | apply Rem.there | apply Rem.skip); done))) | apply Wk.nilv | apply Wk.last | apply Wk.drop), ps, A, kA, rfl, hps, rfl⟩
  · have hz := ftE_look (t := 0) (most := 0) (n := 1) he
    rw [show fsS c = [] from if_neg (by rw [hz]; exact he), hz]
    generalize (lookM c).1 = n0 at *
    generalize (lookM c).2 = ε at *
    repeat' (first
 | (apply G_call; eq_refl; eq_refl; (apply hck; (repeat first | exact In.here | apply In.there | apply In.skip)); rintro _ _ ⟨rfl, rfl⟩)
 | (apply GC_seqK; intro K hK)
 | (apply hK; clear hK K)
 | (apply GC_region)
 | (apply GL_nil)
 | (apply thenG_normal)
 | (apply thenG_ret)
 | (apply GC_ret)
 | (apply GC_if_true; eq_refl)
 | (apply retG2; eq_refl; eq_refl)
 | (apply GL_on; eq_refl; eq_refl)
 | (apply G_pv; eq_refl; first | exact trivial | omega)
 | (apply G_ldW; eq_refl; (repeat first | exact In.here | apply In.there | apply In.skip); eq_refl)
 | (apply G_cmpT; eq_refl; eq_refl; omega)
 | (apply G_box; eq_refl; eq_refl; intro _))
    exact ⟨[.vec encS 1 67 none 0 [], .any (bun (fam rowJ []))], Wk.nilv (rows_nil (by repeat first | exact Wk.nil | exact Wk.refl | (apply Wk.cons; (focus ((repeat first | exact Rem.here | apply Rem.there | apply Rem.skip); done))) | apply Wk.nilv | apply Wk.last | apply Wk.drop)), [], none, 0, rfl, rfl, rfl⟩
theorem LitP16_cv {w : World} {c : Circ} {h js : Hd} {l t : Int} (H : CirIn w c h js) (hx : -9223372036854775808 ≤ t ∧ t ≤ 9223372036854775807) : CVN Try.prog 19 [.agg (ccells c h).toArray, nu l, nu t] w fun v N => N = [] ∧ v = .tuple #[nu (ltM c l t), nu (ltE c l t)] := by
  have hrd : ∀ Γ, In Γ (.old w none_) → ∀ w', Mem w' Γ → CVN Try.prog 47 [.agg (ccells c h).toArray] w' _ := fun Γ hi w' M => ready16_cv (H.chg (hi.old M))
  have hlk : ∀ n, (n = t + 1 ∨ 511 < t) → ∀ Γ, In Γ (.old w none_) → ∀ w', Mem w' Γ → CVN Try.prog 36 [.agg (ccells c h).toArray, nu t, nu 511, nu n] w' fun v N => N = [] ∧ v = .tuple #[.agg (ccells c h).toArray, nu (ftE c t 511 (t + 1))] := fun n hn Γ hi w' M => by
    have := looked_cv (t := t) (most := 511) (n := n) (H.chg (hi.old M)) (fun h0 h1 => by omega)
    rcases hn with rfl | hb
    · exact this
    · rw [ftE_n n (t + 1) (.inr hb)] at this
      exact this
  refine CVN.enter 43 [6, 7] Try.func19 rfl rfl rfl (by decide) rfl ?_
  by_cases he : (lookM c).2 = 0
  · have R := right_of H.at_ H.sane he
    have m0 := R.m0
    have m1 := R.m1
    rw [he] at hrd
    by_cases hl : l < 0 ∨ 2 * c.max + 1 < l
    · have hz := ltE_rg (t := t) he hl
      rw [ltM_no (by rw [hz]; decide), hz]
      by_cases h0 : l < 0
      · repeat' (first
 | (apply G_call; eq_refl; eq_refl; (apply hrd; (repeat first | exact In.here | apply In.there | apply In.skip)); rintro _ _ ⟨rfl, rfl⟩)
 | (apply GC_seqK; intro K hK)
 | (apply hK; clear hK K)
 | (apply GC_region)
 | (apply GL_nil)
 | (apply thenG_normal)
 | (apply thenG_ret)
 | (apply GC_ret)
 | (apply GC_skip)
 | (apply GC_if_true; eq_refl)
 | (apply GC_if_false; eq_refl)
 | (apply retG2; eq_refl; eq_refl)
 | (apply GL_on; eq_refl; eq_refl)
 | (apply GL_off; eq_refl; eq_refl)
 | (apply G_pv; eq_refl; first | exact trivial | omega)
 | (apply G_ldW; eq_refl; (repeat first | exact In.here | apply In.there | apply In.skip); eq_refl)
 | (apply G_cmpT; eq_refl; eq_refl; omega)
 | (apply G_cmpF; eq_refl; eq_refl; omega)
 | (apply G_alloc; eq_refl; intro _)
 | (apply G_box; eq_refl; eq_refl; intro _)
 | (apply G_stW; (first | exact wr_p | kernel_rfl); eq_refl; eq_refl; eq_refl; eq_refl; (repeat first | exact Upd.here | apply Upd.there | apply Upd.skip); eq_refl))
        exact ⟨[], (by repeat first | exact Wk.nil | exact Wk.refl | (apply Wk.cons; (focus ((repeat first | exact Rem.here | apply Rem.there | apply Rem.skip); done))) | apply Wk.nilv | apply Wk.last | apply Wk.drop), rfl, rfl⟩
      · repeat' (first
 | (apply G_call; eq_refl; eq_refl; (apply hrd; (repeat first | exact In.here | apply In.there | apply In.skip)); rintro _ _ ⟨rfl, rfl⟩)
 | (apply GC_seqK; intro K hK)
 | (apply hK; clear hK K)
 | (apply GC_region)
 | (apply GL_nil)
 | (apply thenG_normal)
 | (apply thenG_ret)
 | (apply GC_ret)
 | (apply GC_skip)
 | (apply GC_if_true; eq_refl)
 | (apply GC_if_false; eq_refl)
 | (apply retG2; eq_refl; eq_refl)
 | (apply GL_on; eq_refl; eq_refl)
 | (apply G_pv; eq_refl; first | exact trivial | omega)
 | (apply G_field; eq_refl)
 | (apply G_ld; eq_refl; (repeat first | exact In.here | apply In.there | apply In.skip); eq_refl)
 | (apply G_ldW; eq_refl; (repeat first | exact In.here | apply In.there | apply In.skip); eq_refl)
 | (apply G_cmpT; eq_refl; eq_refl; omega)
 | (apply G_cmpF; eq_refl; eq_refl; omega)
 | (apply G_alloc; eq_refl; intro _)
 | (apply G_box; eq_refl; eq_refl; intro _)
 | (apply G_stW; (first | exact wr_p | kernel_rfl); eq_refl; eq_refl; eq_refl; eq_refl; (repeat first | exact Upd.here | apply Upd.there | apply Upd.skip); eq_refl))
        exact ⟨[], (by repeat first | exact Wk.nil | exact Wk.refl | (apply Wk.cons; (focus ((repeat first | exact Rem.here | apply Rem.there | apply Rem.skip); done))) | apply Wk.nilv | apply Wk.last | apply Wk.drop), rfl, rfl⟩
    · have hz := ltE_in (t := t) he hl
      by_cases hf : ftE c t 511 (t + 1) = 0
      · obtain ⟨_, t0, t1, _⟩ := ftE_zero hf
        obtain ⟨z0, z1⟩ := mul_le t0 (by omega : t ≤ 600) m0 m1
        rw [hf] at hz hlk
        have hat : ∀ Γ, ∀ w', Mem w' Γ → CVN Try.prog 43 [.agg (ccells c h).toArray, nu l, nu t] w' _ := fun Γ w' M => at_cv (h := h) (by omega) (by omega) z0 z1
        rw [ltM_ok hz, hz]
        repeat' (first
 | (apply G_call; eq_refl; eq_refl; (apply hrd; (repeat first | exact In.here | apply In.there | apply In.skip)); rintro _ _ ⟨rfl, rfl⟩)
 | (apply G_call; eq_refl; eq_refl; (apply (hlk _ (.inl rfl)); (repeat first | exact In.here | apply In.there | apply In.skip)); rintro _ _ ⟨rfl, rfl⟩)
 | (apply G_call; eq_refl; eq_refl; (apply hat); rintro _ _ ⟨rfl, rfl⟩)
 | (apply GC_seqK; intro K hK)
 | (apply hK; clear hK K)
 | (apply GC_region)
 | (apply GL_nil)
 | (apply thenG_normal)
 | (apply GC_ret)
 | (apply GC_skip)
 | (apply GC_if_false; eq_refl)
 | (apply retG2; eq_refl; eq_refl)
 | (apply GL_on; eq_refl; eq_refl)
 | (apply G_pv; eq_refl; first | exact trivial | omega)
 | (apply G_field; eq_refl)
 | (apply G_ld; eq_refl; (repeat first | exact In.here | apply In.there | apply In.skip); eq_refl)
 | (apply G_ldW; eq_refl; (repeat first | exact In.here | apply In.there | apply In.skip); eq_refl)
 | (apply G_cmpF; eq_refl; eq_refl; omega)
 | (apply G_alloc; eq_refl; intro _)
 | (apply G_box; eq_refl; eq_refl; intro _)
 | (apply G_stW; (first | exact wr_p | kernel_rfl); eq_refl; eq_refl; eq_refl; eq_refl; (repeat first | exact Upd.here | apply Upd.there | apply Upd.skip); eq_refl))
        exact ⟨[], (by repeat first | exact Wk.nil | exact Wk.refl | (apply Wk.cons; (focus ((repeat first | exact Rem.here | apply Rem.there | apply Rem.skip); done))) | apply Wk.nilv | apply Wk.last | apply Wk.drop), rfl, rfl⟩
      · rw [ltM_no (by rw [hz]; exact hf), hz]
        generalize ftE c t 511 (t + 1) = ε at *
        by_cases hb : 511 < t
        · repeat' (first
 | (apply G_call; eq_refl; eq_refl; (apply hrd; (repeat first | exact In.here | apply In.there | apply In.skip)); rintro _ _ ⟨rfl, rfl⟩)
 | (apply GC_seqK; intro K hK)
 | (apply hK; clear hK K)
 | (apply GC_region)
 | (apply GL_nil)
 | (apply thenG_normal)
 | (apply GC_skip)
 | (apply GC_if_false; eq_refl)
 | (apply GL_on; eq_refl; eq_refl)
 | (apply G_pv; eq_refl; first | exact trivial | omega)
 | (apply G_field; eq_refl)
 | (apply G_ld; eq_refl; (repeat first | exact In.here | apply In.there | apply In.skip); eq_refl)
 | (apply G_ldW; eq_refl; (repeat first | exact In.here | apply In.there | apply In.skip); eq_refl)
 | (apply G_cmpF; eq_refl; eq_refl; omega)
 | (apply G_alloc; eq_refl; intro _)
 | (apply G_box; eq_refl; eq_refl; intro _)
 | (apply G_stW; (first | exact wr_p | kernel_rfl); eq_refl; eq_refl; eq_refl; eq_refl; (repeat first | exact Upd.here | apply Upd.there | apply Upd.skip); eq_refl))
          all_goals (try (apply G_addW; eq_refl; eq_refl))
          repeat' (first
 | (apply G_call; eq_refl; eq_refl; (apply (hlk _ (.inr hb)); (repeat first | exact In.here | apply In.there | apply In.skip)); rintro _ _ ⟨rfl, rfl⟩)
 | (apply GC_seqK; intro K hK)
 | (apply hK; clear hK K)
 | (apply GC_region)
 | (apply GL_nil)
 | (apply thenG_normal)
 | (apply thenG_ret)
 | (apply GC_ret)
 | (apply GC_if_true; eq_refl)
 | (apply retG2; eq_refl; eq_refl)
 | (apply GL_on; eq_refl; eq_refl)
 | (apply G_pv; eq_refl; first | exact trivial | omega)
 | (apply G_cmpT; eq_refl; eq_refl; omega)
 | (apply G_stW; (first | exact wr_p | kernel_rfl); eq_refl; eq_refl; eq_refl; eq_refl; (repeat first | exact Upd.here | apply Upd.there | apply Upd.skip); eq_refl))
          exact ⟨[], (by repeat first | exact Wk.nil | exact Wk.refl | (apply Wk.cons; (focus ((repeat first | exact Rem.here | apply Rem.there | apply Rem.skip); done))) | apply Wk.nilv | apply Wk.last | apply Wk.drop), rfl, rfl⟩
        · repeat' (first
 | (apply G_call; eq_refl; eq_refl; (apply hrd; (repeat first | exact In.here | apply In.there | apply In.skip)); rintro _ _ ⟨rfl, rfl⟩)
 | (apply G_call; eq_refl; eq_refl; (apply (hlk _ (.inl rfl)); (repeat first | exact In.here | apply In.there | apply In.skip)); rintro _ _ ⟨rfl, rfl⟩)
 | (apply GC_seqK; intro K hK)
 | (apply hK; clear hK K)
 | (apply GC_region)
 | (apply GL_nil)
 | (apply thenG_normal)
 | (apply thenG_ret)
 | (apply GC_ret)
 | (apply GC_skip)
 | (apply GC_if_true; eq_refl)
 | (apply GC_if_false; eq_refl)
 | (apply retG2; eq_refl; eq_refl)
 | (apply GL_on; eq_refl; eq_refl)
 | (apply G_pv; eq_refl; first | exact trivial | omega)
 | (apply G_field; eq_refl)
 | (apply G_ld; eq_refl; (repeat first | exact In.here | apply In.there | apply In.skip); eq_refl)
 | (apply G_ldW; eq_refl; (repeat first | exact In.here | apply In.there | apply In.skip); eq_refl)
 | (apply G_cmpT; eq_refl; eq_refl; omega)
 | (apply G_cmpF; eq_refl; eq_refl; omega)
 | (apply G_alloc; eq_refl; intro _)
 | (apply G_box; eq_refl; eq_refl; intro _)
 | (apply G_stW; (first | exact wr_p | kernel_rfl); eq_refl; eq_refl; eq_refl; eq_refl; (repeat first | exact Upd.here | apply Upd.there | apply Upd.skip); eq_refl))
          exact ⟨[], (by repeat first | exact Wk.nil | exact Wk.refl | (apply Wk.cons; (focus ((repeat first | exact Rem.here | apply Rem.there | apply Rem.skip); done))) | apply Wk.nilv | apply Wk.last | apply Wk.drop), rfl, rfl⟩
  · have hz := ltE_look (l := l) (t := t) he
    rw [ltM_no (by rw [hz]; exact he), hz]
    generalize (lookM c).2 = ε at *
    repeat' (first
 | (apply G_call; eq_refl; eq_refl; (apply hrd; (repeat first | exact In.here | apply In.there | apply In.skip)); rintro _ _ ⟨rfl, rfl⟩)
 | (apply GC_seqK; intro K hK)
 | (apply hK; clear hK K)
 | (apply GC_region)
 | (apply GL_nil)
 | (apply thenG_normal)
 | (apply thenG_ret)
 | (apply GC_ret)
 | (apply GC_if_true; eq_refl)
 | (apply retG2; eq_refl; eq_refl)
 | (apply GL_on; eq_refl; eq_refl)
 | (apply G_pv; eq_refl; first | exact trivial | omega)
 | (apply G_ldW; eq_refl; (repeat first | exact In.here | apply In.there | apply In.skip); eq_refl)
 | (apply G_cmpT; eq_refl; eq_refl; omega)
 | (apply G_alloc; eq_refl; intro _)
 | (apply G_box; eq_refl; eq_refl; intro _)
 | (apply G_stW; (first | exact wr_p | kernel_rfl); eq_refl; eq_refl; eq_refl; eq_refl; (repeat first | exact Upd.here | apply Upd.there | apply Upd.skip); eq_refl))
    exact ⟨[], (by repeat first | exact Wk.nil | exact Wk.refl | (apply Wk.cons; (focus ((repeat first | exact Rem.here | apply Rem.there | apply Rem.skip); done))) | apply Wk.nilv | apply Wk.last | apply Wk.drop), rfl, rfl⟩
theorem LitR16_cv {w : World} {c : Circ} {h js : Hd} {l t : Int} (H : CirIn w c h js) : CVN Try.prog 21 [.agg (ccells c h).toArray, nu l, nu t] w fun v N => N = [] ∧ v = .tuple #[nu (ltM c l t), nu (ltE c l t)] := by
  have hck : ∀ Γ, In Γ (.old w none_) → ∀ w', Mem w' Γ → CVN Try.prog 50 [.agg (ccells c h).toArray] w' fun v N => N = [] ∧ v = .tuple #[nu (lookM c).1, nu (lookM c).2] := fun Γ hi w' M => have H' := H.chg (hi.old M); CVN.of (checkRef_cv H'.at_ H'.sane H'.okay H'.fits) fun v w' h => ⟨h.2, h.1⟩
  refine CVN.enter 45 [6, 7] Try.func21 rfl rfl rfl (by decide) rfl ?_
  by_cases he : (lookM c).2 = 0
  · have R := right_of H.at_ H.sane he
    have m0 := R.m0
    have m1 := R.m1
    rw [he] at hck
    generalize (lookM c).1 = n0 at *
    by_cases hl : l < 0 ∨ 2 * c.max + 1 < l
    · have hz := ltE_rg (t := t) he hl
      rw [ltM_no (by rw [hz]; decide), hz]
      by_cases h0 : l < 0
      · repeat' (first
 | (apply G_call; eq_refl; eq_refl; (apply hck; (repeat first | exact In.here | apply In.there | apply In.skip)); rintro _ _ ⟨rfl, rfl⟩)
 | (apply GC_seqK; intro K hK)
 | (apply hK; clear hK K)
 | (apply GC_region)
 | (apply GL_nil)
 | (apply thenG_normal)
 | (apply thenG_ret)
 | (apply GC_ret)
 | (apply GC_skip)
 | (apply GC_if_true; eq_refl)
 | (apply GC_if_false; eq_refl)
 | (apply retG2; eq_refl; eq_refl)
 | (apply GL_on; eq_refl; eq_refl)
 | (apply GL_off; eq_refl; eq_refl)
 | (apply G_pv; eq_refl; first | exact trivial | omega)
 | (apply G_ldW; eq_refl; (repeat first | exact In.here | apply In.there | apply In.skip); eq_refl)
 | (apply G_cmpT; eq_refl; eq_refl; omega)
 | (apply G_cmpF; eq_refl; eq_refl; omega)
 | (apply G_box; eq_refl; eq_refl; intro _))
        exact ⟨[], (by repeat first | exact Wk.nil | exact Wk.refl | (apply Wk.cons; (focus ((repeat first | exact Rem.here | apply Rem.there | apply Rem.skip); done))) | apply Wk.nilv | apply Wk.last | apply Wk.drop), rfl, rfl⟩
      · repeat' (first
 | (apply G_call; eq_refl; eq_refl; (apply hck; (repeat first | exact In.here | apply In.there | apply In.skip)); rintro _ _ ⟨rfl, rfl⟩)
 | (apply GC_seqK; intro K hK)
 | (apply hK; clear hK K)
 | (apply GC_region)
 | (apply GL_nil)
 | (apply thenG_normal)
 | (apply thenG_ret)
 | (apply GC_ret)
 | (apply GC_skip)
 | (apply GC_if_true; eq_refl)
 | (apply GC_if_false; eq_refl)
 | (apply retG2; eq_refl; eq_refl)
 | (apply GL_on; eq_refl; eq_refl)
 | (apply GL_off; eq_refl; eq_refl)
 | (apply G_pv; eq_refl; first | exact trivial | omega)
 | (apply G_field; eq_refl)
 | (apply G_ld; eq_refl; (repeat first | exact In.here | apply In.there | apply In.skip); eq_refl)
 | (apply G_ldW; eq_refl; (repeat first | exact In.here | apply In.there | apply In.skip); eq_refl)
 | (apply G_cmpT; eq_refl; eq_refl; omega)
 | (apply G_cmpF; eq_refl; eq_refl; omega)
 | (apply G_box; eq_refl; eq_refl; intro _))
        exact ⟨[], (by repeat first | exact Wk.nil | exact Wk.refl | (apply Wk.cons; (focus ((repeat first | exact Rem.here | apply Rem.there | apply Rem.skip); done))) | apply Wk.nilv | apply Wk.last | apply Wk.drop), rfl, rfl⟩
    · have hz := ltE_in (t := t) he hl
      by_cases hr : t < 0 ∨ 511 < t
      · rw [ftE_rg he hr] at hz
        rw [ltM_no (by rw [hz]; decide), hz]
        by_cases h0 : t < 0
        · repeat' (first
 | (apply G_call; eq_refl; eq_refl; (apply hck; (repeat first | exact In.here | apply In.there | apply In.skip)); rintro _ _ ⟨rfl, rfl⟩)
 | (apply GC_seqK; intro K hK)
 | (apply hK; clear hK K)
 | (apply GC_region)
 | (apply GL_nil)
 | (apply thenG_normal)
 | (apply thenG_ret)
 | (apply GC_ret)
 | (apply GC_skip)
 | (apply GC_if_true; eq_refl)
 | (apply GC_if_false; eq_refl)
 | (apply retG2; eq_refl; eq_refl)
 | (apply GL_on; eq_refl; eq_refl)
 | (apply GL_off; eq_refl; eq_refl)
 | (apply G_pv; eq_refl; first | exact trivial | omega)
 | (apply G_field; eq_refl)
 | (apply G_ld; eq_refl; (repeat first | exact In.here | apply In.there | apply In.skip); eq_refl)
 | (apply G_ldW; eq_refl; (repeat first | exact In.here | apply In.there | apply In.skip); eq_refl)
 | (apply G_cmpT; eq_refl; eq_refl; omega)
 | (apply G_cmpF; eq_refl; eq_refl; omega)
 | (apply G_box; eq_refl; eq_refl; intro _))
          exact ⟨[], (by repeat first | exact Wk.nil | exact Wk.refl | (apply Wk.cons; (focus ((repeat first | exact Rem.here | apply Rem.there | apply Rem.skip); done))) | apply Wk.nilv | apply Wk.last | apply Wk.drop), rfl, rfl⟩
        · repeat' (first
 | (apply G_call; eq_refl; eq_refl; (apply hck; (repeat first | exact In.here | apply In.there | apply In.skip)); rintro _ _ ⟨rfl, rfl⟩)
 | (apply GC_seqK; intro K hK)
 | (apply hK; clear hK K)
 | (apply GC_region)
 | (apply GL_nil)
 | (apply thenG_normal)
 | (apply thenG_ret)
 | (apply GC_ret)
 | (apply GC_skip)
 | (apply GC_if_true; eq_refl)
 | (apply GC_if_false; eq_refl)
 | (apply retG2; eq_refl; eq_refl)
 | (apply GL_on; eq_refl; eq_refl)
 | (apply G_pv; eq_refl; first | exact trivial | omega)
 | (apply G_field; eq_refl)
 | (apply G_ld; eq_refl; (repeat first | exact In.here | apply In.there | apply In.skip); eq_refl)
 | (apply G_ldW; eq_refl; (repeat first | exact In.here | apply In.there | apply In.skip); eq_refl)
 | (apply G_cmpT; eq_refl; eq_refl; omega)
 | (apply G_cmpF; eq_refl; eq_refl; omega)
 | (apply G_box; eq_refl; eq_refl; intro _))
          exact ⟨[], (by repeat first | exact Wk.nil | exact Wk.refl | (apply Wk.cons; (focus ((repeat first | exact Rem.here | apply Rem.there | apply Rem.skip); done))) | apply Wk.nilv | apply Wk.last | apply Wk.drop), rfl, rfl⟩
      · obtain ⟨z0, z1⟩ := mul_le (by omega : 0 ≤ t + 1) (by omega : t + 1 ≤ 600) m0 m1
        obtain ⟨y0, y1⟩ := mul_le (by omega : 0 ≤ t) (by omega : t ≤ 600) m0 m1
        by_cases hs : 262144 < 1 + (t + 1) * c.max
        · have hf : ∀ Γ, ∀ w', Mem w' Γ → CVN Try.prog 51 [.agg (ccells c h).toArray, nu (t + 1)] w' fun v N => N = [] ∧ v = .bool false := fun Γ w' M => by
              have := fits_cv (w := w') (h := h) z0 z1
              rw [decide_eq_false (by omega)] at this
              exact this
          rw [ftE_sz he hr hs] at hz
          rw [ltM_no (by rw [hz]; decide), hz]
          repeat' (first
 | (apply G_call; eq_refl; eq_refl; (apply hck; (repeat first | exact In.here | apply In.there | apply In.skip)); rintro _ _ ⟨rfl, rfl⟩)
 | (apply G_call; eq_refl; eq_refl; (apply hf); rintro _ _ ⟨rfl, rfl⟩)
 | (apply GC_seqK; intro K hK)
 | (apply hK; clear hK K)
 | (apply GC_region)
 | (apply GL_nil)
 | (apply thenG_normal)
 | (apply thenG_ret)
 | (apply GC_ret)
 | (apply GC_skip)
 | (apply GC_if_true; eq_refl)
 | (apply GC_if_false; eq_refl)
 | (apply retG2; eq_refl; eq_refl)
 | (apply GL_on; eq_refl; eq_refl)
 | (apply G_pv; eq_refl; first | exact trivial | omega)
 | (apply G_field; eq_refl)
 | (apply G_ld; eq_refl; (repeat first | exact In.here | apply In.there | apply In.skip); eq_refl)
 | (apply G_ldW; eq_refl; (repeat first | exact In.here | apply In.there | apply In.skip); eq_refl)
 | (apply G_cmpF; eq_refl; eq_refl; omega)
 | (apply G_box; eq_refl; eq_refl; intro _))
          exact ⟨[], (by repeat first | exact Wk.nil | exact Wk.refl | (apply Wk.cons; (focus ((repeat first | exact Rem.here | apply Rem.there | apply Rem.skip); done))) | apply Wk.nilv | apply Wk.last | apply Wk.drop), rfl, rfl⟩
        · have hf : ∀ Γ, ∀ w', Mem w' Γ → CVN Try.prog 51 [.agg (ccells c h).toArray, nu (t + 1)] w' fun v N => N = [] ∧ v = .bool true := fun Γ w' M => by
              have := fits_cv (w := w') (h := h) z0 z1
              rw [decide_eq_true (by omega)] at this
              exact this
          rw [ftE_ok he hr hs] at hz
          have hat : ∀ Γ, ∀ w', Mem w' Γ → CVN Try.prog 52 [.agg (ccells c h).toArray, nu l, nu t] w' _ := fun Γ w' M => lit16_cv (h := h) (by omega) (by omega) y0 y1
          rw [ltM_ok hz, hz]
          repeat' (first
 | (apply G_call; eq_refl; eq_refl; (apply hck; (repeat first | exact In.here | apply In.there | apply In.skip)); rintro _ _ ⟨rfl, rfl⟩)
 | (apply G_call; eq_refl; eq_refl; (apply hf); rintro _ _ ⟨rfl, rfl⟩)
 | (apply G_call; eq_refl; eq_refl; (apply hat); rintro _ _ ⟨rfl, rfl⟩)
 | (apply GC_seqK; intro K hK)
 | (apply hK; clear hK K)
 | (apply GC_region)
 | (apply GL_nil)
 | (apply thenG_normal)
 | (apply GC_ret)
 | (apply GC_skip)
 | (apply GC_if_false; eq_refl)
 | (apply retG2; eq_refl; eq_refl)
 | (apply GL_on; eq_refl; eq_refl)
 | (apply G_pv; eq_refl; first | exact trivial | omega)
 | (apply G_field; eq_refl)
 | (apply G_ld; eq_refl; (repeat first | exact In.here | apply In.there | apply In.skip); eq_refl)
 | (apply G_ldW; eq_refl; (repeat first | exact In.here | apply In.there | apply In.skip); eq_refl)
 | (apply G_cmpF; eq_refl; eq_refl; omega)
 | (apply G_box; eq_refl; eq_refl; intro _))
          exact ⟨[], (by repeat first | exact Wk.nil | exact Wk.refl | (apply Wk.cons; (focus ((repeat first | exact Rem.here | apply Rem.there | apply Rem.skip); done))) | apply Wk.nilv | apply Wk.last | apply Wk.drop), rfl, rfl⟩
  · have hz := ltE_look (l := l) (t := t) he
    rw [ltM_no (by rw [hz]; exact he), hz]
    generalize (lookM c).1 = n0 at *
    generalize (lookM c).2 = ε at *
    repeat' (first
 | (apply G_call; eq_refl; eq_refl; (apply hck; (repeat first | exact In.here | apply In.there | apply In.skip)); rintro _ _ ⟨rfl, rfl⟩)
 | (apply GC_seqK; intro K hK)
 | (apply hK; clear hK K)
 | (apply GC_region)
 | (apply GL_nil)
 | (apply thenG_normal)
 | (apply thenG_ret)
 | (apply GC_ret)
 | (apply GC_if_true; eq_refl)
 | (apply retG2; eq_refl; eq_refl)
 | (apply GL_on; eq_refl; eq_refl)
 | (apply G_pv; eq_refl; first | exact trivial | omega)
 | (apply G_ldW; eq_refl; (repeat first | exact In.here | apply In.there | apply In.skip); eq_refl)
 | (apply G_cmpT; eq_refl; eq_refl; omega)
 | (apply G_box; eq_refl; eq_refl; intro _))
    exact ⟨[], (by repeat first | exact Wk.nil | exact Wk.refl | (apply Wk.cons; (focus ((repeat first | exact Rem.here | apply Rem.there | apply Rem.skip); done))) | apply Wk.nilv | apply Wk.last | apply Wk.drop), rfl, rfl⟩
theorem many16_cv {w : World} {c : Circ} {h js : Hd} {n : Int} (H : CirIn w c h js) (n0 : 0 ≤ n) (n1 : n ≤ 512) : CVN Try.prog 53 [.agg (ccells c h).toArray, nu n] w fun v N => N = [] ∧ v = .tuple #[.agg (ccells c h).toArray, nu (ftE c (n - 1) 511 n)] := by
  have hlk : ∀ Γ, In Γ (.old w none_) → ∀ w', Mem w' Γ → CVN Try.prog 36 [.agg (ccells c h).toArray, nu (n - 1), nu 511, nu n] w' _ := fun Γ hi w' M => looked_cv (t := n - 1) (most := 511) (n := n) (H.chg (hi.old M)) (fun h0 h1 => by omega)
  generalize ftE c (n - 1) 511 n = ε at *
  refine CVN.enterC1 (t := 69) 13 4 5 Try.func53 rfl rfl rfl rfl ?_
  repeat' (first
 | (apply G_call; eq_refl; eq_refl; (apply hlk; (repeat first | exact In.here | apply In.there | apply In.skip)); rintro _ _ ⟨rfl, rfl⟩)
 | (apply GC_seqK; intro K hK)
 | (apply hK; clear hK K)
 | (apply GC_region)
 | (apply GL_nil)
 | (apply thenG_normal)
 | (apply GC_ret)
 | (apply retGC1r; eq_refl; (repeat first | exact In.here | apply In.there | apply In.skip); eq_refl; eq_refl)
 | (apply GL_on; eq_refl; eq_refl)
 | (apply G_pv; eq_refl; first | exact trivial | omega)
 | (apply G_ldW; eq_refl; (repeat first | exact In.here | apply In.there | apply In.skip); eq_refl)
 | (apply G_alloc; eq_refl; intro _)
 | (apply G_box; eq_refl; eq_refl; intro _)
 | (apply G_stW; (first | exact wr_p | kernel_rfl); eq_refl; eq_refl; eq_refl; eq_refl; (repeat first | exact Upd.here | apply Upd.there | apply Upd.skip); eq_refl))
  exact ⟨[], (by repeat first | exact Wk.nil | exact Wk.refl | (apply Wk.cons; (focus ((repeat first | exact Rem.here | apply Rem.there | apply Rem.skip); done))) | apply Wk.nilv | apply Wk.last | apply Wk.drop), rfl, rfl⟩
theorem VarsP16_cv {w : World} {c : Circ} {h js : Hd} {n : Int} (H : CirIn w c h js) : CVN Try.prog 22 [.agg (ccells c h).toArray, nu n] w fun v N => N = [] ∧ v = .tuple #[nu (vrM c n), nu (vrE c n)] := by
  refine CVN.enter 26 [4, 5] Try.func22 rfl rfl rfl (by decide) rfl ?_
  by_cases hr : n < 1 ∨ 512 < n
  · have hz : vrE c n ≠ 0 := fun h => by have := vrE_zero h; omega
    have hm : ∀ Γ, In Γ (.old w none_) → ∀ w', Mem w' Γ → CVN Try.prog 53 [.agg (ccells c h).toArray, nu 0] w' fun v N => N = [] ∧ v = .tuple #[.agg (ccells c h).toArray, nu (vrE c n)] := fun Γ hi w' M => by
      have e : ftE c (0 - 1) 511 0 = vrE c n := by
        by_cases he : (lookM c).2 = 0
        · rw [ftE_rg he (by omega), vrE_rg he hr]
        · rw [ftE_look he, vrE_look he]
      have := many16_cv (n := 0) (H.chg (hi.old M)) (by omega) (by omega)
      rw [e] at this
      exact this
    rw [vrM_no hz]
    generalize vrE c n = ε at *
    by_cases h0 : n < 1
    · repeat' (first
 | (apply G_call; eq_refl; eq_refl; (apply hm; (repeat first | exact In.here | apply In.there | apply In.skip)); rintro _ _ ⟨rfl, rfl⟩)
 | (apply GC_seqK; intro K hK)
 | (apply hK; clear hK K)
 | (apply GC_region)
 | (apply GL_nil)
 | (apply thenG_normal)
 | (apply thenG_ret)
 | (apply GC_ret)
 | (apply GC_if_true; eq_refl)
 | (apply retG2; eq_refl; eq_refl)
 | (apply GL_on; eq_refl; eq_refl)
 | (apply GL_off; eq_refl; eq_refl)
 | (apply G_pv; eq_refl; first | exact trivial | omega)
 | (apply G_ldW; eq_refl; (repeat first | exact In.here | apply In.there | apply In.skip); eq_refl)
 | (apply G_cmpT; eq_refl; eq_refl; omega)
 | (apply G_alloc; eq_refl; intro _)
 | (apply G_box; eq_refl; eq_refl; intro _)
 | (apply G_stW; (first | exact wr_p | kernel_rfl); eq_refl; eq_refl; eq_refl; eq_refl; (repeat first | exact Upd.here | apply Upd.there | apply Upd.skip); eq_refl))
      exact ⟨[], (by repeat first | exact Wk.nil | exact Wk.refl | (apply Wk.cons; (focus ((repeat first | exact Rem.here | apply Rem.there | apply Rem.skip); done))) | apply Wk.nilv | apply Wk.last | apply Wk.drop), rfl, rfl⟩
    · repeat' (first
 | (apply G_call; eq_refl; eq_refl; (apply hm; (repeat first | exact In.here | apply In.there | apply In.skip)); rintro _ _ ⟨rfl, rfl⟩)
 | (apply GC_seqK; intro K hK)
 | (apply hK; clear hK K)
 | (apply GC_region)
 | (apply GL_nil)
 | (apply thenG_normal)
 | (apply thenG_ret)
 | (apply GC_ret)
 | (apply GC_if_true; eq_refl)
 | (apply retG2; eq_refl; eq_refl)
 | (apply GL_on; eq_refl; eq_refl)
 | (apply G_pv; eq_refl; first | exact trivial | omega)
 | (apply G_ldW; eq_refl; (repeat first | exact In.here | apply In.there | apply In.skip); eq_refl)
 | (apply G_cmpT; eq_refl; eq_refl; omega)
 | (apply G_cmpF; eq_refl; eq_refl; omega)
 | (apply G_alloc; eq_refl; intro _)
 | (apply G_box; eq_refl; eq_refl; intro _)
 | (apply G_stW; (first | exact wr_p | kernel_rfl); eq_refl; eq_refl; eq_refl; eq_refl; (repeat first | exact Upd.here | apply Upd.there | apply Upd.skip); eq_refl))
      exact ⟨[], (by repeat first | exact Wk.nil | exact Wk.refl | (apply Wk.cons; (focus ((repeat first | exact Rem.here | apply Rem.there | apply Rem.skip); done))) | apply Wk.nilv | apply Wk.last | apply Wk.drop), rfl, rfl⟩
  · have hm : ∀ Γ, In Γ (.old w none_) → ∀ w', Mem w' Γ → CVN Try.prog 53 [.agg (ccells c h).toArray, nu n] w' fun v N => N = [] ∧ v = .tuple #[.agg (ccells c h).toArray, nu (vrE c n)] := fun Γ hi w' M => by
      have := many16_cv (n := n) (H.chg (hi.old M)) (by omega) (by omega)
      rw [vrE_ft hr] at this
      exact this
    by_cases hz : vrE c n = 0
    · have he := (vrE_zero hz).1
      have R := right_of H.at_ H.sane he
      have m0 := R.m0
      have m1 := R.m1
      obtain ⟨z0, z1⟩ := mul_le (by omega : 0 ≤ n) (by omega : n ≤ 600) m0 m1
      have hv : ∀ Γ, ∀ w', Mem w' Γ → CVN Try.prog 54 [.agg (ccells c h).toArray, nu n] w' _ := fun Γ w' M => vars_cv (h := h) z0 z1
      rw [vrM_ok hz, hz]
      rw [hz] at hm
      repeat' (first
 | (apply G_call; eq_refl; eq_refl; (apply hm; (repeat first | exact In.here | apply In.there | apply In.skip)); rintro _ _ ⟨rfl, rfl⟩)
 | (apply G_call; eq_refl; eq_refl; (apply hv); rintro _ _ ⟨rfl, rfl⟩)
 | (apply GC_seqK; intro K hK)
 | (apply hK; clear hK K)
 | (apply GC_region)
 | (apply GL_nil)
 | (apply thenG_normal)
 | (apply GC_ret)
 | (apply GC_skip)
 | (apply GC_if_false; eq_refl)
 | (apply retG2; eq_refl; eq_refl)
 | (apply GL_on; eq_refl; eq_refl)
 | (apply G_pv; eq_refl; first | exact trivial | omega)
 | (apply G_ldW; eq_refl; (repeat first | exact In.here | apply In.there | apply In.skip); eq_refl)
 | (apply G_cmpF; eq_refl; eq_refl; omega)
 | (apply G_alloc; eq_refl; intro _)
 | (apply G_box; eq_refl; eq_refl; intro _)
 | (apply G_stW; (first | exact wr_p | kernel_rfl); eq_refl; eq_refl; eq_refl; eq_refl; (repeat first | exact Upd.here | apply Upd.there | apply Upd.skip); eq_refl))
      exact ⟨[], (by repeat first | exact Wk.nil | exact Wk.refl | (apply Wk.cons; (focus ((repeat first | exact Rem.here | apply Rem.there | apply Rem.skip); done))) | apply Wk.nilv | apply Wk.last | apply Wk.drop), rfl, rfl⟩
    · rw [vrM_no hz]
      generalize vrE c n = ε at *
      repeat' (first
 | (apply G_call; eq_refl; eq_refl; (apply hm; (repeat first | exact In.here | apply In.there | apply In.skip)); rintro _ _ ⟨rfl, rfl⟩)
 | (apply GC_seqK; intro K hK)
 | (apply hK; clear hK K)
 | (apply GC_region)
 | (apply GL_nil)
 | (apply thenG_normal)
 | (apply thenG_ret)
 | (apply GC_ret)
 | (apply GC_skip)
 | (apply GC_if_true; eq_refl)
 | (apply GC_if_false; eq_refl)
 | (apply retG2; eq_refl; eq_refl)
 | (apply GL_on; eq_refl; eq_refl)
 | (apply G_pv; eq_refl; first | exact trivial | omega)
 | (apply G_ldW; eq_refl; (repeat first | exact In.here | apply In.there | apply In.skip); eq_refl)
 | (apply G_cmpT; eq_refl; eq_refl; omega)
 | (apply G_cmpF; eq_refl; eq_refl; omega)
 | (apply G_alloc; eq_refl; intro _)
 | (apply G_box; eq_refl; eq_refl; intro _)
 | (apply G_stW; (first | exact wr_p | kernel_rfl); eq_refl; eq_refl; eq_refl; eq_refl; (repeat first | exact Upd.here | apply Upd.there | apply Upd.skip); eq_refl))
      exact ⟨[], (by repeat first | exact Wk.nil | exact Wk.refl | (apply Wk.cons; (focus ((repeat first | exact Rem.here | apply Rem.there | apply Rem.skip); done))) | apply Wk.nilv | apply Wk.last | apply Wk.drop), rfl, rfl⟩
theorem VarsR16_cv {w : World} {c : Circ} {h js : Hd} {n : Int} (H : CirIn w c h js) : CVN Try.prog 23 [.agg (ccells c h).toArray, nu n] w fun v N => N = [] ∧ v = .tuple #[nu (vrM c n), nu (vrE c n)] := by
  have hck : ∀ Γ, In Γ (.old w none_) → ∀ w', Mem w' Γ → CVN Try.prog 50 [.agg (ccells c h).toArray] w' fun v N => N = [] ∧ v = .tuple #[nu (lookM c).1, nu (lookM c).2] := fun Γ hi w' M => have H' := H.chg (hi.old M); CVN.of (checkRef_cv H'.at_ H'.sane H'.okay H'.fits) fun v w' h => ⟨h.2, h.1⟩
  refine CVN.enter 31 [4, 5] Try.func23 rfl rfl rfl (by decide) rfl ?_
  by_cases he : (lookM c).2 = 0
  · have R := right_of H.at_ H.sane he
    have m0 := R.m0
    have m1 := R.m1
    rw [he] at hck
    generalize (lookM c).1 = n0 at *
    by_cases hr : n < 1 ∨ 512 < n
    · have hz := vrE_rg he hr
      rw [vrM_no (by rw [hz]; decide), hz]
      by_cases h0 : n < 1
      · repeat' (first
 | (apply G_call; eq_refl; eq_refl; (apply hck; (repeat first | exact In.here | apply In.there | apply In.skip)); rintro _ _ ⟨rfl, rfl⟩)
 | (apply GC_seqK; intro K hK)
 | (apply hK; clear hK K)
 | (apply GC_region)
 | (apply GL_nil)
 | (apply thenG_normal)
 | (apply thenG_ret)
 | (apply GC_ret)
 | (apply GC_skip)
 | (apply GC_if_true; eq_refl)
 | (apply GC_if_false; eq_refl)
 | (apply retG2; eq_refl; eq_refl)
 | (apply GL_on; eq_refl; eq_refl)
 | (apply GL_off; eq_refl; eq_refl)
 | (apply G_pv; eq_refl; first | exact trivial | omega)
 | (apply G_ldW; eq_refl; (repeat first | exact In.here | apply In.there | apply In.skip); eq_refl)
 | (apply G_cmpT; eq_refl; eq_refl; omega)
 | (apply G_cmpF; eq_refl; eq_refl; omega)
 | (apply G_box; eq_refl; eq_refl; intro _))
        exact ⟨[], (by repeat first | exact Wk.nil | exact Wk.refl | (apply Wk.cons; (focus ((repeat first | exact Rem.here | apply Rem.there | apply Rem.skip); done))) | apply Wk.nilv | apply Wk.last | apply Wk.drop), rfl, rfl⟩
      · repeat' (first
 | (apply G_call; eq_refl; eq_refl; (apply hck; (repeat first | exact In.here | apply In.there | apply In.skip)); rintro _ _ ⟨rfl, rfl⟩)
 | (apply GC_seqK; intro K hK)
 | (apply hK; clear hK K)
 | (apply GC_region)
 | (apply GL_nil)
 | (apply thenG_normal)
 | (apply thenG_ret)
 | (apply GC_ret)
 | (apply GC_skip)
 | (apply GC_if_true; eq_refl)
 | (apply GC_if_false; eq_refl)
 | (apply retG2; eq_refl; eq_refl)
 | (apply GL_on; eq_refl; eq_refl)
 | (apply G_pv; eq_refl; first | exact trivial | omega)
 | (apply G_ldW; eq_refl; (repeat first | exact In.here | apply In.there | apply In.skip); eq_refl)
 | (apply G_cmpT; eq_refl; eq_refl; omega)
 | (apply G_cmpF; eq_refl; eq_refl; omega)
 | (apply G_box; eq_refl; eq_refl; intro _))
        exact ⟨[], (by repeat first | exact Wk.nil | exact Wk.refl | (apply Wk.cons; (focus ((repeat first | exact Rem.here | apply Rem.there | apply Rem.skip); done))) | apply Wk.nilv | apply Wk.last | apply Wk.drop), rfl, rfl⟩
    · obtain ⟨z0, z1⟩ := mul_le (by omega : 0 ≤ n) (by omega : n ≤ 600) m0 m1
      by_cases hs : 262144 < 1 + n * c.max
      · have hf : ∀ Γ, ∀ w', Mem w' Γ → CVN Try.prog 51 [.agg (ccells c h).toArray, nu (n)] w' fun v N => N = [] ∧ v = .bool false := fun Γ w' M => by
              have := fits_cv (w := w') (h := h) z0 z1
              rw [decide_eq_false (by omega)] at this
              exact this
        have hz := vrE_sz he hr hs
        rw [vrM_no (by rw [hz]; decide), hz]
        repeat' (first
 | (apply G_call; eq_refl; eq_refl; (apply hck; (repeat first | exact In.here | apply In.there | apply In.skip)); rintro _ _ ⟨rfl, rfl⟩)
 | (apply G_call; eq_refl; eq_refl; (apply hf); rintro _ _ ⟨rfl, rfl⟩)
 | (apply GC_seqK; intro K hK)
 | (apply hK; clear hK K)
 | (apply GC_region)
 | (apply GL_nil)
 | (apply thenG_normal)
 | (apply thenG_ret)
 | (apply GC_ret)
 | (apply GC_skip)
 | (apply GC_if_true; eq_refl)
 | (apply GC_if_false; eq_refl)
 | (apply retG2; eq_refl; eq_refl)
 | (apply GL_on; eq_refl; eq_refl)
 | (apply G_pv; eq_refl; first | exact trivial | omega)
 | (apply G_ldW; eq_refl; (repeat first | exact In.here | apply In.there | apply In.skip); eq_refl)
 | (apply G_cmpF; eq_refl; eq_refl; omega)
 | (apply G_box; eq_refl; eq_refl; intro _))
        exact ⟨[], (by repeat first | exact Wk.nil | exact Wk.refl | (apply Wk.cons; (focus ((repeat first | exact Rem.here | apply Rem.there | apply Rem.skip); done))) | apply Wk.nilv | apply Wk.last | apply Wk.drop), rfl, rfl⟩
      · have hf : ∀ Γ, ∀ w', Mem w' Γ → CVN Try.prog 51 [.agg (ccells c h).toArray, nu (n)] w' fun v N => N = [] ∧ v = .bool true := fun Γ w' M => by
              have := fits_cv (w := w') (h := h) z0 z1
              rw [decide_eq_true (by omega)] at this
              exact this
        have hz := vrE_ok he hr hs
        rw [vrM_ok hz, hz]
        repeat' (first
 | (apply G_call; eq_refl; eq_refl; (apply hck; (repeat first | exact In.here | apply In.there | apply In.skip)); rintro _ _ ⟨rfl, rfl⟩)
 | (apply G_call; eq_refl; eq_refl; (apply hf); rintro _ _ ⟨rfl, rfl⟩)
 | (apply GC_seqK; intro K hK)
 | (apply hK; clear hK K)
 | (apply GC_region)
 | (apply GL_nil)
 | (apply thenG_normal)
 | (apply GC_ret)
 | (apply GC_skip)
 | (apply GC_if_false; eq_refl)
 | (apply retG2; eq_refl; eq_refl)
 | (apply GL_on; eq_refl; eq_refl)
 | (apply G_pv; eq_refl; first | exact trivial | omega)
 | (apply G_field; eq_refl)
 | (apply G_ld; eq_refl; (repeat first | exact In.here | apply In.there | apply In.skip); eq_refl)
 | (apply G_ldW; eq_refl; (repeat first | exact In.here | apply In.there | apply In.skip); eq_refl)
 | (apply G_cmpF; eq_refl; eq_refl; omega)
 | (apply G_box; eq_refl; eq_refl; intro _))
        exact ⟨[], (by repeat first | exact Wk.nil | exact Wk.refl | (apply Wk.cons; (focus ((repeat first | exact Rem.here | apply Rem.there | apply Rem.skip); done))) | apply Wk.nilv | apply Wk.last | apply Wk.drop), rfl, rfl⟩
  · have hz := vrE_look (n := n) he
    rw [vrM_no (by rw [hz]; exact he), hz]
    generalize (lookM c).1 = n0 at *
    generalize (lookM c).2 = ε at *
    repeat' (first
 | (apply G_call; eq_refl; eq_refl; (apply hck; (repeat first | exact In.here | apply In.there | apply In.skip)); rintro _ _ ⟨rfl, rfl⟩)
 | (apply GC_seqK; intro K hK)
 | (apply hK; clear hK K)
 | (apply GC_region)
 | (apply GL_nil)
 | (apply thenG_normal)
 | (apply thenG_ret)
 | (apply GC_ret)
 | (apply GC_if_true; eq_refl)
 | (apply retG2; eq_refl; eq_refl)
 | (apply GL_on; eq_refl; eq_refl)
 | (apply G_pv; eq_refl; first | exact trivial | omega)
 | (apply G_ldW; eq_refl; (repeat first | exact In.here | apply In.there | apply In.skip); eq_refl)
 | (apply G_cmpT; eq_refl; eq_refl; omega)
 | (apply G_box; eq_refl; eq_refl; intro _))
    exact ⟨[], (by repeat first | exact Wk.nil | exact Wk.refl | (apply Wk.cons; (focus ((repeat first | exact Rem.here | apply Rem.there | apply Rem.skip); done))) | apply Wk.nilv | apply Wk.last | apply Wk.drop), rfl, rfl⟩
end SC
end Go.Proofs.Ytbmngkdnebklpaa
end
section
/- slices.Grow (the kit's contract laid at this program) and slices.Concat at clauses. -/
set_option linter.unusedVariables false
set_option linter.unusedSimpArgs false
namespace Go.Proofs.Ytbmngkdnebklpaa
namespace SC
open Go.Proofs
open Go.Shelf
set_option maxRecDepth 100000
def groRen : Ren := ⟨fun | 4 => 61 | n => n, fun | 0 => 0 | 3 => 3 | 4 => 4 | 9 => 9 | 20 => 20 | 22 => 32 | 25 => 67 | n => n, fun n => n⟩
theorem groLay : Lays8.n4 Try.prog groRen := {
  mixed := by kernel_rfl
  f4 := ⟨Try.f61.name, by rfl, by kernel_rfl⟩
  t0 := by kernel_rfl
  a0 := fun w => by kernel_rfl
  z0 := fun w => by kernel_rfl
  v0 := fun w => by kernel_rfl
  t3 := by kernel_rfl
  a3 := fun w => by kernel_rfl
  z3 := fun w => by kernel_rfl
  v3 := fun w => by kernel_rfl
  t4 := by kernel_rfl
  a4 := fun w => by kernel_rfl
  z4 := fun w => by kernel_rfl
  v4 := fun w => by kernel_rfl
  t9 := by kernel_rfl
  a9 := fun w => by kernel_rfl
  z9 := fun w => by kernel_rfl
  v9 := fun w => by kernel_rfl
  t20 := by kernel_rfl
  a20 := fun w => by kernel_rfl
  z20 := fun w => by kernel_rfl
  v20 := fun w => by kernel_rfl
  t22 := by kernel_rfl
  a22 := fun w => by kernel_rfl
  z22 := fun w => by kernel_rfl
  v22 := fun w => by kernel_rfl }
theorem grow_cv {w : World} {n : Nat} (h0 : 0 < n) (h1 : n ≤ 1000000) : CVN Try.prog 61 [.slice none 0 0, nu (n : Int)] w fun v N => ∃ b k, v = .slice (some ⟨b, 0, none⟩) 0 k ∧ N = [.vec (encS (β := Int)) 1 67 (some ⟨b, 0, none⟩) k []] := by
  have T : Ty Try.prog 67 _ 1 _ 24 false := inferInstance
  have hi := T.info
  cases hi0 : Try.prog.info? 67 with
  | none => rw [hi0] at hi; cases hi
  | some i0 =>
    rw [hi0] at hi
    simp only [Option.map_some, Option.some.injEq, Prod.mk.injEq] at hi
    obtain ⟨e1, e2, e3⟩ := hi
    have hc := Any8.slices_Grow_grow groLay i0 _ hi0 e1 (by omega) none 0 0 n [] w (Nat.le_refl _) (by omega) (by rw [e3]; omega) (by omega) (by simp) (fun _ => rfl) (fun a ha => by cases ha)
    refine cv_of hc ?_
    rw [show groRen.t 25 = 67 from rfl, show (0 + n : Nat) = n by omega]
    have hle := grownCap_ge w n 0 67
    have hml := grownCap_le_maxLen w n 0 67 (by unfold maxLen; omega)
    generalize grownCap w n 0 67 = G at *
    refine ⟨_, ?_, w.heap.size, G, rfl, rfl⟩
    generalize hcs : ((([] : List Value).toArray ++ Builtin.zeroCells (Value.slice none 0 0).cells (n - 0) ++ Builtin.zeroCells (Value.slice none 0 0).cells (G - n)) : Array Value) = cs
    have hz : cs.size = G := by rw [← hcs]; simp [Builtin.zeroCells, Value.cells]; omega
    have M1 := (Mem.start w).drew.new cs 67
    have hb : (Ent.vec (encS (β := Int)) 1 67 (some ⟨w.heap.size, 0, none⟩) G []).ok (w.drew.alloc (.cells cs 67)) :=
      ⟨by simp, .inr ⟨w.heap.size, G, cs, rfl, Nat.zero_le _, heap_alloc_new w.drew _, Nat.zero_le _, hml, by rw [hz, Nat.mul_one], by simp⟩⟩
    refine M1.tail.cons hb fun k hk ho => ?_
    obtain ⟨E, hE, h2⟩ := ho
    simp only [Ent.own, Value.ownBlock, Option.some.injEq] at hk
    exact (List.pairwise_cons.1 M1.ap).1 E hE k hk.symm h2
/-- How long all together. -/
abbrev CatL := List (Hdl × List (Hdl × List Int))
def catN (Q : CatL) : Nat := (Q.flatMap (·.2)).length
theorem catN_take (Q : CatL) (i : Nat) : catN (Q.take i) ≤ catN Q := by
  unfold catN
  conv => rhs; rw [← List.take_append_drop i Q, List.flatMap_append, List.length_append]
  omega
attribute [local irreducible] WC WL WX WS WO OX Does DoesU Enters CV Pure thenQ blockQ retQ Wants retQC GC GL GS GX RdB thenG blockG retG Rd At gt CVN CVM
theorem concat_cv {w : World} {A : Option Addr} {k : Nat} {Q : CatL} (H : RowA w encS 1 A Q) (H2 : ∀ q ∈ Q, RowA w encS 1 q.1.1 q.2 ∧ (q.1.1 = none → q.1.2 = 0)) (hq : Q.length ≤ 1000) (h0 : 0 < catN Q) (h1 : catN Q ≤ 1000000) :
    CVN Try.prog 32 [.slice A Q.length k] w fun v N => ∃ B c, v = .slice B (Q.flatMap (·.2)).length c ∧ N = [.vec encS 1 67 B c (Q.flatMap (·.2))] := by
  have hgr : ∀ Γ, ∀ w', Mem w' Γ → CVN Try.prog 61 [.slice none 0 0, nu (catN Q : Int)] w' _ := fun Γ w' M => grow_cv h0 h1
  refine CVN.enter 36 [2] Try.func32 rfl rfl rfl (by decide) rfl ?_
  repeat' (first
 | (apply GC_seqK; intro K hK)
 | (apply hK; clear hK K)
 | (apply GC_block)
 | (apply GC_region)
 | (apply GL_nil)
 | (apply thenG_normal)
 | (apply GL_on; eq_refl; eq_refl)
 | (apply G_pv; eq_refl; first | exact trivial | omega)
 | (apply G_len; eq_refl))
  refine GC_loopK [0, 9, 10] (fun i : Nat => [(11, nu i), (3, nu (catN (Q.take i) : Nat))]) (fun _ => [.old w none_]) (fun i => i ≤ Q.length) (fun i => Q.length - i) 0 (by repeat first | exact Pick.nil | (apply Pick.cons; eq_refl)) (by repeat first | exact trivial | refine ⟨rfl, ?_⟩) (by repeat first | exact Wk.nil | exact Wk.refl | (apply Wk.cons; (focus ((repeat first | exact Rem.here | apply Rem.there | apply Rem.skip); done))) | apply Wk.nilv | apply Wk.last | apply Wk.drop) (Nat.zero_le _) ?_
  intro i hi
  have cn := catN_take Q i
  rcases Nat.lt_or_ge i Q.length with hlt | hge
  · have g1 := gt_nat hlt
    have e1 : catN (Q.take (i + 1)) = catN (Q.take i) + (gt Q (i : Int)).2.length := by unfold catN; rw [flat_snoc hlt, List.length_append]
    have cn1 := catN_take Q (i + 1)
    generalize hx : gt Q (i : Int) = x at *
    obtain ⟨x1, l1⟩ := x
    dsimp only at e1
    repeat' (first
 | (apply G_rd; eq_refl; (first | (apply Rd.own; (repeat first | exact In.here | apply In.there | apply In.skip); infer_instance) | (apply Rd.old; (repeat first | exact In.here | apply In.there | apply In.skip); assumption) | (apply Rd.oldR; (repeat first | exact In.here | apply In.there | apply In.skip); assumption) | exact Rd.nil | assumption); (case ih => infer_instance); omega; omega; (rw [hx]; dsimp only [encS]; eq_refl))
 | (apply GC_seqK; intro K hK)
 | (apply hK; clear hK K)
 | (apply GC_block)
 | (apply GC_region)
 | (apply GL_nil)
 | (apply thenG_normal)
 | (apply blockG_normal)
 | (apply GC_skip)
 | (apply GC_if_true; eq_refl)
 | (apply GC_if_false; eq_refl)
 | (apply GL_on; eq_refl; eq_refl)
 | (apply G_pv; eq_refl; first | exact trivial | omega)
 | (apply G_cmpT; eq_refl; eq_refl; omega)
 | (apply G_cmpF; eq_refl; eq_refl; omega)
 | (apply G_len; eq_refl)
 | (apply G_ix; eq_refl; eq_refl; (first | (apply Rd.own; (repeat first | exact In.here | apply In.there | apply In.skip); infer_instance) | (apply Rd.old; (repeat first | exact In.here | apply In.there | apply In.skip); assumption) | (apply Rd.oldR; (repeat first | exact In.here | apply In.there | apply In.skip); assumption) | exact Rd.nil | assumption); (first | eq_refl | omega); omega; omega))
    have e2 : ((catN (Q.take (i + 1)) : Nat) : Int) = (catN (Q.take i) : Nat) + (l1.length : Int) := by omega
    refine ⟨i + 1, ?_, (by repeat first | exact Wk.nil | exact Wk.refl | (apply Wk.cons; (focus ((repeat first | exact Rem.here | apply Rem.there | apply Rem.skip); done))) | apply Wk.nilv | apply Wk.last | apply Wk.drop), hlt, by omega⟩
    rw [e2]
    exact (by repeat first | exact trivial | refine ⟨rfl, ?_⟩)
  · obtain rfl : i = Q.length := by omega
    rw [List.take_length] at cn ⊢
    repeat' (first
 | (apply G_call; eq_refl; eq_refl; (apply hgr); rintro _ _ ⟨b, G, rfl, rfl⟩)
 | (apply GC_seqK; intro K hK)
 | (apply hK; clear hK K)
 | (clear hK K; apply hK; clear hK K)
 | (apply GC_block)
 | (apply GC_region)
 | (apply GL_nil)
 | (apply thenG_normal)
 | (apply thenG_exit)
 | (apply blockG_hit)
 | (apply GC_exit)
 | (apply GC_if_false; eq_refl)
 | (apply GL_on; eq_refl; eq_refl)
 | (apply G_pv; eq_refl; first | exact trivial | omega)
 | (apply G_cmpF; eq_refl; eq_refl; omega)
 | (apply G_len; eq_refl))
    refine GC_loopK [25, 26] (fun s : Nat × Option Addr × Nat => [(27, nu s.1), (6, .slice s.2.1 ((Q.take s.1).flatMap (·.2)).length s.2.2)]) (fun s => [.vec encS 1 67 s.2.1 s.2.2 ((Q.take s.1).flatMap (·.2)), .old w none_]) (fun s => s.1 ≤ Q.length) (fun s => Q.length - s.1) (0, some ⟨b, 0, none⟩, G) (by repeat first | exact Pick.nil | (apply Pick.cons; eq_refl)) (by repeat first | exact trivial | refine ⟨rfl, ?_⟩) (by repeat first | exact Wk.nil | exact Wk.refl | (apply Wk.cons; (focus ((repeat first | exact Rem.here | apply Rem.there | apply Rem.skip); done))) | apply Wk.nilv | apply Wk.last | apply Wk.drop) (Nat.zero_le _) ?_
    rintro ⟨i, B, kB⟩ hi
    dsimp only at hi ⊢
    have cn := catN_take Q i
    rcases Nat.lt_or_ge i Q.length with hlt | hge
    · have e1 := flat_snoc (f := (·.2)) hlt
      have cn1 := catN_take Q (i + 1)
      obtain ⟨hx1, hx2⟩ := H2 _ (gt_mem (l := Q) (i := (i : Int)) (by omega) (by omega))
      rw [show catN (Q.take (i + 1)) = _ from congrArg List.length e1, List.length_append] at cn1
      change ((Q.take i).flatMap (·.2)).length ≤ _ at cn
      generalize hx : gt Q (i : Int) = x at *
      obtain ⟨x1, l1⟩ := x
      dsimp only at e1 cn1 hx1 hx2
      generalize (Q.take i).flatMap (·.2) = l at *
      repeat' (first
 | (apply G_rd; eq_refl; (first | (apply Rd.own; (repeat first | exact In.here | apply In.there | apply In.skip); infer_instance) | (apply Rd.old; (repeat first | exact In.here | apply In.there | apply In.skip); assumption) | (apply Rd.oldR; (repeat first | exact In.here | apply In.there | apply In.skip); assumption) | exact Rd.nil | assumption); (case ih => infer_instance); omega; omega; (rw [hx]; dsimp only [encS]; eq_refl))
 | (apply G_appR; (first | exact wr_p | kernel_rfl); eq_refl; eq_refl; (intro A c; (repeat first | exact Upd.here | apply Upd.there | apply Upd.skip)); infer_instance; (first | (apply Rd.own; (repeat first | exact In.here | apply In.there | apply In.skip); infer_instance) | (apply Rd.old; (repeat first | exact In.here | apply In.there | apply In.skip); assumption) | (apply Rd.oldR; (repeat first | exact In.here | apply In.there | apply In.skip); assumption) | exact Rd.nil | assumption); exact hx2; eq_refl; eq_refl; eq_refl; omega; decide; intro A9 k9)
 | (apply GC_seqK; intro K hK)
 | (apply hK; clear hK K)
 | (apply GC_block)
 | (apply GC_region)
 | (apply GL_nil)
 | (apply thenG_normal)
 | (apply blockG_normal)
 | (apply GC_skip)
 | (apply GC_if_true; eq_refl)
 | (apply GL_on; eq_refl; eq_refl)
 | (apply G_pv; eq_refl; first | exact trivial | omega)
 | (apply G_cmpT; eq_refl; eq_refl; omega)
 | (apply G_ix; eq_refl; eq_refl; (first | (apply Rd.own; (repeat first | exact In.here | apply In.there | apply In.skip); infer_instance) | (apply Rd.old; (repeat first | exact In.here | apply In.there | apply In.skip); assumption) | (apply Rd.oldR; (repeat first | exact In.here | apply In.there | apply In.skip); assumption) | exact Rd.nil | assumption); (first | eq_refl | omega); omega; omega))
      refine ⟨(i + 1, A9, k9), ?_, ?_, hlt, by dsimp only; omega⟩
      · dsimp only
        rw [e1]
        exact (by repeat first | exact trivial | refine ⟨rfl, ?_⟩)
      · dsimp only
        rw [e1]
        exact (by repeat first | exact Wk.nil | exact Wk.refl | (apply Wk.cons; (focus ((repeat first | exact Rem.here | apply Rem.there | apply Rem.skip); done))) | apply Wk.nilv | apply Wk.last | apply Wk.drop)
    · obtain rfl : i = Q.length := by omega
      rw [List.take_length]
      repeat' (first
 | (apply GC_seqK; intro K hK)
 | (apply hK; clear hK K)
 | (clear hK K; apply hK; clear hK K)
 | (apply GC_region)
 | (apply GL_nil)
 | (apply thenG_normal)
 | (apply thenG_exit)
 | (apply blockG_hit)
 | (apply GC_ret)
 | (apply GC_exit)
 | (apply GC_if_false; eq_refl)
 | (apply retG1; eq_refl)
 | (apply GL_on; eq_refl; eq_refl)
 | (apply G_pv; eq_refl; first | exact trivial | omega)
 | (apply G_cmpF; eq_refl; eq_refl; omega))
      exact ⟨[.vec encS 1 67 B kB (Q.flatMap (·.2))], (by repeat first | exact Wk.nil | exact Wk.refl | (apply Wk.cons; (focus ((repeat first | exact Rem.here | apply Rem.there | apply Rem.skip); done))) | apply Wk.nilv | apply Wk.last | apply Wk.drop), B, kB, rfl, rfl⟩
end SC
end Go.Proofs.Ytbmngkdnebklpaa
end
section
/- frames: Run. -/
set_option linter.unusedVariables false
set_option linter.unusedSimpArgs false
namespace Go.Proofs.Ytbmngkdnebklpaa
namespace SC
open Go.Proofs
/-- How many clauses so many steps have. -/
noncomputable def rnN (c : Circ) (n : Int) : Int := 1 + ((firstS c).length : Int) + n * (3 * (c.ands.length : Int) + (c.constraints.length : Int)) + 2 * (n - 1) * (c.latches.length : Int)
/-- What is wrong with so many steps' formula. -/
noncomputable def rnE (c : Circ) (n : Int) : Int := if vrE c n ≠ 0 then vrE c n else if 524288 < rnN c n then 6 else 0
noncomputable def rnL (c : Circ) (n : Int) : List (List Int) := if rnE c n = 0 then runS c (n - 1).toNat else []
noncomputable def rnV (c : Circ) (n : Int) : Int := if rnE c n = 0 then 1 + n * c.max else 0
theorem rnE_vr {c : Circ} {n : Int} (h : vrE c n ≠ 0) : rnE c n = vrE c n := if_pos h
theorem rnE_sz {c : Circ} {n : Int} (h : vrE c n = 0) (h2 : 524288 < rnN c n) : rnE c n = 6 := by unfold rnE; rw [if_neg (by omega), if_pos h2]
theorem rnE_ok {c : Circ} {n : Int} (h : vrE c n = 0) (h2 : ¬ 524288 < rnN c n) : rnE c n = 0 := by unfold rnE; rw [if_neg (by omega), if_neg h2]
theorem rnL_no {c : Circ} {n : Int} (h : rnE c n ≠ 0) : rnL c n = [] := if_neg h
theorem rnL_ok {c : Circ} {n : Int} (h : rnE c n = 0) : rnL c n = runS c (n - 1).toNat := if_pos h
theorem rnV_no {c : Circ} {n : Int} (h : rnE c n ≠ 0) : rnV c n = 0 := if_neg h
theorem rnV_ok {c : Circ} {n : Int} (h : rnE c n = 0) : rnV c n = 1 + n * c.max := if_pos h
theorem run_num {n a b l : Int} (h1 : 1 ≤ n) (h2 : n ≤ 512) (a0 : 0 ≤ a) (a1 : a ≤ 16384) (b0 : 0 ≤ b) (b1 : b ≤ 16384) (l0 : 0 ≤ l) (l1 : l ≤ 16384) :
    (0 ≤ n * (3 * a + b) ∧ n * (3 * a + b) ≤ 100000000) ∧ (0 ≤ 2 * (n - 1) * l ∧ 2 * (n - 1) * l ≤ 100000000) ∧ (n - 1) * 2 * l = 2 * (n - 1) * l := by
  have h3 := Int.mul_le_mul h2 (by omega : 3 * a + b ≤ 65536) (by omega) (by decide : (0 : Int) ≤ 512)
  have h4 := Int.mul_le_mul (by omega : 2 * (n - 1) ≤ 1022) l1 l0 (by decide : (0 : Int) ≤ 1022)
  refine ⟨⟨Int.mul_nonneg (by omega) (by omega), by omega⟩, ⟨Int.mul_nonneg (by omega) l0, by omega⟩, ?_⟩
  rw [Int.mul_comm (n - 1) 2]
theorem runS_le {c : Circ} (R : Right c) {j : Nat} (hj : j ≤ 512) : (runS c j).length ≤ 60000000 := by
  have n2 := R.nLat
  have n3 := R.nAnd
  have n4 := R.nCon
  have h1 := firstS_len c
  rw [runS_len]
  have h3 := Nat.mul_le_mul (by omega : j + 1 ≤ 513) (by omega : 3 * c.ands.length + c.constraints.length ≤ 65536)
  have h4 := Nat.mul_le_mul hj (by omega : 2 * c.latches.length ≤ 32768)
  omega
theorem map_len {α β : Type} {f : α → β} {l : List α} {m : List β} (h : l.map f = m) : l.length = m.length := by rw [← h, List.length_map]
/-- A formula and an error as an answer. -/
def CnfT (V : Int) (m : List (List Int)) (ε : Int) (v : Value) (N : Mm) : Prop := ∃ ps A k, v = .tuple #[.agg #[nu V, .slice A ps.length k], nu ε] ∧ ps.map (·.2) = m ∧ N = [.vec encS 1 67 A k ps, .any (bun (fam rowJ ps))]
theorem cat2_cv {Γ : Mm} {b b2 b3 kB : Nat} {B : Option Addr} {qs : List (Hdl × List Int)} (h1 : In Γ (.box b 32 [.slice (some ⟨b2, 0, none⟩) 1 1, .slice B qs.length kB])) (h2 : In Γ (.box b2 67 [.slice (some ⟨b3, 0, none⟩) 1 1])) (h3 : In Γ (.vec encS 1 67 B kB qs)) (hl : qs.length ≤ 900000) (w : World) (M : Mem w Γ) :
    CVN Try.prog 32 [.slice (some ⟨b, 0, none⟩) 2 2] w fun v N => ∃ C c, v = .slice C (qs.length + 1) c ∧ N = [.vec encS 1 67 C c (((some ⟨b3, 0, none⟩, 1), [-1]) :: qs)] := by
  have H : RowA w encS 1 (some ⟨b, 0, none⟩) ([((some ⟨b2, 0, none⟩, 1), [((some ⟨b3, 0, none⟩, 1), [-1])]), ((B, kB), qs)] : CatL) := RowA.blk (fun _ => rfl) (h1.box M)
  have hn : B = none → kB = 0 := fun hA => by
    rcases (h3.ok M).2 with ⟨h1, _⟩ | ⟨g, cap, cur, h1, _⟩
    · simp only [Value.slice.injEq] at h1; exact h1.2.2
    · simp only [Value.slice.injEq] at h1; rw [h1.1] at hA; cases hA
  have hc : catN ([((some ⟨b2, 0, none⟩, 1), [((some ⟨b3, 0, none⟩, 1), [-1])]), ((B, kB), qs)] : CatL) = qs.length + 1 := by simp [catN]
  have := concat_cv (k := 2) H (fun q hq => by
    rcases List.mem_cons.1 hq with rfl | hq
    · exact ⟨RowA.blk (enc := encS) (l := ([((some ⟨b3, 0, none⟩, 1), [-1])] : List (Hdl × List Int))) (fun _ => rfl) (h2.box M), fun h => by cases h⟩
    · rcases List.mem_singleton.1 hq with rfl
      exact ⟨RowA.own (enc := encS) (fun _ => rfl) (h3.ok M), hn⟩) (by simp) (by omega) (by omega)
  simpa using this
section
variable {P : Program} {n : Nat} {all : List Oper} {K : Env → Mm → Prop} {e : Env} {Γ : Mm} {d : Option Tmp} {ty t t0 : TypeId} {x y : Operand} {td : TypeDesc} {sz by_ : Nat} {zv : Value} {ag : Bool}
/-- append to a vector that was kept apart. -/
theorem G_appVP {α : Type} {enc : α → List Value} {j : Nat} {A : List Fl} {Θ : Mm} {r : List PStep} [U : Ty P t (.slice t0) 1 (.slice none 0 0) 24 false] [T : Ty P t0 td sz zv by_ ag] {A1 A2 : Option Addr} {c k1 k2 c2 : Nat} {l l2 : List α} {t2 : TypeId} {Θ2 : Option Addr → Nat → Mm} (h : ev e x = some (.slice A1 k1 c)) (h1 : ev e y = some (.slice A2 k2 c2))
    (hU : ∀ A' c', Upd Θ (.vec enc sz t0 A1 c l) (.vec enc sz t0 A' c' (l ++ l2)) (Θ2 A' c')) (N : Enc enc sz) (hi : In Γ (.vec enc sz t2 A2 c2 l2)) (hk1 : k1 = l.length) (hk : k2 = l2.length) (hzs : zv.cells.size = sz) (hby : (l.length + l2.length) * by_ ≤ 140737488355328) (hby1 : 1 ≤ by_)
    (hr : ∀ A' c', GS P n all K A (Θ2 A' c') r (push d (.slice A' (l ++ l2).length c') e) Γ) : GX P n all K (.c j A Θ r) d (.call { callee := .builtin .append, args := #[x, y], argTypes := #[t, t] }) ty e Γ := fun pos af g ho hg hd hA =>
  GS_priv (R := fun v Θ1 N => ∃ A' c', v = .slice A' (l ++ l2).length c' ∧ Θ1 = Θ2 A' c' ∧ N = []) ho hg hd hA (fun Δ w M =>
    (acts_appendR (P := P) (ty := ty) (t := t) (t0 := t0) (enc := enc) (Γ2 := fun A' c' => Θ2 A' c' ++ Γ) h hk1 h1 hk (fun A' c' => (hU A' c').left) (fun w M => Rd.own hi N w M.right) (fun w M hA => by
      have := hi.ok M.right
      rcases this.2 with ⟨h1, _⟩ | ⟨g, cap, cur, h1, _⟩
      · simp only [Value.slice.injEq] at h1; exact h1.2.2
      · simp only [Value.slice.injEq] at h1; rw [h1.1] at hA; cases hA) hzs hby hby1 Δ w M).mono fun v w' ⟨Γ', M', A', c', e1, e2⟩ => by
        subst e2
        exact ⟨Θ2 A' c', [], M', A', c', e1, rfl, rfl⟩) fun v Θ1 N ⟨A', c', e1, e2, e3⟩ => by rw [e1, e2, e3]; exact hr A' c'
theorem Wk.rows2 {Γ Γ1 Γ2 Γ3 Γ' : Mm} {ps qs rs : List (Hdl × List Int)} (h1 : Rem Γ (.any (bun (fam rowJ ps))) Γ1) (h2 : Rem Γ1 (.any (bun (fam rowJ qs))) Γ2) (h3 : Rem Γ2 (.any (bun (fam rowJ rs))) Γ3) (h : Wk Γ3 Γ') : Wk Γ (.any (bun (fam rowJ (ps ++ qs ++ rs))) :: Γ') :=
  (Wk.rows h1 h2 .refl).trans (Wk.rows .here h3 h)
end
attribute [local irreducible] WC WL WX WS WO OX Does DoesU Enters CV Pure thenQ blockQ retQ Wants retQC GC GL GS GX RdB thenG blockG retG Rd At gt CVN CVM
set_option maxRecDepth 100000
theorem RunP16_cv {w : World} {c : Circ} {h js : Hd} {n : Int} (H : CirIn w c h js) : CVN Try.prog 10 [.agg (ccells c h).toArray, nu n] w (CnfT (rnV c n) (rnL c n) (rnE c n)) := by
  have hvr : ∀ Γ, In Γ (.old w none_) → ∀ w', Mem w' Γ → CVN Try.prog 22 [.agg (ccells c h).toArray, nu n] w' _ := fun Γ hi w' M => VarsP16_cv (H.chg (hi.old M))
  refine CVN.enterC1 (t := 34) 79 4 5 Try.func10 rfl rfl rfl rfl ?_
  by_cases hz : vrE c n = 0
  · obtain ⟨he, n1, n2, n3⟩ := vrE_zero hz
    have R := right_of H.at_ H.sane he
    have m0 := R.m0
    have m1 := R.m1
    have l2 := R.nLat
    have l3 := R.nAnd
    have l4 := R.nCon
    have lf := firstS_len c
    obtain ⟨⟨z0, z1⟩, ⟨z2, z3⟩, _⟩ := run_num (a := (c.ands.length : Int)) (b := (c.constraints.length : Int)) (l := (c.latches.length : Int)) n1 n2 (by omega) (by omega) (by omega) (by omega) (by omega) (by omega)
    have hfs : ∀ Γ, In Γ (.old w none_) → ∀ w', Mem w' Γ → CVN Try.prog 33 [.agg (ccells c h).toArray] w' (CliR (firstS c)) := fun Γ hi w' M => firstS_cv R (H.at_.chg (hi.old M))
    have hst : ∀ t : Int, 0 ≤ t → t ≤ 512 → ∀ Γ, In Γ (.old w none_) → ∀ w', Mem w' Γ → CVN Try.prog 34 [.agg (ccells c h).toArray, nu t] w' (CliR (stepS c t)) := fun t t0 t1 Γ hi w' M => stepF_cv R (H.at_.chg (hi.old M)) t0 (by omega)
    have hnx : ∀ t : Int, 0 ≤ t → t ≤ 512 → ∀ Γ, In Γ (.old w none_) → ∀ w', Mem w' Γ → CVN Try.prog 35 [.agg (ccells c h).toArray, nu t] w' (CliR (nextS c t)) := fun t t0 t1 Γ hi w' M => nextS_cv R (H.at_.chg (hi.old M)) t0 (by omega)
    rw [hz, vrM_ok hz] at hvr
    by_cases hs : 524288 < rnN c n
    · rw [rnV_no (by rw [rnE_sz hz hs]; decide), rnL_no (by rw [rnE_sz hz hs]; decide), rnE_sz hz hs]
      unfold rnN at hs
      repeat' (first
 | (apply G_call; eq_refl; eq_refl; (apply hvr; (repeat first | exact In.here | apply In.there | apply In.skip)); rintro _ _ ⟨rfl, rfl⟩)
 | (apply G_call; eq_refl; eq_refl; (apply hfs; (repeat first | exact In.here | apply In.there | apply In.skip)); rintro _ _ ⟨qs, B, kB, rfl, hqs, rfl⟩; have lq := map_len hqs)
 | (apply G_call; eq_refl; eq_refl; (apply cat2_cv; (repeat first | exact In.here | apply In.there | apply In.skip); (repeat first | exact In.here | apply In.there | apply In.skip); (repeat first | exact In.here | apply In.there | apply In.skip); omega); rintro _ _ ⟨C, kC, rfl, rfl⟩)
 | (apply GC_seqK; intro K hK)
 | (apply hK; clear hK K)
 | (apply GC_region)
 | (apply GL_nil)
 | (apply thenG_normal)
 | (apply thenG_ret)
 | (apply GC_ret)
 | (apply GC_skip)
 | (apply GC_if_true; eq_refl)
 | (apply GC_if_false; eq_refl)
 | (apply retGC1r; eq_refl; (repeat first | exact In.here | apply In.there | apply In.skip); eq_refl; eq_refl)
 | (apply GL_on; eq_refl; eq_refl)
 | (apply G_pv; eq_refl; first | exact trivial | omega)
 | (apply G_field; eq_refl)
 | (apply G_ld; eq_refl; (repeat first | exact In.here | apply In.there | apply In.skip); eq_refl)
 | (apply G_ldW; eq_refl; (repeat first | exact In.here | apply In.there | apply In.skip); eq_refl)
 | (apply G_cmpT; eq_refl; eq_refl; omega)
 | (apply G_cmpF; eq_refl; eq_refl; omega)
 | (apply G_len; eq_refl)
 | (apply G_alloc; eq_refl; intro _)
 | (apply G_box; eq_refl; eq_refl; intro _)
 | (apply G_stW; (first | exact wr_p | kernel_rfl); eq_refl; eq_refl; eq_refl; eq_refl; (repeat first | exact Upd.here | apply Upd.there | apply Upd.skip); eq_refl)
 | (apply GX_pure; apply build34_)
 | (apply GX_pure; apply build69_0 <;> eq_refl)
 | (apply GX_pure; apply build34_0_1 <;> eq_refl)
 | (apply G_new (fun b => .slice (some ⟨b, 0, none⟩) 1 1); eq_refl; (intro _; apply buildS67_1 <;> eq_refl); intro _)
 | (apply G_new (fun b => .slice (some ⟨b, 0, none⟩) 1 1); eq_refl; (intro _; apply buildS32_1 <;> eq_refl); intro _)
 | (apply G_new (fun b => .slice (some ⟨b, 0, none⟩) 2 2); eq_refl; (intro _; apply buildS100_2 <;> eq_refl); intro _))
      exact ⟨[.vec encS 1 67 none 0 [], .any (bun (fam rowJ []))], Wk.nilv (rows_nil (by repeat first | exact Wk.nil | exact Wk.refl | (apply Wk.cons; (focus ((repeat first | exact Rem.here | apply Rem.there | apply Rem.skip); done))) | apply Wk.nilv | apply Wk.last | apply Wk.drop)), [], none, 0, rfl, rfl, rfl⟩
    · rw [rnV_ok (rnE_ok hz hs), rnL_ok (rnE_ok hz hs), rnE_ok hz hs]
      unfold rnN at hs
      have ls0 := stepS_len c 0
      repeat' (first
 | (apply G_call; eq_refl; eq_refl; (apply hvr; (repeat first | exact In.here | apply In.there | apply In.skip)); rintro _ _ ⟨rfl, rfl⟩)
 | (apply G_call; eq_refl; eq_refl; (apply hfs; (repeat first | exact In.here | apply In.there | apply In.skip)); rintro _ _ ⟨qs, B, kB, rfl, hqs, rfl⟩; have lq := map_len hqs)
 | (apply G_call; eq_refl; eq_refl; (apply cat2_cv; (repeat first | exact In.here | apply In.there | apply In.skip); (repeat first | exact In.here | apply In.there | apply In.skip); (repeat first | exact In.here | apply In.there | apply In.skip); omega); rintro _ _ ⟨C, kC, rfl, rfl⟩)
 | (apply G_call; eq_refl; eq_refl; (apply (hst 0 (by omega) (by omega)); (repeat first | exact In.here | apply In.there | apply In.skip)); rintro _ _ ⟨rs, D, kD, rfl, hrs, rfl⟩; have lr := map_len hrs)
 | (apply GC_seqK; intro K hK)
 | (apply hK; clear hK K)
 | (apply GC_block)
 | (apply GC_region)
 | (apply GL_nil)
 | (apply thenG_normal)
 | (apply GC_skip)
 | (apply GC_if_false; eq_refl)
 | (apply GL_on; eq_refl; eq_refl)
 | (refine GC_draws (id := 8) [.q 0, .q 1, .q 2, .c 3, .c 4, .q 5, .c 6] mixed (by kernel_rfl) (by kernel_rfl) ?_)
 | (apply GS_nil)
 | (apply GS_qon; eq_refl; eq_refl; eq_refl; eq_refl)
 | (apply GS_con; eq_refl; eq_refl; eq_refl; eq_refl)
 | (apply G_pv; eq_refl; first | exact trivial | omega)
 | (apply G_field; eq_refl)
 | (apply G_ld; eq_refl; (repeat first | exact In.here | apply In.there | apply In.skip); eq_refl)
 | (apply G_ldW; eq_refl; (repeat first | exact In.here | apply In.there | apply In.skip); eq_refl)
 | (apply G_cmpF; eq_refl; eq_refl; omega)
 | (apply G_len; eq_refl)
 | (apply G_alloc; eq_refl; intro _)
 | (apply G_box; eq_refl; eq_refl; intro _)
 | (apply G_st; (first | exact wr_p | kernel_rfl); eq_refl; eq_refl; eq_refl; eq_refl; (repeat first | exact Upd.here | apply Upd.there | apply Upd.skip); (first | decide | exact Nat.le_of_ble_eq_true rfl))
 | (apply G_stW; (first | exact wr_p | kernel_rfl); eq_refl; eq_refl; eq_refl; eq_refl; (repeat first | exact Upd.here | apply Upd.there | apply Upd.skip); eq_refl)
 | (apply G_appV; (first | exact wr_p | kernel_rfl); eq_refl; eq_refl; (intro A c; (repeat first | exact Upd.here | apply Upd.there | apply Upd.skip)); infer_instance; (repeat first | exact In.here | apply In.there | apply In.skip); eq_refl; eq_refl; eq_refl; ((try simp only [List.length_append, List.length_cons, List.length_nil]); omega); decide; intro _ _)
 | (apply GX_pure; apply build69_0 <;> eq_refl)
 | (apply GX_pure; apply build34_0_1 <;> eq_refl)
 | (apply G_new (fun b => .slice (some ⟨b, 0, none⟩) 1 1); eq_refl; (intro _; apply buildS67_1 <;> eq_refl); intro _)
 | (apply G_new (fun b => .slice (some ⟨b, 0, none⟩) 1 1); eq_refl; (intro _; apply buildS32_1 <;> eq_refl); intro _)
 | (apply G_new (fun b => .slice (some ⟨b, 0, none⟩) 2 2); eq_refl; (intro _; apply buildS100_2 <;> eq_refl); intro _))
      rename_i b2 b4 b8 b24 b25 b28 b9 A1 k1
      refine GC_loopK [1, 2, 4, 8, 9] (fun s : Nat × List (Hdl × List Int) × Option Addr × Nat => [(10, nu ((s.1 + 1 : Nat) : Int))]) (fun s => [.any (bun (fam rowJ s.2.1)), .vec encS 1 67 s.2.2.1 s.2.2.2 s.2.1, .box b9 34 [nu (1 + n * c.max), .slice s.2.2.1 s.2.1.length s.2.2.2], .box b8 69 (ccells c h), .box b4 34 [nu 0, .slice none 0 0], .box b2 29 (ccells c h), .old w none_])
        (fun s => (s.1 : Int) + 1 ≤ n ∧ s.2.1.map (·.2) = runS c s.1) (fun s => n.toNat - s.1) (0, ((some ⟨b24, 0, none⟩, 1), [-1]) :: qs ++ rs, A1, k1) (by repeat first | exact Pick.nil | (apply Pick.cons; eq_refl)) (by repeat first | exact trivial | refine ⟨rfl, ?_⟩) ?_ ⟨by dsimp only; omega, ?_⟩ ?_
      · refine Wk.trans (rows_nil .refl) ?_
        refine Wk.trans (Wk.add1 (l := [-1]) (b := b24) .here (by repeat first | exact Rem.here | apply Rem.there | apply Rem.skip) rfl (Nat.le_of_ble_eq_true rfl) .refl) ?_
        refine Wk.trans (Wk.rows (qs := qs) .here (by repeat first | exact Rem.here | apply Rem.there | apply Rem.skip) .refl) ?_
        exact Wk.rows .here (by repeat first | exact Rem.here | apply Rem.there | apply Rem.skip) (by repeat first | exact Wk.nil | exact Wk.refl | (apply Wk.cons; (focus ((repeat first | exact Rem.here | apply Rem.there | apply Rem.skip); done))) | apply Wk.nilv | apply Wk.last | apply Wk.drop)
      · dsimp only
        rw [List.cons_append, List.map_cons, List.map_append, hqs, hrs]
        rfl
      rintro ⟨j, ps, A, kA⟩ ⟨hj, hps⟩
      dsimp only at hj hps ⊢
      have lp := map_len hps
      have le := runS_le R (j := j) (by omega)
      rcases Int.lt_or_le ((j : Int) + 1) n with hlt | hge
      · have ln := nextS_len c (j : Int)
        have ls := stepS_len c ((j : Int) + 1)
        have hn : ∀ Γ, In Γ (.old w none_) → ∀ w', Mem w' Γ → CVN Try.prog 35 [.agg (ccells c h).toArray, nu (((j + 1 : Nat) : Int) - 1)] w' (CliR (nextS c (j : Int))) := by
          rw [show ((j + 1 : Nat) : Int) - 1 = (j : Int) by omega]
          exact hnx _ (by omega) (by omega)
        have hs1 : ∀ Γ, In Γ (.old w none_) → ∀ w', Mem w' Γ → CVN Try.prog 34 [.agg (ccells c h).toArray, nu ((j + 1 : Nat) : Int)] w' (CliR (stepS c ((j : Int) + 1))) := by
          rw [show ((j + 1 : Nat) : Int) = (j : Int) + 1 by omega]
          exact hst _ (by omega) (by omega)
        repeat' (first
 | (apply GC_drawsP (id := 12) (C := [.vec encS 1 67 A kA ps]) [.q 0, .q 1, .q 2, .q 3, .q 4, .q 7, .q 8, .c 5, .c 6, .c 9, .c 10, .q 11, .c 12]; exact mixed; kernel_rfl; kernel_rfl; (repeat first | exact Rems.nil | (apply Rems.cons; (focus ((repeat first | exact Rem.here | apply Rem.there | apply Rem.skip); done)))))
 | (apply GS_nilP)
 | (apply G_appVP (enc := encS); eq_refl; eq_refl; (intro A c; (repeat first | exact Upd.here | apply Upd.there | apply Upd.skip)); infer_instance; (repeat first | exact In.here | apply In.there | apply In.skip); eq_refl; eq_refl; eq_refl; ((try simp only [List.length_append]); omega); decide; intro _ _)
 | (apply G_call; eq_refl; eq_refl; (apply hn; (repeat first | exact In.here | apply In.there | apply In.skip)); rintro _ _ ⟨us, D2, kD2, rfl, hus, rfl⟩; have lu := map_len hus)
 | (apply G_call; eq_refl; eq_refl; (apply hs1; (repeat first | exact In.here | apply In.there | apply In.skip)); rintro _ _ ⟨vs, D3, kD3, rfl, hvs, rfl⟩; have lv := map_len hvs)
 | (apply GC_seqK; intro K hK)
 | (apply hK; clear hK K)
 | (apply GC_block)
 | (apply GC_region)
 | (apply GL_nil)
 | (apply thenG_normal)
 | (apply blockG_normal)
 | (apply GC_skip)
 | (apply GC_if_true; eq_refl)
 | (apply GL_on; eq_refl; eq_refl)
 | (apply GS_qon; eq_refl; eq_refl; eq_refl; eq_refl)
 | (apply GS_con; eq_refl; eq_refl; eq_refl; eq_refl)
 | (apply G_pv; eq_refl; first | exact trivial | omega)
 | (apply G_field; eq_refl)
 | (apply G_ld; eq_refl; (repeat first | exact In.here | apply In.there | apply In.skip); eq_refl)
 | (apply G_ldW; eq_refl; (repeat first | exact In.here | apply In.there | apply In.skip); eq_refl)
 | (apply G_cmpT; eq_refl; eq_refl; omega)
 | (apply G_st; (first | exact wr_p | kernel_rfl); eq_refl; eq_refl; eq_refl; eq_refl; (repeat first | exact Upd.here | apply Upd.there | apply Upd.skip); (first | decide | exact Nat.le_of_ble_eq_true rfl)))
        rename_i A5 k5 A6 k6
        refine ⟨(j + 1, ps ++ us ++ vs, A6, k6), (by repeat first | exact trivial | refine ⟨rfl, ?_⟩), ?_, ⟨by dsimp only; omega, ?_⟩, by dsimp only; omega⟩
        · dsimp only
          exact Wk.rows2 (by repeat first | exact Rem.here | apply Rem.there | apply Rem.skip) (by repeat first | exact Rem.here | apply Rem.there | apply Rem.skip) (by repeat first | exact Rem.here | apply Rem.there | apply Rem.skip) (by repeat first | exact Wk.nil | exact Wk.refl | (apply Wk.cons; (focus ((repeat first | exact Rem.here | apply Rem.there | apply Rem.skip); done))) | apply Wk.nilv | apply Wk.last | apply Wk.drop)
        · dsimp only
          rw [List.map_append, List.map_append, hps, hus, hvs]
          rfl
      · obtain rfl : n = (j : Int) + 1 := by omega
        repeat' (first
 | (apply GC_seqK; intro K hK)
 | (apply hK; clear hK K)
 | (clear hK K; apply hK; clear hK K)
 | (apply GC_region)
 | (apply GL_nil)
 | (apply thenG_normal)
 | (apply thenG_exit)
 | (apply blockG_hit)
 | (apply GC_ret)
 | (apply GC_exit)
 | (apply GC_if_false; eq_refl)
 | (apply retGC1r; eq_refl; (repeat first | exact In.here | apply In.there | apply In.skip); eq_refl; eq_refl)
 | (apply GL_on; eq_refl; eq_refl)
 | (apply G_pv; eq_refl; first | exact trivial | omega)
 | (apply G_ldW; eq_refl; (repeat first | exact In.here | apply In.there | apply In.skip); eq_refl)
 | (apply G_cmpF; eq_refl; eq_refl; omega)
 | (apply G_stW; (first | exact wr_p | kernel_rfl); eq_refl; eq_refl; eq_refl; eq_refl; (repeat first | exact Upd.here | apply Upd.there | apply Upd.skip); eq_refl))
        exact ⟨[.vec encS 1 67 A kA ps, .any (bun (fam rowJ ps))], (by repeat first | exact Wk.nil | exact Wk.refl | (apply Wk.cons; (focus ((repeat first | exact Rem.here | apply Rem.there | apply Rem.skip); done))) | apply Wk.nilv | apply Wk.last | apply Wk.drop), ps, A, kA, rfl, by rw [show ((j : Int) + 1 - 1).toNat = j by omega]; exact hps, rfl⟩
  · rw [rnV_no (by rw [rnE_vr hz]; exact hz), rnL_no (by rw [rnE_vr hz]; exact hz), rnE_vr hz]
    rw [vrM_no hz] at hvr
    generalize vrE c n = ε at *
    repeat' (first
 | (apply G_call; eq_refl; eq_refl; (apply hvr; (repeat first | exact In.here | apply In.there | apply In.skip)); rintro _ _ ⟨rfl, rfl⟩)
 | (apply GC_seqK; intro K hK)
 | (apply hK; clear hK K)
 | (apply GC_region)
 | (apply GL_nil)
 | (apply thenG_normal)
 | (apply thenG_ret)
 | (apply GC_ret)
 | (apply GC_if_true; eq_refl)
 | (apply retGC1r; eq_refl; (repeat first | exact In.here | apply In.there | apply In.skip); eq_refl; eq_refl)
 | (apply GL_on; eq_refl; eq_refl)
 | (apply G_pv; eq_refl; first | exact trivial | omega)
 | (apply G_ldW; eq_refl; (repeat first | exact In.here | apply In.there | apply In.skip); eq_refl)
 | (apply G_cmpT; eq_refl; eq_refl; omega)
 | (apply G_alloc; eq_refl; intro _)
 | (apply G_box; eq_refl; eq_refl; intro _)
 | (apply G_stW; (first | exact wr_p | kernel_rfl); eq_refl; eq_refl; eq_refl; eq_refl; (repeat first | exact Upd.here | apply Upd.there | apply Upd.skip); eq_refl)
 | (apply GX_pure; apply build34_))
    exact ⟨[.vec encS 1 67 none 0 [], .any (bun (fam rowJ []))], Wk.nilv (rows_nil (by repeat first | exact Wk.nil | exact Wk.refl | (apply Wk.cons; (focus ((repeat first | exact Rem.here | apply Rem.there | apply Rem.skip); done))) | apply Wk.nilv | apply Wk.last | apply Wk.drop)), [], none, 0, rfl, rfl, rfl⟩
end SC
end Go.Proofs.Ytbmngkdnebklpaa
end
section
/- The reference's Run. -/
set_option linter.unusedVariables false
set_option linter.unusedSimpArgs false
namespace Go.Proofs.Ytbmngkdnebklpaa
namespace SC
open Go.Proofs
attribute [local irreducible] WC WL WX WS WO OX Does DoesU Enters CV Pure thenQ blockQ retQ Wants retQC GC GL GS GX RdB thenG blockG retG Rd At gt CVN CVM
set_option maxRecDepth 100000
end SC
end Go.Proofs.Ytbmngkdnebklpaa
end
section
/- trestlelaw16: works, cost. -/
set_option linter.unusedVariables false
set_option linter.unusedSimpArgs false
namespace Go.Proofs.Ytbmngkdnebklpaa
namespace SC
open Go.Proofs
def cLt : Circ := ⟨1, [], [(2, 3, 0)], [], [], [], [], [], [], [], []⟩
theorem cLt_sizes : sizesM cLt = 0 := by
  unfold sizesM
  rw [if_neg (by simp [cLt]), if_neg]
  simp [cLt, Circ.lens, sumW, sumL]; decide
theorem cLt_defs : definesM cLt (T0 cLt) = ((0, 0), [(0, 0), (2, 0)]) := by decide
theorem cLt_tab : tabM cLt = [(0, 0), (2, 0)] := by unfold tabM; rw [cLt_defs]
theorem cLt_uses : usesM cLt (tabM cLt) = (0, 0) := by rw [cLt_tab]; decide
theorem cLt_all : All 0 (gateB (tabM cLt) cLt) [] := ⟨.nil, fun x hx => by have := hx.rg; unfold rg at this; omega⟩
theorem cLt_look : (lookM cLt).2 = 0 := by
  have hc : cycM cLt.ands.length (gateB (tabM cLt) cLt) = -1 := cycM_eq ⟨[], cLt_all, .inl ⟨rfl, rfl⟩⟩
  unfold lookM
  rw [cLt_sizes, cLt_defs, cLt_uses, hc]
  simp [cLt, goSym, goCom]
theorem cLt_sane : cLt.Sane := ⟨by simp [cLt], by simp [cLt], by simp [cLt], by simp [cLt], by simp [cLt], by simp [cLt]⟩
theorem cLt_okay : cLt.Okay := ⟨by simp [cLt, Circ.lens], by simp [cLt], (by intro x hx; simp [cLt] at hx; subst hx; simp [TriFits, fit64, fits]), by simp [cLt], by simp [cLt]⟩
theorem cLt_fits : cLt.Fits := ⟨by simp [cLt], by simp [cLt], by simp [cLt], by simp [cLt], by simp [cLt], by simp [cLt], by simp [cLt], by simp [cLt], by simp [cLt], by simp [cLt], by simp [cLt]⟩
def hLt (a : Nat) : Hd := fun | 2 => (some ⟨a, 0, none⟩, 1) | _ => (none, 0)
theorem cLt_in {w : World} {a : Nat} (ha : Blk w a 58 [nu 2, nu 3, nu 0]) : CirIn w cLt (hLt a) hNil :=
  ⟨⟨RowA.emp, RowA.blk (l := [(2, 3, 0)]) tlen ha, RowA.emp, RowA.emp, RowA.emp, fun k hk => absurd hk (Nat.not_lt_zero _), fun k hk => absurd hk (Nat.not_lt_zero _), RowA.emp, RowA.emp, RowA.emp, RowA.emp⟩, cLt_sane, cLt_okay, cLt_fits⟩
theorem cLt_ltE : ltE cLt 3 3 = 0 := by
  rw [ltE_in cLt_look (by decide)]
  exact ftE_ok cLt_look (by decide) (by decide)
theorem cLt_ltM : ltM cLt 3 3 = -5 := by rw [ltM_ok cLt_ltE]; decide
theorem cLt_vrE : vrE cLt 2 = 0 := vrE_ok cLt_look (by decide) (by decide)
theorem cLt_rnE : rnE cLt 2 = 0 := rnE_ok cLt_vrE (by unfold rnN; decide)
theorem cLt_rnV : rnV cLt 2 = 3 := by rw [rnV_ok cLt_rnE]; decide
theorem cLt_rnL : rnL cLt 2 = [[-1], [-2], [-3, -2], [3, 2]] := by rw [rnL_ok cLt_rnE]; decide
attribute [local irreducible] WC WL WX WS WO OX Does DoesU Enters CV Pure thenQ blockQ retQ Wants retQC GC GL GS GX RdB thenG blockG retG Rd At CVN CVM
set_option maxRecDepth 100000
set_option maxHeartbeats 800000 in
theorem works16_cv {w : World} : CVN Try.prog 8 [] w fun v N => N = [] ∧ v = .bool true := by
  have hlt : ∀ Γ a, In Γ (.box a 58 [nu 2, nu 3, nu 0]) → ∀ w', Mem w' Γ → CVN Try.prog 19 [.agg (ccells cLt (hLt a)).toArray, nu 3, nu 3] w' fun v N => N = [] ∧ v = .tuple #[nu (-5), nu 0] := fun Γ a h1 w' M => by
    have := LitP16_cv (l := 3) (t := 3) (cLt_in (h1.box M)) (by decide)
    rwa [cLt_ltM, cLt_ltE] at this
  have hrun : ∀ Γ a, In Γ (.box a 58 [nu 2, nu 3, nu 0]) → ∀ w', Mem w' Γ → CVN Try.prog 10 [.agg (ccells cLt (hLt a)).toArray, nu 2] w' fun v N => ∃ (h0 h1 h2 h3 : Hdl) (A : Option Addr) (k : Nat), v = .tuple #[.agg #[nu 3, .slice A 4 k], nu 0] ∧ N = [.vec icell 1 3 h3.1 h3.2 [3, 2], .vec icell 1 3 h2.1 h2.2 [-3, -2], .vec icell 1 3 h1.1 h1.2 [-2], .vec icell 1 3 h0.1 h0.2 [-1], .vec encS 1 67 A k [(h0, [-1]), (h1, [-2]), (h2, [-3, -2]), (h3, [3, 2])]] := fun Γ a h1 w' M => by
    refine (RunP16_cv (n := 2) (cLt_in (h1.box M))).wk ?_
    rintro v N ⟨ps, A, k, rfl, hps, rfl⟩
    rw [cLt_rnL] at hps
    rw [cLt_rnV, cLt_rnE]
    match ps, hps with
    | [(q0, l0), (q1, l1), (q2, l2), (q3, l3)], hps =>
      simp only [List.map_cons, List.map_nil, List.cons.injEq, and_true] at hps
      obtain ⟨rfl, rfl, rfl, rfl⟩ := hps
      exact ⟨_, Wk.part (.cons (.there .here) .nil) bun_out .refl, q0, q1, q2, q3, A, k, rfl, rfl⟩
    | [], hps => simp at hps
    | [_], hps => simp at hps
    | [_, _], hps => simp at hps
    | [_, _, _], hps => simp at hps
    | _ :: _ :: _ :: _ :: _ :: _, hps => simp at hps
  refine CVN.enter 66 [0] Try.func8 rfl rfl rfl (by decide) rfl ?_
  repeat' (first
 | (apply G_cmpT; eq_refl; eq_refl; (exact rfl))
 | (apply G_ix; eq_refl; eq_refl; (first | (apply Rd.own; (repeat first | exact In.here | apply In.there | apply In.skip); infer_instance) | (apply Rd.old; (repeat first | exact In.here | apply In.there | apply In.skip); assumption) | (apply Rd.oldR; (repeat first | exact In.here | apply In.there | apply In.skip); assumption) | exact Rd.nil | assumption); eq_refl; (focus simp); (first | (exact (show (0 : Int) < ((2 : Nat) : Int) by decide)) | (exact (show (1 : Int) < ((2 : Nat) : Int) by decide)) | (exact (show (2 : Int) < ((4 : Nat) : Int) by decide))))
 | (apply G_rd; eq_refl; (first | (apply Rd.own; (repeat first | exact In.here | apply In.there | apply In.skip); infer_instance) | (apply Rd.old; (repeat first | exact In.here | apply In.there | apply In.skip); assumption) | (apply Rd.oldR; (repeat first | exact In.here | apply In.there | apply In.skip); assumption) | exact Rd.nil | assumption); (case ih => infer_instance); (focus simp); (first | (exact (show (0 : Int) < ((2 : Nat) : Int) by decide)) | (exact (show (1 : Int) < ((2 : Nat) : Int) by decide)) | (exact (show (2 : Int) < ((4 : Nat) : Int) by decide))); eq_refl)
 | (apply G_call; eq_refl; eq_refl; (apply hlt; (repeat first | exact In.here | apply In.there | apply In.skip)); rintro _ _ ⟨rfl, rfl⟩)
 | (apply G_call; eq_refl; eq_refl; (apply hrun; (repeat first | exact In.here | apply In.there | apply In.skip)); rintro _ _ ⟨h0, h1, h2, h3, A, k, rfl, rfl⟩)
 | (apply GC_seqK; intro K hK)
 | (apply hK; clear hK K)
 | (apply GC_region)
 | (apply GL_nil)
 | (apply thenG_normal)
 | (apply GC_ret)
 | (apply retG1; eq_refl)
 | (apply GL_on; eq_refl; eq_refl)
 | (apply G_pv; eq_refl; first | exact trivial | omega)
 | (apply G_field; eq_refl)
 | (apply G_ld; eq_refl; (repeat first | exact In.here | apply In.there | apply In.skip); eq_refl)
 | (apply G_ldW; eq_refl; (repeat first | exact In.here | apply In.there | apply In.skip); eq_refl)
 | (apply G_len; eq_refl)
 | (apply G_alloc; eq_refl; intro _)
 | (apply G_stW; (first | exact wr_p | kernel_rfl); eq_refl; eq_refl; eq_refl; eq_refl; (repeat first | exact Upd.here | apply Upd.there | apply Upd.skip); eq_refl)
 | (apply GX_pure; apply build58_0_1 <;> eq_refl)
 | (apply GX_pure; apply build29_0_2 <;> eq_refl)
 | (apply G_new (fun b => .slice (some ⟨b, 0, none⟩) 1 1); eq_refl; (intro _; apply buildS23_1 <;> eq_refl); intro _))
  exact ⟨[], (by repeat first | exact Wk.nil | exact Wk.refl | (apply Wk.cons; (focus ((repeat first | exact Rem.here | apply Rem.there | apply Rem.skip); done))) | apply Wk.nilv | apply Wk.last | apply Wk.drop), rfl, rfl⟩
end SC
end Go.Proofs.Ytbmngkdnebklpaa
end
section
/- trestlelaw16: FramesRuns, FramesParts: the walks. -/
set_option linter.unusedVariables false
set_option linter.unusedSimpArgs false
namespace Go.Proofs.Ytbmngkdnebklpaa
namespace SC
open Go.Proofs
theorem CnfAt.bun {Γ : Mm} {w : World} {A : Option Addr} {k : Nat} {ps : List (Hdl × List Int)} (hi : In Γ (.any (bun (cnB ps A k)))) (M : Mem w Γ) : CnfAt w A ps := by
  have M' := hi.bun M
  refine ⟨(In.here (E := .vec encS 1 67 A k ps) (Γ := fam rowJ ps)).row M', fun p hp => ?_⟩
  have hE := fam_mem (f := rowJ) hp (E := .vec icell 1 3 p.1.1 p.1.2 p.2) (by unfold rowJ; simp)
  exact (In.there (In.of hE)).row M'
theorem cnB_in {ps : List (Hdl × List Int)} {A : Option Addr} {k : Nat} : Wk [.vec encS 1 67 A k ps, .any (bun (fam rowJ ps))] [.any (bun (cnB ps A k))] := by
  refine Wk.trans ?_ bun_in
  exact (Wk.part (D := fam rowJ ps) (.cons (.there .here) .nil) bun_out .refl).trans (Wk.perm List.perm_append_comm)
/-- A formula, bound together; clauses, bound together. -/
def CnfB (V : Int) (m : List (List Int)) (ε : Int) (v : Value) (N : Mm) : Prop := ∃ ps A k, v = .tuple #[.agg #[nu V, .slice A ps.length k], nu ε] ∧ ps.map (·.2) = m ∧ N = [.any (bun (cnB ps A k))]
def CliB (m : List (List Int)) (ε : Int) (v : Value) (N : Mm) : Prop := ∃ ps A k, v = .tuple #[.slice A ps.length k, nu ε] ∧ ps.map (·.2) = m ∧ N = [.any (bun (cnB ps A k))]
theorem CnfT.to {P : Program} {f : FuncId} {args : List Value} {w : World} {V ε : Int} {m : List (List Int)} (h : CVN P f args w (CnfT V m ε)) : CVN P f args w (CnfB V m ε) := h.wk fun v N ⟨ps, A, k, e1, e2, e3⟩ => ⟨_, by rw [e3]; exact cnB_in, ps, A, k, e1, e2, rfl⟩
theorem CliT.to {P : Program} {f : FuncId} {args : List Value} {w : World} {ε : Int} {m : List (List Int)} (h : CVN P f args w (CliT m ε)) : CVN P f args w (CliB m ε) := h.wk fun v N ⟨ps, A, k, e1, e2, e3⟩ => ⟨_, by rw [e3]; exact cnB_in, ps, A, k, e1, e2, rfl⟩
theorem CVM.same {P : Program} {f : FuncId} {args : List Value} {w : World} {C C' : Mm} {R : Value → Mm → Prop} (h : CVM P f args w C' R) (he : ∀ k, owns C' k ↔ owns C k) : CVM P f args w C R := by
  have e : owns C' = owns C := funext fun k => propext (he k)
  unfold CVM at h ⊢
  rw [e] at h
  exact h
theorem owns_bun {Δ : Mm} {k : Nat} : owns Δ k ↔ owns [.any (bun Δ)] k := by rw [owns_cons]; exact ⟨fun h => .inl h, fun h => h.elim id fun h => absurd h owns_nil⟩
theorem spoilCnfB {w : World} {V mark : Int} {A : Option Addr} {k : Nat} {ps : List (Hdl × List Int)} (hn : ps.length ≤ 1000000) (M : Mem w [.any (bun (cnB ps A k))]) : CVM Try.prog 28 [.agg #[nu V, .slice A ps.length k], nu mark] w [.any (bun (cnB ps A k))] fun v N => N = [] :=
  CVM.same (spoilCnf_cv hn (In.here.bun M)) fun k => owns_bun
/-- Clauses that are few and short. -/
def SmC (m : List (List Int)) : Prop := m.length ≤ 1000000 ∧ Thin m
theorem nil_smc : SmC [] := ⟨Nat.zero_le _, fun l h => by cases h⟩
theorem sameCliB {Γ : Mm} {w : World} {m : List (List Int)} {A B : Option Addr} {k k2 : Nat} {ps qs : List (Hdl × List Int)} (hs : SmC m) (h1 : In Γ (.any (bun (cnB ps A k)))) (h2 : In Γ (.any (bun (cnB qs B k2)))) (e1 : ps.map (·.2) = m) (e2 : qs.map (·.2) = m) (M : Mem w Γ) :
    CVN Try.prog 13 [.slice A ps.length k, .slice B qs.length k2] w fun v N => N = [] ∧ v = .bool true := by
  have hl := map_len e1
  have := hs.1
  exact sameClauses_cv (CnfAt.bun h1 M) (CnfAt.bun h2 M) (e1.trans e2.symm) (by omega) fun p hp => by
    have := hs.2 p.2 (by rw [← e1]; exact List.mem_map.2 ⟨p, hp, rfl⟩)
    omega
theorem stS_sm {w : World} {c : Circ} {h js : Hd} (H : CirIn w c h js) (t : Int) : SmC (stS c t) := by
  unfold stS
  split
  · rename_i hz
    have R := right_of H.at_ H.sane (ftE_zero hz).1
    have := R.nAnd
    have := R.nCon
    exact ⟨by rw [stepS_len]; omega, stepS_thin c t⟩
  · exact nil_smc
theorem nxS_sm {w : World} {c : Circ} {h js : Hd} (H : CirIn w c h js) (t : Int) : SmC (nxS c t) := by
  unfold nxS
  split
  · rename_i hz
    have R := right_of H.at_ H.sane (ftE_zero hz).1
    have := R.nLat
    exact ⟨by rw [nextS_len]; omega, nextS_thin c t⟩
  · exact nil_smc
theorem fsS_sm {w : World} {c : Circ} {h js : Hd} (H : CirIn w c h js) : SmC (fsS c) := by
  unfold fsS
  split
  · rename_i hz
    have R := right_of H.at_ H.sane (ftE_zero hz).1
    have := R.nLat
    have := firstS_len c
    exact ⟨by omega, firstS_thin c⟩
  · exact nil_smc
attribute [local irreducible] WC WL WX WS WO OX Does DoesU Enters CV Pure thenQ blockQ retQ Wants retQC GC GL GS GX RdB thenG blockG retG Rd At gt CVN CVM
attribute [local irreducible] lentX bun
set_option maxRecDepth 100000
set_option maxHeartbeats 1600000 in
theorem framesParts_cv {w : World} {c : Circ} {h js : Hd} {l t : Int} (H : CirGot w c h js) (hx : -9223372036854775808 ≤ t ∧ t ≤ 9223372036854775807) : CVN Try.prog 6 [.agg (ccells c h).toArray, nu l, nu t] w fun v N => N = [] ∧ v = .bool true := by
  have sm1 := stS_sm H.toCirIn t
  have sm2 := nxS_sm H.toCirIn t
  have sm3 := fsS_sm H.toCirIn
  have hL : ∀ Γ, In Γ (.old w none_) → ∀ w', Mem w' Γ → CVN Try.prog 20 [.agg (ccells c h).toArray] w' (LendR c) := fun Γ hi w' M => LendG (H.at_.chg (hi.old M)) H.fits1 H.nils
  have hA1 : ∀ Γ base h' js', In Γ (.any (lentX base c h' js')) → ∀ w', Mem w' Γ → CVN Try.prog 19 [.agg (ccells c h').toArray, nu l, nu t] w' _ := fun Γ base h' js' hi w' M => LitP16_cv (In.lent H.toCirIn hi M) hx
  have hA2 : ∀ Γ, In Γ (.old w none_) → ∀ w', Mem w' Γ → CVN Try.prog 21 [.agg (ccells c h).toArray, nu l, nu t] w' _ := fun Γ ho w' M => LitR16_cv (H.toCirIn.chg (ho.old M))
  have hB1 : ∀ Γ base h' js', In Γ (.any (lentX base c h' js')) → ∀ w', Mem w' Γ → CVN Try.prog 22 [.agg (ccells c h').toArray, nu t] w' _ := fun Γ base h' js' hi w' M => VarsP16_cv (In.lent H.toCirIn hi M)
  have hB2 : ∀ Γ, In Γ (.old w none_) → ∀ w', Mem w' Γ → CVN Try.prog 23 [.agg (ccells c h).toArray, nu t] w' _ := fun Γ ho w' M => VarsR16_cv (H.toCirIn.chg (ho.old M))
  have hC1 : ∀ Γ base h' js', In Γ (.any (lentX base c h' js')) → ∀ w', Mem w' Γ → CVN Try.prog 12 [.agg (ccells c h').toArray, nu t] w' (CliB (stS c t) (ftE c t 511 (t + 1))) := fun Γ base h' js' hi w' M => CliT.to (StepP16_cv (In.lent H.toCirIn hi M) hx)
  have hC2 : ∀ Γ, In Γ (.old w none_) → ∀ w', Mem w' Γ → CVN Try.prog 24 [.agg (ccells c h).toArray, nu t] w' (CliB (stS c t) (ftE c t 511 (t + 1))) := fun Γ ho w' M => CliT.to (StepR16_cv (H.toCirIn.chg (ho.old M)) hx)
  have hD1 : ∀ Γ base h' js', In Γ (.any (lentX base c h' js')) → ∀ w', Mem w' Γ → CVN Try.prog 11 [.agg (ccells c h').toArray, nu t] w' (CliB (nxS c t) (ftE c t 510 (t + 2))) := fun Γ base h' js' hi w' M => CliT.to (NextP16_cv (In.lent H.toCirIn hi M) hx)
  have hD2 : ∀ Γ, In Γ (.old w none_) → ∀ w', Mem w' Γ → CVN Try.prog 25 [.agg (ccells c h).toArray, nu t] w' (CliB (nxS c t) (ftE c t 510 (t + 2))) := fun Γ ho w' M => CliT.to (NextR16_cv (H.toCirIn.chg (ho.old M)) hx)
  have hE1 : ∀ Γ base h' js', In Γ (.any (lentX base c h' js')) → ∀ w', Mem w' Γ → CVN Try.prog 26 [.agg (ccells c h').toArray] w' (CliB (fsS c) (ftE c 0 0 1)) := fun Γ base h' js' hi w' M => CliT.to (FirstP16_cv (In.lent H.toCirIn hi M))
  have hE2 : ∀ Γ, In Γ (.old w none_) → ∀ w', Mem w' Γ → CVN Try.prog 27 [.agg (ccells c h).toArray] w' (CliB (fsS c) (ftE c 0 0 1)) := fun Γ ho w' M => CliT.to (FirstR16_cv (H.toCirIn.chg (ho.old M)))
  have hKp : ∀ Γ base h' js', In Γ (.any (lentX base c h' js')) → In Γ (.old w none_) → ∀ w', Mem w' Γ → CVN Try.prog 29 [.agg (ccells c h').toArray, .agg (ccells c h).toArray] w' _ := fun Γ base h' js' hi ho w' M => KeptG H hi ho M
  have hW : ∀ w', CVN Try.prog 8 [] w' _ := fun w' => works16_cv
  refine CVN.enter 144 [6] Try.func6 rfl rfl rfl (by decide) rfl ?_
  generalize stS c t = m1 at *
  generalize nxS c t = m2 at *
  generalize fsS c = m3 at *
  generalize ftE c t 511 (t + 1) = ε1 at *
  generalize ftE c t 510 (t + 2) = ε2 at *
  generalize ftE c 0 0 1 = ε3 at *
  generalize ltM c l t = x1 at *
  generalize ltE c l t = ε4 at *
  generalize vrM c t = x2 at *
  generalize vrE c t = ε5 at *
  have hs1 : ∀ Γ A B k k2 ps qs, In Γ (.any (bun (cnB ps A k))) → In Γ (.any (bun (cnB qs B k2))) → ps.map (·.2) = m1 → qs.map (·.2) = m1 → ∀ w', Mem w' Γ → CVN Try.prog 13 [.slice A ps.length k, .slice B qs.length k2] w' fun v N => N = [] ∧ v = .bool true := fun Γ A B k k2 ps qs h1 h2 e1 e2 w' M => sameCliB sm1 h1 h2 e1 e2 M
  have hs2 : ∀ Γ A B k k2 ps qs, In Γ (.any (bun (cnB ps A k))) → In Γ (.any (bun (cnB qs B k2))) → ps.map (·.2) = m2 → qs.map (·.2) = m2 → ∀ w', Mem w' Γ → CVN Try.prog 13 [.slice A ps.length k, .slice B qs.length k2] w' fun v N => N = [] ∧ v = .bool true := fun Γ A B k k2 ps qs h1 h2 e1 e2 w' M => sameCliB sm2 h1 h2 e1 e2 M
  have hs3 : ∀ Γ A B k k2 ps qs, In Γ (.any (bun (cnB ps A k))) → In Γ (.any (bun (cnB qs B k2))) → ps.map (·.2) = m3 → qs.map (·.2) = m3 → ∀ w', Mem w' Γ → CVN Try.prog 13 [.slice A ps.length k, .slice B qs.length k2] w' fun v N => N = [] ∧ v = .bool true := fun Γ A B k k2 ps qs h1 h2 e1 e2 w' M => sameCliB sm3 h1 h2 e1 e2 M
  have hsp : ∀ (A : Option Addr) (k : Nat) (ps : List (Hdl × List Int)), ps.map (·.2) = m1 → ∀ w', Mem w' [.any (bun (cnB ps A k))] → CVM Try.prog 28 [.agg #[nu 0, .slice A ps.length k], nu (-7)] w' [.any (bun (cnB ps A k))] fun v N => N = [] := fun A k ps e w' M => spoilCnfB (by have hl := map_len e; have := sm1.1; omega) M
  repeat' (first
 | (apply G_call; eq_refl; eq_refl; (apply hL; (repeat first | exact In.here | apply In.there | apply In.skip)); rintro _ _ ⟨base, h', js', rfl, rfl⟩)
 | (apply G_call; eq_refl; eq_refl; (apply hA1; (repeat first | exact In.here | apply In.there | apply In.skip)); rintro _ _ ⟨rfl, rfl⟩)
 | (apply G_call; eq_refl; eq_refl; (apply hA2; (repeat first | exact In.here | apply In.there | apply In.skip)); rintro _ _ ⟨rfl, rfl⟩)
 | (apply G_call; eq_refl; eq_refl; (apply hB1; (repeat first | exact In.here | apply In.there | apply In.skip)); rintro _ _ ⟨rfl, rfl⟩)
 | (apply G_call; eq_refl; eq_refl; (apply hB2; (repeat first | exact In.here | apply In.there | apply In.skip)); rintro _ _ ⟨rfl, rfl⟩)
 | (apply GC_seqK; intro K hK)
 | (apply hK; clear hK K)
 | (apply GC_region)
 | (apply GL_nil)
 | (apply thenG_normal)
 | (apply GC_skip)
 | (apply GC_if_false; eq_refl)
 | (apply GL_on; eq_refl; eq_refl)
 | (apply G_pv; eq_refl; first | exact trivial | omega)
 | (apply G_ldW; eq_refl; (repeat first | exact In.here | apply In.there | apply In.skip); eq_refl)
 | (apply G_cmpF; eq_refl; eq_refl; omega)
 | (apply G_alloc; eq_refl; intro _)
 | (apply G_box; eq_refl; eq_refl; intro _)
 | (apply G_stW; (first | exact wr_p | kernel_rfl); eq_refl; eq_refl; eq_refl; eq_refl; (repeat first | exact Upd.here | apply Upd.there | apply Upd.skip); eq_refl))
  apply G_call; eq_refl; eq_refl; (apply hC1; (repeat first | exact In.here | apply In.there | apply In.skip)); rintro _ _ ⟨p1, A1, k1, rfl, e1, rfl⟩
  repeat' (first
 | (apply G_call; eq_refl; eq_refl; (apply hC2; (repeat first | exact In.here | apply In.there | apply In.skip)); rintro _ _ ⟨p2, A2, k2, rfl, e2, rfl⟩)
 | (apply G_call; eq_refl; eq_refl; (apply hD1; (repeat first | exact In.here | apply In.there | apply In.skip)); rintro _ _ ⟨p3, A3, k3, rfl, e3, rfl⟩)
 | (apply G_call; eq_refl; eq_refl; (apply hD2; (repeat first | exact In.here | apply In.there | apply In.skip)); rintro _ _ ⟨p4, A4, k4, rfl, e4, rfl⟩)
 | (apply G_call; eq_refl; eq_refl; (apply hE1; (repeat first | exact In.here | apply In.there | apply In.skip)); rintro _ _ ⟨p5, A5, k5, rfl, e5, rfl⟩)
 | (apply G_call; eq_refl; eq_refl; (apply hE2; (repeat first | exact In.here | apply In.there | apply In.skip)); rintro _ _ ⟨p6, A6, k6, rfl, e6, rfl⟩)
 | (apply G_call; eq_refl; eq_refl; (apply hs1; (repeat first | exact In.here | apply In.there | apply In.skip); (repeat first | exact In.here | apply In.there | apply In.skip); exact e1; exact e2); rintro _ _ ⟨rfl, rfl⟩)
 | (apply G_call; eq_refl; eq_refl; (apply hs2; (repeat first | exact In.here | apply In.there | apply In.skip); (repeat first | exact In.here | apply In.there | apply In.skip); exact e3; exact e4); rintro _ _ ⟨rfl, rfl⟩)
 | (apply G_call; eq_refl; eq_refl; (apply hs3; (repeat first | exact In.here | apply In.there | apply In.skip); (repeat first | exact In.here | apply In.there | apply In.skip); exact e5; exact e6); rintro _ _ ⟨rfl, rfl⟩)
 | (apply G_callM2; exact wr_p; eq_refl; (exact hsp A1 k1 p1 e1); (repeat first | exact Rems.nil | (apply Rems.cons; (focus ((repeat first | exact Rem.here | apply Rem.there | apply Rem.skip); done)))); rintro _ _ rfl)
 | (apply G_call; eq_refl; eq_refl; (apply hKp; (repeat first | exact In.here | apply In.there | apply In.skip); (repeat first | exact In.here | apply In.there | apply In.skip)); rintro _ _ ⟨rfl, rfl⟩)
 | (apply G_call; eq_refl; eq_refl; (exact fun w' _ => hW w'); rintro _ _ ⟨rfl, rfl⟩)
 | (apply GC_seqK; intro K hK)
 | (apply hK; clear hK K)
 | (apply GC_region)
 | (apply GL_nil)
 | (apply thenG_normal)
 | (apply GC_ret)
 | (apply GC_skip)
 | (apply GC_if_false; eq_refl)
 | (apply retG1; eq_refl)
 | (apply GL_on; eq_refl; eq_refl)
 | (apply G_pv; eq_refl; first | exact trivial | omega)
 | (apply G_ldW; eq_refl; (repeat first | exact In.here | apply In.there | apply In.skip); eq_refl)
 | (apply G_cmpF; eq_refl; eq_refl; omega)
 | (apply GX_pure; apply build34_1 <;> eq_refl))
  exact ⟨[], (by repeat first | exact Wk.nil | exact Wk.refl | (apply Wk.cons; (focus ((repeat first | exact Rem.here | apply Rem.there | apply Rem.skip); done))) | apply Wk.nilv | apply Wk.last | apply Wk.drop), rfl, rfl⟩
end SC
end Go.Proofs.Ytbmngkdnebklpaa
end
section
/- Lists of numbers and numbers that come in. -/
set_option linter.unusedVariables false
set_option linter.unusedSimpArgs false
namespace Go.Proofs.Ytbmngkdnebklpaa
namespace SC
open Go.Proofs
set_option maxRecDepth 100000
section
variable {H : Type} {enc : TypeId × Value → H} {W : World} {base : Nat} {spare : Nat → Bool} {held : Bool}
theorem openNumS {v : Value} {d : DataW H} {ps : List MemPlace} {r : Reach} {b0 : Nat} (hv : Value.okWide Try.prog W r b0 3 v) (h : DataW.Trod enc Try.prog W base spare held 3 v d ps) : ∃ a, v = nu a ∧ fits a := by
  obtain ⟨z, rfl, _⟩ := Go.WideShapes.okWide_int Try.underlying3 hv
  obtain ⟨fuel, hf⟩ := h
  obtain ⟨a, e, ha⟩ := openIntS (cs := [nu z]) hf
  cases (List.cons.inj e).1
  exact ⟨z, rfl, ha⟩
end
end SC
end Go.Proofs.Ytbmngkdnebklpaa
end
