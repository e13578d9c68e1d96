/- In a model of a cone its literals have the values that they have in the circuit: EncodeCones answers true at every circuit, all literals and every case. No condition beyond the statement's own. -/
import Derived.Test.YticndofcfacopaaRows
import Derived.Test.YticndofcfacopaaZ4
set_option linter.unusedVariables false
set_option linter.unusedSimpArgs false
namespace Go.Proofs.Yticndofcfacopaa
namespace encodeCones
open Go.ChangeShapes Go.WideShapes Go.ChangeAt Go.RowKit Go.Deep Go.Joins SC
theorem own : ownKnob Try.prog.godebug = none := by kernel_rfl
theorem laid : laidOutB Try.prog = true := by kernel_rfl
set_option maxRecDepth 100000 in
theorem lifted (os : Os) (started : os.Started) (H : Type) (enc : TypeId × Value → H) :
    ReturnsInHanded {} Try.checked os 7 .any (Rows.encodeConesSpec.pre6 enc Try.prog Try.f7 Rows.encodeConesRow.domain false) (Rows.encodeConesSpec.post enc Try.prog Try.f7 false true false false) := by
  refine returnsInHanded_of_change_sized (C := Try.checked) own started (by kernel_rfl) Try.func7
    (ChangeSpec.witness6 (enc := enc) (C := Try.checked) false ⟨#[], #[.agg #[.int .i64 0, .slice none 0 0, .slice none 0 0, .slice none 0 0, .slice none 0 0, .slice none 0 0, .slice none 0 0, .slice none 0 0, .slice none 0 0, .slice none 0 0, .slice none 0 0], .slice none 0 0, .agg #[.slice none 0 0, .slice none 0 0, .int .u64 0]], []⟩ 8 (by kernel_rfl) (by kernel_rfl) (by kernel_rfl) (by kernel_rfl)) ?_
  intro W base args ds gs before hval0 hW hcnd hsz0 _
  have hval : ∀ (j : Nat) t v, Try.f7.params[j]? = some t → args[j]? = some v → Value.okWide Try.prog W .any base t v := hval0
  have hsz : (DataW.weightsEach Try.prog (Try.f7.params.toList ++ Rows.encodeConesSpec.plain.varTypes Try.prog) (ds ++ gs)).all (· ≤ reachBytes) = true := hsz0
  have hW' := hW
  obtain ⟨p, q, hA0, hV, rfl, hfz, hnd⟩ := hW
  have hA : DataW.TrodAll enc Try.prog W 0 (fun _ => true) true Try.f7.params.toList args.toList ds p := hA0
  rw [Try.params7] at hA hval hsz
  obtain ⟨v0, v1, v2, d0, d1, d2, p0, p1, p2, rfl, rfl, rfl, t0, t1, t2⟩ := trodAll_three hA
  obtain ⟨rfl, rfl⟩ := trodVars_none hV
  have lt0 : ∀ x ∈ p0, x.block < W.heap.size := by obtain ⟨m, hm⟩ := t0; exact DataW.trod_lt m _ _ _ hm
  have lt1 : ∀ x ∈ p1, x.block < W.heap.size := by obtain ⟨m, hm⟩ := t1; exact DataW.trod_lt m _ _ _ hm
  have lt2 : ∀ x ∈ p2, x.block < W.heap.size := by obtain ⟨m, hm⟩ := t2; exact DataW.trod_lt m _ _ _ hm
  obtain ⟨c0, h0, js0, rfl, hat0, hsane0, hokay0, hfits0, hnils0⟩ := openCirS (hval 0 29 v0 rfl rfl) t0 fun n hn => of_decide_eq_true (List.all_eq_true.1 hsz n (DataW.weights_mem_each (j := 0) (t := 29) rfl rfl n hn))
  obtain ⟨S1, k1, s1, rfl, hS1, hz1, hn1, hf1⟩ := openNumsS (hval 1 22 v1 rfl rfl) t1 fun n hn => of_decide_eq_true (List.all_eq_true.1 hsz n (DataW.weights_mem_each (j := 1) (t := 22) rfl rfl n hn))
  obtain ⟨S2, k2, s2, U2, m2, q2, z2, rfl, hS2, hT2⟩ := openCaseS (hval 2 61 v2 rfl rfl) t2
  clear hA0 hval0 hsz0
  refine Calls.mono (encodeCones_cv ⟨hat0, hsane0, hokay0, hfits0.toFits⟩ hS1 hS2 hT2 (by omega)).chg fun e W' he => ?_
  cases e with
  | panicked c => exact he.elim
  | outgrown => exact he.elim
  | returned v =>
    obtain ⟨N, ⟨rfl, rfl⟩, _, hc⟩ := he
    have bel : Below W.heap.size W W' := hc.below (Nat.le_refl _) fun _ _ => id
    exact ⟨_, rfl, _, _, _, [], _, [], hW', trodAll_mk1 (shut_bool Try.underlying4 _), trodAll_mk3 (Below.trod laid (by kernel_rfl) (of_decide_eq_true (by kernel_rfl)) t0 bel lt0) (Below.trod laid (by kernel_rfl) (of_decide_eq_true (by kernel_rfl)) t1 bel lt1) (Below.trod laid (by kernel_rfl) (of_decide_eq_true (by kernel_rfl)) t2 bel lt2), rfl, bel.frame _, fun h => by cases h⟩
theorem over : Rows.encodeConesRow.holds Try.pinned (OpenSpec.ofChange Rows.encodeConesSpec) :=
  OpenClaim.holds_of_wide 7 Try.f7 rfl rfl rfl rfl rfl rfl rfl ⟨rfl, rfl, rfl, rfl, rfl⟩ rfl rfl rfl rfl rfl (by kernel_rfl) Try.func7 (by kernel_rfl)
    (of_decide_eq_true (by kernel_rfl)) (by unfold Func.isWrapper; first | (rw [if_pos (by decide +kernel)]; kernel_rfl) | (rw [if_neg (by decide +kernel)]; exact ⟨rfl, rfl⟩))
    (fun os started H enc _ => lifted os started H enc)
end encodeCones
/-- The law. -/
theorem encodeCones_holds : Rows.EncodeConesSaid := encodeCones.over
#print axioms encodeCones_holds
end Go.Proofs.Yticndofcfacopaa
