/- The row of the law HashPlays. -/
import Derived.Test.YtkndegjodnciaaaRows
import Derived.Test.YtkndegjodnciaaaC3
import Derived.ProofKit
import Derived.ChangeOld
import Derived.Below
import Derived.Deep.Slices
import Derived.Deep.Fields
import Derived.Lib.SmallJoins
set_option linter.unusedVariables false
set_option linter.unusedSimpArgs false
namespace Go.Proofs.Ytkndegjodnciaaa
namespace SC
theorem plays_cv {w : World} {a b : Int} {A : Option Addr} {cp : Nat} {acts : List ActM} (hA : Acts w A acts) :
    CV Try.prog 3 [.agg #[num a, num b], .slice A acts.length cp] w fun v w' => v = .bool true ∧ Chg w w' none_ := by
  by_cases h : newBad a b
  · exact plays_bad h
  · exact plays_ok h hA
theorem list_of {α : Type} {n : Nat} {Q : Nat → α → Prop} (h : ∀ i, i < n → ∃ x, Q i x) : ∃ l : List α, l.length = n ∧ ∀ i (hi : i < l.length), Q i l[i] := by
  refine ⟨List.ofFn fun i : Fin n => Classical.choose (h i i.2), by simp, fun i hi => ?_⟩
  simp only [List.getElem_ofFn]
  exact Classical.choose_spec (h i (by simpa using hi))
end SC
namespace hashPlays
open Go.ChangeShapes Go.WideShapes Go.ChangeAt Go.RowKit Go.Deep Go.Joins SC
theorem own : ownKnob Try.prog.godebug = none := by kernel_rfl
theorem acts_of {H : Type} {enc : TypeId × Value → H} {W : World} {base : Nat} {spare : Nat → Bool} {held : Bool} {A : Option Addr} {len cap : Nat} {d : DataW H} {ps : List MemPlace}
    (h : DataW.Trod enc Try.prog W base spare held 24 (.slice A len cap) d ps) : ∃ acts : List ActM, acts.length = len ∧ Acts W A acts := by
  obtain ⟨fuel, hf⟩ := h
  rcases open_slice Try.underlying24 hf with ⟨hcs, _⟩ | ⟨a, l, c, m, n, D, Pl, hcs, _, hl, _, hm, _, hi⟩
  · simp [Value.cells] at hcs
    obtain ⟨rfl, rfl, rfl⟩ := hcs
    exact ⟨[], rfl, fun k hk => absurd hk (by simp)⟩
  · simp [Value.cells] at hcs
    obtain ⟨rfl, rfl, rfl⟩ := hcs
    have hC : Try.prog.cellsOf 35 = 4 := by kernel_rfl
    have hC3 : Try.prog.cellsOf 3 = 1 := by kernel_rfl
    have hlm : len ≤ m := by rw [hm]; split <;> omega
    have key : ∀ i, i < len → ∃ t : ActM, ∀ j u, (acells t)[j]? = some u → W.cell? ((a.add (i * 4)).add j) = some u := fun i hlt => by
      obtain ⟨cs, hc, ht⟩ := hi i (by omega)
      rw [hC] at hc
      obtain ⟨_, hcl, hat⟩ := World.cells?_some hc
      obtain ⟨ys, n', _, _, _, hyl, hfld⟩ := DataW.trod_struct Try.underlying35 ht
      have one : ∀ j, j < 4 → ∃ z : Int, cs[j]? = some (num z) := fun j hj => by
        have hv : cs[j]? = some (cs[j]'(by omega)) := List.getElem?_eq_getElem (by omega)
        have hone : (cs.drop j).take 1 = [cs[j]'(by omega)] := by rw [List.drop_eq_getElem_cons (by omega)]; rfl
        have hys : ys[j]? = some (ys[j]'(by rw [hyl]; exact hj)) := List.getElem?_eq_getElem (by rw [hyl]; exact hj)
        have fin : ∀ y, DataW.trod enc Try.prog W base spare held n' 3 ((cs.drop j).take (Try.prog.cellsOf 3)) = some y → ∃ z : Int, cs[j]? = some (num z) := fun y hy => by
          rw [hC3, hone] at hy
          obtain ⟨z, hz, _⟩ := DataW.trod_int Try.underlying3 hy
          exact ⟨z, by rw [hv]; exact congrArg some (List.cons.inj hz).1⟩
        have fld : ∃ f : Field, DataW.trod enc Try.prog W base spare held n' f.type ((cs.drop f.offset).take (Try.prog.cellsOf f.type)) = ys[j]? ∧ f.type = 3 ∧ f.offset = j := by
          match j, hj with
          | 0, _ => exact ⟨_, hfld 0 _ rfl, rfl, rfl⟩
          | 1, _ => exact ⟨_, hfld 1 _ rfl, rfl, rfl⟩
          | 2, _ => exact ⟨_, hfld 2 _ rfl, rfl, rfl⟩
          | 3, _ => exact ⟨_, hfld 3 _ rfl, rfl, rfl⟩
        obtain ⟨f, hf1, hf2, hf3⟩ := fld
        rw [hf2, hf3] at hf1
        exact fin _ (hf1.trans hys)
      obtain ⟨q, h0⟩ := one 0 (by omega)
      obtain ⟨s, h1⟩ := one 1 (by omega)
      obtain ⟨x, h2⟩ := one 2 (by omega)
      obtain ⟨y, h3⟩ := one 3 (by omega)
      refine ⟨(q, s, x, y), fun j u hj => ?_⟩
      have hjl : j < 4 := by have := (List.getElem?_eq_some_iff.1 hj).1; simpa [acells] using this
      rw [hat j hjl]
      match j, hjl with
      | 0, _ => rw [h0]; exact hj
      | 1, _ => rw [h1]; exact hj
      | 2, _ => rw [h2]; exact hj
      | 3, _ => rw [h3]; exact hj
    obtain ⟨acts, hlen, hacts⟩ := list_of key
    refine ⟨acts, hlen, fun k hk => ⟨a, rfl, ?_⟩⟩
    have e : (k : Int).toNat = k := by omega
    rw [e]
    exact hacts k hk
set_option maxRecDepth 100000 in
theorem lifted (os : Os) (started : os.Started) (H : Type) (enc : TypeId × Value → H) :
    ReturnsInHanded {} Try.checked os 3 .any (Rows.hashPlaysSpec.pre6 enc Try.prog Try.f3 Rows.hashPlaysRow.domain false) (Rows.hashPlaysSpec.post enc Try.prog Try.f3 false true false false) := by
  refine returnsInHanded_of_change (C := Try.checked) own started (by kernel_rfl) Try.func3
    (ChangeSpec.witness6 (enc := enc) (C := Try.checked) false ⟨#[], #[.agg #[.int .i64 0, .int .i64 0], .slice none 0 0], []⟩ 8 (by kernel_rfl) (by kernel_rfl) (by kernel_rfl) (by kernel_rfl)) ?_
  intro W base args ds gs before hval0 hW hcnd _
  have hval : ∀ (j : Nat) t v, Try.f3.params[j]? = some t → args[j]? = some v → Value.okWide Try.prog W .any base t v := hval0
  have hW' := hW
  obtain ⟨p, q, hA0, hV, rfl, hfz, hnd⟩ := hW
  have hA : DataW.TrodAll enc Try.prog W 0 (fun _ => true) true Try.f3.params.toList args.toList ds p := hA0
  rw [Try.params3] at hA hval
  obtain ⟨v0, v1, d0, d1, p0, p1, rfl, rfl, rfl, h0, h1⟩ := trodAll_two hA
  obtain ⟨rfl, rfl⟩ := trodVars_none hV
  have k0 := h0
  have k1 := h1
  have lt0 : ∀ x ∈ p0, x.block < W.heap.size := by obtain ⟨m, hm⟩ := k0; exact DataW.trod_lt m _ _ _ hm
  have lt1 : ∀ x ∈ p1, x.block < W.heap.size := by obtain ⟨m, hm⟩ := k1; exact DataW.trod_lt m _ _ _ hm
  obtain ⟨c0, c1, y0, y1, m, rfl, rfl, rfl, hy0, hy1⟩ := open_agg2 Try.underlying23 (by kernel_rfl) (by kernel_rfl) (hval 0 23 v0 rfl rfl) h0
  obtain ⟨a, e0, rfl, wa⟩ := DataW.trod_int Try.underlying3 hy0
  obtain ⟨b, e1, rfl, wb⟩ := DataW.trod_int Try.underlying3 hy1
  simp at e0 e1
  subst e0 e1
  obtain ⟨A, len, cap, rfl⟩ := okWide_slice Try.underlying24 (hval 1 24 v1 rfl rfl)
  obtain ⟨acts, rfl, hacts⟩ := acts_of h1
  clear hA0 hval0
  refine Calls.mono (plays_cv (a := a) (b := b) (cp := cap) hacts) fun e W' he => ?_
  cases e with
  | panicked c => exact he.elim
  | outgrown => exact he.elim
  | returned v =>
    obtain ⟨rfl, hc⟩ := he
    have bel : Below W.heap.size W W' := hc.below (Nat.le_refl _) fun _ _ => id
    exact ⟨_, rfl, _, _, _, [], _, [], hW', trodAll_mk1 (shut_bool Try.underlying4 _), trodAll_mk2 (Below.trod laidOut (by kernel_rfl) (of_decide_eq_true (by kernel_rfl)) k0 bel lt0) (Below.trod laidOut (by kernel_rfl) (of_decide_eq_true (by kernel_rfl)) k1 bel lt1), rfl, bel.frame _, fun h => by cases h⟩
theorem over : Rows.hashPlaysRow.holds Try.pinned (OpenSpec.ofChange Rows.hashPlaysSpec) :=
  OpenClaim.holds_of_wide 3 Try.f3 rfl rfl rfl rfl rfl rfl rfl ⟨rfl, rfl, rfl, rfl, rfl⟩ rfl rfl rfl rfl rfl (by kernel_rfl) Try.func3 (by kernel_rfl)
    (of_decide_eq_true (by kernel_rfl)) (by unfold Func.isWrapper; first | (rw [if_pos (by decide +kernel)]; kernel_rfl) | (rw [if_neg (by decide +kernel)]; exact ⟨rfl, rfl⟩))
    (fun os started H enc _ => lifted os started H enc)
end hashPlays
/-- The law. -/
theorem hashPlays_holds : Rows.HashPlaysSaid := hashPlays.over
#print axioms hashPlays_holds
end Go.Proofs.Ytkndegjodnciaaa
