/- shape: the map of named things. -/
import Derived.Test.YtkndegjodnciaaaE2
import Derived.Maps.OwnOps
import Derived.Maps.Views
import Derived.DeepKeys4
import Derived.WideKeyEntry
set_option linter.unusedVariables false
set_option linter.unusedSimpArgs false
namespace Go.Proofs.Ytkndegjodnciaaa
namespace SC
open Go.Proofs Go.Maps
set_option maxRecDepth 100000
theorem laidS : laidOutB Try.prog = true := by kernel_rfl
theorem row177 : (177 : TypeId) < Try.prog.types.size := of_decide_eq_true (by kernel_rfl)
theorem wide177 : (match Try.prog.underlying 177 with | some (.array _ _) | some (.struct _) => true | _ => false) = true := by rw [Try.underlying177]
theorem law177 : WideMaps.KeyLaw Try.prog 177 := deep_law_laid laidS (m := 2) (by omega) row177 (by kernel_rfl) wide177
theorem keyed177 : Keyed Try.prog 177 := Keyed.of_law law177
def fit64 (a : Int) : Prop := -9223372036854775808 ≤ a ∧ a ≤ 9223372036854775807
def fit8 (a : Int) : Prop := 0 ≤ a ∧ a ≤ 255
theorem wf64 {a : Int} (h : fit64 a) : (Lit.int .i64 a).wf = true := by
  unfold fit64 at h
  simp [Lit.wf, IntKind.min, IntKind.max, IntKind.signed, IntKind.bits]
  omega
theorem wf8 {a : Int} (h : fit8 a) : (Lit.int .u8 a).wf = true := by
  unfold fit8 at h
  simp [Lit.wf, IntKind.min, IntKind.max, IntKind.signed, IntKind.bits]
  omega
theorem formed177 {a b : Value} : (Value.agg #[a, b]).formed Try.prog 177 = true := by
  have : Try.prog.cellsOf 177 = 2 := by kernel_rfl
  simp [Value.formed, Try.underlying177, this]
def ks (p q : Int) : Lit := .string (keyBytes [.int .u8 p, .int .i64 q])
theorem key177 {p q : Int} (hp : fit8 p) (hq : fit64 q) : keyOf Try.prog 177 (.agg #[.int .u8 p, .int .i64 q]) = some (ks p q) := by
  have h1 : Try.prog.keyType 177 = true := by kernel_rfl
  have h2 : Try.prog.cellsOf 177 = 2 := by kernel_rfl
  have h3 : Try.prog.cellsOf 3 = 1 := by kernel_rfl
  have h5 : Try.prog.cellsOf 5 = 1 := by kernel_rfl
  have h4 : ∃ k, Try.prog.types.size = k + 1 := ⟨Try.prog.types.size - 1, by have : 0 < Try.prog.types.size := of_decide_eq_true (by kernel_rfl); omega⟩
  obtain ⟨k, hk⟩ := h4
  unfold keyOf
  rw [Try.underlying177]
  simp only [h1, formed177, Bool.and_self, if_true]
  rw [hk]
  simp [Program.keyLits, Try.underlying177, Try.underlying3, Try.underlying5, h2, h3, h5, Value.cells, wf8 hp, wf64 hq, ks]
theorem ks_inj {p q p' q' : Int} (hp : fit8 p) (hq : fit64 q) (hp' : fit8 p') (hq' : fit64 q') (h : ks p q = ks p' q') : p = p' ∧ q = q' := by
  have := keyed177.inj (key177 hp hq) (by rw [h]; exact key177 hp' hq')
  simpa using this
/-- Block b is a map of things that answers by f. -/
def Named (w : World) (b N : Nat) (f : Int → Int → Int) : Prop :=
  ∃ D : DataW Unit, w.ownsMap Try.prog 177 (plainElem Try.prog 3) b N D ∧ ∀ p q, fit8 p → fit64 q → D.atKey (ks p q) (.lit (.int .i64 0)) = .lit (.int .i64 (f p q))
theorem Named.made (w : World) : Named (w.alloc (.map #[] 0)) w.heap.size 0 (fun _ _ => 0) := ⟨_, World.ownsMap_made w _ _ _, fun _ _ _ _ => rfl⟩
theorem Named.chg {w w' : World} {b N : Nat} {f : Int → Int → Int} (h : Named w b N f) {S : Nat → Prop} (hc : Chg w w' S) (hn : ¬ S b) : Named w' b N f := by
  obtain ⟨D, h1, h2⟩ := h
  have hlt := h1.lt
  obtain ⟨es, clock, hb, F, hs, hD⟩ := h1
  exact ⟨D, ⟨es, clock, (hc.block b hlt hn).trans hb, F, hs, hD⟩, h2⟩
theorem does_lookupN {w : World} {e : Env} {x y : Operand} {ty : TypeId} {b N : Nat} {f : Int → Int → Int} {p q : Int} (h : ev e x = some (.map (some b))) (h1 : ev e y = some (.agg #[.int .u8 p, .int .i64 q])) (hm : Named w b N f) (hp : fit8 p) (hq : fit64 q) :
    Does Try.prog (.lookup 174 x y false) ty e w (.int .i64 (f p q)) w := by
  obtain ⟨D, h2, h3⟩ := hm
  obtain ⟨c, hrun, hat, _⟩ := h2.lookup_int keyed177 Try.underlying174 Try.underlying3 (Try.zeroValue3 w) (key177 hp hq)
  rw [h3 p q hp hq] at hat
  obtain rfl : f p q = c := by simpa using hat
  intro ρ dst pos af g hρ
  simp [execOp, hρ _ _ h, hρ _ _ h1, hrun]
theorem Named.more {w : World} {b N : Nat} {f : Int → Int → Int} (h : Named w b N f) : Named w b (N + 1) f := by
  obtain ⟨D, ⟨es, clock, hb, F, hs, hD⟩, h2⟩ := h
  exact ⟨D, ⟨es, clock, hb, F, Nat.le_succ_of_le hs, hD⟩, h2⟩
/-- Behind 'mapEntry' alone the map answers as before. -/
theorem entry_keeps {w w1 : World} {b N : Nat} {f : Int → Int → Int} {p q : Int} {v : Value} (hm : Named w b N f) (hp : fit8 p) (hq : fit64 q) (hN : N < maxLen)
    (hrun : (Instr.mapEntry 174 (.map (some b)) (.agg #[.int .u8 p, .int .i64 q])).run Try.prog w = .ok v w1) : Named w1 b (N + 1) f := by
  obtain ⟨D, h1, h2⟩ := hm
  have h1' := h1
  obtain ⟨es, clock, hb, F, hs, hD⟩ := h1
  have hkey := key177 hp hq
  have hu := Try.underlying174
  have hz : ∀ u, (zeroValue 3).run Try.prog u = .ok (.int .i64 0) u := fun u => Try.zeroValue3 u
  obtain ⟨s1, s2, _⟩ := F.stamped
  rcases law177.find w hkey es.toList F.keys with ⟨g1, g2⟩ | ⟨j, e0, g1, g2, g3⟩
  · obtain ⟨w', hrun', ho, hg⟩ := h1'.update keyed177 hu hN hkey (plainElem_int Try.underlying3 (wf64 (a := 0) (by unfold fit64; omega)))
    have e1 : w' = ChangeMaps.setBlock w b (.map (es.push ⟨.agg #[.int .u8 p, .int .i64 q], .int .i64 0, clock⟩) (clock + 1)) := by
      have : (Instr.mapUpdate 174 (.map (some b)) (.agg #[.int .u8 p, .int .i64 q]) (.int .i64 0)).run Try.prog w = .ok () (ChangeMaps.setBlock w b (.map (es.push ⟨.agg #[.int .u8 p, .int .i64 q], .int .i64 0, clock⟩) (clock + 1))) := by
        simp [Instr.mapUpdate, run_underlying hu, MapKept.run_getObj_map hb, law177.check w false hkey, g1, MapKept.run_setObj_map _ hb, Result.andThen, ChangeMaps.setBlock]
      rw [hrun'] at this
      simpa using this
    have e2 : w1 = w' := by
      rw [e1]
      simp [Instr.mapEntry, run_underlying hu, MapKept.run_getObj_map hb, law177.check w false hkey, g1, hz, MapKept.run_setObj_map _ hb, Result.andThen] at hrun
      rw [← hrun.2]; rfl
    obtain ⟨c, hl, hat, _⟩ := h1'.lookup_int keyed177 hu Try.underlying3 (Try.zeroValue3 w) hkey
    have hc : c = 0 := by
      simp [Instr.lookup, run_underlying hu, MapKept.run_getObj_map hb, law177.check w _ hkey, g1, Try.zeroValue3, Result.andThen] at hl
      exact hl.symm
    subst hc
    subst e2
    refine ⟨_, ho, fun p' q' hp' hq' => ?_⟩
    by_cases hc : p' = p ∧ q' = q
    · obtain ⟨rfl, rfl⟩ := hc
      rw [h2 _ _ hp hq] at hat
      rw [atKey_put_same _ (keyed177.key (key177 hp hq))]
      · exact hat.symm
      · exact ⟨_, hD⟩
    · rw [atKey_put_other (fun hh => hc (ks_inj hp' hq' hp hq hh)), h2 p' q' hp' hq']
  · have hj : es[j]? = some e0 := by simpa using g2
    have hsame : es.modify j (fun e => { e with key := .agg #[.int .u8 p, .int .i64 q] }) = es := by
      apply Array.ext'
      rw [Array.toList_modify, ChangeMaps.modify_eq_set _ _ _ _ g2]
      have : ({ e0 with key := .agg #[.int .u8 p, .int .i64 q] } : MapEntry) = e0 := by rw [← g3]
      rw [this]
      exact WideElems.set_self _ _ _ g2
    have e2 : w1 = ChangeMaps.setBlock w b (.map es clock) := by
      simp [Instr.mapEntry, run_underlying hu, MapKept.run_getObj_map hb, law177.check w false hkey, g1, hj, g3, law177.stays w hkey, hsame, MapKept.run_setObj_map _ hb, Result.andThen] at hrun
      rw [← hrun.2]; rfl
    subst e2
    exact ⟨D, ⟨es, clock, ChangeMaps.heap_setBlock_same hb _, F, Nat.le_succ_of_le hs, hD⟩, h2⟩
/-- 'mapEntry' and, behind it, 'entryStore': the map is updated. -/
theorem entry_store {w : World} {b N : Nat} {f : Int → Int → Int} {p q : Int} (hm : Named w b N f) (hp : fit8 p) (hq : fit64 q) (hN : N < maxLen) :
    ∃ (v0 st : Value) (w1 : World), (∀ (e : Env) (x y : Operand) (ty : TypeId), ev e x = some (.map (some b)) → ev e y = some (.agg #[.int .u8 p, .int .i64 q]) → Does Try.prog (.mapEntry 174 x y) ty e w (.tuple #[v0, st]) w1) ∧ Chg w w1 (fun k => k = b) ∧ Named w1 b (N + 1) f ∧
      ∀ v, fit64 v → ∃ w2, (∀ (e : Env) (x y z : Operand) (ty : TypeId), ev e x = some (.map (some b)) → ev e y = some st → ev e z = some (.int .i64 v) → DoesU Try.prog (.entryStore 174 x y z) ty e w1 w2) ∧ Chg w w2 (fun k => k = b) ∧
        Named w2 b (N + 1) (fun p' q' => if p' = p ∧ q' = q then v else f p' q') := by
  have hm' := hm
  obtain ⟨D, h1, h2⟩ := hm
  have h1' := h1
  obtain ⟨es, clock, hb, F, hs, hD⟩ := h1
  obtain ⟨v0, st, es1, clock1, he, _, hst⟩ := WideElems.entry_then_store law177 Try.underlying174 (z := .int .i64 0) (fun u => Try.zeroValue3 u) hb F (key177 hp hq)
  have hc1 : ∀ (o : Obj), Chg w (ChangeMaps.setBlock w b o) (fun k => k = b) := fun o => ⟨rfl, rfl, rfl, by simp [ChangeMaps.setBlock], fun i _ hi => ChangeMaps.heap_setBlock_other hb _ hi⟩
  refine ⟨v0, goInt st, ChangeMaps.setBlock w b (.map es1 clock1), fun e x y ty hx hy ρ dst pos af g hρ => by simp [execOp, hρ _ _ hx, hρ _ _ hy, he], hc1 _, entry_keeps hm' hp hq hN he, fun v hv => ?_⟩
  obtain ⟨es', clock', hrun, hup⟩ := hst (ChangeMaps.setBlock w b (.map es1 clock1)) (.int .i64 v) (ChangeMaps.heap_setBlock_same hb _)
  obtain ⟨w', hrun', ho, hg⟩ := h1'.update keyed177 Try.underlying174 hN (key177 hp hq) (plainElem_int Try.underlying3 (wf64 hv))
  have e1 : ChangeMaps.setBlock (ChangeMaps.setBlock w b (.map es1 clock1)) b (.map es' clock') = ChangeMaps.setBlock w b (.map es' clock') := by simp [ChangeMaps.setBlock]
  have e2 : w' = ChangeMaps.setBlock w b (.map es' clock') := by
    rw [hup] at hrun'
    simpa using hrun'.symm
  rw [e1, ← e2] at hrun
  refine ⟨w', fun e x y z ty hx hy hz ρ dst pos af g hρ => by simp [execOp, hρ _ _ hx, hρ _ _ hy, hρ _ _ hz, hrun], (Chg.of_grown hg).mono fun k hk => by simpa using hk.symm, _, ho, ?_⟩
  intro p' q' hp' hq'
  by_cases hc : p' = p ∧ q' = q
  · obtain ⟨rfl, rfl⟩ := hc
    rw [atKey_put_same _ (keyed177.key (key177 hp hq))]
    · simp
    · exact ⟨_, hD⟩
  · rw [atKey_put_other (fun hh => hc (ks_inj hp' hq' hp hq hh)), h2 p' q' hp' hq']
    simp only [if_neg hc]
end SC
end Go.Proofs.Ytkndegjodnciaaa
