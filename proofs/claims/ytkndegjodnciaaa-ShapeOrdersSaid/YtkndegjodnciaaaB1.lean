/- The builders of hash: plain words and their laws; what is known of their memory. -/
import Derived.Test.YtkndegjodnciaaaA0
import Derived.Test.YtkndegjodnciaaaA6
import Derived.Maps.OwnOps
import Derived.Maps.Views
import Derived.DeepKeys4
import Derived.OwnWalk
set_option linter.unusedVariables false
set_option linter.unusedSimpArgs false
namespace Go.Proofs.Ytkndegjodnciaaa
namespace SC
open Go.Proofs Go.Maps

/-! ### plain words -/
abbrev Gate := Int × Int × Int
def gcells (g : Gate) : List Value := [.int .i64 g.1, .int .i64 g.2.1, .int .i64 g.2.2]
def flat (gs : List Gate) : List Value := gs.flatMap gcells
def outOf : List Gate → Int → Int → Int
  | [], _, _ => 0
  | g :: r, p, q => if g.2.1 = p ∧ g.2.2 = q then g.1 else outOf r p q
structure Inv (n : Int) (gs : List Gate) : Prop where
  nn : 0 ≤ n
  top : n + gs.length ≤ 16384
  outs : ∀ g ∈ gs, 2 ≤ g.1 ∧ g.1 ≤ 2 * (n + gs.length)
  fit : ∀ g ∈ gs, 0 ≤ g.2.1 ∧ g.2.1 ≤ 40000 ∧ 0 ≤ g.2.2 ∧ g.2.2 ≤ 40000
def notM (l : Int) : Int := l + 1 - 2 * (l % 2)
def andP (n : Int) (gs : List Gate) (p q : Int) : Int × Int × List Gate :=
  if q = 0 ∨ (p = q + 1 ∧ q % 2 = 0) then (0, 0, gs)
  else if q = 1 ∨ p = q then (p, 0, gs)
  else if 0 < outOf gs p q then (outOf gs p q, 0, gs)
  else if 16384 ≤ n + gs.length then (0, 2, gs)
  else (2 * (n + gs.length + 1), 0, gs ++ [(2 * (n + gs.length + 1), p, q)])
def andM (n : Int) (gs : List Gate) (x y : Int) : Int × Int × List Gate := andP n gs (max x y) (min x y)
section
variable {n : Int} {gs : List Gate} {p q : Int}
theorem andP_zero (h : q = 0 ∨ (p = q + 1 ∧ q % 2 = 0)) : andP n gs p q = (0, 0, gs) := if_pos h
theorem andP_same (h0 : ¬ (q = 0 ∨ (p = q + 1 ∧ q % 2 = 0))) (h : q = 1 ∨ p = q) : andP n gs p q = (p, 0, gs) := by unfold andP; rw [if_neg h0, if_pos h]
theorem andP_hit (h0 : ¬ (q = 0 ∨ (p = q + 1 ∧ q % 2 = 0))) (h1 : ¬ (q = 1 ∨ p = q)) (h : 0 < outOf gs p q) : andP n gs p q = (outOf gs p q, 0, gs) := by unfold andP; rw [if_neg h0, if_neg h1, if_pos h]
theorem andP_full (h0 : ¬ (q = 0 ∨ (p = q + 1 ∧ q % 2 = 0))) (h1 : ¬ (q = 1 ∨ p = q)) (h2 : ¬ 0 < outOf gs p q) (h : 16384 ≤ n + gs.length) : andP n gs p q = (0, 2, gs) := by unfold andP; rw [if_neg h0, if_neg h1, if_neg h2, if_pos h]
theorem andP_new (h0 : ¬ (q = 0 ∨ (p = q + 1 ∧ q % 2 = 0))) (h1 : ¬ (q = 1 ∨ p = q)) (h2 : ¬ 0 < outOf gs p q) (h : ¬ 16384 ≤ n + gs.length) : andP n gs p q = (2 * (n + gs.length + 1), 0, gs ++ [(2 * (n + gs.length + 1), p, q)]) := by unfold andP; rw [if_neg h0, if_neg h1, if_neg h2, if_neg h]
end
def okM (n : Int) (gs : List Gate) (x : Int) : Prop := 0 ≤ x ∧ x ≤ 2 * (n + gs.length) + 1
instance (n : Int) (gs : List Gate) (x : Int) : Decidable (okM n gs x) := by unfold okM; infer_instance
def orM (n : Int) (gs : List Gate) (x y : Int) : Int × Int × List Gate :=
  let r := andM n gs (notM x) (notM y)
  if r.2.1 ≠ 0 then (0, r.2.1, r.2.2) else (notM r.1, 0, r.2.2)
def AndM (n : Int) (gs : List Gate) (x y : Int) : Int × Int × List Gate := if okM n gs x ∧ okM n gs y then andM n gs x y else (0, 5, gs)
def OrM (n : Int) (gs : List Gate) (x y : Int) : Int × Int × List Gate := if okM n gs x ∧ okM n gs y then orM n gs x y else (0, 5, gs)
def xorM (n : Int) (gs : List Gate) (x y : Int) : Int × Int × List Gate :=
  let p := andM n gs x y
  if p.2.1 ≠ 0 then (0, p.2.1, p.2.2) else
  let q := andM n p.2.2 (notM x) (notM y)
  if q.2.1 ≠ 0 then (0, q.2.1, q.2.2) else andM n q.2.2 (notM p.1) (notM q.1)
def XorM (n : Int) (gs : List Gate) (x y : Int) : Int × Int × List Gate := if okM n gs x ∧ okM n gs y then xorM n gs x y else (0, 5, gs)
def muxM (n : Int) (gs : List Gate) (s x y : Int) : Int × Int × List Gate :=
  let p := andM n gs s x
  if p.2.1 ≠ 0 then (0, p.2.1, p.2.2) else
  let q := andM n p.2.2 (notM s) y
  if q.2.1 ≠ 0 then (0, q.2.1, q.2.2) else orM n q.2.2 p.1 q.1
def MuxM (n : Int) (gs : List Gate) (s x y : Int) : Int × Int × List Gate := if okM n gs s ∧ okM n gs x ∧ okM n gs y then muxM n gs s x y else (0, 5, gs)
theorem outOf_mem : ∀ (gs : List Gate) (p q : Int), outOf gs p q = 0 ∨ ∃ g ∈ gs, outOf gs p q = g.1
  | [], _, _ => .inl rfl
  | g :: r, p, q => by
    unfold outOf
    split
    · exact .inr ⟨g, by simp, rfl⟩
    · rcases outOf_mem r p q with h | ⟨g', hg, h⟩
      · exact .inl h
      · exact .inr ⟨g', by simp [hg], h⟩
theorem Inv.out {n : Int} {gs : List Gate} (h : Inv n gs) (p q : Int) : 0 ≤ outOf gs p q ∧ outOf gs p q ≤ 2 * (n + gs.length) := by
  rcases outOf_mem gs p q with h1 | ⟨g, hg, h1⟩
  · have := h.nn; omega
  · have := h.outs g hg; omega
theorem outOf_append : ∀ (gs : List Gate) (o p q p' q' : Int), (∀ g ∈ gs, 2 ≤ g.1) → outOf gs p q ≤ 0 → outOf (gs ++ [(o, p, q)]) p' q' = if p' = p ∧ q' = q then o else outOf gs p' q'
  | [], o, p, q, p', q', _, _ => by
    simp only [List.nil_append, outOf]
    by_cases h : p' = p ∧ q' = q
    · rw [if_pos h, if_pos ⟨h.1.symm, h.2.symm⟩]
    · rw [if_neg h, if_neg (fun hh => h ⟨hh.1.symm, hh.2.symm⟩)]
  | g :: r, o, p, q, p', q', hg, h0 => by
    have h2 : 2 ≤ g.1 := hg g (by simp)
    simp only [outOf] at h0
    have hne : ¬ (g.2.1 = p ∧ g.2.2 = q) := by
      intro hc; rw [if_pos hc] at h0; omega
    rw [if_neg hne] at h0
    simp only [List.cons_append, outOf]
    rw [outOf_append r o p q p' q' (fun x hx => hg x (by simp [hx])) h0]
    by_cases hc : g.2.1 = p' ∧ g.2.2 = q'
    · rw [if_pos hc, if_pos hc, if_neg]
      intro hh
      exact hne ⟨hc.1.trans hh.1, hc.2.trans hh.2⟩
    · rw [if_neg hc, if_neg hc]
/-- What 'andM' answers. -/
structure Good (n : Int) (gs : List Gate) (r : Int × Int × List Gate) : Prop where
  inv : Inv n r.2.2
  ok : okM n r.2.2 r.1
  more : gs.length ≤ r.2.2.length
theorem andM_good {n : Int} {gs : List Gate} {x y : Int} (h : Inv n gs) (hx : okM n gs x) (hy : okM n gs y) : Good n gs (andM n gs x y) := by
  have h1 := h.nn
  have h2 := h.top
  have h3 := h.out (max x y) (min x y)
  unfold okM at hx hy
  unfold andM andP
  split
  · exact ⟨h, ⟨by simp, by simp; omega⟩, Nat.le_refl _⟩
  · split
    · exact ⟨h, ⟨by simp; omega, by simp; omega⟩, Nat.le_refl _⟩
    · split
      · exact ⟨h, ⟨by simp; omega, by simp; omega⟩, Nat.le_refl _⟩
      · split
        · exact ⟨h, ⟨by simp, by simp; omega⟩, Nat.le_refl _⟩
        · refine ⟨⟨h1, by simp; omega, ?_, ?_⟩, ⟨by simp; omega, by simp; omega⟩, by simp⟩
          · intro g hg
            simp only [List.mem_append, List.mem_singleton] at hg
            rcases hg with hg | rfl
            · have := h.outs g hg
              simp; omega
            · simp; omega
          · intro g hg
            simp only [List.mem_append, List.mem_singleton] at hg
            rcases hg with hg | rfl
            · exact h.fit g hg
            · refine ⟨?_, ?_, ?_, ?_⟩ <;> simp only [] <;> omega
theorem okM_not {n : Int} {gs : List Gate} {x : Int} (hx : okM n gs x) : okM n gs (notM x) := by unfold okM notM at *; omega
theorem okM_more {n : Int} {gs gs' : List Gate} {x : Int} (hx : okM n gs x) (h : gs.length ≤ gs'.length) : okM n gs' x := by unfold okM at *; omega
theorem orM_good {n : Int} {gs : List Gate} {x y : Int} (h : Inv n gs) (hx : okM n gs x) (hy : okM n gs y) : Good n gs (orM n gs x y) := by
  have := andM_good h (okM_not hx) (okM_not hy)
  unfold orM
  simp only
  split
  · exact ⟨this.inv, ⟨by simp, by have := this.inv.nn; simp; omega⟩, this.more⟩
  · exact ⟨this.inv, okM_not this.ok, this.more⟩
theorem zero_good {n : Int} {gs gs' : List Gate} {e : Int} (h : Inv n gs') (hm : gs.length ≤ gs'.length) : Good n gs (0, e, gs') := ⟨h, ⟨by simp, by have := h.nn; simp; omega⟩, hm⟩
theorem AndM_good {n : Int} {gs : List Gate} {x y : Int} (h : Inv n gs) : Good n gs (AndM n gs x y) := by
  unfold AndM; split
  · rename_i hh; exact andM_good h hh.1 hh.2
  · exact zero_good h (Nat.le_refl _)
theorem OrM_good {n : Int} {gs : List Gate} {x y : Int} (h : Inv n gs) : Good n gs (OrM n gs x y) := by
  unfold OrM; split
  · rename_i hh; exact orM_good h hh.1 hh.2
  · exact zero_good h (Nat.le_refl _)
theorem XorM_good {n : Int} {gs : List Gate} {x y : Int} (h : Inv n gs) : Good n gs (XorM n gs x y) := by
  unfold XorM; split
  · rename_i hh
    have g1 := andM_good h hh.1 hh.2
    have g2 := andM_good g1.inv (okM_more (okM_not hh.1) g1.more) (okM_more (okM_not hh.2) g1.more)
    have g3 := andM_good g2.inv (okM_more (okM_not g1.ok) g2.more) (okM_not g2.ok)
    unfold xorM; simp only
    split
    · exact zero_good g1.inv g1.more
    · split
      · exact zero_good g2.inv (Nat.le_trans g1.more g2.more)
      · exact ⟨g3.inv, g3.ok, Nat.le_trans (Nat.le_trans g1.more g2.more) g3.more⟩
  · exact zero_good h (Nat.le_refl _)
theorem MuxM_good {n : Int} {gs : List Gate} {s x y : Int} (h : Inv n gs) : Good n gs (MuxM n gs s x y) := by
  unfold MuxM; split
  · rename_i hh
    have g1 := andM_good h hh.1 hh.2.1
    have g2 := andM_good g1.inv (okM_more (okM_not hh.1) g1.more) (okM_more hh.2.2 g1.more)
    have g3 := orM_good g2.inv (okM_more g1.ok g2.more) g2.ok
    unfold muxM; simp only
    split
    · exact zero_good g1.inv g1.more
    · split
      · exact zero_good g2.inv (Nat.le_trans g1.more g2.more)
      · exact ⟨g3.inv, g3.ok, Nat.le_trans (Nat.le_trans g1.more g2.more) g3.more⟩
  · exact zero_good h (Nat.le_refl _)
theorem length_flat : ∀ gs : List Gate, (flat gs).length = gs.length * 3
  | [] => rfl
  | g :: r => by have := length_flat r; simp only [flat, List.flatMap_cons, List.length_append, List.length_cons] at *; rw [this]; simp only [gcells, List.length_cons, List.length_nil]; omega
theorem flat_append (gs : List Gate) (g : Gate) : flat (gs ++ [g]) = flat gs ++ gcells g := by simp [flat]

/-! ### the map of gates -/
theorem laidOut : laidOutB Try.prog = true := by kernel_rfl
theorem row168 : (168 : TypeId) < Try.prog.types.size := of_decide_eq_true (by kernel_rfl)
theorem wide168 : (match Try.prog.underlying 168 with | some (.array _ _) | some (.struct _) => true | _ => false) = true := by rw [Try.underlying168]
set_option maxRecDepth 100000 in
theorem keyed168 : Keyed Try.prog 168 := Keyed.of_law (deep_law_laid laidOut (m := 2) (by omega) row168 (by kernel_rfl) wide168)
def fits (a : Int) : Prop := -9223372036854775808 ≤ a ∧ a ≤ 9223372036854775807
theorem wf_of_fits {a : Int} (h : fits a) : (Lit.int .i64 a).wf = true := by
  unfold fits at h
  simp [Lit.wf, IntKind.min, IntKind.max, IntKind.signed, IntKind.bits]
  omega
theorem formed168 {a b : Value} : (Value.agg #[a, b]).formed Try.prog 168 = true := by
  have : Try.prog.cellsOf 168 = 2 := by kernel_rfl
  simp [Value.formed, Try.underlying168, this]
def kl (p q : Int) : Lit := .string (keyBytes [.int .i64 p, .int .i64 q])
theorem key168 {p q : Int} (hp : fits p) (hq : fits q) : keyOf Try.prog 168 (.agg #[.int .i64 p, .int .i64 q]) = some (kl p q) := by
  have h1 : Try.prog.keyType 168 = true := by kernel_rfl
  have h2 : Try.prog.cellsOf 168 = 2 := by kernel_rfl
  have h3 : Try.prog.cellsOf 3 = 1 := by kernel_rfl
  have h4 : ∃ k, Try.prog.types.size = k + 1 := ⟨Try.prog.types.size - 1, by have : 0 < Try.prog.types.size := of_decide_eq_true (by kernel_rfl); omega⟩
  obtain ⟨k, hk⟩ := h4
  unfold keyOf
  rw [Try.underlying168]
  simp only [h1, formed168, Bool.and_self, if_true]
  rw [hk]
  simp [Program.keyLits, Try.underlying168, Try.underlying3, h2, h3, Value.cells, wf_of_fits hp, wf_of_fits hq, kl]
theorem wide43 : (match Try.prog.underlying 43 with | some (.array _ _) | some (.struct _) => true | _ => false) = true := by rw [Try.underlying43]
theorem formed43 {a b c : Value} : (Value.agg #[a, b, c]).formed Try.prog 43 = true := by
  have : Try.prog.cellsOf 43 = 3 := by kernel_rfl
  simp [Value.formed, Try.underlying43, this]
theorem key43 {a b c : Int} (ha : fits a) (hb : fits b) (hc : fits c) : keyOf Try.prog 43 (.agg #[.int .i64 a, .int .i64 b, .int .i64 c]) = some (.string (keyBytes [.int .i64 a, .int .i64 b, .int .i64 c])) := by
  have h1 : Try.prog.keyType 43 = true := by kernel_rfl
  have h2 : Try.prog.cellsOf 43 = 3 := by kernel_rfl
  have h3 : Try.prog.cellsOf 3 = 1 := by kernel_rfl
  have h4 : ∃ k, Try.prog.types.size = k + 1 := ⟨Try.prog.types.size - 1, by have : 0 < Try.prog.types.size := of_decide_eq_true (by kernel_rfl); omega⟩
  obtain ⟨k, hk⟩ := h4
  unfold keyOf
  rw [Try.underlying43]
  simp only [h1, formed43, Bool.and_self, if_true]
  rw [hk]
  simp [Program.keyLits, Try.underlying43, Try.underlying3, h2, h3, Value.cells, wf_of_fits ha, wf_of_fits hb, wf_of_fits hc]
set_option maxRecDepth 100000 in
theorem equal43 {a b c : Int} (ha : fits a) (hb : fits b) (hc : fits c) (w : World) : (Op.equal 43 (.agg #[.int .i64 a, .int .i64 b, .int .i64 c]) (.agg #[.int .i64 a, .int .i64 b, .int .i64 c])).run Try.prog w = .ok true w := by
  obtain ⟨r, h2, h3⟩ := run_equal_deep (P := Try.prog) w (m := 2) (by decide) (k := 43) (by kernel_rfl) wide43 (key43 ha hb hc) (key43 ha hb hc)
  rw [h3.2 rfl] at h2
  exact h2
/-- Block b is a map of gates that answers by f. -/
def MapHas (w : World) (b N : Nat) (f : Int → Int → Int) : Prop :=
  ∃ D : DataW Unit, w.ownsMap Try.prog 168 (plainElem Try.prog 3) b N D ∧ ∀ p q, fits p → fits q → D.atKey (kl p q) (.lit (.int .i64 0)) = .lit (.int .i64 (f p q))
theorem MapHas.made (w : World) : MapHas (w.alloc (.map #[] 0)) w.heap.size 0 (fun _ _ => 0) := ⟨_, World.ownsMap_made w _ _ _, fun _ _ _ _ => rfl⟩
theorem MapHas.chg {w w' : World} {b N : Nat} {f : Int → Int → Int} (h : MapHas w b N f) {S : Nat → Prop} (hc : Chg w w' S) (hn : ¬ S b) : MapHas w' b N f := by
  obtain ⟨D, h1, h2⟩ := h
  have hlt := h1.lt
  obtain ⟨es, clock, hb, F, hs, hD⟩ := h1
  exact ⟨D, ⟨es, clock, (hc.block b hlt hn).trans hb, F, hs, hD⟩, h2⟩
theorem MapHas.lt {w : World} {b N : Nat} {f : Int → Int → Int} (h : MapHas w b N f) : b < w.heap.size := by obtain ⟨D, h1, _⟩ := h; exact h1.lt
theorem does_lookupG {w : World} {e : Env} {x y : Operand} {ty : TypeId} {b N : Nat} {f : Int → Int → Int} {p q : Int} (h : ev e x = some (.map (some b))) (h1 : ev e y = some (.agg #[.int .i64 p, .int .i64 q])) (hm : MapHas w b N f) (hp : fits p) (hq : fits q) :
    Does Try.prog (.lookup 96 x y false) ty e w (.int .i64 (f p q)) w := by
  obtain ⟨D, h2, h3⟩ := hm
  obtain ⟨c, hrun, hat, _⟩ := h2.lookup_int keyed168 Try.underlying96 Try.underlying3 (Try.zeroValue3 w) (key168 hp hq)
  rw [h3 p q hp hq] at hat
  obtain rfl : f p q = c := by simpa using hat
  intro ρ dst pos af g hρ
  simp [execOp, hρ _ _ h, hρ _ _ h1, hrun]
theorem kl_inj {p q p' q' : Int} (hp : fits p) (hq : fits q) (hp' : fits p') (hq' : fits q') (h : kl p q = kl p' q') : p = p' ∧ q = q' := by
  have := keyed168.inj (key168 hp hq) (by rw [h]; exact key168 hp' hq')
  simpa using this
theorem does_updateG {w : World} {e : Env} {x y z : Operand} {ty : TypeId} {b N : Nat} {f : Int → Int → Int} {p q v : Int} (h : ev e x = some (.map (some b))) (h1 : ev e y = some (.agg #[.int .i64 p, .int .i64 q])) (h2 : ev e z = some (.int .i64 v)) (hm : MapHas w b N f) (hp : fits p) (hq : fits q) (hv : fits v) (hN : N < maxLen) :
    ∃ w', DoesU Try.prog (.mapUpdate 96 x y z) ty e w w' ∧ MapHas w' b (N + 1) (fun p' q' => if p' = p ∧ q' = q then v else f p' q') ∧ Chg w w' (fun k => k = b) := by
  obtain ⟨D, h3, h4⟩ := hm
  obtain ⟨w', hrun, ho, hg⟩ := h3.update keyed168 Try.underlying96 hN (key168 hp hq) (plainElem_int Try.underlying3 (wf_of_fits hv))
  refine ⟨w', ?_, ⟨_, ho, ?_⟩, (Chg.of_grown hg).mono fun k hk => by simpa using hk.symm⟩
  · intro ρ dst pos af g hρ
    simp [execOp, hρ _ _ h, hρ _ _ h1, hρ _ _ h2, hrun]
  · intro p' q' hp' hq'
    by_cases hc : p' = p ∧ q' = q
    · obtain ⟨rfl, rfl⟩ := hc
      rw [atKey_put_same _ (keyed168.key (key168 hp hq))]
      · simp
      · obtain ⟨es, clock, _, _, _, hD⟩ := h3; exact ⟨_, hD⟩
    · rw [atKey_put_other (fun hh => hc (kl_inj hp' hq' hp hq hh)), h4 p' q' hp' hq']
      simp only [if_neg hc]
end SC
end Go.Proofs.Ytkndegjodnciaaa
