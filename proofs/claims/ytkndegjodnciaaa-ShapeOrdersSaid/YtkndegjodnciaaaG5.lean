/- shape: Renumber, the plain words. -/
import Derived.Test.YtkndegjodnciaaaG4
set_option linter.unusedVariables false
set_option linter.unusedSimpArgs false
namespace Go.Proofs.Ytkndegjodnciaaa
namespace SC
open Go.Proofs
def giveM : List Int → Int → List Int → List Int
  | [], _, to => to
  | l :: r, nx, to => giveM r (nx + 2) (to.set (l / 2).toNat (nx + 2))
theorem giveM_snoc (l : Int) : ∀ (ks : List Int) (nx : Int) (to : List Int), giveM (ks ++ [l]) nx to = (giveM ks nx to).set (l / 2).toNat (nx + 2 * ks.length + 2)
  | [], nx, to => by simp [giveM]
  | k :: r, nx, to => by
    simp only [List.cons_append, giveM]
    rw [giveM_snoc l r]
    congr 1
    simp only [List.length_cons]
    omega
theorem giveM_len : ∀ (ks : List Int) (nx : Int) (to : List Int), (giveM ks nx to).length = to.length
  | [], _, _ => rfl
  | k :: r, nx, to => by simp only [giveM]; rw [giveM_len r]; simp
/-- The map behind these definitions. -/
def mapOf (max : Int) (ks : List Int) : List Int := giveM ks 0 (List.replicate (max + 1).toNat 0)
theorem mapOf_snoc (max : Int) (ks : List Int) (l : Int) : mapOf max (ks ++ [l]) = (mapOf max ks).set (l / 2).toNat (2 * ks.length + 2) := by
  unfold mapOf
  rw [giveM_snoc]
  congr 1
  omega
theorem mapOf_len (max : Int) (ks : List Int) : (mapOf max ks).length = (max + 1).toNat := by unfold mapOf; rw [giveM_len]; simp
theorem L_rep (n : Nat) (v : Int) : L (List.replicate n 0) v = 0 := by
  unfold L
  simp only [List.getD_eq_getElem?_getD, List.getElem?_replicate]
  split <;> rfl
theorem mapOf_ok {max : Int} (h0 : 0 ≤ max) : ∀ (ks : List Int), ks.length ≤ 50000 → (∀ k ∈ ks, rg (max + 1).toNat (k / 2)) → MapOk (mapOf max ks) := by
  intro ks hk hr
  have key : ∀ (n : Nat), n ≤ ks.length → ∀ v, 0 ≤ v → 0 ≤ L (mapOf max (ks.take n)) v ∧ L (mapOf max (ks.take n)) v ≤ 2 * n ∧ L (mapOf max (ks.take n)) v % 2 = 0 := by
    intro n
    induction n with
    | zero =>
      intro _ v _
      rw [List.take_zero]
      show 0 ≤ L (List.replicate _ 0) v ∧ L (List.replicate _ 0) v ≤ _ ∧ L (List.replicate _ 0) v % 2 = 0
      rw [L_rep]
      omega
    | succ n ih =>
      intro hn v hv
      have hlt : n < ks.length := by omega
      rw [List.take_succ_eq_append_getElem hlt, mapOf_snoc, L_set _ (by rw [mapOf_len]; exact hr _ (List.getElem_mem hlt)) hv, List.length_take, Nat.min_eq_left (by omega)]
      have := ih (by omega) v hv
      split <;> omega
  refine ⟨fun v hv => ?_⟩
  have := key ks.length (Nat.le_refl _) v hv.1
  rw [List.take_length] at this
  omega
/-- The gates' definitions in an order. -/
def andAt (c : Circ) (i : Int) : Tri := c.ands.getD i.toNat (0, 0, 0)
def defsOf (c : Circ) (ord : List Int) : List Int := c.inputs ++ c.latches.map (·.1) ++ ord.map fun i => (andAt c i).1
def renLatch (to : List Int) (x : Tri) : Tri := (litM to x.1, litM to x.2.1, if 1 < x.2.2 then litM to x.2.2 else x.2.2)
def renAnd (to : List Int) (x : Tri) : Tri := (litM to x.1, max (litM to x.2.1) (litM to x.2.2), min (litM to x.2.1) (litM to x.2.2))
/-- The circuit in another order. -/
def renM (c : Circ) (ord : List Int) : Circ :=
  let to := mapOf c.max (defsOf c ord)
  { c with
    max := (defsOf c ord).length
    inputs := c.inputs.map (litM to)
    outputs := c.outputs.map (litM to)
    bads := c.bads.map (litM to)
    constraints := c.constraints.map (litM to)
    fairness := c.fairness.map (litM to)
    justice := c.justice.map fun l => l.map (litM to)
    latches := c.latches.map (renLatch to)
    ands := ord.map fun i => renAnd to (andAt c i) }
/-- The lists of literals in another order. -/
def ren1 (c : Circ) (to : List Int) (k : Nat) : Circ :=
  { c with
    max := k
    inputs := c.inputs.map (litM to)
    outputs := c.outputs.map (litM to)
    bads := c.bads.map (litM to)
    constraints := c.constraints.map (litM to)
    fairness := c.fairness.map (litM to) }
theorem lits_cv' {w : World} {tb tr lb : Nat} {to ls : List Int} {A : Option Addr} {c : Nat} (hM : MapAt w tb tr to) (hO : MapOk to) (hV : Blk w lb 127 [.func (.func 102) #[] #[pt tb]]) (R : RowA w icell 1 A ls) (hn : ls.length ≤ 1000000) (hl : ∀ l ∈ ls, rg to.length (l / 2)) :
    CV Try.prog 103 [.slice A ls.length c, pt lb] w fun v w' => w'.ownsRow w.heap.size 3 1 v (ls.map (litM to)).length ((ls.map (litM to)).flatMap icell) ∧ Chg w w' none_ := by
  rw [List.length_map]
  exact lits_cv hM hO hV R hn hl
/-- The rows while the lists of justice are written. -/
def jRows (c1 : Circ) (h js jn : Hd) (to : List Int) (i : Nat) (k : Nat) : Rw :=
  if k = 6 then cirRows c1 h js jn i 6
  else if 11 ≤ k ∧ k - 11 < i then ⟨slc jn (k - 11) (c1.justice.getD (k - 11) []).length, 3, 1, (c1.justice.getD (k - 11) []).length, ((c1.justice.getD (k - 11) []).map (litM to)).flatMap icell⟩
  else cirRows c1 h js js c1.justice.length k
theorem jRows_zero (c1 : Circ) (h js : Hd) (to : List Int) : jRows c1 h js js to 0 = cirRows c1 h js js c1.justice.length := by
  funext k
  unfold jRows
  by_cases h6 : k = 6
  · subst h6
    rw [if_pos rfl]
    simp only [cirRows, Rw.mk.injEq, true_and]
    apply List.map_congr_left
    intro j hj
    have := List.mem_range.1 hj
    rw [if_neg (by omega), if_pos this]
  · rw [if_neg h6, if_neg (by omega)]
theorem jRows_step (c1 : Circ) (h js jn : Hd) (to : List Int) (i : Nat) (p : Option Addr × Nat) :
    upd (upd (jRows c1 h js jn to i) (i + 11) ⟨.slice p.1 (c1.justice.getD i []).length p.2, 3, 1, (c1.justice.getD i []).length, ((c1.justice.getD i []).map (litM to)).flatMap icell⟩) 6 (cirRows c1 h js (setHd jn i p) (i + 1) 6) = jRows c1 h js (setHd jn i p) to (i + 1) := by
  funext k
  unfold upd
  by_cases h6 : k = 6
  · subst h6; rw [if_pos rfl]; rfl
  · rw [if_neg h6]
    by_cases hk : k = i + 11
    · subst hk
      rw [if_pos rfl]
      unfold jRows
      rw [if_neg h6, if_pos (by omega)]
      simp [slc, setHd]
    · rw [if_neg hk]
      unfold jRows
      rw [if_neg h6, if_neg h6]
      by_cases hc : 11 ≤ k ∧ k - 11 < i
      · rw [if_pos hc, if_pos (by omega)]
        have : ¬ k - 11 = i := by omega
        simp [slc, setHd, this]
      · rw [if_neg hc, if_neg (by omega)]
theorem jRows_all (c1 : Circ) (h js jn : Hd) (to : List Int) :
    jRows c1 h js jn to c1.justice.length = cirRows { c1 with justice := c1.justice.map fun l => l.map (litM to) } h jn jn (c1.justice.map fun l => l.map (litM to)).length := by
  have eg : ∀ k, ((c1.justice.map fun l => l.map (litM to)).getD k []).length = (c1.justice.getD k []).length := fun k => by
    simp only [List.getD_eq_getElem?_getD, List.getElem?_map]
    cases c1.justice[k]? <;> simp
  have eg2 : ∀ k, (c1.justice.map fun l => l.map (litM to)).getD k [] = (c1.justice.getD k []).map (litM to) := fun k => by
    simp only [List.getD_eq_getElem?_getD, List.getElem?_map]
    cases c1.justice[k]? <;> simp
  funext k
  by_cases h6 : k = 6
  · subst h6
    unfold jRows
    rw [if_pos rfl]
    simp only [cirRows, List.length_map, Rw.mk.injEq, true_and]
    apply List.map_congr_left
    intro j hj
    have := List.mem_range.1 hj
    rw [if_pos this, if_pos this, eg]
  · rcases Nat.lt_or_ge k 11 with hlt | hge
    · unfold jRows
      rw [if_neg h6, if_neg (by omega)]
      match k with
      | 0 | 1 | 2 | 3 | 4 | 5 | 7 | 8 | 9 | 10 => rfl
    · obtain ⟨m, rfl⟩ : ∃ m, k = m + 11 := ⟨k - 11, by omega⟩
      unfold jRows
      rw [if_neg h6]
      by_cases hm : m < c1.justice.length
      · rw [if_pos (by omega)]
        show _ = if m < (c1.justice.map _).length then _ else _
        rw [if_pos (by simpa using hm)]
        simp only [Nat.add_sub_cancel, eg, eg2, List.length_map]
      · rw [if_neg (by omega)]
        show (if m < c1.justice.length then _ else _) = if m < (c1.justice.map _).length then _ else _
        rw [if_neg hm, if_neg (by simpa using hm)]
/-- A row's block. -/
theorem Rows.block {w : World} {base : Nat} {F : Nat → Rw} (h : Rows w base F) (i : Nat) {n : Nat} {a : Option Addr} {c : Nat} (hv : (F i).v = .slice a n c) (hn : (F i).n = n) (h0 : 0 < n) : ∃ g, a = some ⟨g, 0, none⟩ ∧ (F i).v.ownBlock = some g := by
  have := h.own i
  rcases this.2 with ⟨hv', hn'⟩ | ⟨g, cap, cur, hv', _⟩
  · omega
  · rw [hv] at hv'
    cases hv'
    exact ⟨g, rfl, by rw [hv]; rfl⟩
/-- The lists of lists, too. -/
def ren2 (c : Circ) (to : List Int) (k : Nat) : Circ := { ren1 c to k with justice := c.justice.map fun l => l.map (litM to) }
theorem ren2_cells (c : Circ) (to : List Int) (k : Nat) (h : Hd) : ccells (ren1 c to k) h = ccells (ren2 c to k) h := by simp [ccells, ren1, ren2]
/-- The rows while things of three numbers are written. -/
def tRows (F : Nat → Rw) (j : Nat) (v : Value) (t : TypeId) (ls : List Tri) : Nat → Rw := upd F j ⟨v, t, 3, ls.length, ls.flatMap tcells⟩
theorem splice_take {cur vs : List Value} {o m : Nat} (h1 : o + vs.length ≤ m) (h2 : m ≤ cur.length) : (splice cur o vs).take m = splice (cur.take m) o vs := by
  unfold splice
  rw [List.take_take, Nat.min_eq_left (by omega)]
  have hl : (cur.take o ++ vs).length = o + vs.length := by rw [List.length_append, List.length_take, Nat.min_eq_left (by omega)]
  rw [List.take_append, List.take_of_length_le (by omega), hl, List.drop_take]
theorem splice_len {cur vs : List Value} {o : Nat} (h : o + vs.length ≤ cur.length) : (splice cur o vs).length = cur.length := by
  unfold splice
  simp
  omega
/-- A thing of three numbers is written into its row. -/
theorem own_tri {w : World} {base n cap g i : Nat} {t : TypeId} {ls : List Tri} {x : Tri} (h : w.ownsRow base t 3 (.slice (some ⟨g, 0, none⟩) n cap) n (ls.flatMap tcells)) (hi : i < n) (hl : ls.length = n) :
    ∃ cur : List Value, Blk w g t cur ∧ i * 3 + 3 ≤ cur.length ∧ (w.setRow g (splice cur (i * 3) (tcells x)).toArray).ownsRow base t 3 (.slice (some ⟨g, 0, none⟩) n cap) n ((ls.set i x).flatMap tcells) := by
  obtain ⟨cur, hB, hx, hcl, _, hst⟩ := own_set h
  have h3 : i * 3 + 3 ≤ n * 3 := by omega
  have hle : i * 3 + (tcells x).length ≤ n * 3 := h3
  refine ⟨cur, hB, by omega, ?_⟩
  have := hst (splice cur (i * 3) (tcells x)) (splice_len (by omega))
  rwa [splice_take hle hcl, ← hx, splice_set tcells 3 tlen ls i x (by omega)] at this
theorem upd_upd (F : Nat → Rw) (j : Nat) (r r' : Rw) : upd (upd F j r) j r' = upd F j r' := by
  funext k
  unfold upd
  split <;> rfl
theorem upd_self (F : Nat → Rw) (j : Nat) (r : Rw) (h : F j = r) : upd F j r = F := by
  funext k
  unfold upd
  split
  · rename_i e; rw [e, h]
  · rfl
theorem set_take_drop (f : Tri → Tri) (ls : List Tri) (i : Nat) (h : i < ls.length) : ((ls.take i).map f ++ ls.drop i).set i (f ls[i]) = (ls.take (i + 1)).map f ++ ls.drop (i + 1) := by
  have e : ((ls.take i).map f).length = i := by rw [List.length_map, List.length_take]; omega
  rw [List.set_append_right _ _ (by omega), e, Nat.sub_self, List.drop_eq_getElem_cons h, List.set_cons_zero, List.take_succ_eq_append_getElem h, List.map_append, List.append_assoc]
  rfl
theorem set_take_drop2 (f : Int → Tri) (a : List Int) (b : List Tri) (i : Nat) (h : i < a.length) (h2 : i < b.length) : ((a.take i).map f ++ b.drop i).set i (f a[i]) = (a.take (i + 1)).map f ++ b.drop (i + 1) := by
  have e : ((a.take i).map f).length = i := by rw [List.length_map, List.length_take]; omega
  rw [List.set_append_right _ _ (by omega), e, Nat.sub_self, List.drop_eq_getElem_cons h2, List.set_cons_zero, List.take_succ_eq_append_getElem h, List.map_append, List.append_assoc]
  rfl
end SC
end Go.Proofs.Ytkndegjodnciaaa
