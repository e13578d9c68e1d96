/- shape: the plain law of cycle: gates that come round. -/
import Derived.Test.YtkndegjodnciaaaF3
set_option linter.unusedVariables false
set_option linter.unusedSimpArgs false
namespace Go.Proofs.Ytkndegjodnciaaa
namespace SC
open Go.Proofs
section
variable {n : Nat} {B : Int → List Int}
/-- y is used by x, through others perhaps. -/
inductive Hangs (B : Int → List Int) : Int → Int → Prop
  | one {x z : Int} : z ∈ B x → Hangs B x z
  | more {x z y : Int} : Hangs B x z → y ∈ B z → Hangs B x y
theorem sub_size : ∀ (l m : List Int), l.Nodup → (∀ y ∈ l, y ∈ m) → l.length ≤ m.length
  | [], m, _, _ => Nat.zero_le _
  | a :: l, m, hn, h => by
    rw [List.nodup_cons] at hn
    have ha := h a (by simp)
    have := sub_size l (m.erase a) hn.2 fun y hy => (List.mem_erase_of_ne (fun e : y = a => hn.1 (e ▸ hy))).2 (h y (by simp [hy]))
    rw [List.length_erase_of_mem ha] at this
    have : 0 < m.length := List.length_pos_of_mem ha
    simp only [List.length_cons]
    omega
theorem All.round {out : List Int} (h : All n B out) (hB : ∀ y, rg n y → ∀ x ∈ B y, rg n x) (hlt : out.length < n) : ∃ i, rg n i ∧ Hangs B i i := by
  have h0 : ∃ y, rg n y ∧ y ∉ out := by
    refine Classical.byContradiction fun hc => ?_
    have h1 : ∀ y, rg n y → y ∈ out := fun y hy => Classical.byContradiction fun hh => hc ⟨y, hy, hh⟩
    have h2 : ((List.range n).map fun k : Nat => (k : Int)).Nodup := List.pairwise_map.2 (List.pairwise_lt_range.imp fun h => by omega)
    have := sub_size _ out h2 fun y hy => by
      obtain ⟨k, hk, rfl⟩ := List.mem_map.1 hy
      exact h1 _ ⟨by omega, by have := List.mem_range.1 hk; omega⟩
    simp at this
    omega
  have h1 : ∀ s : {y : Int // rg n y ∧ y ∉ out}, ∃ s' : {y : Int // rg n y ∧ y ∉ out}, s'.1 ∈ B s.1 := by
    rintro ⟨y, hy, ho⟩
    refine Classical.byContradiction fun hc => h.stuck y ⟨hy, ho, fun z hz => Classical.byContradiction fun hh => hc ⟨⟨z, hB y hy z hz, hh⟩, hz⟩⟩
  obtain ⟨y0, hy0⟩ := h0
  let f : {y : Int // rg n y ∧ y ∉ out} → {y : Int // rg n y ∧ y ∉ out} := fun s => (h1 s).choose
  have hf : ∀ s, (f s).1 ∈ B s.1 := fun s => (h1 s).choose_spec
  let g : Nat → {y : Int // rg n y ∧ y ∉ out} := fun k => Nat.rec ⟨y0, hy0⟩ (fun _ s => f s) k
  have hg : ∀ k, (g (k + 1)).1 ∈ B (g k).1 := fun k => hf (g k)
  have hh : ∀ d i, Hangs B (g i).1 (g (i + d + 1)).1 := by
    intro d
    induction d with
    | zero => intro i; exact .one (hg i)
    | succ d ih => intro i; exact .more (ih i) (hg (i + d + 1))
  have hp : ∃ i j, i < j ∧ (g i).1 = (g j).1 := by
    refine Classical.byContradiction fun hc => ?_
    have hn : ((List.range (n + 1)).map fun k => (g k).1).Nodup := List.pairwise_map.2 (List.pairwise_lt_range.imp fun {a b} h e => hc ⟨a, b, h, e⟩)
    have := nodup_size n _ hn fun y hy => by
      obtain ⟨k, _, rfl⟩ := List.mem_map.1 hy
      exact (g k).2.1
    simp at this
    omega
  obtain ⟨i, j, hij, e⟩ := hp
  refine ⟨(g i).1, (g i).2.1, ?_⟩
  have := hh (j - i - 1) i
  rw [show i + (j - i - 1) + 1 = j by omega, ← e] at this
  exact this

/-! ### the search -/
def Sn (sn : List Bool) (z : Int) : Bool := sn.getD z.toNat false
theorem Sn_set {sn : List Bool} {i : Int} (v : Bool) (h : rg sn.length i) {y : Int} (hy : 0 ≤ y) : Sn (sn.set i.toNat v) y = if y = i then v else Sn sn y := by
  unfold Sn rg at *
  simp only [List.getD_eq_getElem?_getD, List.getElem?_set]
  by_cases hc : y = i
  · subst hc
    rw [if_pos rfl, if_pos (by omega), if_pos rfl]
    rfl
  · rw [if_neg (by omega), if_neg hc]
theorem count_set : ∀ (sn : List Bool) (k : Nat), sn[k]? = some false → (sn.set k true).count false + 1 = sn.count false
  | [], k, h => by simp at h
  | a :: r, 0, h => by simp at h; subst h; simp
  | a :: r, k + 1, h => by
    have := count_set r k (by simpa using h)
    simp only [List.set_cons_succ, List.count_cons]
    omega
structure Srch (n : Nat) (B : Int → List Int) (i : Int) (W : List Int) (sn : List Bool) : Prop where
  len : sn.length = n
  work : ∀ z ∈ W, rg n z ∧ Hangs B i z
  noti : Sn sn i = false
  base : ∀ u ∈ B i, u ∈ W ∨ Sn sn u = true
  shut : ∀ z, rg n z → Sn sn z = true → ∀ u ∈ B z, u ∈ W ∨ Sn sn u = true
  size : W.length + 3 * sn.count false ≤ 3 * n + 2
theorem Sn_false (n : Nat) (z : Int) : Sn (List.replicate n false) z = false := by
  unfold Sn
  simp only [List.getD_eq_getElem?_getD, List.getElem?_replicate]
  split <;> rfl
theorem Srch.init {i : Int} (hi : rg n i) (hB : ∀ y, rg n y → ∀ x ∈ B y, rg n x) (h2 : (B i).length ≤ 2) : Srch n B i (B i) (List.replicate n false) := by
  refine ⟨by simp, fun z hz => ⟨hB i hi z hz, .one hz⟩, Sn_false _ _, fun u hu => .inl hu, fun z _ hz => ?_, by simp; omega⟩
  rw [Sn_false] at hz
  cases hz
theorem Srch.hit {i : Int} {W : List Int} {sn : List Bool} (h : Srch n B i (W ++ [i]) sn) : Hangs B i i := (h.work i (by simp)).2
theorem Srch.old {i x : Int} {W : List Int} {sn : List Bool} (h : Srch n B i (W ++ [x]) sn) (hs : Sn sn x = true) : Srch n B i W sn := by
  have key : ∀ u, u ∈ W ++ [x] ∨ Sn sn u = true → u ∈ W ∨ Sn sn u = true := by
    rintro u (hu | hu)
    · rcases List.mem_append.1 hu with hu | hu
      · exact .inl hu
      · simp at hu; subst hu; exact .inr hs
    · exact .inr hu
  have := h.size
  simp only [List.length_append, List.length_singleton] at this
  exact ⟨h.len, fun z hz => h.work z (List.mem_append_left _ hz), h.noti, fun u hu => key u (h.base u hu), fun z hz h1 u hu => key u (h.shut z hz h1 u hu), by omega⟩
theorem Srch.new {i x : Int} {W : List Int} {sn : List Bool} (h : Srch n B i (W ++ [x]) sn) (hi : rg n i) (hs : Sn sn x = false) (hne : ¬ x = i) (hB : ∀ y, rg n y → ∀ x ∈ B y, rg n x) (h2 : (B x).length ≤ 2) :
    Srch n B i (W ++ B x) (sn.set x.toNat true) ∧ 3 * (sn.set x.toNat true).count false + (W ++ B x).length < 3 * sn.count false + (W ++ [x]).length := by
  obtain ⟨hx, hh⟩ := h.work x (by simp)
  have hset : ∀ y, 0 ≤ y → Sn (sn.set x.toNat true) y = if y = x then true else Sn sn y := fun y hy => Sn_set true (by rw [h.len]; exact hx) hy
  have hxl : x.toNat < sn.length := by have := h.len; unfold rg at hx; omega
  have hc : (sn.set x.toNat true).count false + 1 = sn.count false := count_set _ _ (by
    rw [List.getElem?_eq_getElem hxl]
    unfold Sn at hs
    rw [List.getD_eq_getElem?_getD, List.getElem?_eq_getElem hxl] at hs
    simpa using hs)
  have key : ∀ u, rg n u → u ∈ W ++ [x] ∨ Sn sn u = true → u ∈ W ++ B x ∨ Sn (sn.set x.toNat true) u = true := by
    rintro u hr (hu | hu)
    · rcases List.mem_append.1 hu with hu | hu
      · exact .inl (List.mem_append_left _ hu)
      · simp at hu; subst hu; right; rw [hset _ hr.1, if_pos rfl]
    · right
      rw [hset _ hr.1]
      split
      · rfl
      · exact hu
  have hsz := h.size
  simp only [List.length_append, List.length_singleton] at hsz ⊢
  refine ⟨⟨by simp [h.len], fun z hz => ?_, ?_, fun u hu => key u (hB i hi u hu) (h.base u hu), fun z hz h1 u hu => ?_, by simp only [List.length_append]; omega⟩, by omega⟩
  · rcases List.mem_append.1 hz with hz | hz
    · exact h.work z (List.mem_append_left _ hz)
    · exact ⟨hB x hx z hz, .more hh hz⟩
  · rw [hset _ hi.1, if_neg (fun e => hne e.symm)]
    exact h.noti
  · rw [hset _ hz.1] at h1
    by_cases hzx : z = x
    · subst hzx
      exact .inl (List.mem_append_right _ hu)
    · rw [if_neg hzx] at h1
      exact key u (hB z hz u hu) (h.shut z hz h1 u hu)
theorem Srch.none {i : Int} {sn : List Bool} (h : Srch n B i [] sn) (hi : rg n i) (hB : ∀ y, rg n y → ∀ x ∈ B y, rg n x) : ¬ Hangs B i i := by
  have key : ∀ x y, Hangs B x y → x = i → Sn sn y = true ∧ rg n y := by
    intro x y hh
    induction hh with
    | one hz =>
      rintro rfl
      exact ⟨by simpa using h.base _ hz, hB _ hi _ hz⟩
    | more _ hy ih =>
      intro e
      obtain ⟨h1, h2⟩ := ih e
      exact ⟨by simpa using h.shut _ h2 h1 _ hy, hB _ h2 _ hy⟩
  intro hh
  have := (key i i hh rfl).1
  rw [h.noti] at this
  cases this
/-- What cycle answers: the first gate that comes round, or -1. -/
def CycOf (n : Nat) (B : Int → List Int) (r : Int) : Prop :=
  ∃ out, All n B out ∧ ((out.length = n ∧ r = -1) ∨ (out.length < n ∧ rg n r ∧ Hangs B r r ∧ ∀ j, rg n j → j < r → ¬ Hangs B j j))
end
section
variable {P : Program} {n : Nat} {all rest : List Oper} {K : Env → World → Prop} {e : Env} {w : World} {d : Option Tmp} {ty : TypeId} {x y : Operand} {t t0 : TypeId} {td : TypeDesc} {sz by_ : Nat} {zv v : Value} {ag : Bool}
theorem WC_scope {c : Code} {Q : Post} (h : WC P n c Q e w) (hQ : ∀ l e w, ¬ Q (.goto l) e w) : WC P n (.scope c) Q e w := fun a ha => wp_scope_straight (wp_mono (h a ha) fun s a w hs => by
  cases s with
  | goto l => obtain ⟨e, _, hq⟩ := hs; exact hQ l e w hq
  | normal => exact hs
  | exit i => exact hs
  | ret => exact hs
  | panic c => exact hs
  | outgrown => exact hs)
theorem retQ_goto {rs : List Nat} {R : Value → World → Prop} : ∀ l e w, ¬ retQ rs R (.goto l) e w := fun _ _ _ h => h
theorem does_append0 [U : Ty P t (.slice t0) 1 (.slice none 0 0) 24 false] [T : Ty P t0 td sz zv by_ ag] {base m : Nat} {xs : List Value} (h : ev e x = some v) (h1 : ev e y = some (.slice none 0 0)) (hown : w.ownsRow base t0 sz v m xs) :
    Does P (.call { callee := .builtin .append, args := #[x, y], argTypes := #[t, t] }) ty e w v w := by
  obtain ⟨i, hi, hzz⟩ := Option.map_eq_some_iff.1 T.info
  intro ρ dst pos af g hρ
  have hrun := run_append_owned_none (P := P) (w := w) base t ty t0 i sz U.und hi v m xs hown
  simp [execOp, resolve, hρ _ _ h, hρ _ _ h1, invoke, builtin, hrun]
/-- append of a row that is new memory itself, or nil. -/
theorem X_appendO {t0 : TypeId} (base base' : Nat) [U : Ty P t (.slice t0) 1 (.slice none 0 0) 24 false] [T : Ty P t0 td sz zv by_ ag] {m j : Nat} {xs news : List Value} {u : Value} (h : ev e x = some v) (h1 : ev e y = some u) (hown : w.ownsRow base t0 sz v m xs) (hu : w.ownsRow base' t0 sz u j news)
    (hzs : zv.cells.size = sz) (hsz : 0 < sz) (ho : ∀ u ∈ news, u.oneCell' = true) (hby : (m + j) * by_ ≤ 140737488355328) (hby1 : 1 ≤ by_) (hbase : base ≤ w.heap.size)
    (hr : ∀ v' w', w'.ownsRow base t0 sz v' (m + j) (xs ++ news) → Chg w w' (fun k => v.ownBlock = some k) → (v'.ownBlock = v.ownBlock ∨ v'.ownBlock = some w.heap.size) → WL P n all K rest (push d v' e) w') :
    WX P n all K rest d (.call { callee := .builtin .append, args := #[x, y], argTypes := #[t, t] }) ty e w := by
  rcases hu.2 with ⟨rfl, hj⟩ | ⟨g, cap, cur, rfl, _, hg, _⟩
  · have hnn : news = [] := List.length_eq_zero_iff.1 (by rw [hu.1, hj]; omega)
    subst hj
    subst hnn
    exact X_does (does_append0 h h1 hown) (hr v w (by simpa using hown) (Chg.refl _ _) (.inl rfl))
  · refine X_appendC base h h1 hown (fun i u hi => ?_) hu.1 hzs hsz ho hby hby1 hbase fun v' w' a b c _ => hr v' w' a b c
    have := hu.cells (g := g) rfl i u hi
    rwa [add_at, Nat.zero_add] at this
end
end SC
end Go.Proofs.Ytkndegjodnciaaa
