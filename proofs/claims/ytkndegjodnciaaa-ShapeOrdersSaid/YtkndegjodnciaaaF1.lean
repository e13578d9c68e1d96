/- shape: the plain law of order: gates told, the least first that can be. -/
import Derived.Test.YtkndegjodnciaaaD11
set_option linter.unusedVariables false
set_option linter.unusedSimpArgs false
namespace Go.Proofs.Ytkndegjodnciaaa
namespace SC
open Go.Proofs
section
variable {n : Nat} {B : Int → List Int}
def rg (n : Nat) (x : Int) : Prop := 0 ≤ x ∧ x < n
/-- A gate that can be told behind those of out. -/
structure CanTell (n : Nat) (B : Int → List Int) (out : List Int) (x : Int) : Prop where
  rg : rg n x
  new : x ∉ out
  low : ∀ z ∈ B x, z ∈ out
inductive Told (n : Nat) (B : Int → List Int) : List Int → Prop
  | nil : Told n B []
  | snoc {out : List Int} {x : Int} : Told n B out → CanTell n B out x → (∀ y, CanTell n B out y → x ≤ y) → Told n B (out ++ [x])
theorem Told.split {l : List Int} (h : Told n B l) : ∀ {a r : List Int} {z : Int}, l = a ++ z :: r → CanTell n B a z ∧ ∀ y, CanTell n B a y → z ≤ y := by
  induction h with
  | nil => intro a r z e; simp at e
  | @snoc out x _ h1 h2 ih =>
    intro a r z e
    rcases List.eq_nil_or_concat r with rfl | ⟨r', u, rfl⟩
    · have := List.append_inj' e rfl
      obtain ⟨rfl, e2⟩ := this
      simp at e2
      subst e2
      exact ⟨h1, h2⟩
    · have e' : out ++ [x] = (a ++ z :: r') ++ [u] := by rw [e]; simp
      obtain ⟨e1, _⟩ := List.append_inj' e' rfl
      exact ih e1
theorem Told.nodup {l : List Int} (h : Told n B l) : l.Nodup := by
  induction h with
  | nil => exact List.nodup_nil
  | @snoc out x _ h1 _ ih =>
    rw [List.nodup_append]
    exact ⟨ih, by simp, fun a ha b hb => by simp at hb; subst hb; exact fun e => h1.new (e ▸ ha)⟩
theorem Told.all {l : List Int} (h : Told n B l) : ∀ y ∈ l, rg n y := by
  induction h with
  | nil => intro y hy; cases hy
  | @snoc out x _ h1 _ ih =>
    intro y hy
    rcases List.mem_append.1 hy with hy | hy
    · exact ih y hy
    · simp at hy; subst hy; exact h1.rg
theorem Told.shut {l : List Int} (h : Told n B l) : ∀ y ∈ l, ∀ z ∈ B y, z ∈ l := by
  induction h with
  | nil => intro y hy; cases hy
  | @snoc out x _ h1 _ ih =>
    intro y hy z hz
    rcases List.mem_append.1 hy with hy | hy
    · exact List.mem_append_left _ (ih y hy z hz)
    · simp at hy; subst hy; exact List.mem_append_left _ (h1.low z hz)
theorem Told.either {a b : List Int} (ha : Told n B a) (hb : Told n B b) : a <+: b ∨ b <+: a := by
  induction ha with
  | nil => exact .inl (List.nil_prefix)
  | @snoc out x h0 h1 h2 ih =>
    rcases ih with ⟨r, rfl⟩ | h
    · cases r with
      | nil => right; simp
      | cons z r =>
        obtain ⟨g1, g2⟩ := hb.split rfl
        have : x = z := Int.le_antisymm (h2 z g1) (g2 x h1)
        subst this
        left
        exact ⟨r, by simp⟩
    · exact .inr (h.trans ⟨[x], rfl⟩)
/-- All gates that can be told. -/
structure All (n : Nat) (B : Int → List Int) (out : List Int) : Prop where
  told : Told n B out
  stuck : ∀ x, ¬ CanTell n B out x
theorem All.only {a b : List Int} (ha : All n B a) (hb : All n B b) : a = b := by
  have key : ∀ {a b : List Int}, All n B a → All n B b → a <+: b → a = b := by
    rintro a b ha hb ⟨r, rfl⟩
    cases r with
    | nil => simp
    | cons z r => exact absurd (hb.told.split rfl).1 (ha.stuck z)
  rcases ha.told.either hb.told with h | h
  · exact key ha hb h
  · exact (key hb ha h).symm
theorem nodup_size : ∀ (n : Nat) (l : List Int), l.Nodup → (∀ y ∈ l, rg n y) → l.length ≤ n
  | 0, l, _, h => by
    cases l with
    | nil => exact Nat.le_refl _
    | cons y r => have := h y (by simp); unfold rg at this; omega
  | n + 1, l, hn, h => by
    by_cases hm : (n : Int) ∈ l
    · have h1 := nodup_size n (l.erase n) (hn.erase _) fun y hy => by
        obtain ⟨g1, g2⟩ := (hn.mem_erase_iff).1 hy
        have := h y g2
        unfold rg at *
        omega
      rw [List.length_erase_of_mem hm] at h1
      omega
    · have h1 := nodup_size n l hn fun y hy => by
        have := h y hy
        have hne : y ≠ n := fun e => hm (e ▸ hy)
        unfold rg at *
        omega
      omega
theorem Told.size {l : List Int} (h : Told n B l) : l.length ≤ n := nodup_size n l h.nodup h.all

/-! ### lists that are turned at a place -/
def L (ls : List Int) (y : Int) : Int := ls.getD y.toNat 0
def A (av : List (List Int)) (x : Int) : List Int := av.getD x.toNat []
theorem L_set {ls : List Int} {i : Int} (v : Int) (h : rg ls.length i) {y : Int} (hy : 0 ≤ y) : L (ls.set i.toNat v) y = if y = i then v else L ls y := by
  unfold L rg at *
  simp only [List.getD_eq_getElem?_getD, List.getElem?_set]
  by_cases hc : y = i
  · subst hc
    rw [if_pos rfl, if_pos (by omega), if_pos rfl]
    rfl
  · rw [if_neg (by omega), if_neg hc]
theorem A_set {av : List (List Int)} {i : Int} (v : List Int) (h : rg av.length i) {y : Int} (hy : 0 ≤ y) : A (av.set i.toNat v) y = if y = i then v else A av y := by
  unfold A rg at *
  simp only [List.getD_eq_getElem?_getD, List.getElem?_set]
  by_cases hc : y = i
  · subst hc
    rw [if_pos rfl, if_pos (by omega), if_pos rfl]
    rfl
  · rw [if_neg (by omega), if_neg hc]

/-! ### a list that goes down -/
def Desc (q : List Int) : Prop := q.Pairwise (· > ·)
theorem pushM_cons (y x : Int) (r : List Int) : pushM (y :: r) x = if x < y then y :: pushM r x else x :: y :: r := by
  unfold pushM
  by_cases h : x < y
  · simp [h]
  · simp [h]
theorem pushM_mem : ∀ (q : List Int) (x y : Int), y ∈ pushM q x ↔ y ∈ q ∨ y = x
  | [], x, y => by simp [pushM]
  | a :: r, x, y => by
    rw [pushM_cons]
    split
    · simp only [List.mem_cons, pushM_mem r x y, or_assoc]
    · simp only [List.mem_cons]; rw [or_comm]
theorem pushM_len : ∀ (q : List Int) (x : Int), (pushM q x).length = q.length + 1
  | [], x => by simp [pushM]
  | a :: r, x => by
    rw [pushM_cons]
    split
    · simp [pushM_len r x]
    · simp
theorem pushM_desc : ∀ (q : List Int) (x : Int), Desc q → x ∉ q → Desc (pushM q x)
  | [], x, _, _ => by simp [pushM, Desc]
  | a :: r, x, h, hn => by
    unfold Desc at *
    rw [pushM_cons]
    rw [List.pairwise_cons] at h
    simp only [List.mem_cons, not_or] at hn
    split
    · rename_i hlt
      rw [List.pairwise_cons]
      refine ⟨fun b hb => ?_, pushM_desc r x h.2 hn.2⟩
      rcases (pushM_mem r x b).1 hb with hb | rfl
      · exact h.1 b hb
      · exact hlt
    · rename_i hle
      have hgt : x > a := by omega
      rw [List.pairwise_cons, List.pairwise_cons]
      refine ⟨fun b hb => ?_, h⟩
      rcases List.mem_cons.1 hb with rfl | hb
      · exact hgt
      · have := h.1 b hb; omega
theorem Desc.le {q : List Int} (h : Desc q) : ∀ (i j : Nat) (hi : i < q.length) (hj : j < q.length), i ≤ j → q[j] ≤ q[i] := by
  intro i j hi hj hij
  rcases Nat.lt_or_ge i j with hlt | hge
  · have := List.pairwise_iff_getElem.1 h i j hi hj hlt
    omega
  · obtain rfl : i = j := by omega
    exact Int.le_refl _
theorem Desc.last {q : List Int} {x : Int} (h : Desc (q ++ [x])) : Desc q ∧ ∀ y ∈ q, x < y := by
  unfold Desc at *
  rw [List.pairwise_append] at h
  exact ⟨h.1, fun y hy => h.2.2 y hy x (by simp)⟩
theorem Desc.nodup {q : List Int} (h : Desc q) : q.Nodup := List.Pairwise.imp (fun h => by omega) h

/-! ### how many are not out -/
def lackN (out : List Int) (l : List Int) : Nat := l.countP fun z => decide (z ∉ out)
theorem lackN_snoc {out : List Int} {x : Int} (h : x ∉ out) : ∀ l : List Int, lackN out l = lackN (out ++ [x]) l + l.count x
  | [] => rfl
  | z :: r => by
    have ih := lackN_snoc h r
    unfold lackN at *
    simp only [List.countP_cons, List.count_cons]
    rw [ih]
    by_cases hz : z = x
    · subst hz
      simp [h]
      omega
    · by_cases ho : z ∈ out
      · simp [ho, hz]
      · simp [ho, hz]
        omega
theorem lackN_zero {out l : List Int} : lackN out l = 0 ↔ ∀ z ∈ l, z ∈ out := by
  unfold lackN
  rw [List.countP_eq_zero]
  simp
theorem lackN_nil (l : List Int) : lackN [] l = l.length := by
  unfold lackN
  rw [List.countP_eq_length]
  simp

/-! ### the first loop: what lacks, and who hangs on whom -/
structure In1 (n : Nat) (B : Int → List Int) (i k : Nat) (ls : List Int) (av : List (List Int)) : Prop where
  l1 : ls.length = n
  l2 : av.length = n
  low : ∀ y, rg n y → L ls y = if y < i then ((B y).length : Int) else if y = i then (k : Int) else 0
  up : ∀ x, rg n x → ∀ y, (A av x).count y = if 0 ≤ y ∧ y < i then (B y).count x else if y = i then ((B y).take k).count x else 0
  big : ∀ x, rg n x → (A av x).length ≤ 2 * i + k
theorem In1.init (n : Nat) (B : Int → List Int) : In1 n B 0 0 (List.replicate n 0) (List.replicate n []) := by
  have e : ∀ x, A (List.replicate n []) x = [] := fun x => by
    unfold A
    simp only [List.getD_eq_getElem?_getD, List.getElem?_replicate]
    split <;> rfl
  refine ⟨by simp, by simp, fun y hy => ?_, fun x hx y => ?_, fun x hx => by rw [e]; simp⟩
  · unfold L
    simp only [List.getD_eq_getElem?_getD, List.getElem?_replicate]
    unfold rg at hy
    split <;> split <;> first | rfl | omega | (split <;> rfl)
  · rw [e]
    have h0 : ¬ (0 ≤ y ∧ y < ((0 : Nat) : Int)) := by omega
    rw [if_neg h0]
    split <;> simp
theorem In1.step {i k : Nat} {ls : List Int} {av : List (List Int)} (h : In1 n B i k ls av) (hi : i < n) (hk : k < (B i).length) (hB : ∀ x ∈ B i, rg n x) :
    In1 n B i (k + 1) (ls.set i (L ls i + 1)) (av.set ((B i)[k]).toNat (A av (B i)[k] ++ [(i : Int)])) := by
  have hr := hB _ (List.getElem_mem hk)
  have hri : rg n i := ⟨by omega, by omega⟩
  have eset : ls.set i (L ls i + 1) = ls.set (i : Int).toNat (L ls i + 1) := by simp
  refine ⟨by simp [h.l1], by simp [h.l2], fun y hy => ?_, fun x hx y => ?_, fun x hx => ?_⟩
  · rw [eset, L_set _ (by rw [h.l1]; exact hri) hy.1]
    have := h.low y hy
    by_cases hc : y = i
    · subst hc
      rw [if_neg (by omega), if_pos rfl] at this
      rw [if_pos rfl, if_neg (by omega), if_pos rfl, this]
      omega
    · rw [if_neg hc, this, if_neg hc, if_neg hc]
  · rw [A_set _ (by rw [h.l2]; exact hr) hx.1]
    have hu := h.up x hx y
    by_cases hx' : x = (B i)[k]
    · rw [if_pos hx', List.count_append, ← hx', hu, List.count_singleton]
      by_cases hy : y = i
      · subst hy
        rw [List.take_succ_eq_append_getElem hk, List.count_append, List.count_singleton, ← hx']
        simp
      · have e : ¬ (((i : Int) == y) = true) := by simp; exact fun e => hy e.symm
        rw [if_neg hy, if_neg hy, if_neg e]
        rfl
    · rw [if_neg hx', hu]
      by_cases hy : y = i
      · subst hy
        have e : ¬ (((B i)[k] == x) = true) := by simp; exact fun e => hx' e.symm
        rw [List.take_succ_eq_append_getElem hk, List.count_append, List.count_singleton, if_neg e]
        simp
      · rw [if_neg hy, if_neg hy]
  · rw [A_set _ (by rw [h.l2]; exact hr) hx.1]
    have := h.big x hx
    split
    · rename_i hc
      subst hc
      simp only [List.length_append, List.length_singleton]
      omega
    · omega
theorem In1.close {i : Nat} {ls : List Int} {av : List (List Int)} (h : In1 n B i (B i).length ls av) (hi : i < n) (h2 : (B i).length ≤ 2) : In1 n B (i + 1) 0 ls av := by
  refine ⟨h.l1, h.l2, fun y hy => ?_, fun x hx y => ?_, fun x hx => by have := h.big x hx; omega⟩
  · rw [h.low y hy]
    by_cases h0 : y < i
    · rw [if_pos h0, if_pos (by omega)]
    · rw [if_neg h0]
      by_cases h1 : y = i
      · subst h1; rw [if_pos rfl, if_pos (by omega)]
      · rw [if_neg h1, if_neg (by omega)]
        split <;> rfl
  · rw [h.up x hx y]
    by_cases h0 : 0 ≤ y ∧ y < i
    · rw [if_pos h0, if_pos (by omega)]
    · rw [if_neg h0]
      by_cases h1 : y = i
      · subst h1; rw [if_pos rfl, if_pos (by omega), List.take_length]
      · rw [if_neg h1, if_neg (by omega)]
        split <;> simp
/-- What the first loop leaves. -/
structure Laid (n : Nat) (B : Int → List Int) (ls : List Int) (av : List (List Int)) : Prop where
  l1 : ls.length = n
  l2 : av.length = n
  up : ∀ x, rg n x → ∀ y, rg n y → (A av x).count y = (B y).count x
  inr : ∀ x, rg n x → ∀ y ∈ A av x, rg n y
  big : ∀ x, rg n x → (A av x).length ≤ 2 * n
theorem In1.laid {ls : List Int} {av : List (List Int)} (h : In1 n B n 0 ls av) : Laid n B ls av ∧ ∀ y, rg n y → L ls y = (B y).length := by
  refine ⟨⟨h.l1, h.l2, fun x hx y hy => ?_, fun x hx y hy => ?_, fun x hx => by have := h.big x hx; omega⟩, fun y hy => ?_⟩
  · rw [h.up x hx y, if_pos ⟨hy.1, hy.2⟩]
  · have h1 := h.up x hx y
    have h2 : 0 < (A av x).count y := List.count_pos_iff.2 hy
    rw [h1] at h2
    split at h2
    · assumption
    · split at h2 <;> simp at h2
  · rw [h.low y hy, if_pos hy.2]

/-! ### the second loop: who is ready -/
structure In2 (n : Nat) (ls : List Int) (i : Nat) (q : List Int) : Prop where
  desc : Desc q
  mem : ∀ y, y ∈ q ↔ rg n y ∧ y < i ∧ L ls y = 0
theorem In2.init (n : Nat) (ls : List Int) : In2 n ls 0 [] := ⟨by unfold Desc; exact List.Pairwise.nil, fun y => by unfold rg; simp; omega⟩
theorem In2.push {ls : List Int} {i : Nat} {q : List Int} (h : In2 n ls i q) (hi : i < n) (h0 : L ls i = 0) : In2 n ls (i + 1) (pushM q i) := by
  refine ⟨pushM_desc _ _ h.desc fun hh => ?_, fun y => ?_⟩
  · have := (h.mem _).1 hh; omega
  · rw [pushM_mem, h.mem]
    constructor
    · rintro (⟨h1, h2, h3⟩ | rfl)
      · exact ⟨h1, by omega, h3⟩
      · exact ⟨⟨by omega, by omega⟩, by omega, h0⟩
    · rintro ⟨h1, h2, h3⟩
      by_cases hc : y = i
      · exact .inr hc
      · exact .inl ⟨h1, by omega, h3⟩
theorem In2.skip {ls : List Int} {i : Nat} {q : List Int} (h : In2 n ls i q) (h0 : ¬ L ls i = 0) : In2 n ls (i + 1) q := by
  refine ⟨h.desc, fun y => ?_⟩
  rw [h.mem]
  constructor
  · rintro ⟨h1, h2, h3⟩
    exact ⟨h1, by omega, h3⟩
  · rintro ⟨h1, h2, h3⟩
    refine ⟨h1, ?_, h3⟩
    by_cases hc : y = i
    · subst hc; exact absurd h3 h0
    · omega

/-! ### the third loop -/
structure In3 (n : Nat) (B : Int → List Int) (out q ls : List Int) : Prop where
  told : Told n B out
  len : ls.length = n
  low : ∀ y, rg n y → L ls y = lackN out (B y)
  desc : Desc q
  mem : ∀ y, y ∈ q ↔ rg n y ∧ y ∉ out ∧ L ls y = 0
theorem In2.third {ls : List Int} {av : List (List Int)} {q : List Int} (h : In2 n ls n q) (h1 : Laid n B ls av) (h2 : ∀ y, rg n y → L ls y = (B y).length) : In3 n B [] q ls := by
  refine ⟨.nil, h1.l1, fun y hy => by rw [h2 y hy, lackN_nil], h.desc, fun y => ?_⟩
  rw [h.mem]
  unfold rg
  simp
  omega
theorem In3.can {out q ls : List Int} (h : In3 n B out q ls) (y : Int) : y ∈ q ↔ CanTell n B out y := by
  rw [h.mem]
  constructor
  · rintro ⟨h1, h2, h3⟩
    rw [h.low y h1] at h3
    exact ⟨h1, h2, lackN_zero.1 (by omega)⟩
  · rintro ⟨h1, h2, h3⟩
    refine ⟨h1, h2, ?_⟩
    rw [h.low y h1, lackN_zero.2 h3]
    rfl
theorem In3.all {out ls : List Int} (h : In3 n B out [] ls) : All n B out := ⟨h.told, fun x hx => by have := (h.can x).2 hx; cases this⟩
theorem In3.tell {out q ls : List Int} {x : Int} (h : In3 n B out (q ++ [x]) ls) : Told n B (out ++ [x]) := by
  refine .snoc h.told ((h.can x).1 (by simp)) fun y hy => ?_
  rcases List.mem_append.1 ((h.can y).2 hy) with hm | hm
  · have := h.desc.last.2 y hm; omega
  · simp at hm; omega
structure InR (n : Nat) (B : Int → List Int) (av : List (List Int)) (out : List Int) (x : Int) (j : Nat) (q ls : List Int) : Prop where
  told : Told n B (out ++ [x])
  len : ls.length = n
  low : ∀ y, rg n y → L ls y = lackN (out ++ [x]) (B y) + ((B y).count x : Int) - (((A av x).take j).count y : Int)
  desc : Desc q
  mem : ∀ y, y ∈ q ↔ rg n y ∧ y ∉ out ++ [x] ∧ L ls y = 0
theorem In3.relax {av : List (List Int)} {out q ls : List Int} {x : Int} (h : In3 n B out (q ++ [x]) ls) : InR n B av out x 0 q ls := by
  have hx := (h.can x).1 (by simp)
  refine ⟨h.tell, h.len, fun y hy => ?_, h.desc.last.1, fun y => ?_⟩
  · rw [h.low y hy, lackN_snoc hx.new]
    simp
  · have h1 := h.mem y
    have h2 := h.desc.last.2 y
    constructor
    · intro hy
      obtain ⟨g1, g2, g3⟩ := h1.1 (List.mem_append_left _ hy)
      refine ⟨g1, fun hh => ?_, g3⟩
      rcases List.mem_append.1 hh with hh | hh
      · exact g2 hh
      · simp at hh; have := h2 hy; omega
    · rintro ⟨g1, g2, g3⟩
      have := h1.2 ⟨g1, fun hh => g2 (List.mem_append_left _ hh), g3⟩
      rcases List.mem_append.1 this with hh | hh
      · exact hh
      · exact absurd (List.mem_append_right _ hh) g2
theorem InR.close {av : List (List Int)} {out q ls : List Int} {x : Int} (h : InR n B av out x (A av x).length q ls) (hl : ∀ y, rg n y → (A av x).count y = (B y).count x) : In3 n B (out ++ [x]) q ls := by
  refine ⟨h.told, h.len, fun y hy => ?_, h.desc, h.mem⟩
  rw [h.low y hy, List.take_length, hl y hy]
  omega
theorem InR.step {av : List (List Int)} {out q ls : List Int} {x : Int} {j : Nat} (h : InR n B av out x j q ls) (hj : j < (A av x).length) (hl : ∀ y, rg n y → (A av x).count y = (B y).count x) (hi : ∀ y ∈ A av x, rg n y) :
    1 ≤ L ls (A av x)[j] ∧ L ls (A av x)[j] ≤ lackN (out ++ [x]) (B (A av x)[j]) + (B (A av x)[j]).count x ∧ (A av x)[j] ∉ q ∧
      InR n B av out x (j + 1) (if L ls (A av x)[j] - 1 = 0 then pushM q (A av x)[j] else q) (ls.set ((A av x)[j]).toNat (L ls (A av x)[j] - 1)) := by
  have hr := hi _ (List.getElem_mem hj)
  have hlow := h.low _ hr
  have hc : ((A av x).take (j + 1)).count (A av x)[j] = ((A av x).take j).count (A av x)[j] + 1 := by
    rw [List.take_succ_eq_append_getElem hj, List.count_append]
    simp
  have hle : ((A av x).take (j + 1)).count (A av x)[j] ≤ (B (A av x)[j]).count x := by
    rw [← hl _ hr]
    exact (List.take_sublist _ _).count_le _
  have h1 : 1 ≤ L ls (A av x)[j] := by omega
  have hnq : (A av x)[j] ∉ q := fun hh => by have := (h.mem _).1 hh; omega
  have hxB : x ∈ B (A av x)[j] := List.count_pos_iff.1 (by omega)
  have hnew : (A av x)[j] ∉ out ++ [x] := by
    intro hh
    obtain ⟨hx1, _⟩ := h.told.split (a := out) (r := []) rfl
    rcases List.mem_append.1 hh with hh | hh
    · have ht : Told n B out := by
        have := h.told
        generalize hg : out ++ [x] = l at this
        cases this with
        | nil => simp at hg
        | snoc t _ _ => obtain ⟨rfl, _⟩ := List.append_inj' hg rfl; exact t
      exact hx1.new (ht.shut _ hh x hxB)
    · simp at hh
      rw [hh] at hxB
      exact hx1.new (hx1.low x hxB)
  refine ⟨h1, by omega, hnq, h.told, by simp [h.len], fun y hy => ?_, ?_, fun y => ?_⟩
  · rw [L_set _ (by rw [h.len]; exact hr) hy.1]
    have hly := h.low y hy
    split
    · rename_i hc'
      subst hc'
      rw [hc]
      omega
    · rename_i hc'
      rw [List.take_succ_eq_append_getElem hj, List.count_append, List.count_singleton, if_neg (by simpa using fun e => hc' e.symm), hly]
      simp
  · split
    · exact pushM_desc _ _ h.desc hnq
    · exact h.desc
  · have hm := h.mem y
    have hset : 0 ≤ y → L (ls.set ((A av x)[j]).toNat (L ls (A av x)[j] - 1)) y = _ := fun hy => L_set _ (by rw [h.len]; exact hr) hy
    by_cases hy0 : 0 ≤ y
    · rw [hset hy0]
      by_cases hc' : y = (A av x)[j]
      · rw [if_pos hc']
        constructor
        · intro hy
          split at hy
          · exact ⟨by rw [hc']; exact hr, by rw [hc']; exact hnew, by assumption⟩
          · exact absurd (hc' ▸ hy) hnq
        · rintro ⟨_, _, g3⟩
          rw [if_pos g3, pushM_mem]
          exact .inr hc'
      · rw [if_neg hc', ← hm]
        split
        · rw [pushM_mem]
          simp [hc']
        · exact Iff.rfl
    · constructor
      · intro hy
        split at hy
        · rw [pushM_mem] at hy
          rcases hy with hy | hy
          · exact absurd (hm.1 hy).1.1 hy0
          · exact absurd (hy ▸ hr.1) hy0
        · exact absurd (hm.1 hy).1.1 hy0
      · rintro ⟨g1, _, _⟩
        exact absurd g1.1 hy0
end
end SC
end Go.Proofs.Ytkndegjodnciaaa
