/- The calculus, second part: operations; plain regions; regions that draw their order, by a plan. -/
import Derived.Test.YtkndegjodnciaaaA1
set_option linter.unusedVariables false
namespace Go.Proofs.Ytkndegjodnciaaa
namespace SC

/-! ### one operation -/
/-- Where the environment says what the operands are, the operation leaves v and the world w'. -/
def Does (P : Program) (op : Op) (ty : TypeId) (e : Env) (w : World) (v : Value) (w' : World) : Prop :=
  ∀ (ρ : Operand → Value) (dst : Option Tmp) (pos : String) (af : Array Edge) (g : Option (Nat × Bool)), (∀ x u, ev e x = some u → ρ x = u) → (execOp ρ ⟨dst, op, ty, pos, af, g⟩).run P w = .ok (.value v) w'
/-- The same for one that leaves nothing. -/
def DoesU (P : Program) (op : Op) (ty : TypeId) (e : Env) (w : World) (w' : World) : Prop :=
  ∀ (ρ : Operand → Value) (dst : Option Tmp) (pos : String) (af : Array Edge) (g : Option (Nat × Bool)), (∀ x u, ev e x = some u → ρ x = u) → (execOp ρ ⟨dst, op, ty, pos, af, g⟩).run P w = .ok .skip w'
/-- A call of a Go function. -/
def Enters (P : Program) (op : Op) (ty : TypeId) (e : Env) (f : FuncId) (args : List Value) : Prop :=
  ∀ (ρ : Operand → Value) (dst : Option Tmp) (pos : String) (af : Array Edge) (g : Option (Nat × Bool)) (w : World), (∀ x u, ev e x = some u → ρ x = u) → (execOp ρ ⟨dst, op, ty, pos, af, g⟩).run P w = .ok (.enter f args.toArray) w
def nth : List Oper → Nat → Option Oper
  | [], _ => none
  | o :: _, 0 => some o
  | _ :: r, k + 1 => nth r k
theorem nth_eq : ∀ (l : List Oper) (k : Nat), nth l k = l[k]?
  | [], _ => by simp [nth]
  | _ :: _, 0 => by simp [nth]
  | _ :: r, k + 1 => by simp [nth, nth_eq r k]
/-- The slot in which operation j leaves its value. -/
def gslot (l : List Oper) (j : Nat) : Option Nat := (nth l j).bind (·.dst)
/-- Is the operation carried out? -/
def Wants (l : List Oper) (e : Env) (g : Option (Nat × Bool)) (yes : Bool) : Prop :=
  match g with
  | none => yes = true
  | some (j, b) => ∃ d c, gslot l j = some d ∧ look e d = some (.bool c) ∧ yes = (c == b)
theorem Wants.wanted {l : List Oper} {e : Env} {n : Nat} {a : Act} (ha : Agree n e a) {o : Oper} {yes : Bool} (h : Wants l e o.guard yes) : Region.wanted o (yielded l.toArray a.tmps) = yes := by
  unfold Wants at h
  unfold Region.wanted
  cases hg : o.guard with
  | none => rw [hg] at h; simp [h]
  | some p =>
    obtain ⟨j, b⟩ := p
    rw [hg] at h
    obtain ⟨d, c, h1, h2, h3⟩ := h
    have ht := ha.tmps d _ h2
    have hy : yielded l.toArray a.tmps j = some c := by
      unfold yielded
      unfold gslot at h1
      rw [nth_eq] at h1
      have : ((l.toArray[j]?).bind (·.dst)) = some d := by simpa using h1
      rw [this]
      simp [ht]
    simp only [hy]
    rw [h3]
    cases c <;> cases b <;> rfl

/-! ### plain regions -/
def WL (P : Program) (n : Nat) (all : List Oper) (K : Env → World → Prop) (ops : List Oper) (e : Env) (w : World) : Prop :=
  ∀ a (Q : Exit → Act → World → Prop), Agree n e a → (∀ a' w' e', Agree n e' a' → K e' w' → Q .normal a' w') → wpList P all.toArray Q ops a w
section plain
variable {P : Program} {n : Nat} {all rest : List Oper} {K : Env → World → Prop} {e : Env} {w : World}
theorem WL_nil (h : K e w) : WL P n all K [] e w := fun a Q ha hQ => hQ a w e ha h
theorem WL_does {d : Option Tmp} {op : Op} {ty : TypeId} {pos : String} {af : Array Edge} {g : Option (Nat × Bool)} {v : Value} {w' : World}
    (hg : Wants all e g true) (hd : slotOk n d = true) (h : Does P op ty e w v w') (hr : WL P n all K rest (push d v e) w') : WL P n all K (⟨d, op, ty, pos, af, g⟩ :: rest) e w := by
  intro a Q ha hQ
  have hw : Region.wanted ⟨d, op, ty, pos, af, g⟩ (yielded all.toArray a.tmps) = true := Wants.wanted ha (o := ⟨d, op, ty, pos, af, g⟩) hg
  unfold wpList
  rw [if_pos hw]
  refine .inl ?_
  unfold Oper.wp
  rw [h a.eval d pos af g (fun x u hx => ha.eval hx)]
  exact hr _ Q (ha.put d v hd) hQ
theorem WL_off {d : Option Tmp} {op : Op} {ty : TypeId} {pos : String} {af : Array Edge} {g : Option (Nat × Bool)}
    (hg : Wants all e g false) (hd : slotOk n d = true) (hr : WL P n all K rest (push d undef e) w) : WL P n all K (⟨d, op, ty, pos, af, g⟩ :: rest) e w := by
  intro a Q ha hQ
  have hw : Region.wanted ⟨d, op, ty, pos, af, g⟩ (yielded all.toArray a.tmps) = false := Wants.wanted ha (o := ⟨d, op, ty, pos, af, g⟩) hg
  unfold wpList
  rw [if_neg (by rw [hw]; decide)]
  exact hr _ Q (ha.put d undef hd) hQ
theorem WL_doesU {d : Option Tmp} {op : Op} {ty : TypeId} {pos : String} {af : Array Edge} {g : Option (Nat × Bool)} {w' : World}
    (hg : Wants all e g true) (hd : slotOk n d = true) (h : DoesU P op ty e w w') (hr : WL P n all K rest (push d undef e) w') : WL P n all K (⟨d, op, ty, pos, af, g⟩ :: rest) e w := by
  intro a Q ha hQ
  have hw : Region.wanted ⟨d, op, ty, pos, af, g⟩ (yielded all.toArray a.tmps) = true := Wants.wanted ha (o := ⟨d, op, ty, pos, af, g⟩) hg
  unfold wpList
  rw [if_pos hw]
  refine .inl ?_
  unfold Oper.wp
  rw [h a.eval d pos af g (fun x u hx => ha.eval hx)]
  exact hr _ Q (ha.put d undef hd) hQ
theorem WL_call {d : Option Tmp} {op : Op} {ty : TypeId} {pos : String} {af : Array Edge} {g : Option (Nat × Bool)} {f : FuncId} {args : List Value} {R : Value → World → Prop}
    (hg : Wants all e g true) (hd : slotOk n d = true) (h : Enters P op ty e f args) (hc : CV P f args w R) (hr : ∀ v w', R v w' → WL P n all K rest (push d v e) w') : WL P n all K (⟨d, op, ty, pos, af, g⟩ :: rest) e w := by
  intro a Q ha hQ
  have hw : Region.wanted ⟨d, op, ty, pos, af, g⟩ (yielded all.toArray a.tmps) = true := Wants.wanted ha (o := ⟨d, op, ty, pos, af, g⟩) hg
  unfold wpList
  rw [if_pos hw]
  refine .inl ?_
  unfold Oper.wp
  rw [h a.eval d pos af g w (fun x u hx => ha.eval hx)]
  refine Calls.mono hc fun x w' hx => ?_
  cases x with
  | returned v => exact hr v w' hx _ Q (ha.put d v hd) hQ
  | panicked c => exact hx.elim
  | outgrown => exact hx.elim
theorem WC_region {id : Nat} {l : List Oper} {Q : Post} (h : WL P n l (fun e w => Q .normal e w) l e w) : WC P n (.region id l.toArray false) Q e w :=
  fun a ha => wp_region_lit (h a _ ha fun a' w' e' ha' hK => ⟨e', ha', hK⟩)
end plain

/-! ### regions that draw their order: 'S' holds behind each operation but one that waits for all others -/
def waits (md : Region.Mode) (ops : Array Oper) : Nat → Nat → Nat → Bool
  | 0, _, _ => false
  | f + 1, i, k => match ops[i]? with
    | some o => o.after.any fun e => Region.binds md e && (e.on == k || waits md ops f e.on k)
    | none => false
def loose (md : Region.Mode) (ops : Array Oper) (i : Nat) : Bool := (List.range ops.size).all fun k => k == i || waits md ops 3 i k || waits md ops 3 k i
/-- Whoever is listed has all listed for which it waited. -/
def Shut (md : Region.Mode) (ops : Array Oper) (listed : Array Bool) : Prop := ∀ (j : Nat) (oj : Oper), ops[j]? = some oj → listed.getD j false = true → ∀ e ∈ oj.after, Region.binds md e = true → listed.getD e.on false = true
theorem Shut.set {md : Region.Mode} {ops : Array Oper} {listed : Array Bool} (h : Shut md ops listed) {j : Nat} (hj : j ∈ Region.ready md ops listed) : Shut md ops (listed.setIfInBounds j true) := by
  intro k ok hk hl e he hb
  obtain ⟨_, oj, hoj, hall⟩ := mem_ready.1 hj
  by_cases hjk : j = k
  · subst hjk
    rw [hoj] at hk
    cases hk
    exact getD_set_true (hall e he hb)
  · rw [getD_set_ne false hjk] at hl
    exact getD_set_true (h k ok hk hl e he hb)
theorem Shut.init (md : Region.Mode) (ops : Array Oper) (n : Nat) : Shut md ops (Array.replicate n false) := by
  intro j oj hj hl
  rw [Array.getD_eq_getD_getElem?, Array.getElem?_replicate] at hl
  split at hl <;> simp at hl
theorem waits_listed {md : Region.Mode} {ops : Array Oper} {listed : Array Bool} (hs : Shut md ops listed) : ∀ (f i k : Nat), listed.getD i false = true → waits md ops f i k = true → listed.getD k false = true
  | 0, _, _, _, h => by simp [waits] at h
  | f + 1, i, k, hi, h => by
    unfold waits at h
    cases ho : ops[i]? with
    | none => rw [ho] at h; cases h
    | some o =>
      rw [ho] at h
      obtain ⟨e, he, hb⟩ := Array.any_eq_true'.1 h
      simp only [Bool.and_eq_true, Bool.or_eq_true, beq_iff_eq] at hb
      have h1 := hs i o ho hi e he hb.1
      rcases hb.2 with h2 | h2
      · rw [← h2]; exact h1
      · exact waits_listed hs f e.on k h1 h2
theorem waits_ready {md : Region.Mode} {ops : Array Oper} {listed : Array Bool} (hs : Shut md ops listed) {f i k : Nat} (hi : i ∈ Region.ready md ops listed) (h : waits md ops f i k = true) : listed.getD k false = true := by
  cases f with
  | zero => simp [waits] at h
  | succ f =>
    unfold waits at h
    obtain ⟨_, o, ho, hall⟩ := mem_ready.1 hi
    rw [ho] at h
    obtain ⟨e, he, hb⟩ := Array.any_eq_true'.1 h
    simp only [Bool.and_eq_true, Bool.or_eq_true, beq_iff_eq] at hb
    have h1 := hall e he hb.1
    rcases hb.2 with h2 | h2
    · rw [← h2]; exact h1
    · exact waits_listed hs f e.on k h1 h2
def wpAnyS (P : Program) (md : Region.Mode) (ops : Array Oper) (Q : Exit → Act → World → Prop) : (World → Prop) → Nat → Array Bool → Act → World → Prop
  | _, 0, listed, a, w => Region.ready md ops listed = [] ∧ Q .normal a w
  | S, fuel + 1, listed, a, w =>
    (Region.ready md ops listed = [] → Q .normal a w) ∧
    ∀ i ∈ Region.ready md ops listed, wpOp P ops Q i (fun a' w' => (loose md ops i = false → S w' ∧ wpAnyS P md ops Q S fuel (listed.setIfInBounds i true) a' w') ∧ (loose md ops i = true → ∃ S', wpAnyS P md ops Q S' fuel (listed.setIfInBounds i true) a' w')) a w
theorem step_S {P : Program} {md : Region.Mode} {ops : Array Oper} {Q : Exit → Act → World → Prop} {S : World → Prop} {fuel i : Nat} {listed : Array Bool} {a : Act} {w : World} (hS : loose md ops i = false → S w) (h : wpAnyS P md ops Q S fuel listed a w) :
    (loose md ops i = false → S w ∧ wpAnyS P md ops Q S fuel listed a w) ∧ (loose md ops i = true → ∃ S', wpAnyS P md ops Q S' fuel listed a w) := ⟨fun hh => ⟨hS hh, h⟩, fun _ => ⟨S, h⟩⟩
theorem step_any {P : Program} {md : Region.Mode} {ops : Array Oper} {Q : Exit → Act → World → Prop} {S : World → Prop} {fuel i : Nat} {listed : Array Bool} {a : Act} {w : World}
    (h : (loose md ops i = false → S w ∧ wpAnyS P md ops Q S fuel listed a w) ∧ (loose md ops i = true → ∃ S', wpAnyS P md ops Q S' fuel listed a w)) : ∃ S', wpAnyS P md ops Q S' fuel listed a w := by
  cases hl : loose md ops i
  · exact ⟨S, (h.1 hl).2⟩
  · exact h.2 hl
theorem wpAny_of_S {P : Program} {md : Region.Mode} {ops : Array Oper} {Q : Exit → Act → World → Prop} :
    ∀ (fuel : Nat) (S : World → Prop) (listed : Array Bool) (a : Act) (w : World), wpAnyS P md ops Q S fuel listed a w → wpAny P md ops Q fuel listed a w
  | 0, _, _, _, _, h => h
  | fuel + 1, S, _, _, _, h => ⟨h.1, fun i hi => wpOp_mono (fun a' w' h' => by obtain ⟨S', h2⟩ := step_any h'; exact wpAny_of_S fuel S' _ a' w' h2) (h.2 i hi)⟩
theorem not_loose {md : Region.Mode} {ops : Array Oper} {listed : Array Bool} {i j : Nat} {oi : Oper} (hs : Shut md ops listed) (hi : ops[i]? = some oi) (hui : i ∈ Region.ready md ops listed) (hj : j ∈ Region.ready md ops listed) (hne : j ≠ i) : loose md ops j = false := by
  have h0 := (mem_ready.1 hui).1
  cases hl : loose md ops j with
  | false => rfl
  | true =>
    exfalso
    have h0' := (mem_ready.1 hj).1
    simp only [loose, List.all_eq_true, List.mem_range, Bool.or_eq_true, beq_iff_eq] at hl
    rcases hl i (Array.getElem?_eq_some_iff.1 hi).1 with (h | h) | h
    · exact hne h.symm
    · have h1 := waits_ready hs hj h
      rcases Nat.lt_or_ge i listed.size with h' | h'
      · simp [h'] at h0 h1; rw [h0] at h1; cases h1
      · simp [Array.getElem?_eq_none h'] at h1
    · have h1 := waits_ready hs hui h
      rcases Nat.lt_or_ge j listed.size with h' | h'
      · simp [h'] at h0' h1; rw [h0'] at h1; cases h1
      · simp [Array.getElem?_eq_none h'] at h1
/-- In this state, in every world that meets S, operation o leaves v and does nothing else. -/
def YieldsS (P : Program) (ops : Array Oper) (S : World → Prop) (o : Oper) (v : Value) (a : Act) : Prop :=
  (Region.wanted o (yielded ops a.tmps) = true ∧ ∀ w, S w → (execOp a.eval o).run P w = .ok (.value v) w) ∨
  (Region.wanted o (yielded ops a.tmps) = false ∧ v = undef)
section draws
variable {P : Program} {ops : Array Oper} {Q : Exit → Act → World → Prop} {md : Region.Mode} {S : World → Prop}
theorem YieldsS.wpOp {i : Nat} {o : Oper} {v : Value} {a : Act} (hi : ops[i]? = some o) (hy : YieldsS P ops S o v a) {K : Act → World → Prop} {w : World} (hS : S w) (h : K (a.put o.dst v) w) : wpOp P ops Q i K a w := by
  unfold Go.wpOp
  simp only [hi]
  rcases hy with ⟨hw, hv⟩ | ⟨hw, rfl⟩
  · simp only [hw, if_true, Oper.wp, hv w hS, Oper.upon]; exact .inl h
  · simp only [hw, Bool.false_eq_true, if_false]; exact h
theorem YieldsS.same {o : Oper} {v : Value} {a a' : Act} (hy : YieldsS P ops S o v a) (he : execOp a'.eval o = execOp a.eval o) (hw : Region.wanted o (yielded ops a'.tmps) = Region.wanted o (yielded ops a.tmps)) : YieldsS P ops S o v a' := by
  unfold YieldsS at *
  rw [he, hw]
  exact hy
theorem wpOp_putS {j : Nat} {oi oj : Oper} {v : Value} (hj : ops[j]? = some oj) (hap : oi.apart ops oj = true) (hsi : ∀ cs b, oi.op ≠ .select cs b) (hsj : ∀ cs b, oj.op ≠ .select cs b)
    (hQ : ∀ c a w, Q (.panic c) (a.put oi.dst v) w → Q (.panic c) a w) {K : Act → World → Prop} {a : Act} {w : World} (hy : YieldsS P ops S oi v a) (h : wpOp P ops Q j K (a.put oi.dst v) w) :
    wpOp P ops Q j (fun a' w' => YieldsS P ops S oi v a' ∧ K (a'.put oi.dst v) w') a w := by
  obtain ⟨h1, h2, h3⟩ := Oper.apart_spec hap
  have keep : ∀ (a : Act), YieldsS P ops S oi v a → ∀ u, YieldsS P ops S oi v (a.put oj.dst u) := fun a hy u => hy.same (execOp_put oi hsi a oj.dst u h3) (wanted_put oi a oj.dst u h3)
  have keepD : ∀ d, YieldsS P ops S oi v { a with defers := d :: a.defers } := fun d => hy.same rfl rfl
  unfold wpOp at *
  simp only [hj] at *
  rw [wanted_put oj a oi.dst v h1] at h
  split
  · rename_i hw
    simp only [hw, if_true] at h
    rcases h with h | ⟨hasks, hlets⟩
    case inr => exact .inr ⟨by unfold Oper.asks at *; rw [execOp_put oj hsj a oi.dst v h1] at hasks; exact hasks, hlets⟩
    refine .inl ?_
    unfold Oper.wp at *
    rw [execOp_put oj hsj a oi.dst v h1] at h
    generalize (execOp a.eval oj).run P w = r at *
    cases r with
    | ok n w' =>
      cases n <;> simp only [Oper.upon] at h ⊢
      case value u => exact ⟨keep a hy u, by rw [← Act.put_comm a v u h2]; exact h⟩
      case skip => exact ⟨keep a hy _, by rw [← Act.put_comm a v undef h2]; exact h⟩
      case defer d =>
        refine ⟨keep _ (keepD d) _, ?_⟩
        rw [← Act.put_comm _ v undef h2, ← Act.put_defers]
        exact h
      case enter f args =>
        refine Calls.mono h fun x w'' he => ?_
        cases x with
        | returned u => exact ⟨keep a hy u, by rw [← Act.put_comm a v u h2]; exact he⟩
        | panicked c => exact hQ _ _ _ he
        | outgrown => exact he
      case row row args => exact Rows.mono h fun u w'' he => ⟨keep a hy u, by rw [← Act.put_comm a v u h2]; exact he⟩
    | halt x w' =>
      cases x <;> simp only [Oper.upon] at h ⊢
      case panic u => exact hQ _ _ _ h
  · rename_i hw
    simp only [hw] at h
    exact ⟨keep a hy _, by rw [← Act.put_comm a v undef h2]; exact h⟩
theorem wpAnyS_first {i : Nat} {oi : Oper} {v : Value} (hi : ops[i]? = some oi) (hsel : ∀ (j : Nat) (o : Oper) cs b, ops[j]? = some o → o.op ≠ .select cs b)
    (hQ : ∀ c a w, Q (.panic c) (a.put oi.dst v) w → Q (.panic c) a w) :
    ∀ (fuel : Nat) (listed : Array Bool) (a : Act) (w : World),
      (∀ j oj, ops[j]? = some oj → j ≠ i → listed.getD j true = false → (∀ e ∈ oj.after, Region.binds md e = true → e.on ≠ i) → oi.apart ops oj = true) →
      i ∈ Region.ready md ops listed → Shut md ops listed → YieldsS P ops S oi v a → S w →
      wpAnyS P md ops Q S fuel (listed.setIfInBounds i true) (a.put oi.dst v) w → wpAnyS P md ops Q S (fuel + 1) listed a w := by
  intro fuel
  induction fuel with
  | zero =>
    intro listed a w _ hr hsh hy hS H
    refine ⟨fun h => (by rw [h] at hr; cases hr), fun j hj => ?_⟩
    by_cases hji : j = i
    · subst hji; exact hy.wpOp hi hS (step_S (fun _ => hS) H)
    · have := ready_mono hj hji
      rw [H.1] at this
      cases this
  | succ fuel ih =>
    intro listed a w hfree hr hsh hy hS H
    refine ⟨fun h => (by rw [h] at hr; cases hr), fun j hj => ?_⟩
    by_cases hji : j = i
    · subst hji; exact hy.wpOp hi hS (step_S (fun _ => hS) H)
    · have h1 := H.2 j (ready_mono hj hji)
      obtain ⟨hjun, oj, hoj, hall⟩ := mem_ready.1 hj
      have hnot : ∀ e ∈ oj.after, Region.binds md e = true → e.on ≠ i := fun e he hb heq => by
        have h1 := hall e he hb
        have h0 := (mem_ready.1 hr).1
        rw [heq] at h1
        rcases Nat.lt_or_ge i listed.size with h' | h'
        · simp [h'] at h0 h1; rw [h0] at h1; cases h1
        · simp [Array.getElem?_eq_none h'] at h1
      have h2 := wpOp_putS hoj (hfree j oj hoj hji hjun hnot) (fun cs b => hsel i oi cs b hi) (fun cs b => hsel j oj cs b hoj) hQ hy h1
      have hfree' : ∀ k ok, ops[k]? = some ok → k ≠ i → (listed.setIfInBounds j true).getD k true = false →
          (∀ e ∈ ok.after, Region.binds md e = true → e.on ≠ i) → oi.apart ops ok = true := fun k ok hk hki hun hno => by
        refine hfree k ok hk hki ?_ hno
        by_cases hjk : j = k
        · subst hjk; exact hjun
        · rw [getD_set_ne true hjk] at hun; exact hun
      have hnl := not_loose hsh hi hr hj hji
      refine wpOp_mono (fun a' w' h3 => step_S (fun _ => (h3.2.1 hnl).1) (ih (listed.setIfInBounds j true) a' w' hfree' (ready_mono hr (Ne.symm hji)) (hsh.set hj) h3.1 (h3.2.1 hnl).1 ?_)) h2
      rw [Array.setIfInBounds_comm _ _ hji]
      exact (h3.2.1 hnl).2
theorem wpAnyS_take {i : Nat} {oi : Oper} {v : Value} {fuel : Nat} {listed : Array Bool} {a : Act} {w : World} (hi : ops[i]? = some oi)
    (hs : Region.noSelect ops = true) (hf : Region.free md ops listed i = true) (hr : (Region.ready md ops listed).contains i = true) (hsh : Shut md ops listed)
    (hQ : ∀ c a w, Q (.panic c) (a.put oi.dst v) w → Q (.panic c) a w) (hy : YieldsS P ops S oi v a) (hS : S w)
    (h : wpAnyS P md ops Q S fuel (listed.setIfInBounds i true) (a.put oi.dst v) w) : wpAnyS P md ops Q S (fuel + 1) listed a w :=
  wpAnyS_first hi (Region.noSelect_spec hs) hQ fuel listed a w (Region.free_spec hi hf) (by simpa using hr) hsh hy hS h
end draws

/-! ### a plan: which operation comes next; true: one that only reads, and is taken first -/
def planOk (ops : Array Oper) : List (Nat × Bool) → Nat → Array Bool → Bool
  | [], fuel, listed => (Region.ready .any ops listed).isEmpty && Nat.beq fuel 0
  | (i, q) :: r, fuel, listed =>
    match fuel with
    | 0 => false
    | fuel + 1 => (bif q then Region.free .any ops listed i && (Region.ready .any ops listed).contains i else (Region.ready .any ops listed) == [i]) && planOk ops r fuel (listed.setIfInBounds i true)
/-- The walk along a plan: S holds at each step. -/
def WS (P : Program) (n : Nat) (all : List Oper) (S : World → Prop) (K : Env → World → Prop) : List (Nat × Bool) → Env → World → Prop
  | pl, e, w => ∀ (a : Act) (Q : Exit → Act → World → Prop) (fuel : Nat) (listed : Array Bool), Agree n e a → (∀ a' w' e', Agree n e' a' → K e' w' → Q .normal a' w') → (∀ c a w, ¬ Q (.panic c) a w) →
      Region.noSelect all.toArray = true → Shut .any all.toArray listed → planOk all.toArray pl fuel listed = true → wpAnyS P .any all.toArray Q S fuel listed a w
section plan
variable {P : Program} {n : Nat} {all : List Oper} {S : World → Prop} {K : Env → World → Prop} {r : List (Nat × Bool)} {e : Env} {w : World} {i : Nat}
theorem WS_nil (h : K e w) : WS P n all S K [] e w := by
  intro a Q fuel listed ha hQ hp hs hsh hok
  simp only [planOk, Bool.and_eq_true, List.isEmpty_iff] at hok
  obtain rfl := Nat.eq_of_beq_eq_true hok.2
  exact ⟨hok.1, hQ a w e ha h⟩
theorem WS_quiet {d : Option Tmp} {op : Op} {ty : TypeId} {pos : String} {af : Array Edge} {g : Option (Nat × Bool)} {v : Value}
    (ho : nth all i = some ⟨d, op, ty, pos, af, g⟩) (hg : Wants all e g true) (hd : slotOk n d = true) (hS : S w) (h : ∀ w, S w → Does P op ty e w v w)
    (hr : WS P n all S K r (push d v e) w) : WS P n all S K ((i, true) :: r) e w := by
  intro a Q fuel listed ha hQ hp hs hsh hok
  cases fuel with
  | zero => simp [planOk] at hok
  | succ fuel =>
    simp only [planOk, cond_true, Bool.and_eq_true] at hok
    have hi : all.toArray[i]? = some ⟨d, op, ty, pos, af, g⟩ := by rw [nth_eq] at ho; simpa using ho
    have hin : i ∈ Region.ready .any all.toArray listed := by simpa using hok.1.2
    refine wpAnyS_take hi hs hok.1.1 hok.1.2 hsh (fun c a w h => absurd h (hp _ _ _)) (.inl ⟨Wants.wanted ha (o := ⟨d, op, ty, pos, af, g⟩) hg, fun w hw => h w hw a.eval d pos af g fun x u hx => ha.eval hx⟩) hS ?_
    exact hr _ Q fuel _ (ha.put d v hd) hQ hp hs (hsh.set hin) hok.2
theorem WS_off {d : Option Tmp} {op : Op} {ty : TypeId} {pos : String} {af : Array Edge} {g : Option (Nat × Bool)}
    (ho : nth all i = some ⟨d, op, ty, pos, af, g⟩) (hg : Wants all e g false) (hd : slotOk n d = true) (hS : S w)
    (hr : WS P n all S K r (push d undef e) w) : WS P n all S K ((i, true) :: r) e w := by
  intro a Q fuel listed ha hQ hp hs hsh hok
  cases fuel with
  | zero => simp [planOk] at hok
  | succ fuel =>
    simp only [planOk, cond_true, Bool.and_eq_true] at hok
    have hi : all.toArray[i]? = some ⟨d, op, ty, pos, af, g⟩ := by rw [nth_eq] at ho; simpa using ho
    have hin : i ∈ Region.ready .any all.toArray listed := by simpa using hok.1.2
    refine wpAnyS_take hi hs hok.1.1 hok.1.2 hsh (fun c a w h => absurd h (hp _ _ _)) (.inr ⟨Wants.wanted ha (o := ⟨d, op, ty, pos, af, g⟩) hg, rfl⟩) hS ?_
    exact hr _ Q fuel _ (ha.put d undef hd) hQ hp hs (hsh.set hin) hok.2
theorem WS_step {q : Exit → Act → World → Prop} {fuel : Nat} {listed : Array Bool} {a : Act} (hrd : Region.ready .any all.toArray listed = [i])
    (h : wpOp P all.toArray q i (fun a' w' => (loose .any all.toArray i = false → S w' ∧ wpAnyS P .any all.toArray q S fuel (listed.setIfInBounds i true) a' w') ∧ (loose .any all.toArray i = true → ∃ S', wpAnyS P .any all.toArray q S' fuel (listed.setIfInBounds i true) a' w')) a w) : wpAnyS P .any all.toArray q S (fuel + 1) listed a w := by
  refine ⟨fun h0 => ?_, fun j hj => ?_⟩
  · rw [hrd] at h0
    cases h0
  · rw [hrd] at hj
    obtain rfl : j = i := by simpa using hj
    exact h
theorem WS_off' {d : Option Tmp} {op : Op} {ty : TypeId} {pos : String} {af : Array Edge} {g : Option (Nat × Bool)}
    (ho : nth all i = some ⟨d, op, ty, pos, af, g⟩) (hg : Wants all e g false) (hd : slotOk n d = true) (hS : loose .any all.toArray i = false → S w)
    (hr : WS P n all S K r (push d undef e) w) : WS P n all S K ((i, false) :: r) e w := by
  intro a Q fuel listed ha hQ hp hs hsh hok
  cases fuel with
  | zero => simp [planOk] at hok
  | succ fuel =>
    simp only [planOk, cond_false, Bool.and_eq_true, beq_iff_eq] at hok
    have hi : all.toArray[i]? = some ⟨d, op, ty, pos, af, g⟩ := by rw [nth_eq] at ho; simpa using ho
    have hw : Region.wanted ⟨d, op, ty, pos, af, g⟩ (yielded all.toArray a.tmps) = false := Wants.wanted ha (o := ⟨d, op, ty, pos, af, g⟩) hg
    have hin : i ∈ Region.ready .any all.toArray listed := by rw [hok.1]; simp
    refine WS_step hok.1 ?_
    unfold wpOp
    simp only [hi, hw, Bool.false_eq_true, if_false]
    exact step_S hS (hr _ Q fuel _ (ha.put d undef hd) hQ hp hs (hsh.set hin) hok.2)
theorem WS_does {d : Option Tmp} {op : Op} {ty : TypeId} {pos : String} {af : Array Edge} {g : Option (Nat × Bool)} {v : Value} {w' : World}
    (ho : nth all i = some ⟨d, op, ty, pos, af, g⟩) (hg : Wants all e g true) (hd : slotOk n d = true) (h : Does P op ty e w v w') (hS : loose .any all.toArray i = false → S w')
    (hr : WS P n all S K r (push d v e) w') : WS P n all S K ((i, false) :: r) e w := by
  intro a Q fuel listed ha hQ hp hs hsh hok
  cases fuel with
  | zero => simp [planOk] at hok
  | succ fuel =>
    simp only [planOk, cond_false, Bool.and_eq_true, beq_iff_eq] at hok
    have hi : all.toArray[i]? = some ⟨d, op, ty, pos, af, g⟩ := by rw [nth_eq] at ho; simpa using ho
    have hw : Region.wanted ⟨d, op, ty, pos, af, g⟩ (yielded all.toArray a.tmps) = true := Wants.wanted ha (o := ⟨d, op, ty, pos, af, g⟩) hg
    have hin : i ∈ Region.ready .any all.toArray listed := by rw [hok.1]; simp
    refine WS_step hok.1 ?_
    unfold wpOp
    simp only [hi, hw, if_true]
    refine .inl ?_
    unfold Oper.wp
    rw [h a.eval d pos af g (fun x u hx => ha.eval hx)]
    exact step_S hS (hr _ Q fuel _ (ha.put d v hd) hQ hp hs (hsh.set hin) hok.2)
theorem WS_doesU {d : Option Tmp} {op : Op} {ty : TypeId} {pos : String} {af : Array Edge} {g : Option (Nat × Bool)} {w' : World}
    (ho : nth all i = some ⟨d, op, ty, pos, af, g⟩) (hg : Wants all e g true) (hd : slotOk n d = true) (h : DoesU P op ty e w w') (hS : loose .any all.toArray i = false → S w')
    (hr : WS P n all S K r (push d undef e) w') : WS P n all S K ((i, false) :: r) e w := by
  intro a Q fuel listed ha hQ hp hs hsh hok
  cases fuel with
  | zero => simp [planOk] at hok
  | succ fuel =>
    simp only [planOk, cond_false, Bool.and_eq_true, beq_iff_eq] at hok
    have hi : all.toArray[i]? = some ⟨d, op, ty, pos, af, g⟩ := by rw [nth_eq] at ho; simpa using ho
    have hw : Region.wanted ⟨d, op, ty, pos, af, g⟩ (yielded all.toArray a.tmps) = true := Wants.wanted ha (o := ⟨d, op, ty, pos, af, g⟩) hg
    have hin : i ∈ Region.ready .any all.toArray listed := by rw [hok.1]; simp
    refine WS_step hok.1 ?_
    unfold wpOp
    simp only [hi, hw, if_true]
    refine .inl ?_
    unfold Oper.wp
    rw [h a.eval d pos af g (fun x u hx => ha.eval hx)]
    exact step_S hS (hr _ Q fuel _ (ha.put d undef hd) hQ hp hs (hsh.set hin) hok.2)
theorem WS_call {d : Option Tmp} {op : Op} {ty : TypeId} {pos : String} {af : Array Edge} {g : Option (Nat × Bool)} {f : FuncId} {args : List Value} {R : Value → World → Prop}
    (ho : nth all i = some ⟨d, op, ty, pos, af, g⟩) (hg : Wants all e g true) (hd : slotOk n d = true) (h : Enters P op ty e f args) (hc : CV P f args w R) (hS : ∀ v w', R v w' → loose .any all.toArray i = false → S w')
    (hr : ∀ v w', R v w' → WS P n all S K r (push d v e) w') : WS P n all S K ((i, false) :: r) e w := by
  intro a Q fuel listed ha hQ hp hs hsh hok
  cases fuel with
  | zero => simp [planOk] at hok
  | succ fuel =>
    simp only [planOk, cond_false, Bool.and_eq_true, beq_iff_eq] at hok
    have hi : all.toArray[i]? = some ⟨d, op, ty, pos, af, g⟩ := by rw [nth_eq] at ho; simpa using ho
    have hw : Region.wanted ⟨d, op, ty, pos, af, g⟩ (yielded all.toArray a.tmps) = true := Wants.wanted ha (o := ⟨d, op, ty, pos, af, g⟩) hg
    have hin : i ∈ Region.ready .any all.toArray listed := by rw [hok.1]; simp
    refine WS_step hok.1 ?_
    unfold wpOp
    simp only [hi, hw, if_true]
    refine .inl ?_
    unfold Oper.wp
    rw [h a.eval d pos af g w (fun x u hx => ha.eval hx)]
    refine Calls.mono hc fun x w' hx => ?_
    cases x with
    | returned v => exact step_S (hS v w' hx) (hr v w' hx _ Q fuel _ (ha.put d v hd) hQ hp hs (hsh.set hin) hok.2)
    | panicked c => exact hx.elim
    | outgrown => exact hx.elim
theorem WS_callC {d : Option Tmp} {op : Op} {ty : TypeId} {pos : String} {af : Array Edge} {g : Option (Nat × Bool)} {f : FuncId} {args : List Value} {R : Value → World → Prop}
    (ho : nth all i = some ⟨d, op, ty, pos, af, g⟩) (hg : Wants all e g true) (hd : slotOk n d = true) (h : Enters P op ty e f args) (hc : CV P f args w R) (hcut : loose .any all.toArray i = true)
    (hr : ∀ v w', R v w' → ∃ S', WS P n all S' K r (push d v e) w') : WS P n all S K ((i, false) :: r) e w := by
  intro a Q fuel listed ha hQ hp hs hsh hok
  cases fuel with
  | zero => simp [planOk] at hok
  | succ fuel =>
    simp only [planOk, cond_false, Bool.and_eq_true, beq_iff_eq] at hok
    have hi : all.toArray[i]? = some ⟨d, op, ty, pos, af, g⟩ := by rw [nth_eq] at ho; simpa using ho
    have hw : Region.wanted ⟨d, op, ty, pos, af, g⟩ (yielded all.toArray a.tmps) = true := Wants.wanted ha (o := ⟨d, op, ty, pos, af, g⟩) hg
    have hin : i ∈ Region.ready .any all.toArray listed := by rw [hok.1]; simp
    refine WS_step hok.1 ?_
    unfold wpOp
    simp only [hi, hw, if_true]
    refine .inl ?_
    unfold Oper.wp
    rw [h a.eval d pos af g w (fun x u hx => ha.eval hx)]
    refine Calls.mono hc fun x w' hx => ?_
    cases x with
    | returned v =>
      obtain ⟨S', h'⟩ := hr v w' hx
      exact ⟨fun hh => (by rw [hcut] at hh; cases hh), fun _ => ⟨S', h' _ Q fuel _ (ha.put d v hd) hQ hp hs (hsh.set hin) hok.2⟩⟩
    | panicked c => exact hx.elim
    | outgrown => exact hx.elim
/-- At an operation to which each other one is tied, what is asked of the worlds may be changed. -/
theorem WS_cut {S' : World → Prop} (hc : loose .any all.toArray i = true) (h : WS P n all S' K ((i, false) :: r) e w) : WS P n all S K ((i, false) :: r) e w := by
  intro a Q fuel listed ha hQ hp hs hsh hok
  have h1 := h a Q fuel listed ha hQ hp hs hsh hok
  cases fuel with
  | zero => exact h1
  | succ fuel =>
    simp only [planOk, cond_false, Bool.and_eq_true, beq_iff_eq] at hok
    refine ⟨h1.1, fun j hj => ?_⟩
    have h2 := h1.2 j hj
    rw [hok.1] at hj
    obtain rfl : j = i := by simpa using hj
    exact wpOp_mono (fun a' w' h3 => ⟨fun hh => (by rw [hc] at hh; cases hh), h3.2⟩) h2
/-- The next operation, laid open. -/
def WO (P : Program) (n : Nat) (all : List Oper) (S : World → Prop) (K : Env → World → Prop) (i : Nat) (q : Bool) (r : List (Nat × Bool)) (o : Oper) (e : Env) (w : World) : Prop := nth all i = some o → WS P n all S K ((i, q) :: r) e w
theorem WS_next {q : Bool} {o : Oper} (ho : nth all i = some o) (h : WO P n all S K i q r o e w) : WS P n all S K ((i, q) :: r) e w := h ho
theorem WO_quiet {d : Option Tmp} {op : Op} {ty : TypeId} {pos : String} {af : Array Edge} {g : Option (Nat × Bool)} {v : Value}
    (hg : Wants all e g true) (hd : slotOk n d = true) (hS : S w) (h : ∀ w, S w → Does P op ty e w v w)
    (hr : WS P n all S K r (push d v e) w) : WO P n all S K i true r ⟨d, op, ty, pos, af, g⟩ e w := fun ho => WS_quiet ho hg hd hS h hr
theorem WO_off {q : Bool} {d : Option Tmp} {op : Op} {ty : TypeId} {pos : String} {af : Array Edge} {g : Option (Nat × Bool)}
    (hg : Wants all e g false) (hd : slotOk n d = true) (hS : S w) (hr : WS P n all S K r (push d undef e) w) : WO P n all S K i q r ⟨d, op, ty, pos, af, g⟩ e w := fun ho => by
  cases q
  · exact WS_off' ho hg hd (fun _ => hS) hr
  · exact WS_off ho hg hd hS hr
theorem WO_does {d : Option Tmp} {op : Op} {ty : TypeId} {pos : String} {af : Array Edge} {g : Option (Nat × Bool)} {v : Value} {w' : World}
    (hg : Wants all e g true) (hd : slotOk n d = true) (h : Does P op ty e w v w') (hS : loose .any all.toArray i = false → S w')
    (hr : WS P n all S K r (push d v e) w') : WO P n all S K i false r ⟨d, op, ty, pos, af, g⟩ e w := fun ho => WS_does ho hg hd h hS hr
theorem WO_doesU {d : Option Tmp} {op : Op} {ty : TypeId} {pos : String} {af : Array Edge} {g : Option (Nat × Bool)} {w' : World}
    (hg : Wants all e g true) (hd : slotOk n d = true) (h : DoesU P op ty e w w') (hS : loose .any all.toArray i = false → S w')
    (hr : WS P n all S K r (push d undef e) w') : WO P n all S K i false r ⟨d, op, ty, pos, af, g⟩ e w := fun ho => WS_doesU ho hg hd h hS hr
theorem WO_call {d : Option Tmp} {op : Op} {ty : TypeId} {pos : String} {af : Array Edge} {g : Option (Nat × Bool)} {f : FuncId} {args : List Value} {R : Value → World → Prop}
    (hg : Wants all e g true) (hd : slotOk n d = true) (h : Enters P op ty e f args) (hc : CV P f args w R) (hS : ∀ v w', R v w' → loose .any all.toArray i = false → S w')
    (hr : ∀ v w', R v w' → WS P n all S K r (push d v e) w') : WO P n all S K i false r ⟨d, op, ty, pos, af, g⟩ e w := fun ho => WS_call ho hg hd h hc hS hr
theorem WO_cut {S' : World → Prop} {o : Oper} (hc : loose .any all.toArray i = true) (h : WO P n all S' K i false r o e w) : WO P n all S K i false r o e w := fun ho => WS_cut hc (h ho)
theorem WC_draws {id : Nat} {l : List Oper} {Q : Post} (pl : List (Nat × Bool)) (S : World → Prop) (hm : P.follows .mixedOrders = true) (hns : Region.noSelect l.toArray = true)
    (hok : planOk l.toArray pl l.toArray.size (Array.replicate l.toArray.size false) = true) (h : WS P n l S (fun e w => Q .normal e w) pl e w.drew) : WC P n (.region id l.toArray true) Q e w :=
  fun a ha => wp_region_any hm (wpAny_of_S _ _ _ _ _ (h a _ _ _ ha (fun a' w' e' ha' hK => ⟨e', ha', hK⟩) lift_panic hns (Shut.init _ _ _) hok))
end plan
end SC
end Go.Proofs.Ytkndegjodnciaaa
