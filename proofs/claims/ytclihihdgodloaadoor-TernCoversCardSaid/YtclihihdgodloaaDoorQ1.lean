/- Texts of this seat, one behind the other: A1 A2 A3 A4 A5 A6 A0 D1 D2 D3 D4 D5 D6 V1 D7 D8 D9. -/
import Derived.WalkKit
import Derived.Orders
import Derived.Deep.Draws
import Derived.WalkSpells
import Derived.Maps.Own
import Derived.Laws.OwnMore
import Derived.Deep.OwnRows
import Derived.Deep.AppendLies
import Derived.WalkLawsBesides
import Derived.Below
import Derived.Test.YtclihihdgodloaaDoorProg
import Derived.KernelRfl
import Derived.OwnWalk
import Derived.Shelf.Spec.SlicesInsert
import Derived.Shelf.Spec.SlicesInsertGrow
section
/- A small calculus over the walk's own predicate: environments as lists, plain regions operation by operation, regions that draw by a plan of steps, loops by a ghost state. -/
namespace Go.Proofs.YtclihihdgodloaaDoor
namespace SC

/-! ### environments -/
abbrev Env := List (Nat × Value)
def look : Env → Nat → Option Value
  | [], _ => none
  | (k, v) :: r, t => bif Nat.beq k t then some v else look r t
def ev (e : Env) : Operand → Option Value
  | .tmp t => look e t
  | .const v => some v
  | .global g => some (.pointer (some ⟨g, 0, none⟩))
  | .func f => some (.func (.func f) #[] #[])
def push (d : Option Nat) (v : Value) (e : Env) : Env :=
  match d with
  | some k => (k, v) :: e
  | none => e
/-- What the environment says is what the temporaries hold; n: how many there are. -/
structure Agree (n : Nat) (e : Env) (a : Act) : Prop where
  size : a.tmps.size = n
  defers : a.defers = []
  tmps : ∀ t v, look e t = some v → a.tmps[t]? = some v
theorem Agree.eval {n : Nat} {e : Env} {a : Act} (h : Agree n e a) {x : Operand} {v : Value} (hx : ev e x = some v) : a.eval x = v := by
  cases x with
  | tmp t =>
    have := h.tmps t v hx
    simp [Act.eval, this]
  | const u => simpa [ev, Act.eval] using hx
  | global g => simpa [ev, Act.eval] using hx
  | func f => simpa [ev, Act.eval] using hx
def slotOk (n : Nat) : Option Nat → Bool
  | some d => Nat.blt d n
  | none => true
theorem Agree.put {n : Nat} {e : Env} {a : Act} (h : Agree n e a) (d : Option Nat) (v : Value) (hd : slotOk n d = true) : Agree n (push d v e) (a.put d v) := by
  cases d with
  | none => exact h
  | some d =>
    have hlt : d < n := by simpa [slotOk, Nat.blt_eq] using hd
    refine ⟨by simp [Act.put, h.size], h.defers, fun t u hu => ?_⟩
    simp only [Act.put]
    simp only [push, look] at hu
    by_cases hk : d = t
    · subst hk
      have : u = v := by simpa using hu.symm
      subst this
      simp [h.size, hlt]
    · have hb : Nat.beq d t = false := by
        cases hq : Nat.beq d t
        · rfl
        · exact absurd (Nat.eq_of_beq_eq_true hq) hk
      rw [hb] at hu
      simp only [cond_false] at hu
      rw [Array.getElem?_setIfInBounds_ne hk]
      exact h.tmps t u hu
/-- e' says no more than e. -/
def Sub : Env → Env → Prop
  | [], _ => True
  | (k, v) :: r, e => look e k = some v ∧ Sub r e
theorem Sub.look {e' e : Env} (h : Sub e' e) : ∀ t v, look e' t = some v → SC.look e t = some v := by
  induction e' with
  | nil => intro t v hv; simp [SC.look] at hv
  | cons p r ih =>
    obtain ⟨k, u⟩ := p
    intro t v hv
    simp only [SC.look] at hv
    cases hb : Nat.beq k t with
    | true =>
      rw [hb] at hv
      obtain rfl : u = v := by simpa using hv
      obtain rfl := Nat.eq_of_beq_eq_true hb
      exact h.1
    | false =>
      rw [hb] at hv
      exact ih h.2 t v (by simpa using hv)
theorem Agree.sub {n : Nat} {e e' : Env} {a : Act} (h : Agree n e a) (hs : Sub e' e) : Agree n e' a := ⟨h.size, h.defers, fun t v hv => h.tmps t v (hs.look t v hv)⟩

/-! ### code -/
abbrev Post := Exit → Env → World → Prop
def lift (n : Nat) (Q : Post) : Exit → Act → World → Prop
  | .panic _, _, _ => False
  | .outgrown, _, _ => False
  | s, a, w => ∃ e, Agree n e a ∧ Q s e w
theorem lift_panic {n : Nat} {Q : Post} (c : List PanicEntry) (a : Act) (w : World) : ¬ lift n Q (.panic c) a w := id
def WC (P : Program) (n : Nat) (c : Code) (Q : Post) (e : Env) (w : World) : Prop := ∀ a, Agree n e a → c.wp P (lift n Q) a w
def thenQ (K : Env → World → Prop) (Q : Post) : Post
  | .normal, e, w => K e w
  | s, e, w => Q s e w
def blockQ (id : Nat) (Q : Post) : Post
  | .exit i, e, w => if i = id then Q .normal e w else Q (.exit i) e w
  | s, e, w => Q s e w
section code
variable {P : Program} {n : Nat} {Q : Post} {e : Env} {w : World}
theorem thenQ_normal {K : Env → World → Prop} (h : K e w) : thenQ K Q .normal e w := h
theorem thenQ_exit {K : Env → World → Prop} {i : Nat} (h : Q (.exit i) e w) : thenQ K Q (.exit i) e w := h
theorem thenQ_ret {K : Env → World → Prop} (h : Q .ret e w) : thenQ K Q .ret e w := h
theorem blockQ_hit {i : Nat} (h : Q .normal e w) : blockQ i Q (.exit i) e w := by simpa [blockQ] using h
theorem blockQ_ret {i : Nat} (h : Q .ret e w) : blockQ i Q .ret e w := h
theorem blockQ_normal {i : Nat} (h : Q .normal e w) : blockQ i Q .normal e w := h
theorem lift_mono {n : Nat} {Q Q' : Post} (h : ∀ s e w, Q s e w → Q' s e w) : ∀ s a w, lift n Q s a w → lift n Q' s a w := by
  intro s a w hq
  cases s <;> first | exact hq.elim | exact hq.imp fun e h' => ⟨h'.1, h _ _ _ h'.2⟩
theorem WC.mono {c : Code} {Q Q' : Post} (h : WC P n c Q e w) (hq : ∀ s e w, Q s e w → Q' s e w) : WC P n c Q' e w :=
  fun a ha => wp_mono (h a ha) (lift_mono hq)
theorem WC_skip (h : Q .normal e w) : WC P n .skip Q e w := fun _ ha => wp_skip ⟨e, ha, h⟩
theorem WC_label {l : Nat} (h : Q .normal e w) : WC P n (.label l) Q e w := fun _ ha => wp_label ⟨e, ha, h⟩
theorem WC_exit {i : Nat} (h : Q (.exit i) e w) : WC P n (.exit i) Q e w := fun _ ha => wp_exit ⟨e, ha, h⟩
theorem WC_ret (h : Q .ret e w) : WC P n .ret Q e w := fun _ ha => wp_ret ⟨e, ha, h⟩
theorem WC_seq {x y : Code} (h : WC P n x (thenQ (fun e w => WC P n y Q e w) Q) e w) : WC P n (.seq x y) Q e w := by
  intro a ha
  refine wp_seq (wp_mono (h a ha) ?_)
  intro s a' w' hs
  cases s with
  | normal => obtain ⟨e', ha', hq⟩ := hs; exact hq a' ha'
  | exit i => exact hs
  | goto l => exact hs
  | ret => exact hs
  | panic c => exact hs.elim
  | outgrown => exact hs.elim
theorem WC_if_true {c : Operand} {x y : Code} (hc : ev e c = some (.bool true)) (h : WC P n x Q e w) : WC P n (.cond c x y) Q e w :=
  fun a ha => wp_cond_true (ha.eval hc) (h a ha)
theorem WC_if_false {c : Operand} {x y : Code} (hc : ev e c = some (.bool false)) (h : WC P n y Q e w) : WC P n (.cond c x y) Q e w :=
  fun a ha => wp_cond_false (ha.eval hc) (h a ha)
theorem WC_block {i : Nat} {c : Code} (h : WC P n c (blockQ i Q) e w) : WC P n (.block i c) Q e w := by
  intro a ha
  refine wp_block (wp_mono (h a ha) ?_)
  intro s a' w' hs
  cases s with
  | normal => exact hs
  | exit j =>
    obtain ⟨e', ha', hq⟩ := hs
    simp only [Exit.inBlock]
    simp only [blockQ] at hq
    split
    · rename_i hj; rw [if_pos hj] at hq; exact ⟨e', ha', hq⟩
    · rename_i hj; rw [if_neg hj] at hq; exact ⟨e', ha', hq⟩
  | goto l => exact hs
  | ret => exact hs
  | panic c => exact hs.elim
  | outgrown => exact hs.elim
/-- A loop, by a ghost state s: E s is what is known of the slots at the head, I s what is known of the world, m s goes down. -/
theorem WC_loop {c : Code} {σ : Type} (E : σ → Env) (I : σ → World → Prop) (m : σ → Nat) (s0 : σ) (h0 : Sub (E s0) e) (hI : I s0 w)
    (round : ∀ s w, I s w → WC P n c (thenQ (fun e' w' => ∃ s', Sub (E s') e' ∧ I s' w' ∧ m s' < m s) Q) (E s) w) : WC P n (.loop c) Q e w := by
  intro a ha b k cs
  have key : ∀ r s a w, m s = r → I s w → Agree n (E s) a →
      ∃ x a' w', lift n Q x a' w' ∧ Arrives P (lone (b.at a (.code c :: .inLoop c :: k)) cs w) b k cs x a' w' := by
    intro r
    induction r using Nat.strongRecOn with
    | _ r ih =>
      intro s a w hr hs hA
      obtain ⟨x, a1, w1, hq, harr⟩ := round s w hs a hA b (.inLoop c :: k) cs
      cases x with
      | normal =>
        obtain ⟨e1, hA1, s', hsub, hI1, hlt⟩ := hq
        obtain ⟨x2, a2, w2, hq2, harr2⟩ := ih (m s') (hr ▸ hlt) s' a1 w1 rfl hI1 (hA1.sub hsub)
        exact ⟨x2, a2, w2, hq2, .of_steps (Steps.trans harr (.one step_inLoop)) harr2⟩
      | exit i => exact ⟨.exit i, a1, w1, hq, .pass (x := .inLoop c) rfl (fun _ _ => .inl (by simp)) harr⟩
      | goto l => exact ⟨.goto l, a1, w1, hq, .pass (x := .inLoop c) rfl (fun _ _ => .inl (by simp)) harr⟩
      | ret => exact ⟨.ret, a1, w1, hq, .pass (x := .inLoop c) rfl (fun _ _ => .inl (by simp)) harr⟩
      | panic ch => exact hq.elim
      | outgrown => exact hq.elim
  obtain ⟨x, a', w', hq, harr⟩ := key _ s0 a w rfl hI (ha.sub h0)
  exact ⟨x, a', w', hq, .of_steps (.one step_loop) harr⟩
end code

/-! ### a call -/
/-- The call returns; R of its value and the world behind it. -/
def CV (P : Program) (f : FuncId) (args : List Value) (w : World) (R : Value → World → Prop) : Prop := Calls P f args.toArray w fun x w' => match x with | .returned v => R v w' | _ => False
theorem CV.mono {P : Program} {f : FuncId} {args : List Value} {w : World} {R R' : Value → World → Prop} (h : CV P f args w R) (hr : ∀ v w', R v w' → R' v w') : CV P f args w R' :=
  Calls.mono h fun x w' hx => by cases x <;> first | exact hr _ _ hx | exact hx
def argEnv : List Value → Nat → Env
  | [], _ => []
  | v :: r, k => (k, v) :: argEnv r (k + 1)
theorem argEnv_look : ∀ (l : List Value) (k t : Nat) (v : Value), look (argEnv l k) t = some v → k ≤ t ∧ l[t - k]? = some v
  | [], _, _, _, h => by simp [argEnv, look] at h
  | u :: r, k, t, v, h => by
    simp only [argEnv, look] at h
    cases hb : Nat.beq k t with
    | true =>
      rw [hb] at h
      obtain rfl := Nat.eq_of_beq_eq_true hb
      exact ⟨Nat.le_refl _, by simpa using h⟩
    | false =>
      rw [hb] at h
      obtain ⟨h1, h2⟩ := argEnv_look r (k + 1) t v (by simpa using h)
      refine ⟨by omega, ?_⟩
      have : t - k = (t - (k + 1)) + 1 := by omega
      rw [this]
      simpa using h2
def retVal : List Value → Value
  | [v] => v
  | vs => .tuple vs.toArray
def retQ (rs : List Nat) (R : Value → World → Prop) : Post
  | .ret, e, w => ∃ vs, rs.map (look e) = vs.map some ∧ R (retVal vs) w
  | .normal, e, w => ∃ vs, rs.map (look e) = vs.map some ∧ R (retVal vs) w
  | _, _, _ => False
theorem results_of {P : Program} {fn : Func} {n : Nat} {e : Env} {a : Act} (ha : Agree n e a) (w : World) (rs : List Nat) (hl : rs.length ≤ 4) (hr : fn.results = (rs.map ResultVar.tmp).toArray) (vs : List Value) (h : rs.map (look e) = vs.map some) :
    (results fn a.tmps).run P w = .ok (retVal vs) w := by
  have ht : ∀ t v, look e t = some v → a.tmps[t]? = some v := ha.tmps
  rcases rs with _ | ⟨r1, _ | ⟨r2, _ | ⟨r3, _ | ⟨r4, _ | ⟨r5, rr⟩⟩⟩⟩⟩
  · obtain rfl : vs = [] := by simpa using h.symm
    simp [results, hr, retVal]
  · rcases vs with _ | ⟨v1, _ | ⟨v2, vv⟩⟩ <;> simp at h
    simp [results, hr, retVal, ht _ _ h]
  · rcases vs with _ | ⟨v1, _ | ⟨v2, _ | ⟨v3, vv⟩⟩⟩ <;> simp at h
    simp [results, hr, retVal, ht _ _ h.1, ht _ _ h.2]
  · rcases vs with _ | ⟨v1, _ | ⟨v2, _ | ⟨v3, _ | ⟨v4, vv⟩⟩⟩⟩ <;> simp at h
    simp [results, hr, retVal, ht _ _ h.1, ht _ _ h.2.1, ht _ _ h.2.2]
  · rcases vs with _ | ⟨v1, _ | ⟨v2, _ | ⟨v3, _ | ⟨v4, _ | ⟨v5, vv⟩⟩⟩⟩⟩ <;> simp at h
    simp [results, hr, retVal, ht _ _ h.1, ht _ _ h.2.1, ht _ _ h.2.2.1, ht _ _ h.2.2.2]
  · simp at hl
theorem enter {P : Program} {f : FuncId} {fn : Func} {c : Code} {args : List Value} {w : World} {R : Value → World → Prop} (n : Nat) (rs : List Nat) (hf : P.funcs[f]? = some fn) (hb : fn.body = some c)
    (hn : fn.ntmps = n) (hr : fn.results = (rs.map ResultVar.tmp).toArray) (hl : rs.length ≤ 4) (hs : Nat.ble args.length n = true) (h : WC P n c (retQ rs R) (argEnv args 0) w) : CV P f args w R := by
  refine calls_of_wp hf hb ?_
  have hA : Agree n (argEnv args 0) { tmps := args.toArray ++ Array.replicate (fn.ntmps - args.toArray.size) undef, defers := [] } := by
    have hs' := Nat.le_of_ble_eq_true hs
    refine ⟨by simp [hn]; omega, rfl, fun t v hv => ?_⟩
    obtain ⟨_, h2⟩ := argEnv_look args 0 t v hv
    have hlt : t < args.length := (List.getElem?_eq_some_iff.1 h2).1
    rw [Array.getElem?_append_left (by simpa using hlt)]
    simpa using h2
  refine wp_mono (h _ hA) ?_
  intro s a w' hq
  cases s with
  | normal => obtain ⟨e, ha, vs, h1, h2⟩ := hq; exact ⟨ha.defers, _, results_of ha w' rs hl hr vs h1, h2⟩
  | ret => obtain ⟨e, ha, vs, h1, h2⟩ := hq; exact ⟨ha.defers, _, results_of ha w' rs hl hr vs h1, h2⟩
  | exit i => obtain ⟨e, _, h⟩ := hq; exact h
  | goto l => obtain ⟨e, _, h⟩ := hq; exact h
  | panic c => exact hq.elim
  | outgrown => exact hq.elim
end SC
end Go.Proofs.YtclihihdgodloaaDoor
end
section
/- The calculus, second part: operations; plain regions; regions that draw their order, by a plan. -/
set_option linter.unusedVariables false
namespace Go.Proofs.YtclihihdgodloaaDoor
namespace SC

/-! ### one operation -/
/-- Where the environment says what the operands are, the operation leaves v and the world w'. -/
def Does (P : Program) (op : Op) (ty : TypeId) (e : Env) (w : World) (v : Value) (w' : World) : Prop :=
  ∀ (ρ : Operand → Value) (dst : Option Tmp) (pos : String) (af : Array Edge) (g : Option (Nat × Bool)), (∀ x u, ev e x = some u → ρ x = u) → (execOp ρ ⟨dst, op, ty, pos, af, g⟩).run P w = .ok (.value v) w'
/-- The same for one that leaves nothing. -/
def DoesU (P : Program) (op : Op) (ty : TypeId) (e : Env) (w : World) (w' : World) : Prop :=
  ∀ (ρ : Operand → Value) (dst : Option Tmp) (pos : String) (af : Array Edge) (g : Option (Nat × Bool)), (∀ x u, ev e x = some u → ρ x = u) → (execOp ρ ⟨dst, op, ty, pos, af, g⟩).run P w = .ok .skip w'
/-- A call of a Go function. -/
def Enters (P : Program) (op : Op) (ty : TypeId) (e : Env) (f : FuncId) (args : List Value) : Prop :=
  ∀ (ρ : Operand → Value) (dst : Option Tmp) (pos : String) (af : Array Edge) (g : Option (Nat × Bool)) (w : World), (∀ x u, ev e x = some u → ρ x = u) → (execOp ρ ⟨dst, op, ty, pos, af, g⟩).run P w = .ok (.enter f args.toArray) w
def nth : List Oper → Nat → Option Oper
  | [], _ => none
  | o :: _, 0 => some o
  | _ :: r, k + 1 => nth r k
theorem nth_eq : ∀ (l : List Oper) (k : Nat), nth l k = l[k]?
  | [], _ => by simp [nth]
  | _ :: _, 0 => by simp [nth]
  | _ :: r, k + 1 => by simp [nth, nth_eq r k]
/-- The slot in which operation j leaves its value. -/
def gslot (l : List Oper) (j : Nat) : Option Nat := (nth l j).bind (·.dst)
/-- Is the operation carried out? -/
def Wants (l : List Oper) (e : Env) (g : Option (Nat × Bool)) (yes : Bool) : Prop :=
  match g with
  | none => yes = true
  | some (j, b) => ∃ d c, gslot l j = some d ∧ look e d = some (.bool c) ∧ yes = (c == b)
theorem Wants.wanted {l : List Oper} {e : Env} {n : Nat} {a : Act} (ha : Agree n e a) {o : Oper} {yes : Bool} (h : Wants l e o.guard yes) : Region.wanted o (yielded l.toArray a.tmps) = yes := by
  unfold Wants at h
  unfold Region.wanted
  cases hg : o.guard with
  | none => rw [hg] at h; simp [h]
  | some p =>
    obtain ⟨j, b⟩ := p
    rw [hg] at h
    obtain ⟨d, c, h1, h2, h3⟩ := h
    have ht := ha.tmps d _ h2
    have hy : yielded l.toArray a.tmps j = some c := by
      unfold yielded
      unfold gslot at h1
      rw [nth_eq] at h1
      have : ((l.toArray[j]?).bind (·.dst)) = some d := by simpa using h1
      rw [this]
      simp [ht]
    simp only [hy]
    rw [h3]
    cases c <;> cases b <;> rfl

/-! ### plain regions -/
def WL (P : Program) (n : Nat) (all : List Oper) (K : Env → World → Prop) (ops : List Oper) (e : Env) (w : World) : Prop :=
  ∀ a (Q : Exit → Act → World → Prop), Agree n e a → (∀ a' w' e', Agree n e' a' → K e' w' → Q .normal a' w') → wpList P all.toArray Q ops a w
section plain
variable {P : Program} {n : Nat} {all rest : List Oper} {K : Env → World → Prop} {e : Env} {w : World}
theorem WL_nil (h : K e w) : WL P n all K [] e w := fun a Q ha hQ => hQ a w e ha h
theorem WL_does {d : Option Tmp} {op : Op} {ty : TypeId} {pos : String} {af : Array Edge} {g : Option (Nat × Bool)} {v : Value} {w' : World}
    (hg : Wants all e g true) (hd : slotOk n d = true) (h : Does P op ty e w v w') (hr : WL P n all K rest (push d v e) w') : WL P n all K (⟨d, op, ty, pos, af, g⟩ :: rest) e w := by
  intro a Q ha hQ
  have hw : Region.wanted ⟨d, op, ty, pos, af, g⟩ (yielded all.toArray a.tmps) = true := Wants.wanted ha (o := ⟨d, op, ty, pos, af, g⟩) hg
  unfold wpList
  rw [if_pos hw]
  refine .inl ?_
  unfold Oper.wp
  rw [h a.eval d pos af g (fun x u hx => ha.eval hx)]
  exact hr _ Q (ha.put d v hd) hQ
theorem WL_off {d : Option Tmp} {op : Op} {ty : TypeId} {pos : String} {af : Array Edge} {g : Option (Nat × Bool)}
    (hg : Wants all e g false) (hd : slotOk n d = true) (hr : WL P n all K rest (push d undef e) w) : WL P n all K (⟨d, op, ty, pos, af, g⟩ :: rest) e w := by
  intro a Q ha hQ
  have hw : Region.wanted ⟨d, op, ty, pos, af, g⟩ (yielded all.toArray a.tmps) = false := Wants.wanted ha (o := ⟨d, op, ty, pos, af, g⟩) hg
  unfold wpList
  rw [if_neg (by rw [hw]; decide)]
  exact hr _ Q (ha.put d undef hd) hQ
theorem WL_doesU {d : Option Tmp} {op : Op} {ty : TypeId} {pos : String} {af : Array Edge} {g : Option (Nat × Bool)} {w' : World}
    (hg : Wants all e g true) (hd : slotOk n d = true) (h : DoesU P op ty e w w') (hr : WL P n all K rest (push d undef e) w') : WL P n all K (⟨d, op, ty, pos, af, g⟩ :: rest) e w := by
  intro a Q ha hQ
  have hw : Region.wanted ⟨d, op, ty, pos, af, g⟩ (yielded all.toArray a.tmps) = true := Wants.wanted ha (o := ⟨d, op, ty, pos, af, g⟩) hg
  unfold wpList
  rw [if_pos hw]
  refine .inl ?_
  unfold Oper.wp
  rw [h a.eval d pos af g (fun x u hx => ha.eval hx)]
  exact hr _ Q (ha.put d undef hd) hQ
theorem WL_call {d : Option Tmp} {op : Op} {ty : TypeId} {pos : String} {af : Array Edge} {g : Option (Nat × Bool)} {f : FuncId} {args : List Value} {R : Value → World → Prop}
    (hg : Wants all e g true) (hd : slotOk n d = true) (h : Enters P op ty e f args) (hc : CV P f args w R) (hr : ∀ v w', R v w' → WL P n all K rest (push d v e) w') : WL P n all K (⟨d, op, ty, pos, af, g⟩ :: rest) e w := by
  intro a Q ha hQ
  have hw : Region.wanted ⟨d, op, ty, pos, af, g⟩ (yielded all.toArray a.tmps) = true := Wants.wanted ha (o := ⟨d, op, ty, pos, af, g⟩) hg
  unfold wpList
  rw [if_pos hw]
  refine .inl ?_
  unfold Oper.wp
  rw [h a.eval d pos af g w (fun x u hx => ha.eval hx)]
  refine Calls.mono hc fun x w' hx => ?_
  cases x with
  | returned v => exact hr v w' hx _ Q (ha.put d v hd) hQ
  | panicked c => exact hx.elim
  | outgrown => exact hx.elim
theorem WC_region {id : Nat} {l : List Oper} {Q : Post} (h : WL P n l (fun e w => Q .normal e w) l e w) : WC P n (.region id l.toArray false) Q e w :=
  fun a ha => wp_region_lit (h a _ ha fun a' w' e' ha' hK => ⟨e', ha', hK⟩)
end plain

/-! ### regions that draw their order: 'S' holds behind each operation but one that waits for all others -/
def waits (md : Region.Mode) (ops : Array Oper) : Nat → Nat → Nat → Bool
  | 0, _, _ => false
  | f + 1, i, k => match ops[i]? with
    | some o => o.after.any fun e => Region.binds md e && (e.on == k || waits md ops f e.on k)
    | none => false
def loose (md : Region.Mode) (ops : Array Oper) (i : Nat) : Bool := (List.range ops.size).all fun k => k == i || waits md ops 3 i k || waits md ops 3 k i
/-- Whoever is listed has all listed for which it waited. -/
def Shut (md : Region.Mode) (ops : Array Oper) (listed : Array Bool) : Prop := ∀ (j : Nat) (oj : Oper), ops[j]? = some oj → listed.getD j false = true → ∀ e ∈ oj.after, Region.binds md e = true → listed.getD e.on false = true
theorem Shut.set {md : Region.Mode} {ops : Array Oper} {listed : Array Bool} (h : Shut md ops listed) {j : Nat} (hj : j ∈ Region.ready md ops listed) : Shut md ops (listed.setIfInBounds j true) := by
  intro k ok hk hl e he hb
  obtain ⟨_, oj, hoj, hall⟩ := mem_ready.1 hj
  by_cases hjk : j = k
  · subst hjk
    rw [hoj] at hk
    cases hk
    exact getD_set_true (hall e he hb)
  · rw [getD_set_ne false hjk] at hl
    exact getD_set_true (h k ok hk hl e he hb)
theorem Shut.init (md : Region.Mode) (ops : Array Oper) (n : Nat) : Shut md ops (Array.replicate n false) := by
  intro j oj hj hl
  rw [Array.getD_eq_getD_getElem?, Array.getElem?_replicate] at hl
  split at hl <;> simp at hl
theorem waits_listed {md : Region.Mode} {ops : Array Oper} {listed : Array Bool} (hs : Shut md ops listed) : ∀ (f i k : Nat), listed.getD i false = true → waits md ops f i k = true → listed.getD k false = true
  | 0, _, _, _, h => by simp [waits] at h
  | f + 1, i, k, hi, h => by
    unfold waits at h
    cases ho : ops[i]? with
    | none => rw [ho] at h; cases h
    | some o =>
      rw [ho] at h
      obtain ⟨e, he, hb⟩ := Array.any_eq_true'.1 h
      simp only [Bool.and_eq_true, Bool.or_eq_true, beq_iff_eq] at hb
      have h1 := hs i o ho hi e he hb.1
      rcases hb.2 with h2 | h2
      · rw [← h2]; exact h1
      · exact waits_listed hs f e.on k h1 h2
theorem waits_ready {md : Region.Mode} {ops : Array Oper} {listed : Array Bool} (hs : Shut md ops listed) {f i k : Nat} (hi : i ∈ Region.ready md ops listed) (h : waits md ops f i k = true) : listed.getD k false = true := by
  cases f with
  | zero => simp [waits] at h
  | succ f =>
    unfold waits at h
    obtain ⟨_, o, ho, hall⟩ := mem_ready.1 hi
    rw [ho] at h
    obtain ⟨e, he, hb⟩ := Array.any_eq_true'.1 h
    simp only [Bool.and_eq_true, Bool.or_eq_true, beq_iff_eq] at hb
    have h1 := hall e he hb.1
    rcases hb.2 with h2 | h2
    · rw [← h2]; exact h1
    · exact waits_listed hs f e.on k h1 h2
def wpAnyS (P : Program) (md : Region.Mode) (ops : Array Oper) (Q : Exit → Act → World → Prop) : (World → Prop) → Nat → Array Bool → Act → World → Prop
  | _, 0, listed, a, w => Region.ready md ops listed = [] ∧ Q .normal a w
  | S, fuel + 1, listed, a, w =>
    (Region.ready md ops listed = [] → Q .normal a w) ∧
    ∀ i ∈ Region.ready md ops listed, wpOp P ops Q i (fun a' w' => (loose md ops i = false → S w' ∧ wpAnyS P md ops Q S fuel (listed.setIfInBounds i true) a' w') ∧ (loose md ops i = true → ∃ S', wpAnyS P md ops Q S' fuel (listed.setIfInBounds i true) a' w')) a w
theorem step_S {P : Program} {md : Region.Mode} {ops : Array Oper} {Q : Exit → Act → World → Prop} {S : World → Prop} {fuel i : Nat} {listed : Array Bool} {a : Act} {w : World} (hS : loose md ops i = false → S w) (h : wpAnyS P md ops Q S fuel listed a w) :
    (loose md ops i = false → S w ∧ wpAnyS P md ops Q S fuel listed a w) ∧ (loose md ops i = true → ∃ S', wpAnyS P md ops Q S' fuel listed a w) := ⟨fun hh => ⟨hS hh, h⟩, fun _ => ⟨S, h⟩⟩
theorem step_any {P : Program} {md : Region.Mode} {ops : Array Oper} {Q : Exit → Act → World → Prop} {S : World → Prop} {fuel i : Nat} {listed : Array Bool} {a : Act} {w : World}
    (h : (loose md ops i = false → S w ∧ wpAnyS P md ops Q S fuel listed a w) ∧ (loose md ops i = true → ∃ S', wpAnyS P md ops Q S' fuel listed a w)) : ∃ S', wpAnyS P md ops Q S' fuel listed a w := by
  cases hl : loose md ops i
  · exact ⟨S, (h.1 hl).2⟩
  · exact h.2 hl
theorem wpAny_of_S {P : Program} {md : Region.Mode} {ops : Array Oper} {Q : Exit → Act → World → Prop} :
    ∀ (fuel : Nat) (S : World → Prop) (listed : Array Bool) (a : Act) (w : World), wpAnyS P md ops Q S fuel listed a w → wpAny P md ops Q fuel listed a w
  | 0, _, _, _, _, h => h
  | fuel + 1, S, _, _, _, h => ⟨h.1, fun i hi => wpOp_mono (fun a' w' h' => by obtain ⟨S', h2⟩ := step_any h'; exact wpAny_of_S fuel S' _ a' w' h2) (h.2 i hi)⟩
theorem not_loose {md : Region.Mode} {ops : Array Oper} {listed : Array Bool} {i j : Nat} {oi : Oper} (hs : Shut md ops listed) (hi : ops[i]? = some oi) (hui : i ∈ Region.ready md ops listed) (hj : j ∈ Region.ready md ops listed) (hne : j ≠ i) : loose md ops j = false := by
  have h0 := (mem_ready.1 hui).1
  cases hl : loose md ops j with
  | false => rfl
  | true =>
    exfalso
    have h0' := (mem_ready.1 hj).1
    simp only [loose, List.all_eq_true, List.mem_range, Bool.or_eq_true, beq_iff_eq] at hl
    rcases hl i (Array.getElem?_eq_some_iff.1 hi).1 with (h | h) | h
    · exact hne h.symm
    · have h1 := waits_ready hs hj h
      rcases Nat.lt_or_ge i listed.size with h' | h'
      · simp [h'] at h0 h1; rw [h0] at h1; cases h1
      · simp [Array.getElem?_eq_none h'] at h1
    · have h1 := waits_ready hs hui h
      rcases Nat.lt_or_ge j listed.size with h' | h'
      · simp [h'] at h0' h1; rw [h0'] at h1; cases h1
      · simp [Array.getElem?_eq_none h'] at h1
/-- In this state, in every world that meets S, operation o leaves v and does nothing else. -/
def YieldsS (P : Program) (ops : Array Oper) (S : World → Prop) (o : Oper) (v : Value) (a : Act) : Prop :=
  (Region.wanted o (yielded ops a.tmps) = true ∧ ∀ w, S w → (execOp a.eval o).run P w = .ok (.value v) w) ∨
  (Region.wanted o (yielded ops a.tmps) = false ∧ v = undef)
section draws
variable {P : Program} {ops : Array Oper} {Q : Exit → Act → World → Prop} {md : Region.Mode} {S : World → Prop}
theorem YieldsS.wpOp {i : Nat} {o : Oper} {v : Value} {a : Act} (hi : ops[i]? = some o) (hy : YieldsS P ops S o v a) {K : Act → World → Prop} {w : World} (hS : S w) (h : K (a.put o.dst v) w) : wpOp P ops Q i K a w := by
  unfold Go.wpOp
  simp only [hi]
  rcases hy with ⟨hw, hv⟩ | ⟨hw, rfl⟩
  · simp only [hw, if_true, Oper.wp, hv w hS, Oper.upon]; exact .inl h
  · simp only [hw, Bool.false_eq_true, if_false]; exact h
theorem YieldsS.same {o : Oper} {v : Value} {a a' : Act} (hy : YieldsS P ops S o v a) (he : execOp a'.eval o = execOp a.eval o) (hw : Region.wanted o (yielded ops a'.tmps) = Region.wanted o (yielded ops a.tmps)) : YieldsS P ops S o v a' := by
  unfold YieldsS at *
  rw [he, hw]
  exact hy
theorem wpOp_putS {j : Nat} {oi oj : Oper} {v : Value} (hj : ops[j]? = some oj) (hap : oi.apart ops oj = true) (hsi : ∀ cs b, oi.op ≠ .select cs b) (hsj : ∀ cs b, oj.op ≠ .select cs b)
    (hQ : ∀ c a w, Q (.panic c) (a.put oi.dst v) w → Q (.panic c) a w) {K : Act → World → Prop} {a : Act} {w : World} (hy : YieldsS P ops S oi v a) (h : wpOp P ops Q j K (a.put oi.dst v) w) :
    wpOp P ops Q j (fun a' w' => YieldsS P ops S oi v a' ∧ K (a'.put oi.dst v) w') a w := by
  obtain ⟨h1, h2, h3⟩ := Oper.apart_spec hap
  have keep : ∀ (a : Act), YieldsS P ops S oi v a → ∀ u, YieldsS P ops S oi v (a.put oj.dst u) := fun a hy u => hy.same (execOp_put oi hsi a oj.dst u h3) (wanted_put oi a oj.dst u h3)
  have keepD : ∀ d, YieldsS P ops S oi v { a with defers := d :: a.defers } := fun d => hy.same rfl rfl
  unfold wpOp at *
  simp only [hj] at *
  rw [wanted_put oj a oi.dst v h1] at h
  split
  · rename_i hw
    simp only [hw, if_true] at h
    rcases h with h | ⟨hasks, hlets⟩
    case inr => exact .inr ⟨by unfold Oper.asks at *; rw [execOp_put oj hsj a oi.dst v h1] at hasks; exact hasks, hlets⟩
    refine .inl ?_
    unfold Oper.wp at *
    rw [execOp_put oj hsj a oi.dst v h1] at h
    generalize (execOp a.eval oj).run P w = r at *
    cases r with
    | ok n w' =>
      cases n <;> simp only [Oper.upon] at h ⊢
      case value u => exact ⟨keep a hy u, by rw [← Act.put_comm a v u h2]; exact h⟩
      case skip => exact ⟨keep a hy _, by rw [← Act.put_comm a v undef h2]; exact h⟩
      case defer d =>
        refine ⟨keep _ (keepD d) _, ?_⟩
        rw [← Act.put_comm _ v undef h2, ← Act.put_defers]
        exact h
      case enter f args =>
        refine Calls.mono h fun x w'' he => ?_
        cases x with
        | returned u => exact ⟨keep a hy u, by rw [← Act.put_comm a v u h2]; exact he⟩
        | panicked c => exact hQ _ _ _ he
        | outgrown => exact he
      case row row args => exact Rows.mono h fun u w'' he => ⟨keep a hy u, by rw [← Act.put_comm a v u h2]; exact he⟩
    | halt x w' =>
      cases x <;> simp only [Oper.upon] at h ⊢
      case panic u => exact hQ _ _ _ h
  · rename_i hw
    simp only [hw] at h
    exact ⟨keep a hy _, by rw [← Act.put_comm a v undef h2]; exact h⟩
theorem wpAnyS_first {i : Nat} {oi : Oper} {v : Value} (hi : ops[i]? = some oi) (hsel : ∀ (j : Nat) (o : Oper) cs b, ops[j]? = some o → o.op ≠ .select cs b)
    (hQ : ∀ c a w, Q (.panic c) (a.put oi.dst v) w → Q (.panic c) a w) :
    ∀ (fuel : Nat) (listed : Array Bool) (a : Act) (w : World),
      (∀ j oj, ops[j]? = some oj → j ≠ i → listed.getD j true = false → (∀ e ∈ oj.after, Region.binds md e = true → e.on ≠ i) → oi.apart ops oj = true) →
      i ∈ Region.ready md ops listed → Shut md ops listed → YieldsS P ops S oi v a → S w →
      wpAnyS P md ops Q S fuel (listed.setIfInBounds i true) (a.put oi.dst v) w → wpAnyS P md ops Q S (fuel + 1) listed a w := by
  intro fuel
  induction fuel with
  | zero =>
    intro listed a w _ hr hsh hy hS H
    refine ⟨fun h => (by rw [h] at hr; cases hr), fun j hj => ?_⟩
    by_cases hji : j = i
    · subst hji; exact hy.wpOp hi hS (step_S (fun _ => hS) H)
    · have := ready_mono hj hji
      rw [H.1] at this
      cases this
  | succ fuel ih =>
    intro listed a w hfree hr hsh hy hS H
    refine ⟨fun h => (by rw [h] at hr; cases hr), fun j hj => ?_⟩
    by_cases hji : j = i
    · subst hji; exact hy.wpOp hi hS (step_S (fun _ => hS) H)
    · have h1 := H.2 j (ready_mono hj hji)
      obtain ⟨hjun, oj, hoj, hall⟩ := mem_ready.1 hj
      have hnot : ∀ e ∈ oj.after, Region.binds md e = true → e.on ≠ i := fun e he hb heq => by
        have h1 := hall e he hb
        have h0 := (mem_ready.1 hr).1
        rw [heq] at h1
        rcases Nat.lt_or_ge i listed.size with h' | h'
        · simp [h'] at h0 h1; rw [h0] at h1; cases h1
        · simp [Array.getElem?_eq_none h'] at h1
      have h2 := wpOp_putS hoj (hfree j oj hoj hji hjun hnot) (fun cs b => hsel i oi cs b hi) (fun cs b => hsel j oj cs b hoj) hQ hy h1
      have hfree' : ∀ k ok, ops[k]? = some ok → k ≠ i → (listed.setIfInBounds j true).getD k true = false →
          (∀ e ∈ ok.after, Region.binds md e = true → e.on ≠ i) → oi.apart ops ok = true := fun k ok hk hki hun hno => by
        refine hfree k ok hk hki ?_ hno
        by_cases hjk : j = k
        · subst hjk; exact hjun
        · rw [getD_set_ne true hjk] at hun; exact hun
      have hnl := not_loose hsh hi hr hj hji
      refine wpOp_mono (fun a' w' h3 => step_S (fun _ => (h3.2.1 hnl).1) (ih (listed.setIfInBounds j true) a' w' hfree' (ready_mono hr (Ne.symm hji)) (hsh.set hj) h3.1 (h3.2.1 hnl).1 ?_)) h2
      rw [Array.setIfInBounds_comm _ _ hji]
      exact (h3.2.1 hnl).2
theorem wpAnyS_take {i : Nat} {oi : Oper} {v : Value} {fuel : Nat} {listed : Array Bool} {a : Act} {w : World} (hi : ops[i]? = some oi)
    (hs : Region.noSelect ops = true) (hf : Region.free md ops listed i = true) (hr : (Region.ready md ops listed).contains i = true) (hsh : Shut md ops listed)
    (hQ : ∀ c a w, Q (.panic c) (a.put oi.dst v) w → Q (.panic c) a w) (hy : YieldsS P ops S oi v a) (hS : S w)
    (h : wpAnyS P md ops Q S fuel (listed.setIfInBounds i true) (a.put oi.dst v) w) : wpAnyS P md ops Q S (fuel + 1) listed a w :=
  wpAnyS_first hi (Region.noSelect_spec hs) hQ fuel listed a w (Region.free_spec hi hf) (by simpa using hr) hsh hy hS h
end draws

/-! ### a plan: which operation comes next; true: one that only reads, and is taken first -/
def planOk (ops : Array Oper) : List (Nat × Bool) → Nat → Array Bool → Bool
  | [], fuel, listed => (Region.ready .any ops listed).isEmpty && Nat.beq fuel 0
  | (i, q) :: r, fuel, listed =>
    match fuel with
    | 0 => false
    | fuel + 1 => (bif q then Region.free .any ops listed i && (Region.ready .any ops listed).contains i else (Region.ready .any ops listed) == [i]) && planOk ops r fuel (listed.setIfInBounds i true)
/-- The walk along a plan: S holds at each step. -/
def WS (P : Program) (n : Nat) (all : List Oper) (S : World → Prop) (K : Env → World → Prop) : List (Nat × Bool) → Env → World → Prop
  | pl, e, w => ∀ (a : Act) (Q : Exit → Act → World → Prop) (fuel : Nat) (listed : Array Bool), Agree n e a → (∀ a' w' e', Agree n e' a' → K e' w' → Q .normal a' w') → (∀ c a w, ¬ Q (.panic c) a w) →
      Region.noSelect all.toArray = true → Shut .any all.toArray listed → planOk all.toArray pl fuel listed = true → wpAnyS P .any all.toArray Q S fuel listed a w
section plan
variable {P : Program} {n : Nat} {all : List Oper} {S : World → Prop} {K : Env → World → Prop} {r : List (Nat × Bool)} {e : Env} {w : World} {i : Nat}
theorem WS_nil (h : K e w) : WS P n all S K [] e w := by
  intro a Q fuel listed ha hQ hp hs hsh hok
  simp only [planOk, Bool.and_eq_true, List.isEmpty_iff] at hok
  obtain rfl := Nat.eq_of_beq_eq_true hok.2
  exact ⟨hok.1, hQ a w e ha h⟩
theorem WS_quiet {d : Option Tmp} {op : Op} {ty : TypeId} {pos : String} {af : Array Edge} {g : Option (Nat × Bool)} {v : Value}
    (ho : nth all i = some ⟨d, op, ty, pos, af, g⟩) (hg : Wants all e g true) (hd : slotOk n d = true) (hS : S w) (h : ∀ w, S w → Does P op ty e w v w)
    (hr : WS P n all S K r (push d v e) w) : WS P n all S K ((i, true) :: r) e w := by
  intro a Q fuel listed ha hQ hp hs hsh hok
  cases fuel with
  | zero => simp [planOk] at hok
  | succ fuel =>
    simp only [planOk, cond_true, Bool.and_eq_true] at hok
    have hi : all.toArray[i]? = some ⟨d, op, ty, pos, af, g⟩ := by rw [nth_eq] at ho; simpa using ho
    have hin : i ∈ Region.ready .any all.toArray listed := by simpa using hok.1.2
    refine wpAnyS_take hi hs hok.1.1 hok.1.2 hsh (fun c a w h => absurd h (hp _ _ _)) (.inl ⟨Wants.wanted ha (o := ⟨d, op, ty, pos, af, g⟩) hg, fun w hw => h w hw a.eval d pos af g fun x u hx => ha.eval hx⟩) hS ?_
    exact hr _ Q fuel _ (ha.put d v hd) hQ hp hs (hsh.set hin) hok.2
theorem WS_off {d : Option Tmp} {op : Op} {ty : TypeId} {pos : String} {af : Array Edge} {g : Option (Nat × Bool)}
    (ho : nth all i = some ⟨d, op, ty, pos, af, g⟩) (hg : Wants all e g false) (hd : slotOk n d = true) (hS : S w)
    (hr : WS P n all S K r (push d undef e) w) : WS P n all S K ((i, true) :: r) e w := by
  intro a Q fuel listed ha hQ hp hs hsh hok
  cases fuel with
  | zero => simp [planOk] at hok
  | succ fuel =>
    simp only [planOk, cond_true, Bool.and_eq_true] at hok
    have hi : all.toArray[i]? = some ⟨d, op, ty, pos, af, g⟩ := by rw [nth_eq] at ho; simpa using ho
    have hin : i ∈ Region.ready .any all.toArray listed := by simpa using hok.1.2
    refine wpAnyS_take hi hs hok.1.1 hok.1.2 hsh (fun c a w h => absurd h (hp _ _ _)) (.inr ⟨Wants.wanted ha (o := ⟨d, op, ty, pos, af, g⟩) hg, rfl⟩) hS ?_
    exact hr _ Q fuel _ (ha.put d undef hd) hQ hp hs (hsh.set hin) hok.2
theorem WS_step {q : Exit → Act → World → Prop} {fuel : Nat} {listed : Array Bool} {a : Act} (hrd : Region.ready .any all.toArray listed = [i])
    (h : wpOp P all.toArray q i (fun a' w' => (loose .any all.toArray i = false → S w' ∧ wpAnyS P .any all.toArray q S fuel (listed.setIfInBounds i true) a' w') ∧ (loose .any all.toArray i = true → ∃ S', wpAnyS P .any all.toArray q S' fuel (listed.setIfInBounds i true) a' w')) a w) : wpAnyS P .any all.toArray q S (fuel + 1) listed a w := by
  refine ⟨fun h0 => ?_, fun j hj => ?_⟩
  · rw [hrd] at h0
    cases h0
  · rw [hrd] at hj
    obtain rfl : j = i := by simpa using hj
    exact h
theorem WS_off' {d : Option Tmp} {op : Op} {ty : TypeId} {pos : String} {af : Array Edge} {g : Option (Nat × Bool)}
    (ho : nth all i = some ⟨d, op, ty, pos, af, g⟩) (hg : Wants all e g false) (hd : slotOk n d = true) (hS : loose .any all.toArray i = false → S w)
    (hr : WS P n all S K r (push d undef e) w) : WS P n all S K ((i, false) :: r) e w := by
  intro a Q fuel listed ha hQ hp hs hsh hok
  cases fuel with
  | zero => simp [planOk] at hok
  | succ fuel =>
    simp only [planOk, cond_false, Bool.and_eq_true, beq_iff_eq] at hok
    have hi : all.toArray[i]? = some ⟨d, op, ty, pos, af, g⟩ := by rw [nth_eq] at ho; simpa using ho
    have hw : Region.wanted ⟨d, op, ty, pos, af, g⟩ (yielded all.toArray a.tmps) = false := Wants.wanted ha (o := ⟨d, op, ty, pos, af, g⟩) hg
    have hin : i ∈ Region.ready .any all.toArray listed := by rw [hok.1]; simp
    refine WS_step hok.1 ?_
    unfold wpOp
    simp only [hi, hw, Bool.false_eq_true, if_false]
    exact step_S hS (hr _ Q fuel _ (ha.put d undef hd) hQ hp hs (hsh.set hin) hok.2)
theorem WS_does {d : Option Tmp} {op : Op} {ty : TypeId} {pos : String} {af : Array Edge} {g : Option (Nat × Bool)} {v : Value} {w' : World}
    (ho : nth all i = some ⟨d, op, ty, pos, af, g⟩) (hg : Wants all e g true) (hd : slotOk n d = true) (h : Does P op ty e w v w') (hS : loose .any all.toArray i = false → S w')
    (hr : WS P n all S K r (push d v e) w') : WS P n all S K ((i, false) :: r) e w := by
  intro a Q fuel listed ha hQ hp hs hsh hok
  cases fuel with
  | zero => simp [planOk] at hok
  | succ fuel =>
    simp only [planOk, cond_false, Bool.and_eq_true, beq_iff_eq] at hok
    have hi : all.toArray[i]? = some ⟨d, op, ty, pos, af, g⟩ := by rw [nth_eq] at ho; simpa using ho
    have hw : Region.wanted ⟨d, op, ty, pos, af, g⟩ (yielded all.toArray a.tmps) = true := Wants.wanted ha (o := ⟨d, op, ty, pos, af, g⟩) hg
    have hin : i ∈ Region.ready .any all.toArray listed := by rw [hok.1]; simp
    refine WS_step hok.1 ?_
    unfold wpOp
    simp only [hi, hw, if_true]
    refine .inl ?_
    unfold Oper.wp
    rw [h a.eval d pos af g (fun x u hx => ha.eval hx)]
    exact step_S hS (hr _ Q fuel _ (ha.put d v hd) hQ hp hs (hsh.set hin) hok.2)
theorem WS_doesU {d : Option Tmp} {op : Op} {ty : TypeId} {pos : String} {af : Array Edge} {g : Option (Nat × Bool)} {w' : World}
    (ho : nth all i = some ⟨d, op, ty, pos, af, g⟩) (hg : Wants all e g true) (hd : slotOk n d = true) (h : DoesU P op ty e w w') (hS : loose .any all.toArray i = false → S w')
    (hr : WS P n all S K r (push d undef e) w') : WS P n all S K ((i, false) :: r) e w := by
  intro a Q fuel listed ha hQ hp hs hsh hok
  cases fuel with
  | zero => simp [planOk] at hok
  | succ fuel =>
    simp only [planOk, cond_false, Bool.and_eq_true, beq_iff_eq] at hok
    have hi : all.toArray[i]? = some ⟨d, op, ty, pos, af, g⟩ := by rw [nth_eq] at ho; simpa using ho
    have hw : Region.wanted ⟨d, op, ty, pos, af, g⟩ (yielded all.toArray a.tmps) = true := Wants.wanted ha (o := ⟨d, op, ty, pos, af, g⟩) hg
    have hin : i ∈ Region.ready .any all.toArray listed := by rw [hok.1]; simp
    refine WS_step hok.1 ?_
    unfold wpOp
    simp only [hi, hw, if_true]
    refine .inl ?_
    unfold Oper.wp
    rw [h a.eval d pos af g (fun x u hx => ha.eval hx)]
    exact step_S hS (hr _ Q fuel _ (ha.put d undef hd) hQ hp hs (hsh.set hin) hok.2)
theorem WS_call {d : Option Tmp} {op : Op} {ty : TypeId} {pos : String} {af : Array Edge} {g : Option (Nat × Bool)} {f : FuncId} {args : List Value} {R : Value → World → Prop}
    (ho : nth all i = some ⟨d, op, ty, pos, af, g⟩) (hg : Wants all e g true) (hd : slotOk n d = true) (h : Enters P op ty e f args) (hc : CV P f args w R) (hS : ∀ v w', R v w' → loose .any all.toArray i = false → S w')
    (hr : ∀ v w', R v w' → WS P n all S K r (push d v e) w') : WS P n all S K ((i, false) :: r) e w := by
  intro a Q fuel listed ha hQ hp hs hsh hok
  cases fuel with
  | zero => simp [planOk] at hok
  | succ fuel =>
    simp only [planOk, cond_false, Bool.and_eq_true, beq_iff_eq] at hok
    have hi : all.toArray[i]? = some ⟨d, op, ty, pos, af, g⟩ := by rw [nth_eq] at ho; simpa using ho
    have hw : Region.wanted ⟨d, op, ty, pos, af, g⟩ (yielded all.toArray a.tmps) = true := Wants.wanted ha (o := ⟨d, op, ty, pos, af, g⟩) hg
    have hin : i ∈ Region.ready .any all.toArray listed := by rw [hok.1]; simp
    refine WS_step hok.1 ?_
    unfold wpOp
    simp only [hi, hw, if_true]
    refine .inl ?_
    unfold Oper.wp
    rw [h a.eval d pos af g w (fun x u hx => ha.eval hx)]
    refine Calls.mono hc fun x w' hx => ?_
    cases x with
    | returned v => exact step_S (hS v w' hx) (hr v w' hx _ Q fuel _ (ha.put d v hd) hQ hp hs (hsh.set hin) hok.2)
    | panicked c => exact hx.elim
    | outgrown => exact hx.elim
/-- The next operation, laid open. -/
def WO (P : Program) (n : Nat) (all : List Oper) (S : World → Prop) (K : Env → World → Prop) (i : Nat) (q : Bool) (r : List (Nat × Bool)) (o : Oper) (e : Env) (w : World) : Prop := nth all i = some o → WS P n all S K ((i, q) :: r) e w
theorem WS_next {q : Bool} {o : Oper} (ho : nth all i = some o) (h : WO P n all S K i q r o e w) : WS P n all S K ((i, q) :: r) e w := h ho
theorem WO_quiet {d : Option Tmp} {op : Op} {ty : TypeId} {pos : String} {af : Array Edge} {g : Option (Nat × Bool)} {v : Value}
    (hg : Wants all e g true) (hd : slotOk n d = true) (hS : S w) (h : ∀ w, S w → Does P op ty e w v w)
    (hr : WS P n all S K r (push d v e) w) : WO P n all S K i true r ⟨d, op, ty, pos, af, g⟩ e w := fun ho => WS_quiet ho hg hd hS h hr
theorem WO_off {q : Bool} {d : Option Tmp} {op : Op} {ty : TypeId} {pos : String} {af : Array Edge} {g : Option (Nat × Bool)}
    (hg : Wants all e g false) (hd : slotOk n d = true) (hS : S w) (hr : WS P n all S K r (push d undef e) w) : WO P n all S K i q r ⟨d, op, ty, pos, af, g⟩ e w := fun ho => by
  cases q
  · exact WS_off' ho hg hd (fun _ => hS) hr
  · exact WS_off ho hg hd hS hr
theorem WO_does {d : Option Tmp} {op : Op} {ty : TypeId} {pos : String} {af : Array Edge} {g : Option (Nat × Bool)} {v : Value} {w' : World}
    (hg : Wants all e g true) (hd : slotOk n d = true) (h : Does P op ty e w v w') (hS : loose .any all.toArray i = false → S w')
    (hr : WS P n all S K r (push d v e) w') : WO P n all S K i false r ⟨d, op, ty, pos, af, g⟩ e w := fun ho => WS_does ho hg hd h hS hr
theorem WO_doesU {d : Option Tmp} {op : Op} {ty : TypeId} {pos : String} {af : Array Edge} {g : Option (Nat × Bool)} {w' : World}
    (hg : Wants all e g true) (hd : slotOk n d = true) (h : DoesU P op ty e w w') (hS : loose .any all.toArray i = false → S w')
    (hr : WS P n all S K r (push d undef e) w') : WO P n all S K i false r ⟨d, op, ty, pos, af, g⟩ e w := fun ho => WS_doesU ho hg hd h hS hr
theorem WO_call {d : Option Tmp} {op : Op} {ty : TypeId} {pos : String} {af : Array Edge} {g : Option (Nat × Bool)} {f : FuncId} {args : List Value} {R : Value → World → Prop}
    (hg : Wants all e g true) (hd : slotOk n d = true) (h : Enters P op ty e f args) (hc : CV P f args w R) (hS : ∀ v w', R v w' → loose .any all.toArray i = false → S w')
    (hr : ∀ v w', R v w' → WS P n all S K r (push d v e) w') : WO P n all S K i false r ⟨d, op, ty, pos, af, g⟩ e w := fun ho => WS_call ho hg hd h hc hS hr
theorem WC_draws {id : Nat} {l : List Oper} {Q : Post} (pl : List (Nat × Bool)) (S : World → Prop) (hm : P.follows .mixedOrders = true) (hns : Region.noSelect l.toArray = true)
    (hok : planOk l.toArray pl l.toArray.size (Array.replicate l.toArray.size false) = true) (h : WS P n l S (fun e w => Q .normal e w) pl e w.drew) : WC P n (.region id l.toArray true) Q e w :=
  fun a ha => wp_region_any hm (wpAny_of_S _ _ _ _ _ (h a _ _ _ ha (fun a' w' e' ha' hK => ⟨e', ha', hK⟩) lift_panic hns (Shut.init _ _ _) hok))
end plan
end SC
end Go.Proofs.YtclihihdgodloaaDoor
end
section
/- The calculus, third part: what single operations do. -/
set_option linter.unusedVariables false
set_option linter.unusedSimpArgs false
namespace Go.Proofs.YtclihihdgodloaaDoor
namespace SC

/-- What is known of a type. -/
class Ty (P : Program) (t : TypeId) (d : outParam TypeDesc) (sz : outParam Nat) (z : outParam Value) (bytes : outParam Nat) (agg : outParam Bool) : Prop where
  und : P.underlying t = some d
  info : (P.info? t).map (fun i => (i.zero, i.size, i.bytes)) = some (some z, sz, bytes)
  zero : ∀ w, (zeroValue t).run P w = .ok z w
  size : ∀ w, (sizeOf t).run P w = .ok sz w
  agg : ∀ w, (isAgg t).run P w = .ok agg w
class Fn (P : Program) (f : FuncId) : Prop where
  call : ∀ args w, (callFunc f args).run P w = .ok (.enter f args) w
/-- Where a field of a struct lies. -/
class Fld (P : Program) (t : TypeId) (i : Nat) (off : outParam Nat) : Prop where
  place : ∃ fs f s, P.underlying t = some (.struct fs) ∧ fs[i]? = some f ∧ f.offset = off ∧ (∀ w, (sizeOf f.type).run P w = .ok s w) ∧ s ≠ 0
theorem w0 {l : List Oper} {e : Env} : Wants l e none true := rfl

section
variable {P : Program} {ty : TypeId} {e : Env} {w : World} {x y z : Operand} {v u : Value} {t t' : TypeId}
theorem does_move (h : ev e x = some v) : Does P (.move x) ty e w v w := by
  intro ρ dst pos af g hρ; simp [execOp, hρ x v h]
theorem does_assign (h : ev e x = some v) : Does P (.assign x) ty e w v w := by
  intro ρ dst pos af g hρ; simp [execOp, hρ x v h]
theorem does_pick_t (h : ev e x = some (.bool true)) (h1 : ev e y = some v) : Does P (.pick x y z) ty e w v w := by
  intro ρ dst pos af g hρ; simp [execOp, hρ _ _ h, hρ _ _ h1, asBool]
theorem does_pick_f (h : ev e x = some (.bool false)) (h1 : ev e z = some v) : Does P (.pick x y z) ty e w v w := by
  intro ρ dst pos af g hρ; simp [execOp, hρ _ _ h, hρ _ _ h1, asBool]
theorem does_extract {vs : Array Value} {i : Nat} (h : ev e x = some (.tuple vs)) (h1 : vs[i]? = some v) : Does P (.extract x i) ty e w v w := by
  intro ρ dst pos af g hρ; simp [execOp, hρ _ _ h, Instr.extract, h1]
theorem does_nil {p : Addr} (h : ev e x = some (.pointer (some p))) : Does P (.nilCheck x) ty e w (.pointer (some p)) w := by
  intro ρ dst pos af g hρ; simp [execOp, hρ _ _ h]
theorem wrap64_id {n : Int} (h1 : -9223372036854775808 ≤ n) (h2 : n ≤ 9223372036854775807) : IntKind.i64.wrap n = n := by rw [IntKind.wrap_i64]; omega
theorem does_addW {k : IntKind} {a b : Int} (h : ev e x = some (.int k a)) (h1 : ev e y = some (.int k b)) : Does P (.binOp .add t x y t') ty e w (.int k (k.wrap (a + b))) w := by
  intro ρ dst pos af g hρ; simp [execOp, hρ _ _ h, hρ _ _ h1, eqGuard, binOp, Op.intArith]
theorem does_subW {k : IntKind} {a b : Int} (h : ev e x = some (.int k a)) (h1 : ev e y = some (.int k b)) : Does P (.binOp .sub t x y t') ty e w (.int k (k.wrap (a - b))) w := by
  intro ρ dst pos af g hρ; simp [execOp, hρ _ _ h, hρ _ _ h1, eqGuard, binOp, Op.intArith]
theorem does_mulW {k : IntKind} {a b : Int} (h : ev e x = some (.int k a)) (h1 : ev e y = some (.int k b)) : Does P (.binOp .mul t x y t') ty e w (.int k (k.wrap (a * b))) w := by
  intro ρ dst pos af g hρ; simp [execOp, hρ _ _ h, hρ _ _ h1, eqGuard, binOp, Op.intArith]
theorem does_add {a b : Int} (h : ev e x = some (.int .i64 a)) (h1 : ev e y = some (.int .i64 b)) (h2 : -9223372036854775808 ≤ a + b) (h3 : a + b ≤ 9223372036854775807) : Does P (.binOp .add t x y t') ty e w (.int .i64 (a + b)) w := by
  have := does_addW (P := P) (ty := ty) (w := w) (t := t) (t' := t') h h1; rwa [wrap64_id h2 h3] at this
theorem does_sub {a b : Int} (h : ev e x = some (.int .i64 a)) (h1 : ev e y = some (.int .i64 b)) (h2 : -9223372036854775808 ≤ a - b) (h3 : a - b ≤ 9223372036854775807) : Does P (.binOp .sub t x y t') ty e w (.int .i64 (a - b)) w := by
  have := does_subW (P := P) (ty := ty) (w := w) (t := t) (t' := t') h h1; rwa [wrap64_id h2 h3] at this
theorem does_mul {a b : Int} (h : ev e x = some (.int .i64 a)) (h1 : ev e y = some (.int .i64 b)) (h2 : -9223372036854775808 ≤ a * b) (h3 : a * b ≤ 9223372036854775807) : Does P (.binOp .mul t x y t') ty e w (.int .i64 (a * b)) w := by
  have := does_mulW (P := P) (ty := ty) (w := w) (t := t) (t' := t') h h1; rwa [wrap64_id h2 h3] at this
theorem does_quo {a b : Int} (h : ev e x = some (.int .i64 a)) (h1 : ev e y = some (.int .i64 b)) (h2 : 0 ≤ a) (h3 : a ≤ 9223372036854775807) (h4 : 0 < b) : Does P (.binOp .quo t x y t') ty e w (.int .i64 (a / b)) w := by
  intro ρ dst pos af g hρ
  have h5 : a.tdiv b = a / b := Int.tdiv_eq_ediv_of_nonneg h2
  have h6 : 0 ≤ a / b := Int.ediv_nonneg h2 (by omega)
  have h7 : a / b ≤ a := Int.ediv_le_self b h2
  have h8 : b ≠ 0 := by omega
  simp [execOp, hρ _ _ h, hρ _ _ h1, eqGuard, binOp, Op.intDiv, h8, h5, wrap64_id (n := a / b) (by omega) (by omega)]
theorem does_remT {a b : Int} (h : ev e x = some (.int .i64 a)) (h1 : ev e y = some (.int .i64 b)) (h4 : b ≠ 0) : Does P (.binOp .rem t x y t') ty e w (.int .i64 (a.tmod b)) w := by
  intro ρ dst pos af g hρ
  simp [execOp, hρ _ _ h, hρ _ _ h1, eqGuard, binOp, Op.intDiv, h4]
theorem does_rem {a b : Int} (h : ev e x = some (.int .i64 a)) (h1 : ev e y = some (.int .i64 b)) (h2 : 0 ≤ a) (h4 : 0 < b) : Does P (.binOp .rem t x y t') ty e w (.int .i64 (a % b)) w := by
  have := does_remT (P := P) (ty := ty) (w := w) (t := t) (t' := t') h h1 (by omega); rwa [Int.tmod_eq_emod_of_nonneg h2] at this
theorem does_shr1 {a : Int} {k : IntKind} (h : ev e x = some (.int .i64 a)) (h1 : ev e y = some (.int k 1)) : Does P (.binOp .shr t x y t') ty e w (.int .i64 (a / 2)) w := by
  intro ρ dst pos af g hρ
  have : a.fdiv 2 = a / 2 := Int.fdiv_eq_ediv_of_nonneg a (by decide)
  simp [execOp, hρ _ _ h, hρ _ _ h1, eqGuard, binOp, Op.shift, IntKind.bits, this]
theorem ofInt_nat (a : Int) : ((BitVec.ofInt 64 a).toNat : Int) = a % 18446744073709551616 := by rw [BitVec.toNat_ofInt]; omega
theorem bv_and1 (a : Int) : IntKind.i64.wrap ((BitVec.ofInt 64 a &&& 1#64).toNat : Int) = a % 2 := by
  have h2 : (BitVec.ofInt 64 a &&& 1#64).toNat = (BitVec.ofInt 64 a).toNat % 2 := by simp [BitVec.toNat_and, Nat.and_one_is_mod]
  rw [h2, IntKind.wrap_i64]
  have h3 := ofInt_nat a
  omega
theorem nat_xor1 (n : Nat) : n ^^^ 1 = n + 1 - 2 * (n % 2) := by
  have h1 : (n ^^^ 1) / 2 = n / 2 := by rw [Nat.xor_div_two]; simp
  have h2 : (n ^^^ 1) % 2 = (n + 1) % 2 := by
    have := Nat.xor_mod_two_eq_one (a := n) (b := 1)
    omega
  omega
theorem bv_xor1 (a : Int) (h1 : -9223372036854775808 ≤ a) (h2 : a ≤ 9223372036854775807) : IntKind.i64.wrap ((BitVec.ofInt 64 a ^^^ 1#64).toNat : Int) = a + 1 - 2 * (a % 2) := by
  have h3 := ofInt_nat a
  have h4 : (BitVec.ofInt 64 a ^^^ 1#64).toNat = (BitVec.ofInt 64 a).toNat + 1 - 2 * ((BitVec.ofInt 64 a).toNat % 2) := by rw [BitVec.toNat_xor]; exact nat_xor1 _
  rw [h4, IntKind.wrap_i64]
  omega
theorem does_and1 {a : Int} (h : ev e x = some (.int .i64 a)) (h1 : ev e y = some (.int .i64 1)) : Does P (.binOp .and t x y t') ty e w (.int .i64 (a % 2)) w := by
  intro ρ dst pos af g hρ
  have := bv_and1 a
  simp only [execOp, hρ _ _ h, hρ _ _ h1, eqGuard, binOp, Op.intBits, IntKind.bits]
  simp
  exact this
theorem does_xor1 {a : Int} (h : ev e x = some (.int .i64 a)) (h1 : ev e y = some (.int .i64 1)) (h2 : -9223372036854775808 ≤ a) (h3 : a ≤ 9223372036854775807) : Does P (.binOp .xor t x y t') ty e w (.int .i64 (a + 1 - 2 * (a % 2))) w := by
  intro ρ dst pos af g hρ
  have := bv_xor1 a h2 h3
  simp only [execOp, hρ _ _ h, hρ _ _ h1, eqGuard, binOp, Op.intBits, IntKind.bits]
  simp
  exact this
/-! ### comparisons: the value as a Bool -/
theorem does_lss {k : IntKind} {a b : Int} (h : ev e x = some (.int k a)) (h1 : ev e y = some (.int k b)) (c : Bool) (hc : decide (a < b) = c) : Does P (.binOp .lss t x y t') ty e w (.bool c) w := by
  subst hc; intro ρ dst pos af g hρ; simp [execOp, hρ _ _ h, hρ _ _ h1, eqGuard, binOp, Op.intCmp]
theorem does_leq {k : IntKind} {a b : Int} (h : ev e x = some (.int k a)) (h1 : ev e y = some (.int k b)) (c : Bool) (hc : decide (a ≤ b) = c) : Does P (.binOp .leq t x y t') ty e w (.bool c) w := by
  subst hc; intro ρ dst pos af g hρ; simp [execOp, hρ _ _ h, hρ _ _ h1, eqGuard, binOp, Op.intCmp]
theorem does_gtr {k : IntKind} {a b : Int} (h : ev e x = some (.int k a)) (h1 : ev e y = some (.int k b)) (c : Bool) (hc : decide (b < a) = c) : Does P (.binOp .gtr t x y t') ty e w (.bool c) w := by
  subst hc; intro ρ dst pos af g hρ; simp [execOp, hρ _ _ h, hρ _ _ h1, eqGuard, binOp, Op.intCmp]
theorem does_geq {k : IntKind} {a b : Int} (h : ev e x = some (.int k a)) (h1 : ev e y = some (.int k b)) (c : Bool) (hc : decide (b ≤ a) = c) : Does P (.binOp .geq t x y t') ty e w (.bool c) w := by
  subst hc; intro ρ dst pos af g hρ; simp [execOp, hρ _ _ h, hρ _ _ h1, eqGuard, binOp, Op.intCmp]
theorem does_eql {k : IntKind} {a b : Int} (h : ev e x = some (.int k a)) (h1 : ev e y = some (.int k b)) (c : Bool) (hc : decide (a = b) = c) : Does P (.binOp .eql t x y t') ty e w (.bool c) w := by
  subst hc; intro ρ dst pos af g hρ; simp [execOp, hρ _ _ h, hρ _ _ h1, eqGuard, binOp, Op.intCmp, Bool.beq_eq_decide_eq]
theorem does_neq {k : IntKind} {a b : Int} (h : ev e x = some (.int k a)) (h1 : ev e y = some (.int k b)) (c : Bool) (hc : decide (a ≠ b) = c) : Does P (.binOp .neq t x y t') ty e w (.bool c) w := by
  subst hc; intro ρ dst pos af g hρ; simp [execOp, hρ _ _ h, hρ _ _ h1, eqGuard, binOp, Op.intCmp, bne, Bool.beq_eq_decide_eq]
theorem equal_bool {P : Program} {t : TypeId} (hu : P.underlying t = some .bool) (a b : Bool) (w : World) : (Op.equal t (.bool a) (.bool b)).run P w = .ok (a == b) w := by
  unfold Op.equal
  rw [show Op.maxDepth = 9999 + 1 from rfl, Op.equalIn]
  simp [run_underlying hu]
theorem equal_nil {P : Program} {t t0 : TypeId} (hu : P.underlying t = some (.slice t0)) (A : Option Addr) (l c : Nat) (w : World) : (Op.equal t (.slice A l c) (.slice none 0 0)).run P w = .ok A.isNone w := by
  unfold Op.equal
  rw [show Op.maxDepth = 9999 + 1 from rfl, Op.equalIn]
  cases A <;> simp [run_underlying hu]
theorem does_neqB {a b : Bool} (hu : P.underlying t = some .bool) (h : ev e x = some (.bool a)) (h1 : ev e y = some (.bool b)) : Does P (.binOp .neq t x y t') ty e w (.bool (a != b)) w := by
  intro ρ dst pos af g hρ; simp [execOp, hρ _ _ h, hρ _ _ h1, eqGuard, binOp, equal_bool hu, bne]
theorem does_not {a : Bool} (h : ev e x = some (.bool a)) : Does P (.unOp .not t x) ty e w (.bool (!a)) w := by
  intro ρ dst pos af g hρ; simp [execOp, hρ _ _ h, Op.unary]
theorem does_eqS {a b : ByteArray} (h : ev e x = some (.string a)) (h1 : ev e y = some (.string b)) (c : Bool) (hc : (a.toList == b.toList) = c) : Does P (.binOp .eql t x y t') ty e w (.bool c) w := by
  subst hc; intro ρ dst pos af g hρ; simp [execOp, hρ _ _ h, hρ _ _ h1, eqGuard, binOp, Op.stringOp]
theorem does_eqL0 {t0 : TypeId} {A : Option Addr} {l c : Nat} (hu : P.underlying t = some (.slice t0)) (h : ev e x = some (.slice A l c)) (h1 : ev e y = some (.slice none 0 0)) : Does P (.binOp .eql t x y t') ty e w (.bool A.isNone) w := by
  intro ρ dst pos af g hρ
  simp [execOp, hρ _ _ h, hρ _ _ h1, eqGuard, binOp, equal_nil hu]
/-! ### addresses -/
theorem add_at (b o k : Nat) : (⟨b, o, none⟩ : Addr).add k = ⟨b, o + k, none⟩ := by unfold Addr.add; split <;> simp_all
theorem does_field {i off : Nat} [F : Fld P t i off] {b o : Nat} (h : ev e x = some (.pointer (some ⟨b, o, none⟩))) : Does P (.fieldAddr t x i) ty e w (.pointer (some ⟨b, o + off, none⟩)) w := by
  intro ρ dst pos af g hρ
  obtain ⟨fs, f, s, h1, h2, rfl, h3, h4⟩ := F.place
  simp [execOp, hρ _ _ h, Instr.fieldAt, run_underlying h1, h2, Instr.sureAddr, fieldPlace, h3, h4, add_at]
theorem does_fieldP {i off : Nat} [F : Fld P t i off] {p : Addr} (h : ev e x = some (.pointer (some p))) : Does P (.fieldAddr t x i) ty e w (.pointer (some (p.add off))) w := by
  intro ρ dst pos af g hρ
  obtain ⟨fs, f, s, h1, h2, rfl, h3, h4⟩ := F.place
  simp [execOp, hρ _ _ h, Instr.fieldAt, run_underlying h1, h2, Instr.sureAddr, fieldPlace, h3, h4]
theorem does_indexP {t0 : TypeId} {sz : Nat} {z : Value} {by_ : Nat} {ag : Bool} (hu : P.underlying t = some (.slice t0)) {d0 : TypeDesc} [T : Ty P t0 d0 sz z by_ ag] {p : Addr} {n c : Nat} {i : Int} {k : IntKind}
    (h : ev e x = some (.slice (some p) n c)) (h1 : ev e y = some (.int k i)) (h0 : 0 ≤ i) (h2 : i < n) : Does P (.indexAddr t x y) ty e w (.pointer (some (p.add (i.toNat * sz)))) w := by
  intro ρ dst pos af g hρ
  simp [execOp, hρ _ _ h, hρ _ _ h1, Instr.indexAt, asIntOf, run_underlying hu, h0, h2, T.size]
theorem does_indexAddr {t0 : TypeId} {sz : Nat} {z : Value} {by_ : Nat} {ag : Bool} (hu : P.underlying t = some (.slice t0)) {d0 : TypeDesc} [T : Ty P t0 d0 sz z by_ ag] {b o n c : Nat} {i : Int} {k : IntKind}
    (h : ev e x = some (.slice (some ⟨b, o, none⟩) n c)) (h1 : ev e y = some (.int k i)) (h0 : 0 ≤ i) (h2 : i < n) : Does P (.indexAddr t x y) ty e w (.pointer (some ⟨b, o + i.toNat * sz, none⟩)) w := by
  intro ρ dst pos af g hρ
  simp [execOp, hρ _ _ h, hρ _ _ h1, Instr.indexAt, asIntOf, run_underlying hu, h0, h2, T.size, add_at]
end
end SC
end Go.Proofs.YtclihihdgodloaaDoor
end
section
/- The calculus, fourth part: memory. -/
set_option linter.unusedVariables false
set_option linter.unusedSimpArgs false
namespace Go.Proofs.YtclihihdgodloaaDoor
namespace SC

theorem agg_cells (cs : Array Value) : (Value.agg cs).cells = cs := rfl
/-! ### what is known of blocks; what has changed -/
/-- Block b is a row of these cells, of elements of type t. -/
def Blk (w : World) (b : Nat) (t : TypeId) (cs : List Value) : Prop := w.heap[b]? = some (.cells cs.toArray t (0, 0))
/-- From w to w' nothing has changed but blocks of S and new ones. -/
structure Chg (w w' : World) (S : Nat → Prop) : Prop where
  os : w'.os = w.os
  tape : w'.tape = w.tape
  output : w'.output = w.output
  size : w.heap.size ≤ w'.heap.size
  block : ∀ k, k < w.heap.size → ¬ S k → w'.heap[k]? = w.heap[k]?
def none_ : Nat → Prop := fun _ => False
theorem Chg.refl (w : World) (S : Nat → Prop) : Chg w w S := ⟨rfl, rfl, rfl, Nat.le_refl _, fun _ _ _ => rfl⟩
theorem Chg.trans {w w1 w2 : World} {S T : Nat → Prop} (h : Chg w w1 S) (h' : Chg w1 w2 T) (hT : ∀ k, k < w.heap.size → T k → S k) : Chg w w2 S :=
  ⟨h'.os.trans h.os, h'.tape.trans h.tape, h'.output.trans h.output, Nat.le_trans h.size h'.size,
   fun k hk hS => (h'.block k (Nat.lt_of_lt_of_le hk h.size) (fun ht => hS (hT k hk ht))).trans (h.block k hk hS)⟩
theorem Chg.mono {w w' : World} {S T : Nat → Prop} (h : Chg w w' S) (hT : ∀ k, S k → T k) : Chg w w' T := ⟨h.os, h.tape, h.output, h.size, fun k hk hn => h.block k hk fun hs => hn (hT k hs)⟩
theorem Chg.alloc (w : World) (o : Obj) (S : Nat → Prop) : Chg w (w.alloc o) S := ⟨rfl, rfl, rfl, by simp, fun k hk _ => heap_alloc_old w o hk⟩
theorem Chg.drew (w : World) (S : Nat → Prop) : Chg w w.drew S := ⟨rfl, rfl, rfl, Nat.le_refl _, fun _ _ _ => rfl⟩
theorem Chg.setRow (w : World) (g : Nat) (cs : Array Value) {S : Nat → Prop} (h : S g) : Chg w (w.setRow g cs) S :=
  ⟨rfl, rfl, rfl, by simp [World.setRow], fun k hk hn => setRow_other w g k cs (fun e => hn (e ▸ h))⟩
theorem Chg.setCell (w : World) (a : Addr) (v : Value) {S : Nat → Prop} (h : S a.block) : Chg w (w.setCell a v) S :=
  ⟨rfl, rfl, rfl, by simp, fun k hk hn => by
    have : k ≠ a.block := fun e => hn (e ▸ h)
    simp [World.setCell, Array.getElem?_modify, Ne.symm this]⟩
theorem Chg.of_grown {w w' : World} {row : Option Nat} (h : w.grownBy w' row) : Chg w w' (fun k => row = some k) := ⟨h.os, h.tape, h.output, h.size, fun k hk hn => h.block k hk (fun e => hn e.symm)⟩
theorem Chg.below {w w' : World} {S : Nat → Prop} (h : Chg w w' S) {B : Nat} (hB : B ≤ w.heap.size) (hS : ∀ k, k < B → ¬ S k) : Go.RowKit.Below B w w' := ⟨h.os, h.tape, h.output, h.size, fun k hk => h.block k (Nat.lt_of_lt_of_le hk hB) (hS k hk)⟩
theorem Blk.lt {w : World} {b : Nat} {t : TypeId} {cs : List Value} (h : Blk w b t cs) : b < w.heap.size := (Array.getElem?_eq_some_iff.1 h).1
theorem Blk.chg {w w' : World} {b : Nat} {t : TypeId} {cs : List Value} {S : Nat → Prop} (h : Blk w b t cs) (hc : Chg w w' S) (hn : ¬ S b) : Blk w' b t cs := (hc.block b h.lt hn).trans h
theorem Blk.alloc {w : World} {b : Nat} {t : TypeId} {cs : List Value} (o : Obj) (h : Blk w b t cs) : Blk (w.alloc o) b t cs := h.chg (Chg.alloc w o none_) id
theorem Blk.drew {w : World} {b : Nat} {t : TypeId} {cs : List Value} (h : Blk w b t cs) : Blk w.drew b t cs := h
theorem Blk.new (w : World) (cs : List Value) (t : TypeId) : Blk (w.alloc (.cells cs.toArray t)) w.heap.size t cs := heap_alloc_new w _
theorem Blk.newA (w : World) (cs : Array Value) (t : TypeId) : Blk (w.alloc (.cells cs t)) w.heap.size t cs.toList := by simpa [Blk] using heap_alloc_new w (.cells cs t)
theorem Blk.set {w : World} {b : Nat} {t : TypeId} {cs : List Value} (h : Blk w b t cs) (cs' : List Value) : Blk (w.setRow b cs'.toArray) b t cs' := setRow_heap w b _ _ t _ h
theorem Blk.cell {w : World} {b : Nat} {t : TypeId} {cs : List Value} (h : Blk w b t cs) (j : Nat) : w.cell? ⟨b, j, none⟩ = cs[j]? := by rw [cell_of_row w b j _ t (0, 0) h]; simp
theorem Blk.frozen {w : World} {b : Nat} {t : TypeId} {cs : List Value} (h : Blk w b t cs) (j : Nat) : w.frozen? ⟨b, j, none⟩ = false := by
  have h' : w.heap[b]? = some (.cells cs.toArray t (0, 0)) := h
  simp [World.frozen?, h']
theorem cel_chg {w w' : World} {a : Addr} {v : Value} {S : Nat → Prop} (h : w.cell? a = some v) (hc : Chg w w' S) (hn : ¬ S a.block) : w'.cell? a = some v :=
  (World.cell?_of_block (hc.block a.block (World.block_lt_of_cell? _ _ h) hn)).trans h
theorem cel {w : World} {a : Addr} {v : Value} (o : Obj) (h : w.cell? a = some v) : (w.alloc o).cell? a = some v := (World.cell?_alloc_lt _ _ _ (World.block_lt_of_cell? _ _ h)).trans h

section
variable {P : Program} {ty : TypeId} {e : Env} {w : World} {x y z : Operand} {v u : Value} {t t' : TypeId} {d : TypeDesc} {sz : Nat} {zv : Value} {by_ : Nat} {ag : Bool}
/-! ### loads -/
theorem run_loadAt1 (T : Ty P t d sz zv by_ false) {p : Addr} (h : w.cell? p = some v) : (Instr.loadAt t (.pointer (some p))).run P w = .ok v w := by
  simp [Instr.loadAt, Instr.sureAddr, loadVar, T.agg, h]
theorem does_loadC [T : Ty P t d sz zv by_ false] {p : Addr} (h : ev e x = some (.pointer (some p))) (hc : w.cell? p = some v) : Does P (.load t x) ty e w v w := by
  intro ρ dst pos af g hρ
  simp [execOp, hρ _ _ h, run_loadAt1 T hc]
theorem does_load1 [T : Ty P t d sz zv by_ false] {b o : Nat} {t1 : TypeId} {cs : List Value} (h : ev e x = some (.pointer (some ⟨b, o, none⟩))) (hb : Blk w b t1 cs) (hv : cs[o]? = some v) : Does P (.load t x) ty e w v w :=
  does_loadC h ((hb.cell o).trans hv)
theorem run_loadAtA (T : Ty P t d sz zv by_ true) {b o : Nat} (cs : List Value) (hl : cs.length = sz) (h : ∀ j v, cs[j]? = some v → w.cell? ⟨b, o + j, none⟩ = some v) : (Instr.loadAt t (.pointer (some ⟨b, o, none⟩))).run P w = .ok (.agg cs.toArray) w := by
  have hr := run_loadCells_list (P := P) w ⟨b, o, none⟩ cs (fun j v hv => by rw [add_at]; exact h j v hv)
  subst hl
  simp [Instr.loadAt, Instr.sureAddr, loadVar, T.agg, T.size, hr]
theorem does_loadR [T : Ty P t d sz zv by_ true] {b o : Nat} (cs : List Value) (h : ev e x = some (.pointer (some ⟨b, o, none⟩))) (hl : cs.length = sz) (hc : ∀ j v, cs[j]? = some v → w.cell? ⟨b, o + j, none⟩ = some v) : Does P (.load t x) ty e w (.agg cs.toArray) w := by
  intro ρ dst pos af g hρ
  simp [execOp, hρ _ _ h, run_loadAtA T cs hl hc]
theorem run_loadAtP (T : Ty P t d sz zv by_ true) {p : Addr} (cs : List Value) (hl : cs.length = sz) (h : ∀ j v, cs[j]? = some v → w.cell? (p.add j) = some v) : (Instr.loadAt t (.pointer (some p))).run P w = .ok (.agg cs.toArray) w := by
  have hr := run_loadCells_list (P := P) w p cs h
  subst hl
  simp [Instr.loadAt, Instr.sureAddr, loadVar, T.agg, T.size, hr]
theorem does_loadRP [T : Ty P t d sz zv by_ true] {p : Addr} (cs : List Value) (h : ev e x = some (.pointer (some p))) (hl : cs.length = sz) (hc : ∀ j v, cs[j]? = some v → w.cell? (p.add j) = some v) : Does P (.load t x) ty e w (.agg cs.toArray) w := by
  intro ρ dst pos af g hρ
  simp [execOp, hρ _ _ h, run_loadAtP T cs hl hc]
/-- A whole variable of a struct type. -/
theorem does_loadB [T : Ty P t d sz zv by_ true] {b : Nat} {t1 : TypeId} {cs : List Value} (h : ev e x = some (.pointer (some ⟨b, 0, none⟩))) (hb : Blk w b t1 cs) (hl : cs.length = sz) : Does P (.load t x) ty e w (.agg cs.toArray) w :=
  does_loadR cs h hl (fun j v hv => by rw [Nat.zero_add, hb.cell]; exact hv)
/-! ### stores -/
/-- The cells from o on are these. -/
def splice (cs : List Value) (o : Nat) (vs : List Value) : List Value := cs.take o ++ vs ++ cs.drop (o + vs.length)
theorem does_store1 [T : Ty P t d 1 zv by_ ag] {b o : Nat} {t1 : TypeId} {cs : List Value} (h : ev e x = some (.pointer (some ⟨b, o, none⟩))) (h1 : ev e y = some v) (hb : Blk w b t1 cs) (hlt : o < cs.length) (hv : v.cells = #[v]) (h2 : v.oneCell' = true) :
    DoesU P (.store t x y) ty e w (w.setRow b (cs.set o v).toArray) := by
  intro ρ dst pos af g hρ
  have hs := run_storeCells_at P b o t1 [v] 0 cs.toArray w hb (by simp; omega) (by simpa using h2)
  have e1 : (cs.set o v) = cs.take (o + 0) ++ [v] ++ cs.drop (o + 0 + 1) := by
    simp only [Nat.add_zero, List.append_assoc, List.singleton_append]
    exact List.set_eq_take_append_cons_drop.trans (by rw [if_pos hlt])
  simp only [List.length_singleton] at hs
  rw [← e1] at hs
  simp [execOp, hρ _ _ h, hρ _ _ h1, Instr.storeAt, Instr.sureAddr, storeVar, hv, T.size, hs]
theorem does_storeA [T : Ty P t d sz zv by_ ag] {b o : Nat} {t1 : TypeId} {cs vs : List Value} (h : ev e x = some (.pointer (some ⟨b, o, none⟩))) (h1 : ev e y = some (.agg vs.toArray)) (hb : Blk w b t1 cs) (hl : vs.length = sz) (hlt : o + vs.length ≤ cs.length) (h2 : ∀ v ∈ vs, v.oneCell' = true) :
    DoesU P (.store t x y) ty e w (w.setRow b (splice cs o vs).toArray) := by
  intro ρ dst pos af g hρ
  have hs := run_storeCells_at P b o t1 vs 0 cs.toArray w hb (by simpa using hlt) h2
  simp only [Nat.add_zero] at hs
  subst hl
  simp [execOp, hρ _ _ h, hρ _ _ h1, Instr.storeAt, Instr.sureAddr, storeVar, Value.cells, T.size, splice]
  have hs' : (storeCells ⟨b, o, none⟩ vs).run P w = .ok () (w.setRow b (cs.take o ++ (vs ++ cs.drop (o + vs.length))).toArray) := by simpa using hs
  rw [hs']
  rfl
/-! ### new memory -/
theorem does_alloc [T : Ty P t d sz zv by_ ag] : Does P (.alloc t) ty e w (.pointer (some ⟨w.heap.size, 0, none⟩)) (w.alloc (.cells zv.cells t)) := by
  intro ρ dst pos af g hρ
  simp [execOp, Instr.alloc, T.zero, newVar, newRow]
theorem does_box (h : ev e x = some v) : Does P (.box t x) ty e w (.pointer (some ⟨w.heap.size, 0, none⟩)) (w.alloc (.cells v.cells t)) := by
  intro ρ dst pos af g hρ
  simp [execOp, Instr.box, hρ _ _ h, newVar, newRow]
theorem does_makeMap (r : Option Operand) (hr : r = none) : Does P (.makeMap t r) ty e w (.map (some w.heap.size)) (w.alloc (.map #[] 0)) := by
  subst hr
  intro ρ dst pos af g hρ
  simp [execOp, Instr.makeMap]
theorem does_makeSlice {t0 : TypeId} (hu : P.underlying t = some (.slice t0)) (T : Ty P t0 d sz zv by_ ag) {n : Nat} {k : IntKind} (h : ev e x = some (.int k (n : Int))) (hn : (by_ : Int) * n ≤ 281474976710656) (h63 : (n : Int) ≤ 9223372036854775807) :
    Does P (.makeSlice t x x) ty e w (.slice (some ⟨w.heap.size, 0, none⟩) n n) (w.alloc (.cells (madeCells zv.cells (n * sz)) t0)) := by
  intro ρ dst pos af g hρ
  obtain ⟨i, hi, hzz⟩ := Option.map_eq_some_iff.1 T.info
  simp only [Prod.mk.injEq] at hzz
  have hr := run_make (P := P) w t t0 i zv hu hi hzz.1 k k n n (by omega) (Int.le_refl _) (by rw [hzz.2.2]; exact hn) h63
  simp only [Int.toNat_natCast, hzz.2.1] at hr
  simp [execOp, hρ _ _ h, hr]
theorem does_len {t0 : TypeId} {A : Option Addr} {n c : Nat} (hu : P.underlying t = some (.slice t0)) (h : ev e x = some (.slice A n c)) : Does P (.call { callee := .builtin .len, args := #[x], argTypes := #[t] }) ty e w (.int .i64 (n : Int)) w := by
  intro ρ dst pos af g hρ
  simp [execOp, resolve, hρ _ _ h, invoke, builtin, Builtin.len_, run_underlying hu, goInt]
theorem does_lenS {s : ByteArray} (hu : P.underlying t = some .string) (h : ev e x = some (.string s)) : Does P (.call { callee := .builtin .len, args := #[x], argTypes := #[t] }) ty e w (.int .i64 (s.size : Int)) w := by
  intro ρ dst pos af g hρ
  simp [execOp, resolve, hρ _ _ h, invoke, builtin, Builtin.len_, run_underlying hu, goInt]
/-! ### append: the new value, where it lies -/
theorem does_appendC {t0 : TypeId} (base : Nat) (hu : P.underlying t = some (.slice t0)) (T : Ty P t0 d sz zv by_ ag) (hzs : zv.cells.size = sz) (hsz : 0 < sz) {n : Nat} {xs : List Value} (h : ev e x = some v) (hown : w.ownsRow base t0 sz v n xs)
    {b m c : Nat} {news : List Value} (h1 : ev e y = some (.slice (some ⟨b, 0, none⟩) m c)) (hl : news.length = m * sz) (hb : ∀ j u, news[j]? = some u → w.cell? ⟨b, j, none⟩ = some u) (ho : ∀ u ∈ news, u.oneCell' = true) (hby : (n + m) * by_ ≤ 140737488355328) (hby1 : 1 ≤ by_) (hbase : base ≤ w.heap.size) :
    ∃ v' w', Does P (.call { callee := .builtin .append, args := #[x, y], argTypes := #[t, t] }) ty e w v' w' ∧ w'.ownsRow base t0 sz v' (n + m) (xs ++ news) ∧ Chg w w' (fun k => v.ownBlock = some k) ∧
      (v'.ownBlock = v.ownBlock ∨ v'.ownBlock = some w.heap.size) ∧ (v' = .slice none 0 0 ↔ v = .slice none 0 0 ∧ m = 0) := by
  obtain ⟨i, hi, hzz⟩ := Option.map_eq_some_iff.1 T.info
  simp only [Prod.mk.injEq] at hzz
  have hle : n + m ≤ (n + m) * by_ := Nat.le_mul_of_pos_right _ hby1
  obtain ⟨v', w', hr, h2, h3, h4, h5⟩ := run_append_own_at (P := P) w base t ty t0 i zv sz by_ hu hi hzz.1 hzz.2.1 hzz.2.2 hzs hsz v n xs hown ⟨b, 0, none⟩ m c news hl
    (fun j u hj => by rw [add_at, Nat.zero_add]; exact hb j u hj) ho (by simp only [maxLen]; omega) hby hbase
  refine ⟨v', w', ?_, h2, (Chg.of_grown h3), h5, h4⟩
  intro ρ dst pos af g hρ
  simp [execOp, resolve, hρ _ _ h, hρ _ _ h1, invoke, builtin, hr]
theorem does_append {t0 : TypeId} (base : Nat) (hu : P.underlying t = some (.slice t0)) (T : Ty P t0 d sz zv by_ ag) (hzs : zv.cells.size = sz) (hsz : 0 < sz) {n : Nat} {xs : List Value} (h : ev e x = some v) (hown : w.ownsRow base t0 sz v n xs)
    {b m c : Nat} {news : List Value} (h1 : ev e y = some (.slice (some ⟨b, 0, none⟩) m c)) (hl : news.length = m * sz) (hb : Blk w b t' news) (ho : ∀ u ∈ news, u.oneCell' = true) (hby : (n + m) * by_ ≤ 140737488355328) (hby1 : 1 ≤ by_) (hbase : base ≤ w.heap.size) :
    ∃ v' w', Does P (.call { callee := .builtin .append, args := #[x, y], argTypes := #[t, t] }) ty e w v' w' ∧ w'.ownsRow base t0 sz v' (n + m) (xs ++ news) ∧ Chg w w' (fun k => v.ownBlock = some k) ∧
      (v'.ownBlock = v.ownBlock ∨ v'.ownBlock = some w.heap.size) ∧ (v' = .slice none 0 0 ↔ v = .slice none 0 0 ∧ m = 0) :=
  does_appendC base hu T hzs hsz h hown h1 hl (fun j u hj => by rw [hb.cell]; exact hj) ho hby hby1 hbase
/-! ### calls -/
theorem enters {f : FuncId} [F : Fn P f] {args : Array Operand} {ats : Array TypeId} {vs : List Value} (h : args.toList.map (ev e) = vs.map some) : Enters P (.call { callee := .value (.func f), args := args, argTypes := ats }) ty e f vs := by
  intro ρ dst pos af g w hρ
  have hargs : args.map ρ = vs.toArray := by
    apply Array.ext'
    simp only [Array.toList_map]
    have : ∀ (l : List Operand) (vs : List Value), l.map (ev e) = vs.map some → l.map ρ = vs := by
      intro l
      induction l with
      | nil => intro vs h; cases vs with
        | nil => rfl
        | cons => simp at h
      | cons a l ih => intro vs h; cases vs with
        | nil => simp at h
        | cons u us => simp only [List.map_cons, List.cons.injEq] at h; simp [hρ _ _ h.1, ih us h.2]
    exact this _ _ h
  have hf : ρ (.func f) = .func (.func f) #[] #[] := hρ _ _ rfl
  simp [execOp, resolve, hargs, hf, Deferred.ofValue, invoke, F.call]
/-- A call of a closure that lies in a slot. -/
theorem entersC {f : FuncId} [F : Fn P f] {args : Array Operand} {ats : Array TypeId} {vs : List Value} {cap : Array Value} (hx : ev e x = some (.func (.func f) #[] cap)) (h : args.toList.map (ev e) = vs.map some) :
    Enters P (.call { callee := .value x, args := args, argTypes := ats }) ty e f (vs ++ cap.toList) := by
  intro ρ dst pos af g w hρ
  have hargs : args.map ρ = vs.toArray := by
    apply Array.ext'
    simp only [Array.toList_map]
    have : ∀ (l : List Operand) (vs : List Value), l.map (ev e) = vs.map some → l.map ρ = vs := by
      intro l
      induction l with
      | nil => intro vs h; cases vs with
        | nil => rfl
        | cons => simp at h
      | cons a l ih => intro vs h; cases vs with
        | nil => simp at h
        | cons u us => simp only [List.map_cons, List.cons.injEq] at h; simp [hρ _ _ h.1, ih us h.2]
    exact this _ _ h
  have hf := hρ _ _ hx
  simp [execOp, resolve, hargs, hf, Deferred.ofValue, invoke, F.call]
theorem does_makeFunc {fn : Go.Fn} {cap : Array Operand} {vs : List Value} (h : cap.toList.map (ev e) = vs.map some) : Does P (.makeFunc fn #[] cap) ty e w (.func fn #[] vs.toArray) w := by
  intro ρ dst pos af g hρ
  have hargs : cap.map ρ = vs.toArray := by
    apply Array.ext'
    simp only [Array.toList_map]
    have : ∀ (l : List Operand) (vs : List Value), l.map (ev e) = vs.map some → l.map ρ = vs := by
      intro l
      induction l with
      | nil => intro vs h; cases vs with
        | nil => rfl
        | cons => simp at h
      | cons a l ih => intro vs h; cases vs with
        | nil => simp at h
        | cons u us => simp only [List.map_cons, List.cons.injEq] at h; simp [hρ _ _ h.1, ih us h.2]
    exact this _ _ h
  simp [execOp, hargs, Instr.makeFunc]
/-! ### slicing, indexing -/
theorem does_sliceTo {t0 : TypeId} (hu : P.underlying t = some (.slice t0)) (T : Ty P t0 d sz zv by_ ag) {A : Option Addr} {n c : Nat} {k : IntKind} {i : Int} (h : ev e x = some (.slice A n c)) (h1 : ev e y = some (.int k i)) (h0 : 0 ≤ i) (h2 : i ≤ c) :
    Does P (.slice t x none (some y) none) ty e w (.slice A i.toNat c) w := by
  intro ρ dst pos af g hρ
  have := run_sliceBound (P := P) (w := w) k i c .sliceAcap h0 h2
  cases A <;> simp [execOp, hρ _ _ h, hρ _ _ h1, Instr.sliceAt, Instr.slice, Instr.sliceBounds, run_underlying hu, T.size, this, Addr.add]
theorem does_indexS {s : ByteArray} (hu : P.underlying t = some .string) {k : IntKind} {i : Int} (h : ev e x = some (.string s)) (h1 : ev e y = some (.int k i)) (h0 : 0 ≤ i) (h2 : i < s.size) :
    Does P (.index t x y) ty e w (.int .u8 ((s.data.toList.map fun b => (b.toNat : Int)).getD i.toNat 0)) w := by
  intro ρ dst pos af g hρ
  have hlt : i.toNat < s.size := by omega
  have : s[i.toNat]? = some s[i.toNat] := by simp [hlt]
  have e2 : (s.data.toList.map fun b => (b.toNat : Int)).getD i.toNat 0 = (s[i.toNat].toNat : Int) := by
    have h3 : i.toNat < s.data.toList.length := by simpa using hlt
    simp only [List.getD_eq_getElem?_getD, List.getElem?_map, List.getElem?_eq_getElem h3]
    simp [ByteArray.getElem_eq_getElem_data]
  rw [e2]
  simp [execOp, hρ _ _ h, hρ _ _ h1, Instr.index, asIntOf, run_underlying hu, h0, this]
end
end SC
end Go.Proofs.YtclihihdgodloaaDoor
end
section
/- The calculus, fifth part: tests that part the ways. -/
set_option linter.unusedVariables false
namespace Go.Proofs.YtclihihdgodloaaDoor
namespace SC
section
variable {P : Program} {n : Nat} {all rest : List Oper} {K : Env → World → Prop} {e : Env} {w : World} {d : Option Tmp} {ty : TypeId} {pos : String} {af : Array Edge} {g : Option (Nat × Bool)} {t t' : TypeId} {x y : Operand} {k : IntKind} {a b : Int}
end
end SC
end Go.Proofs.YtclihihdgodloaaDoor
end
section
/- The calculus, sixth part: stepping rules; made by gen6.py. -/
set_option linter.unusedVariables false
namespace Go.Proofs.YtclihihdgodloaaDoor
namespace SC
def Pure (P : Program) (op : Op) (ty : TypeId) (e : Env) (v : Value) : Prop := ∀ w, Does P op ty e w v w
section
variable {P : Program} {ty : TypeId} {e : Env} {x y z : Operand} {v u : Value} {t t' : TypeId} {d : TypeDesc} {sz : Nat} {zv : Value} {by_ : Nat} {ag : Bool}
theorem p_move (h : ev e x = some v) : Pure P (.move x) ty e v := fun _ => does_move h
theorem p_assign (h : ev e x = some v) : Pure P (.assign x) ty e v := fun _ => does_assign h
theorem p_pick_t (h : ev e x = some (.bool true)) (h1 : ev e y = some v) : Pure P (.pick x y z) ty e v := fun _ => does_pick_t h h1
theorem p_pick_f (h : ev e x = some (.bool false)) (h1 : ev e z = some v) : Pure P (.pick x y z) ty e v := fun _ => does_pick_f h h1
theorem p_extract {vs : Array Value} {i : Nat} (h : ev e x = some (.tuple vs)) (h1 : vs[i]? = some v) : Pure P (.extract x i) ty e v := fun _ => does_extract h h1
theorem p_nil {p : Addr} (h : ev e x = some (.pointer (some p))) : Pure P (.nilCheck x) ty e (.pointer (some p)) := fun _ => does_nil h
theorem p_addW {k : IntKind} {a b : Int} (h : ev e x = some (.int k a)) (h1 : ev e y = some (.int k b)) : Pure P (.binOp .add t x y t') ty e (.int k (k.wrap (a + b))) := fun _ => does_addW h h1
theorem p_add {a b : Int} (h : ev e x = some (.int .i64 a)) (h1 : ev e y = some (.int .i64 b)) (h2 : -9223372036854775808 ≤ a + b) (h3 : a + b ≤ 9223372036854775807) : Pure P (.binOp .add t x y t') ty e (.int .i64 (a + b)) := fun _ => does_add h h1 h2 h3
theorem p_sub {a b : Int} (h : ev e x = some (.int .i64 a)) (h1 : ev e y = some (.int .i64 b)) (h2 : -9223372036854775808 ≤ a - b) (h3 : a - b ≤ 9223372036854775807) : Pure P (.binOp .sub t x y t') ty e (.int .i64 (a - b)) := fun _ => does_sub h h1 h2 h3
theorem p_mul {a b : Int} (h : ev e x = some (.int .i64 a)) (h1 : ev e y = some (.int .i64 b)) (h2 : -9223372036854775808 ≤ a * b) (h3 : a * b ≤ 9223372036854775807) : Pure P (.binOp .mul t x y t') ty e (.int .i64 (a * b)) := fun _ => does_mul h h1 h2 h3
theorem p_quo {a b : Int} (h : ev e x = some (.int .i64 a)) (h1 : ev e y = some (.int .i64 b)) (h2 : 0 ≤ a) (h3 : a ≤ 9223372036854775807) (h4 : 0 < b) : Pure P (.binOp .quo t x y t') ty e (.int .i64 (a / b)) := fun _ => does_quo h h1 h2 h3 h4
theorem p_rem {a b : Int} (h : ev e x = some (.int .i64 a)) (h1 : ev e y = some (.int .i64 b)) (h2 : 0 ≤ a) (h4 : 0 < b) : Pure P (.binOp .rem t x y t') ty e (.int .i64 (a % b)) := fun _ => does_rem h h1 h2 h4
theorem p_shr1 {a : Int} {k : IntKind} (h : ev e x = some (.int .i64 a)) (h1 : ev e y = some (.int k 1)) : Pure P (.binOp .shr t x y t') ty e (.int .i64 (a / 2)) := fun _ => does_shr1 h h1
theorem p_and1 {a : Int} (h : ev e x = some (.int .i64 a)) (h1 : ev e y = some (.int .i64 1)) : Pure P (.binOp .and t x y t') ty e (.int .i64 (a % 2)) := fun _ => does_and1 h h1
theorem p_xor1 {a : Int} (h : ev e x = some (.int .i64 a)) (h1 : ev e y = some (.int .i64 1)) (h2 : -9223372036854775808 ≤ a) (h3 : a ≤ 9223372036854775807) : Pure P (.binOp .xor t x y t') ty e (.int .i64 (a + 1 - 2 * (a % 2))) := fun _ => does_xor1 h h1 h2 h3
theorem p_lss {k : IntKind} {a b : Int} (h : ev e x = some (.int k a)) (h1 : ev e y = some (.int k b)) (c : Bool) (hc : decide (a < b) = c) : Pure P (.binOp .lss t x y t') ty e (.bool c) := fun _ => does_lss h h1 c hc
theorem p_leq {k : IntKind} {a b : Int} (h : ev e x = some (.int k a)) (h1 : ev e y = some (.int k b)) (c : Bool) (hc : decide (a ≤ b) = c) : Pure P (.binOp .leq t x y t') ty e (.bool c) := fun _ => does_leq h h1 c hc
theorem p_gtr {k : IntKind} {a b : Int} (h : ev e x = some (.int k a)) (h1 : ev e y = some (.int k b)) (c : Bool) (hc : decide (b < a) = c) : Pure P (.binOp .gtr t x y t') ty e (.bool c) := fun _ => does_gtr h h1 c hc
theorem p_geq {k : IntKind} {a b : Int} (h : ev e x = some (.int k a)) (h1 : ev e y = some (.int k b)) (c : Bool) (hc : decide (b ≤ a) = c) : Pure P (.binOp .geq t x y t') ty e (.bool c) := fun _ => does_geq h h1 c hc
theorem p_eql {k : IntKind} {a b : Int} (h : ev e x = some (.int k a)) (h1 : ev e y = some (.int k b)) (c : Bool) (hc : decide (a = b) = c) : Pure P (.binOp .eql t x y t') ty e (.bool c) := fun _ => does_eql h h1 c hc
theorem p_neq {k : IntKind} {a b : Int} (h : ev e x = some (.int k a)) (h1 : ev e y = some (.int k b)) (c : Bool) (hc : decide (a ≠ b) = c) : Pure P (.binOp .neq t x y t') ty e (.bool c) := fun _ => does_neq h h1 c hc
theorem p_neqB {a b : Bool} (hu : P.underlying t = some .bool) (h : ev e x = some (.bool a)) (h1 : ev e y = some (.bool b)) : Pure P (.binOp .neq t x y t') ty e (.bool (a != b)) := fun _ => does_neqB hu h h1
theorem p_not {a : Bool} (h : ev e x = some (.bool a)) : Pure P (.unOp .not t x) ty e (.bool (!a)) := fun _ => does_not h
theorem p_eqS {a b : ByteArray} (h : ev e x = some (.string a)) (h1 : ev e y = some (.string b)) (c : Bool) (hc : (a.toList == b.toList) = c) : Pure P (.binOp .eql t x y t') ty e (.bool c) := fun _ => does_eqS h h1 c hc
theorem p_eqL0 {t0 : TypeId} {A : Option Addr} {l c : Nat} (hu : P.underlying t = some (.slice t0)) (h : ev e x = some (.slice A l c)) (h1 : ev e y = some (.slice none 0 0)) : Pure P (.binOp .eql t x y t') ty e (.bool A.isNone) := fun _ => does_eqL0 hu h h1
theorem p_field {i off : Nat} [F : Fld P t i off] {b o : Nat} (h : ev e x = some (.pointer (some ⟨b, o, none⟩))) : Pure P (.fieldAddr t x i) ty e (.pointer (some ⟨b, o + off, none⟩)) := fun _ => does_field h
theorem p_fieldP {i off : Nat} [F : Fld P t i off] {p : Addr} (h : ev e x = some (.pointer (some p))) : Pure P (.fieldAddr t x i) ty e (.pointer (some (p.add off))) := fun _ => does_fieldP h
theorem p_indexP {t0 : TypeId} {sz : Nat} {z : Value} {by_ : Nat} {ag : Bool} (hu : P.underlying t = some (.slice t0)) {d0 : TypeDesc} [T : Ty P t0 d0 sz z by_ ag] {p : Addr} {n c : Nat} {i : Int} {k : IntKind} (h : ev e x = some (.slice (some p) n c)) (h1 : ev e y = some (.int k i)) (h0 : 0 ≤ i) (h2 : i < n) : Pure P (.indexAddr t x y) ty e (.pointer (some (p.add (i.toNat * sz)))) := fun _ => does_indexP hu h h1 h0 h2
theorem p_indexAddr {t0 : TypeId} {sz : Nat} {z : Value} {by_ : Nat} {ag : Bool} (hu : P.underlying t = some (.slice t0)) {d0 : TypeDesc} [T : Ty P t0 d0 sz z by_ ag] {b o n c : Nat} {i : Int} {k : IntKind} (h : ev e x = some (.slice (some ⟨b, o, none⟩) n c)) (h1 : ev e y = some (.int k i)) (h0 : 0 ≤ i) (h2 : i < n) : Pure P (.indexAddr t x y) ty e (.pointer (some ⟨b, o + i.toNat * sz, none⟩)) := fun _ => does_indexAddr hu h h1 h0 h2
theorem p_len {t0 : TypeId} {A : Option Addr} {n c : Nat} (hu : P.underlying t = some (.slice t0)) (h : ev e x = some (.slice A n c)) : Pure P (.call { callee := .builtin .len, args := #[x], argTypes := #[t] }) ty e (.int .i64 (n : Int)) := fun _ => does_len hu h
theorem p_lenS {s : ByteArray} (hu : P.underlying t = some .string) (h : ev e x = some (.string s)) : Pure P (.call { callee := .builtin .len, args := #[x], argTypes := #[t] }) ty e (.int .i64 (s.size : Int)) := fun _ => does_lenS hu h
theorem p_makeFunc {fn : Go.Fn} {cap : Array Operand} {vs : List Value} (h : cap.toList.map (ev e) = vs.map some) : Pure P (.makeFunc fn #[] cap) ty e (.func fn #[] vs.toArray) := fun _ => does_makeFunc h
theorem p_sliceTo {t0 : TypeId} (hu : P.underlying t = some (.slice t0)) (T : Ty P t0 d sz zv by_ ag) {A : Option Addr} {n c : Nat} {k : IntKind} {i : Int} (h : ev e x = some (.slice A n c)) (h1 : ev e y = some (.int k i)) (h0 : 0 ≤ i) (h2 : i ≤ c) : Pure P (.slice t x none (some y) none) ty e (.slice A i.toNat c) := fun _ => does_sliceTo hu T h h1 h0 h2
theorem p_indexS {s : ByteArray} (hu : P.underlying t = some .string) {k : IntKind} {i : Int} (h : ev e x = some (.string s)) (h1 : ev e y = some (.int k i)) (h0 : 0 ≤ i) (h2 : i < s.size) : Pure P (.index t x y) ty e (.int .u8 ((s.data.toList.map fun b => (b.toNat : Int)).getD i.toNat 0)) := fun _ => does_indexS hu h h1 h0 h2
end
/-! ### quiet operations, worked out; tests -/
def pv : Op → Env → Option (Value × Prop)
  | .move x, e => match ev e x with | some v => some (v, True) | none => none
  | .assign x, e => match ev e x with | some v => some (v, True) | none => none
  | .nilCheck x, e => match ev e x with | some (.pointer (some p)) => some (.pointer (some p), True) | _ => none
  | .pick x y z, e => match ev e x with
    | some (.bool true) => (match ev e y with | some v => some (v, True) | none => none)
    | some (.bool false) => (match ev e z with | some v => some (v, True) | none => none)
    | _ => none
  | .binOp .add _ x y _, e => match ev e x, ev e y with | some (.int .i64 a), some (.int .i64 b) => some (.int .i64 (a + b), -9223372036854775808 ≤ a + b ∧ a + b ≤ 9223372036854775807) | _, _ => none
  | .binOp .sub _ x y _, e => match ev e x, ev e y with | some (.int .i64 a), some (.int .i64 b) => some (.int .i64 (a - b), -9223372036854775808 ≤ a - b ∧ a - b ≤ 9223372036854775807) | _, _ => none
  | .binOp .mul _ x y _, e => match ev e x, ev e y with | some (.int .i64 a), some (.int .i64 b) => some (.int .i64 (a * b), -9223372036854775808 ≤ a * b ∧ a * b ≤ 9223372036854775807) | _, _ => none
  | .binOp .quo _ x y _, e => match ev e x, ev e y with | some (.int .i64 a), some (.int .i64 b) => some (.int .i64 (a / b), 0 ≤ a ∧ a ≤ 9223372036854775807 ∧ 0 < b) | _, _ => none
  | .binOp .rem _ x y _, e => match ev e x, ev e y with | some (.int .i64 a), some (.int .i64 b) => some (.int .i64 (a % b), 0 ≤ a ∧ 0 < b) | _, _ => none
  | .binOp .shr _ x y _, e => match ev e x, ev e y with | some (.int .i64 a), some (.int _ b) => some (.int .i64 (a / 2), b = 1) | _, _ => none
  | .binOp .and _ x y _, e => match ev e x, ev e y with | some (.int .i64 a), some (.int .i64 b) => some (.int .i64 (a % 2), b = 1) | _, _ => none
  | .binOp .xor _ x y _, e => match ev e x, ev e y with | some (.int .i64 a), some (.int .i64 b) => some (.int .i64 (a + 1 - 2 * (a % 2)), b = 1 ∧ -9223372036854775808 ≤ a ∧ a ≤ 9223372036854775807) | _, _ => none
  | .unOp .not _ x, e => match ev e x with | some (.bool a) => some (.bool (!a), True) | _ => none
  | .extract x i, e => match ev e x with | some (.tuple vs) => (match vs.toList[i]? with | some v => some (v, True) | none => none) | _ => none
  | _, _ => none
theorem pv_pure {P : Program} {op : Op} {ty : TypeId} {e : Env} {v : Value} {C : Prop} (h : pv op e = some (v, C)) (hc : C) : Pure P op ty e v := by
  unfold pv at h
  split at h
  · split at h <;> cases h
    exact p_move (by assumption)
  · split at h <;> cases h
    exact p_assign (by assumption)
  · split at h <;> cases h
    exact p_nil (by assumption)
  · split at h
    · split at h <;> cases h
      exact p_pick_t (by assumption) (by assumption)
    · split at h <;> cases h
      exact p_pick_f (by assumption) (by assumption)
    · cases h
  · split at h <;> cases h
    exact p_add (by assumption) (by assumption) hc.1 hc.2
  · split at h <;> cases h
    exact p_sub (by assumption) (by assumption) hc.1 hc.2
  · split at h <;> cases h
    exact p_mul (by assumption) (by assumption) hc.1 hc.2
  · split at h <;> cases h
    exact p_quo (by assumption) (by assumption) hc.1 hc.2.1 hc.2.2
  · split at h <;> cases h
    exact p_rem (by assumption) (by assumption) hc.1 hc.2
  · split at h <;> cases h
    subst hc
    exact p_shr1 (by assumption) (by assumption)
  · split at h <;> cases h
    subst hc
    exact p_and1 (by assumption) (by assumption)
  · split at h <;> cases h
    obtain ⟨rfl, h1, h2⟩ := hc
    exact p_xor1 (by assumption) (by assumption) h1 h2
  · split at h <;> cases h
    exact p_not (by assumption)
  · split at h
    · rename_i vs h1
      split at h <;> cases h
      rename_i h2
      exact p_extract h1 (by simpa using h2)
    · cases h
  · cases h
def cv : Op → Env → Option (Prop × Prop)
  | .binOp .lss _ x y _, e => match ev e x, ev e y with | some (.int k a), some (.int k' b) => some (k' = k, a < b) | _, _ => none
  | .binOp .leq _ x y _, e => match ev e x, ev e y with | some (.int k a), some (.int k' b) => some (k' = k, a ≤ b) | _, _ => none
  | .binOp .gtr _ x y _, e => match ev e x, ev e y with | some (.int k a), some (.int k' b) => some (k' = k, b < a) | _, _ => none
  | .binOp .geq _ x y _, e => match ev e x, ev e y with | some (.int k a), some (.int k' b) => some (k' = k, b ≤ a) | _, _ => none
  | .binOp .eql _ x y _, e => match ev e x, ev e y with | some (.int k a), some (.int k' b) => some (k' = k, a = b) | _, _ => none
  | .binOp .neq _ x y _, e => match ev e x, ev e y with | some (.int k a), some (.int k' b) => some (k' = k, a ≠ b) | _, _ => none
  | _, _ => none
theorem cv_pure {P : Program} {op : Op} {ty : TypeId} {e : Env} {E C : Prop} (h : cv op e = some (E, C)) (hE : E) : (C → Pure P op ty e (.bool true)) ∧ (¬ C → Pure P op ty e (.bool false)) := by
  unfold cv at h
  split at h <;> first
    | (cases h; done)
    | (split at h <;> cases h
       subst hE
       first
         | exact ⟨fun hc => p_lss (by assumption) (by assumption) true (decide_eq_true hc), fun hc => p_lss (by assumption) (by assumption) false (decide_eq_false hc)⟩
         | exact ⟨fun hc => p_leq (by assumption) (by assumption) true (decide_eq_true hc), fun hc => p_leq (by assumption) (by assumption) false (decide_eq_false hc)⟩
         | exact ⟨fun hc => p_gtr (by assumption) (by assumption) true (decide_eq_true hc), fun hc => p_gtr (by assumption) (by assumption) false (decide_eq_false hc)⟩
         | exact ⟨fun hc => p_geq (by assumption) (by assumption) true (decide_eq_true hc), fun hc => p_geq (by assumption) (by assumption) false (decide_eq_false hc)⟩
         | exact ⟨fun hc => p_eql (by assumption) (by assumption) true (decide_eq_true hc), fun hc => p_eql (by assumption) (by assumption) false (decide_eq_false hc)⟩
         | exact ⟨fun hc => p_neq (by assumption) (by assumption) true (decide_eq_true hc), fun hc => p_neq (by assumption) (by assumption) false (decide_eq_false hc)⟩)
/-! ### turning points, returns, sequences -/
theorem wg {l : List Oper} {e : Env} {j : Nat} {b : Bool} {d : Nat} {c yes : Bool} (h1 : gslot l j = some d) (h2 : look e d = some (.bool c)) (h3 : yes = (c == b)) : Wants l e (some (j, b)) yes := ⟨d, c, h1, h2, h3⟩
theorem Chg.dr {w w' : World} {S : Nat → Prop} (h : Chg w w' S) : Chg w w'.drew S := ⟨h.os, h.tape, h.output, h.size, h.block⟩
theorem Chg.al {w w' : World} {S : Nat → Prop} (o : Obj) (h : Chg w w' S) : Chg w (w'.alloc o) S := h.trans (Chg.alloc w' o S) fun _ _ h => h
theorem Chg.any {w w' : World} {S : Nat → Prop} (h : Chg w w' none_) : Chg w w' S := h.mono fun _ h => h.elim
def evs (e : Env) : List Operand → Option (List Value)
  | [] => some []
  | x :: r => match ev e x, evs e r with
    | some v, some vs => some (v :: vs)
    | _, _ => none
theorem evs_map {e : Env} : ∀ {l : List Operand} {vs : List Value}, evs e l = some vs → l.map (ev e) = vs.map some
  | [], vs, h => by cases h; rfl
  | x :: r, vs, h => by
    unfold evs at h
    split at h <;> cases h
    rename_i v us h1 h2
    simp only [List.map_cons, h1, evs_map h2]
theorem lo {S : Prop} {b : Bool} (h : b = true) : b = false → S := fun h' => by rw [h] at h'; cases h'
theorem WC_seqK {P : Program} {n : Nat} {x y : Code} {Q : Post} {e : Env} {w : World} (h : ∀ K : Env → World → Prop, (∀ e w, WC P n y Q e w → K e w) → WC P n x (thenQ K Q) e w) : WC P n (.seq x y) Q e w := WC_seq (h _ fun _ _ h => h)
theorem WL_turn {P : Program} {n : Nat} {all rest : List Oper} {K : Env → World → Prop} {e : Env} {w : World} (I : World → Prop) (hI : I w) (h : ∀ w1, I w1 → WL P n all K rest e w1) : WL P n all K rest e w := h w hI
theorem WS_turn {P : Program} {n : Nat} {all : List Oper} {S : World → Prop} {K : Env → World → Prop} {r : List (Nat × Bool)} {e : Env} {w : World} (I : World → Prop) (hI : I w) (h : ∀ w1, I w1 → WS P n all S K r e w1) : WS P n all S K r e w := h w hI
theorem WC_turn {P : Program} {n : Nat} {c : Code} {Q : Post} {e : Env} {w : World} (I : World → Prop) (hI : I w) (h : ∀ w1, I w1 → WC P n c Q e w1) : WC P n c Q e w := h w hI
section rets
variable {R : Value → World → Prop} {e : Env} {w : World} {a b c : Nat} {u v x : Value}
theorem ret0n (hr : R (.tuple #[]) w) : retQ [] R .normal e w := ⟨[], rfl, hr⟩
theorem ret1 (h : look e a = some v) (hr : R v w) : retQ [a] R .ret e w := ⟨[v], by simp [h], hr⟩
theorem ret2 (h : look e a = some v) (h1 : look e b = some u) (hr : R (.tuple #[v, u]) w) : retQ [a, b] R .ret e w := ⟨[v, u], by simp [h, h1], hr⟩
theorem ret3 (h : look e a = some v) (h1 : look e b = some u) (h2 : look e c = some x) (hr : R (.tuple #[v, u, x]) w) : retQ [a, b, c] R .ret e w := ⟨[v, u, x], by simp [h, h1, h2], hr⟩
end rets
/-! ### plain regions: the guard first, then the operation -/
def WX (P : Program) (n : Nat) (all : List Oper) (K : Env → World → Prop) (rest : List Oper) (d : Option Tmp) (op : Op) (ty : TypeId) (e : Env) (w : World) : Prop :=
  ∀ pos af g, Wants all e g true → slotOk n d = true → WL P n all K (⟨d, op, ty, pos, af, g⟩ :: rest) e w
section plain
variable {P : Program} {n : Nat} {all rest : List Oper} {K : Env → World → Prop} {e : Env} {w : World} {d : Option Tmp} {op : Op} {ty : TypeId} {pos : String} {af : Array Edge} {v : Value} {x y : Operand} {t t' : TypeId} {td : TypeDesc} {sz : Nat} {zv : Value} {by_ : Nat} {ag : Bool}
theorem WL_on0 (hd : slotOk n d = true) (h : WX P n all K rest d op ty e w) : WL P n all K (⟨d, op, ty, pos, af, none⟩ :: rest) e w := h _ _ _ rfl hd
theorem WL_onG {j : Nat} {b c : Bool} {d' : Nat} (h1 : gslot all j = some d') (h2 : look e d' = some (.bool c)) (h3 : (c == b) = true) (hd : slotOk n d = true) (h : WX P n all K rest d op ty e w) : WL P n all K (⟨d, op, ty, pos, af, some (j, b)⟩ :: rest) e w := h _ _ _ (wg h1 h2 h3.symm) hd
theorem WL_noG {j : Nat} {b c : Bool} {d' : Nat} (h1 : gslot all j = some d') (h2 : look e d' = some (.bool c)) (h3 : (c == b) = false) (hd : slotOk n d = true) (h : WL P n all K rest (push d undef e) w) : WL P n all K (⟨d, op, ty, pos, af, some (j, b)⟩ :: rest) e w := WL_off (wg h1 h2 h3.symm) hd h
theorem WX_turn (I : World → Prop) (hI : I w) (h : ∀ w1, I w1 → WX P n all K rest d op ty e w1) : WX P n all K rest d op ty e w := h w hI
theorem X_does {w' : World} (h : Does P op ty e w v w') (hr : WL P n all K rest (push d v e) w') : WX P n all K rest d op ty e w := fun _ _ _ hg hd => WL_does hg hd h hr
theorem X_doesU {w' : World} (h : DoesU P op ty e w w') (hr : WL P n all K rest (push d undef e) w') : WX P n all K rest d op ty e w := fun _ _ _ hg hd => WL_doesU hg hd h hr
theorem X_pure (h : Pure P op ty e v) (hr : WL P n all K rest (push d v e) w) : WX P n all K rest d op ty e w := X_does (h w) hr
theorem X_call {f : FuncId} {args : List Value} {R : Value → World → Prop} (h : Enters P op ty e f args) (hc : CV P f args w R) (hr : ∀ v w', R v w' → WL P n all K rest (push d v e) w') : WX P n all K rest d op ty e w := fun _ _ _ hg hd => WL_call hg hd h hc hr
theorem X_fn {f : FuncId} [F : Go.Proofs.YtclihihdgodloaaDoor.SC.Fn P f] {args : Array Operand} {ats : Array TypeId} {vs : List Value} {R : Value → World → Prop} (h : evs e args.toList = some vs) (hc : CV P f vs w R) (hr : ∀ v w', R v w' → WL P n all K rest (push d v e) w') : WX P n all K rest d (.call { callee := .value (.func f), args := args, argTypes := ats }) ty e w := X_call (enters (evs_map h)) hc hr
theorem X_fnC {f : FuncId} [F : Go.Proofs.YtclihihdgodloaaDoor.SC.Fn P f] {args : Array Operand} {ats : Array TypeId} {vs : List Value} {cap : Array Value} {R : Value → World → Prop} (hx : ev e x = some (.func (.func f) #[] cap)) (h : evs e args.toList = some vs) (hc : CV P f (vs ++ cap.toList) w R) (hr : ∀ v w', R v w' → WL P n all K rest (push d v e) w') : WX P n all K rest d (.call { callee := .value x, args := args, argTypes := ats }) ty e w := X_call (entersC hx (evs_map h)) hc hr
theorem X_pv {C : Prop} (h : pv op e = some (v, C)) (hc : C) (hr : WL P n all K rest (push d v e) w) : WX P n all K rest d op ty e w := X_pure (pv_pure h hc) hr
theorem X_cmpT {E C : Prop} (h : cv op e = some (E, C)) (hE : E) (hc : C) (hr : WL P n all K rest (push d (.bool true) e) w) : WX P n all K rest d op ty e w := X_pure ((cv_pure h hE).1 hc) hr
theorem X_cmpF {E C : Prop} (h : cv op e = some (E, C)) (hE : E) (hc : ¬ C) (hr : WL P n all K rest (push d (.bool false) e) w) : WX P n all K rest d op ty e w := X_pure ((cv_pure h hE).2 hc) hr
theorem X_cmp {E C : Prop} (h : cv op e = some (E, C)) (hE : E) (ht : C → WL P n all K rest (push d (.bool true) e) w) (hf : ¬ C → WL P n all K rest (push d (.bool false) e) w) : WX P n all K rest d op ty e w := by
  by_cases hc : C
  · exact X_cmpT h hE hc (ht hc)
  · exact X_cmpF h hE hc (hf hc)
theorem X_field {i off : Nat} [F : Fld P t i off] {b o : Nat} (h : ev e x = some (.pointer (some ⟨b, o, none⟩))) (hr : WL P n all K rest (push d (.pointer (some ⟨b, o + off, none⟩)) e) w) : WX P n all K rest d (.fieldAddr t x i) ty e w := X_pure (p_field h) hr
theorem X_loadR [T : Ty P t td sz zv by_ false] {b o : Nat} {t1 : TypeId} {cs : List Value} (h : ev e x = some (.pointer (some ⟨b, o, none⟩))) (hb : Blk w b t1 cs) (hv : cs[o]? = some v) (hr : WL P n all K rest (push d v e) w) : WX P n all K rest d (.load t x) ty e w := X_does (does_load1 h hb hv) hr
theorem X_loadW [T : Ty P t td sz zv by_ true] {b : Nat} {t1 : TypeId} {cs : List Value} (h : ev e x = some (.pointer (some ⟨b, 0, none⟩))) (hb : Blk w b t1 cs) (hl : cs.length = sz) (hr : WL P n all K rest (push d (.agg cs.toArray) e) w) : WX P n all K rest d (.load t x) ty e w := X_does (does_loadB h hb hl) hr
theorem X_loadA [T : Ty P t td sz zv by_ true] {b o : Nat} (cs : List Value) (h : ev e x = some (.pointer (some ⟨b, o, none⟩))) (hl : cs.length = sz) (hb : ∀ j u, cs[j]? = some u → w.cell? ⟨b, o + j, none⟩ = some u) (hr : WL P n all K rest (push d (.agg cs.toArray) e) w) : WX P n all K rest d (.load t x) ty e w := X_does (does_loadR cs h hl hb) hr
theorem X_loadC [T : Ty P t td sz zv by_ false] {p : Addr} (h : ev e x = some (.pointer (some p))) (hb : w.cell? p = some v) (hr : WL P n all K rest (push d v e) w) : WX P n all K rest d (.load t x) ty e w := X_does (does_loadC h hb) hr
theorem X_len {t0 : TypeId} {A : Option Addr} {m c : Nat} [T : Ty P t (.slice t0) sz zv by_ ag] (h : ev e x = some (.slice A m c)) (hr : WL P n all K rest (push d (.int .i64 (m : Int)) e) w) : WX P n all K rest d (.call { callee := .builtin .len, args := #[x], argTypes := #[t] }) ty e w := X_pure (p_len T.und h) hr
theorem X_lenS {s : ByteArray} [T : Ty P t .string sz zv by_ ag] (h : ev e x = some (.string s)) (hr : WL P n all K rest (push d (.int .i64 (s.size : Int)) e) w) : WX P n all K rest d (.call { callee := .builtin .len, args := #[x], argTypes := #[t] }) ty e w := X_pure (p_lenS T.und h) hr
theorem X_eqL {t0 : TypeId} {A : Option Addr} {m c : Nat} [T : Ty P t (.slice t0) sz zv by_ ag] (h : ev e x = some (.slice A m c)) (h1 : ev e y = some (.slice none 0 0)) (hr : WL P n all K rest (push d (.bool A.isNone) e) w) : WX P n all K rest d (.binOp .eql t x y t') ty e w := X_pure (p_eqL0 T.und h h1) hr
theorem X_index {t0 : TypeId} {b o m c : Nat} {i : Int} {k : IntKind} {sz1 by1 : Nat} {zv1 : Value} {ag1 : Bool} [T : Ty P t (.slice t0) sz zv by_ ag] [T1 : Ty P t0 td sz1 zv1 by1 ag1] (h : ev e x = some (.slice (some ⟨b, o, none⟩) m c)) (h1 : ev e y = some (.int k i)) (h0 : 0 ≤ i) (h2 : i < m) (hr : WL P n all K rest (push d (.pointer (some ⟨b, o + i.toNat * sz1, none⟩)) e) w) : WX P n all K rest d (.indexAddr t x y) ty e w := X_pure (p_indexAddr T.und h h1 h0 h2) hr
theorem X_append {t0 : TypeId} (base : Nat) [U : Ty P t (.slice t0) 1 (.slice none 0 0) 24 false] [T : Ty P t0 td sz zv by_ ag] {m : Nat} {xs : List Value} {b j c : Nat} {news : List Value} {t1 : TypeId} (h : ev e x = some v) (h1 : ev e y = some (.slice (some ⟨b, 0, none⟩) j c)) (hown : w.ownsRow base t0 sz v m xs) (hb : Blk w b t1 news)
    (hl : news.length = j * sz) (hzs : zv.cells.size = sz) (hsz : 0 < sz) (ho : ∀ u ∈ news, u.oneCell' = true) (hby : (m + j) * by_ ≤ 140737488355328) (hby1 : 1 ≤ by_) (hbase : base ≤ w.heap.size)
    (hr : ∀ v' w', w'.ownsRow base t0 sz v' (m + j) (xs ++ news) → Chg w w' (fun k => v.ownBlock = some k) → (v'.ownBlock = v.ownBlock ∨ v'.ownBlock = some w.heap.size) → (v' = .slice none 0 0 ↔ v = .slice none 0 0 ∧ j = 0) → WL P n all K rest (push d v' e) w') :
    WX P n all K rest d (.call { callee := .builtin .append, args := #[x, y], argTypes := #[t, t] }) ty e w := by
  obtain ⟨v', w', hd, h2, h3, h4, h5⟩ := does_append (P := P) (ty := ty) base U.und T hzs hsz h hown h1 hl hb ho hby hby1 hbase
  exact X_does hd (hr v' w' h2 h3 h4 h5)
theorem X_appendC {t0 : TypeId} (base : Nat) [U : Ty P t (.slice t0) 1 (.slice none 0 0) 24 false] [T : Ty P t0 td sz zv by_ ag] {m : Nat} {xs : List Value} {b j c : Nat} {news : List Value} (h : ev e x = some v) (h1 : ev e y = some (.slice (some ⟨b, 0, none⟩) j c)) (hown : w.ownsRow base t0 sz v m xs) (hb : ∀ j u, news[j]? = some u → w.cell? ⟨b, j, none⟩ = some u)
    (hl : news.length = j * sz) (hzs : zv.cells.size = sz) (hsz : 0 < sz) (ho : ∀ u ∈ news, u.oneCell' = true) (hby : (m + j) * by_ ≤ 140737488355328) (hby1 : 1 ≤ by_) (hbase : base ≤ w.heap.size)
    (hr : ∀ v' w', w'.ownsRow base t0 sz v' (m + j) (xs ++ news) → Chg w w' (fun k => v.ownBlock = some k) → (v'.ownBlock = v.ownBlock ∨ v'.ownBlock = some w.heap.size) → (v' = .slice none 0 0 ↔ v = .slice none 0 0 ∧ j = 0) → WL P n all K rest (push d v' e) w') :
    WX P n all K rest d (.call { callee := .builtin .append, args := #[x, y], argTypes := #[t, t] }) ty e w := by
  obtain ⟨v', w', hd, h2, h3, h4, h5⟩ := does_appendC (P := P) (ty := ty) base U.und T hzs hsz h hown h1 hl hb ho hby hby1 hbase
  exact X_does hd (hr v' w' h2 h3 h4 h5)
theorem X_indexP {t0 : TypeId} {p : Addr} {m c : Nat} {i : Int} {k : IntKind} {sz1 by1 : Nat} {zv1 : Value} {ag1 : Bool} [T : Ty P t (.slice t0) sz zv by_ ag] [T1 : Ty P t0 td sz1 zv1 by1 ag1] (h : ev e x = some (.slice (some p) m c)) (h1 : ev e y = some (.int k i)) (h0 : 0 ≤ i) (h2 : i < m) (hr : WL P n all K rest (push d (.pointer (some (p.add (i.toNat * sz1)))) e) w) : WX P n all K rest d (.indexAddr t x y) ty e w := X_pure (p_indexP T.und h h1 h0 h2) hr
theorem X_loadAP [T : Ty P t td sz zv by_ true] {p : Addr} (cs : List Value) (h : ev e x = some (.pointer (some p))) (hl : cs.length = sz) (hb : ∀ j u, cs[j]? = some u → w.cell? (p.add j) = some u) (hr : WL P n all K rest (push d (.agg cs.toArray) e) w) : WX P n all K rest d (.load t x) ty e w := X_does (does_loadRP cs h hl hb) hr
theorem X_alloc [T : Ty P t td sz zv by_ ag] (hr : WL P n all K rest (push d (.pointer (some ⟨w.heap.size, 0, none⟩)) e) (w.alloc (.cells zv.cells t))) : WX P n all K rest d (.alloc t) ty e w := X_does does_alloc hr
theorem X_box (h : ev e x = some v) (hr : WL P n all K rest (push d (.pointer (some ⟨w.heap.size, 0, none⟩)) e) (w.alloc (.cells v.cells t))) : WX P n all K rest d (.box t x) ty e w := X_does (does_box h) hr
theorem X_makeMap (hr : WL P n all K rest (push d (.map (some w.heap.size)) e) (w.alloc (.map #[] 0))) : WX P n all K rest d (.makeMap t none) ty e w := X_does (does_makeMap none rfl) hr
end plain
/-! ### regions that draw -/
def OX (P : Program) (n : Nat) (all : List Oper) (S : World → Prop) (K : Env → World → Prop) (i : Nat) (q : Bool) (r : List (Nat × Bool)) (d : Option Tmp) (op : Op) (ty : TypeId) (e : Env) (w : World) : Prop :=
  ∀ pos af g, Wants all e g true → slotOk n d = true → WO P n all S K i q r ⟨d, op, ty, pos, af, g⟩ e w
section draws
variable {P : Program} {n : Nat} {all : List Oper} {K : Env → World → Prop} {S : World → Prop} {r : List (Nat × Bool)} {i : Nat} {q : Bool} {e : Env} {w : World} {d : Option Tmp} {op : Op} {ty : TypeId} {pos : String} {af : Array Edge} {v : Value} {x y : Operand} {t t' : TypeId} {td : TypeDesc} {sz : Nat} {zv : Value} {by_ : Nat} {ag : Bool}
theorem WO_on0 (hd : slotOk n d = true) (h : OX P n all S K i q r d op ty e w) : WO P n all S K i q r ⟨d, op, ty, pos, af, none⟩ e w := h _ _ _ rfl hd
theorem WO_onG {j : Nat} {b c : Bool} {d' : Nat} (h1 : gslot all j = some d') (h2 : look e d' = some (.bool c)) (h3 : (c == b) = true) (hd : slotOk n d = true) (h : OX P n all S K i q r d op ty e w) : WO P n all S K i q r ⟨d, op, ty, pos, af, some (j, b)⟩ e w := h _ _ _ (wg h1 h2 h3.symm) hd
theorem WO_noG {j : Nat} {b c : Bool} {d' : Nat} (h1 : gslot all j = some d') (h2 : look e d' = some (.bool c)) (h3 : (c == b) = false) (hd : slotOk n d = true) (hS : S w) (h : WS P n all S K r (push d undef e) w) : WO P n all S K i q r ⟨d, op, ty, pos, af, some (j, b)⟩ e w := WO_off (wg h1 h2 h3.symm) hd hS h
theorem O_quiet (h : ∀ w, S w → Does P op ty e w v w) (hS : S w) (hr : WS P n all S K r (push d v e) w) : OX P n all S K i true r d op ty e w := fun _ _ _ hg hd => WO_quiet hg hd hS h hr
theorem O_pure (h : Pure P op ty e v) (hS : S w) (hr : WS P n all S K r (push d v e) w) : OX P n all S K i true r d op ty e w := O_quiet (fun w _ => h w) hS hr
theorem O_does {w' : World} (h : Does P op ty e w v w') (hS : loose .any all.toArray i = false → S w') (hr : WS P n all S K r (push d v e) w') : OX P n all S K i false r d op ty e w := fun _ _ _ hg hd => WO_does hg hd h hS hr
theorem O_doesU {w' : World} (h : DoesU P op ty e w w') (hS : loose .any all.toArray i = false → S w') (hr : WS P n all S K r (push d undef e) w') : OX P n all S K i false r d op ty e w := fun _ _ _ hg hd => WO_doesU hg hd h hS hr
theorem O_call {f : FuncId} {args : List Value} {R : Value → World → Prop} (h : Enters P op ty e f args) (hc : CV P f args w R) (hS : ∀ v w', R v w' → loose .any all.toArray i = false → S w') (hr : ∀ v w', R v w' → WS P n all S K r (push d v e) w') : OX P n all S K i false r d op ty e w := fun _ _ _ hg hd => WO_call hg hd h hc hS hr
theorem O_fn {f : FuncId} [F : Go.Proofs.YtclihihdgodloaaDoor.SC.Fn P f] {args : Array Operand} {ats : Array TypeId} {vs : List Value} {R : Value → World → Prop} (h : evs e args.toList = some vs) (hc : CV P f vs w R) (hr : ∀ v w', R v w' → (loose .any all.toArray i = false → S w') ∧ WS P n all S K r (push d v e) w') : OX P n all S K i false r d (.call { callee := .value (.func f), args := args, argTypes := ats }) ty e w := O_call (enters (evs_map h)) hc (fun v w' h => (hr v w' h).1) (fun v w' h => (hr v w' h).2)
theorem O_pv {C : Prop} (h : pv op e = some (v, C)) (hc : C) (hS : S w) (hr : WS P n all S K r (push d v e) w) : OX P n all S K i true r d op ty e w := O_pure (pv_pure h hc) hS hr
theorem O_cmpT {E C : Prop} (h : cv op e = some (E, C)) (hE : E) (hc : C) (hS : S w) (hr : WS P n all S K r (push d (.bool true) e) w) : OX P n all S K i true r d op ty e w := O_pure ((cv_pure h hE).1 hc) hS hr
theorem O_cmpF {E C : Prop} (h : cv op e = some (E, C)) (hE : E) (hc : ¬ C) (hS : S w) (hr : WS P n all S K r (push d (.bool false) e) w) : OX P n all S K i true r d op ty e w := O_pure ((cv_pure h hE).2 hc) hS hr
theorem O_cmp {E C : Prop} (h : cv op e = some (E, C)) (hE : E) (hS : S w) (ht : C → WS P n all S K r (push d (.bool true) e) w) (hf : ¬ C → WS P n all S K r (push d (.bool false) e) w) : OX P n all S K i true r d op ty e w := by
  by_cases hc : C
  · exact O_cmpT h hE hc hS (ht hc)
  · exact O_cmpF h hE hc hS (hf hc)
theorem O_field {j off : Nat} [F : Fld P t j off] {b o : Nat} (h : ev e x = some (.pointer (some ⟨b, o, none⟩))) (hS : S w) (hr : WS P n all S K r (push d (.pointer (some ⟨b, o + off, none⟩)) e) w) : OX P n all S K i true r d (.fieldAddr t x j) ty e w := O_pure (p_field h) hS hr
theorem O_loadR [T : Ty P t td sz zv by_ false] {b o : Nat} {t1 : TypeId} {cs : List Value} (h : ev e x = some (.pointer (some ⟨b, o, none⟩))) (hb : ∀ w, S w → Blk w b t1 cs) (hv : cs[o]? = some v) (hS : S w) (hr : WS P n all S K r (push d v e) w) : OX P n all S K i true r d (.load t x) ty e w := O_quiet (fun w hw => does_load1 h (hb w hw) hv) hS hr
theorem O_loadW [T : Ty P t td sz zv by_ true] {b : Nat} {t1 : TypeId} {cs : List Value} (h : ev e x = some (.pointer (some ⟨b, 0, none⟩))) (hb : ∀ w, S w → Blk w b t1 cs) (hl : cs.length = sz) (hS : S w) (hr : WS P n all S K r (push d (.agg cs.toArray) e) w) : OX P n all S K i true r d (.load t x) ty e w := O_quiet (fun w hw => does_loadB h (hb w hw) hl) hS hr
theorem O_indexP {t0 : TypeId} {p : Addr} {m c : Nat} {j : Int} {k : IntKind} {sz1 by1 : Nat} {zv1 : Value} {ag1 : Bool} [T : Ty P t (.slice t0) sz zv by_ ag] [T1 : Ty P t0 td sz1 zv1 by1 ag1] (h : ev e x = some (.slice (some p) m c)) (h1 : ev e y = some (.int k j)) (h0 : 0 ≤ j) (h2 : j < m) (hS : S w) (hr : WS P n all S K r (push d (.pointer (some (p.add (j.toNat * sz1)))) e) w) : OX P n all S K i true r d (.indexAddr t x y) ty e w := O_pure (p_indexP T.und h h1 h0 h2) hS hr
theorem O_fieldP {j off : Nat} [F : Fld P t j off] {p : Addr} (h : ev e x = some (.pointer (some p))) (hS : S w) (hr : WS P n all S K r (push d (.pointer (some (p.add off))) e) w) : OX P n all S K i true r d (.fieldAddr t x j) ty e w := O_pure (p_fieldP h) hS hr
theorem O_loadC [T : Ty P t td sz zv by_ false] {p : Addr} (h : ev e x = some (.pointer (some p))) (hb : ∀ w, S w → w.cell? p = some v) (hS : S w) (hr : WS P n all S K r (push d v e) w) : OX P n all S K i true r d (.load t x) ty e w := O_quiet (fun w hw => does_loadC h (hb w hw)) hS hr
theorem O_len {t0 : TypeId} {A : Option Addr} {m c : Nat} [T : Ty P t (.slice t0) sz zv by_ ag] (h : ev e x = some (.slice A m c)) (hS : S w) (hr : WS P n all S K r (push d (.int .i64 (m : Int)) e) w) : OX P n all S K i true r d (.call { callee := .builtin .len, args := #[x], argTypes := #[t] }) ty e w := O_pure (p_len T.und h) hS hr
theorem O_lenS {s : ByteArray} [T : Ty P t .string sz zv by_ ag] (h : ev e x = some (.string s)) (hS : S w) (hr : WS P n all S K r (push d (.int .i64 (s.size : Int)) e) w) : OX P n all S K i true r d (.call { callee := .builtin .len, args := #[x], argTypes := #[t] }) ty e w := O_pure (p_lenS T.und h) hS hr
theorem O_index {t0 : TypeId} {b o m c : Nat} {j : Int} {k : IntKind} {sz1 by1 : Nat} {zv1 : Value} {ag1 : Bool} [T : Ty P t (.slice t0) sz zv by_ ag] [T1 : Ty P t0 td sz1 zv1 by1 ag1] (h : ev e x = some (.slice (some ⟨b, o, none⟩) m c)) (h1 : ev e y = some (.int k j)) (h0 : 0 ≤ j) (h2 : j < m) (hS : S w) (hr : WS P n all S K r (push d (.pointer (some ⟨b, o + j.toNat * sz1, none⟩)) e) w) : OX P n all S K i true r d (.indexAddr t x y) ty e w := O_pure (p_indexAddr T.und h h1 h0 h2) hS hr
end draws
end SC
end Go.Proofs.YtclihihdgodloaaDoor
end
section
/- The seat's table: made by gen0.py out of the translation. -/
set_option linter.unusedVariables false
set_option linter.unusedSimpArgs false
namespace Go.Proofs.YtclihihdgodloaaDoor
namespace SC
open Go.Proofs
instance : Fn Tryd.prog 3 := ⟨fun args w => Tryd.call3 args w⟩
instance : Fn Tryd.prog 4 := ⟨fun args w => Tryd.call4 args w⟩
instance : Fn Tryd.prog 5 := ⟨fun args w => Tryd.call5 args w⟩
instance : Fn Tryd.prog 6 := ⟨fun args w => Tryd.call6 args w⟩
instance : Fn Tryd.prog 7 := ⟨fun args w => Tryd.call7 args w⟩
instance : Fn Tryd.prog 8 := ⟨fun args w => Tryd.call8 args w⟩
instance : Fn Tryd.prog 9 := ⟨fun args w => Tryd.call9 args w⟩
instance : Fn Tryd.prog 10 := ⟨fun args w => Tryd.call10 args w⟩
instance : Fn Tryd.prog 11 := ⟨fun args w => Tryd.call11 args w⟩
instance : Fn Tryd.prog 12 := ⟨fun args w => Tryd.call12 args w⟩
instance : Fn Tryd.prog 13 := ⟨fun args w => Tryd.call13 args w⟩
instance : Fn Tryd.prog 14 := ⟨fun args w => Tryd.call14 args w⟩
instance : Fn Tryd.prog 15 := ⟨fun args w => Tryd.call15 args w⟩
instance : Fn Tryd.prog 16 := ⟨fun args w => Tryd.call16 args w⟩
instance : Fn Tryd.prog 17 := ⟨fun args w => Tryd.call17 args w⟩
instance : Fn Tryd.prog 18 := ⟨fun args w => Tryd.call18 args w⟩
instance : Fn Tryd.prog 19 := ⟨fun args w => Tryd.call19 args w⟩
instance : Fn Tryd.prog 20 := ⟨fun args w => Tryd.call20 args w⟩
instance : Fn Tryd.prog 21 := ⟨fun args w => Tryd.call21 args w⟩
instance : Fn Tryd.prog 22 := ⟨fun args w => Tryd.call22 args w⟩
instance : Fn Tryd.prog 23 := ⟨fun args w => Tryd.call23 args w⟩
instance : Fn Tryd.prog 24 := ⟨fun args w => Tryd.call24 args w⟩
instance : Fn Tryd.prog 25 := ⟨fun args w => Tryd.call25 args w⟩
instance : Fn Tryd.prog 26 := ⟨fun args w => Tryd.call26 args w⟩
instance : Fn Tryd.prog 27 := ⟨fun args w => Tryd.call27 args w⟩
instance : Fn Tryd.prog 28 := ⟨fun args w => Tryd.call28 args w⟩
instance : Fn Tryd.prog 29 := ⟨fun args w => Tryd.call29 args w⟩
instance : Fn Tryd.prog 30 := ⟨fun args w => Tryd.call30 args w⟩
instance : Fn Tryd.prog 31 := ⟨fun args w => Tryd.call31 args w⟩
instance : Fn Tryd.prog 32 := ⟨fun args w => Tryd.call32 args w⟩
instance : Fn Tryd.prog 33 := ⟨fun args w => Tryd.call33 args w⟩
instance : Fn Tryd.prog 34 := ⟨fun args w => Tryd.call34 args w⟩
instance : Fn Tryd.prog 35 := ⟨fun args w => Tryd.call35 args w⟩
instance : Fn Tryd.prog 36 := ⟨fun args w => Tryd.call36 args w⟩
instance : Fn Tryd.prog 37 := ⟨fun args w => Tryd.call37 args w⟩
instance : Fn Tryd.prog 38 := ⟨fun args w => Tryd.call38 args w⟩
instance : Fn Tryd.prog 39 := ⟨fun args w => Tryd.call39 args w⟩
instance : Fn Tryd.prog 40 := ⟨fun args w => Tryd.call40 args w⟩
instance : Fn Tryd.prog 41 := ⟨fun args w => Tryd.call41 args w⟩
instance : Fn Tryd.prog 42 := ⟨fun args w => Tryd.call42 args w⟩
instance : Fn Tryd.prog 43 := ⟨fun args w => Tryd.call43 args w⟩
instance : Fn Tryd.prog 44 := ⟨fun args w => Tryd.call44 args w⟩
instance : Fn Tryd.prog 45 := ⟨fun args w => Tryd.call45 args w⟩
instance : Fn Tryd.prog 46 := ⟨fun args w => Tryd.call46 args w⟩
instance : Fn Tryd.prog 47 := ⟨fun args w => Tryd.call47 args w⟩
instance : Fn Tryd.prog 48 := ⟨fun args w => Tryd.call48 args w⟩
instance : Fn Tryd.prog 49 := ⟨fun args w => Tryd.call49 args w⟩
instance : Fn Tryd.prog 50 := ⟨fun args w => Tryd.call50 args w⟩
instance : Fn Tryd.prog 51 := ⟨fun args w => Tryd.call51 args w⟩
instance : Fn Tryd.prog 52 := ⟨fun args w => Tryd.call52 args w⟩
instance : Fn Tryd.prog 53 := ⟨fun args w => Tryd.call53 args w⟩
instance : Fn Tryd.prog 54 := ⟨fun args w => Tryd.call54 args w⟩
instance : Fn Tryd.prog 55 := ⟨fun args w => Tryd.call55 args w⟩
instance : Fn Tryd.prog 56 := ⟨fun args w => Tryd.call56 args w⟩
instance : Fn Tryd.prog 57 := ⟨fun args w => Tryd.call57 args w⟩
instance : Fn Tryd.prog 58 := ⟨fun args w => Tryd.call58 args w⟩
instance : Fn Tryd.prog 59 := ⟨fun args w => Tryd.call59 args w⟩
instance : Fn Tryd.prog 60 := ⟨fun args w => Tryd.call60 args w⟩
instance : Fn Tryd.prog 61 := ⟨fun args w => Tryd.call61 args w⟩
instance : Fn Tryd.prog 62 := ⟨fun args w => Tryd.call62 args w⟩
instance : Fn Tryd.prog 63 := ⟨fun args w => Tryd.call63 args w⟩
instance : Fn Tryd.prog 64 := ⟨fun args w => Tryd.call64 args w⟩
instance : Fn Tryd.prog 65 := ⟨fun args w => Tryd.call65 args w⟩
instance : Fn Tryd.prog 66 := ⟨fun args w => Tryd.call66 args w⟩
instance : Fn Tryd.prog 67 := ⟨fun args w => Tryd.call67 args w⟩
instance : Fn Tryd.prog 68 := ⟨fun args w => Tryd.call68 args w⟩
instance : Fn Tryd.prog 69 := ⟨fun args w => Tryd.call69 args w⟩
instance : Fn Tryd.prog 70 := ⟨fun args w => Tryd.call70 args w⟩
instance : Fn Tryd.prog 71 := ⟨fun args w => Tryd.call71 args w⟩
instance : Fn Tryd.prog 72 := ⟨fun args w => Tryd.call72 args w⟩
instance : Fn Tryd.prog 73 := ⟨fun args w => Tryd.call73 args w⟩
instance : Fn Tryd.prog 74 := ⟨fun args w => Tryd.call74 args w⟩
instance : Fn Tryd.prog 75 := ⟨fun args w => Tryd.call75 args w⟩
instance : Fn Tryd.prog 76 := ⟨fun args w => Tryd.call76 args w⟩
instance : Fn Tryd.prog 77 := ⟨fun args w => Tryd.call77 args w⟩
instance : Fn Tryd.prog 78 := ⟨fun args w => Tryd.call78 args w⟩
instance : Fn Tryd.prog 79 := ⟨fun args w => Tryd.call79 args w⟩
instance : Fn Tryd.prog 80 := ⟨fun args w => Tryd.call80 args w⟩
instance : Fn Tryd.prog 81 := ⟨fun args w => Tryd.call81 args w⟩
instance : Fn Tryd.prog 82 := ⟨fun args w => Tryd.call82 args w⟩
instance : Fn Tryd.prog 83 := ⟨fun args w => Tryd.call83 args w⟩
instance : Fn Tryd.prog 84 := ⟨fun args w => Tryd.call84 args w⟩
instance : Fn Tryd.prog 85 := ⟨fun args w => Tryd.call85 args w⟩
instance : Fn Tryd.prog 86 := ⟨fun args w => Tryd.call86 args w⟩
instance : Fn Tryd.prog 87 := ⟨fun args w => Tryd.call87 args w⟩
instance : Fn Tryd.prog 88 := ⟨fun args w => Tryd.call88 args w⟩
instance : Fn Tryd.prog 89 := ⟨fun args w => Tryd.call89 args w⟩
instance : Fn Tryd.prog 90 := ⟨fun args w => Tryd.call90 args w⟩
instance : Fn Tryd.prog 91 := ⟨fun args w => Tryd.call91 args w⟩
instance : Fn Tryd.prog 92 := ⟨fun args w => Tryd.call92 args w⟩
instance : Fn Tryd.prog 93 := ⟨fun args w => Tryd.call93 args w⟩
instance : Fn Tryd.prog 94 := ⟨fun args w => Tryd.call94 args w⟩
instance : Fn Tryd.prog 95 := ⟨fun args w => Tryd.call95 args w⟩
instance : Fn Tryd.prog 96 := ⟨fun args w => Tryd.call96 args w⟩
instance : Fn Tryd.prog 97 := ⟨fun args w => Tryd.call97 args w⟩
instance : Fn Tryd.prog 98 := ⟨fun args w => Tryd.call98 args w⟩
instance : Fn Tryd.prog 99 := ⟨fun args w => Tryd.call99 args w⟩
instance : Fn Tryd.prog 100 := ⟨fun args w => Tryd.call100 args w⟩
instance : Fn Tryd.prog 101 := ⟨fun args w => Tryd.call101 args w⟩
instance : Fn Tryd.prog 102 := ⟨fun args w => Tryd.call102 args w⟩
instance : Fn Tryd.prog 103 := ⟨fun args w => Tryd.call103 args w⟩
instance : Fn Tryd.prog 104 := ⟨fun args w => Tryd.call104 args w⟩
instance : Fn Tryd.prog 105 := ⟨fun args w => Tryd.call105 args w⟩
instance : Fn Tryd.prog 106 := ⟨fun args w => Tryd.call106 args w⟩
instance : Fn Tryd.prog 107 := ⟨fun args w => Tryd.call107 args w⟩
instance : Fn Tryd.prog 108 := ⟨fun args w => Tryd.call108 args w⟩
instance : Fn Tryd.prog 109 := ⟨fun args w => Tryd.call109 args w⟩
instance : Fn Tryd.prog 110 := ⟨fun args w => Tryd.call110 args w⟩
instance : Fn Tryd.prog 111 := ⟨fun args w => Tryd.call111 args w⟩
instance : Fn Tryd.prog 112 := ⟨fun args w => Tryd.call112 args w⟩
instance : Fn Tryd.prog 113 := ⟨fun args w => Tryd.call113 args w⟩
instance : Fn Tryd.prog 114 := ⟨fun args w => Tryd.call114 args w⟩
instance : Fn Tryd.prog 115 := ⟨fun args w => Tryd.call115 args w⟩
instance : Fn Tryd.prog 117 := ⟨fun args w => Tryd.call117 args w⟩
instance : Fn Tryd.prog 118 := ⟨fun args w => Tryd.call118 args w⟩
instance : Fn Tryd.prog 119 := ⟨fun args w => Tryd.call119 args w⟩
instance : Ty Tryd.prog 2 (Go.TypeDesc.int Go.IntKind.i64) 1 (.int .i64 0) 8 false := ⟨Tryd.underlying2, by kernel_rfl, fun w => Tryd.zeroValue2 w, fun w => Tryd.sizeOf2 w, fun w => Tryd.isAgg2 w⟩
instance : Ty Tryd.prog 3 (Go.TypeDesc.int Go.IntKind.i64) 1 (.int .i64 0) 8 false := ⟨Tryd.underlying3, by kernel_rfl, fun w => Tryd.zeroValue3 w, fun w => Tryd.sizeOf3 w, fun w => Tryd.isAgg3 w⟩
instance : Ty Tryd.prog 4 Go.TypeDesc.bool 1 (.bool false) 1 false := ⟨Tryd.underlying4, by kernel_rfl, fun w => Tryd.zeroValue4 w, fun w => Tryd.sizeOf4 w, fun w => Tryd.isAgg4 w⟩
instance : Ty Tryd.prog 5 (Go.TypeDesc.int Go.IntKind.u8) 1 (.int .u8 0) 1 false := ⟨Tryd.underlying5, by kernel_rfl, fun w => Tryd.zeroValue5 w, fun w => Tryd.sizeOf5 w, fun w => Tryd.isAgg5 w⟩
instance : Ty Tryd.prog 9 Go.TypeDesc.string 1 (.string ⟨#[]⟩) 16 false := ⟨Tryd.underlying9, by kernel_rfl, fun w => Tryd.zeroValue9 w, fun w => Tryd.sizeOf9 w, fun w => Tryd.isAgg9 w⟩
instance : Ty Tryd.prog 10 Go.TypeDesc.string 1 (.string ⟨#[]⟩) 16 false := ⟨Tryd.underlying10, by kernel_rfl, fun w => Tryd.zeroValue10 w, fun w => Tryd.sizeOf10 w, fun w => Tryd.isAgg10 w⟩
instance : Ty Tryd.prog 22 (Go.TypeDesc.slice 3) 1 (.slice none 0 0) 24 false := ⟨Tryd.underlying22, by kernel_rfl, fun w => Tryd.zeroValue22 w, fun w => Tryd.sizeOf22 w, fun w => Tryd.isAgg22 w⟩
instance : Ty Tryd.prog 23 (Go.TypeDesc.slice 59) 1 (.slice none 0 0) 24 false := ⟨Tryd.underlying23, by kernel_rfl, fun w => Tryd.zeroValue23 w, fun w => Tryd.sizeOf23 w, fun w => Tryd.isAgg23 w⟩
instance : Ty Tryd.prog 24 (Go.TypeDesc.slice 22) 1 (.slice none 0 0) 24 false := ⟨Tryd.underlying24, by kernel_rfl, fun w => Tryd.zeroValue24 w, fun w => Tryd.sizeOf24 w, fun w => Tryd.isAgg24 w⟩
instance : Ty Tryd.prog 25 (Go.TypeDesc.slice 61) 1 (.slice none 0 0) 24 false := ⟨Tryd.underlying25, by kernel_rfl, fun w => Tryd.zeroValue25 w, fun w => Tryd.sizeOf25 w, fun w => Tryd.isAgg25 w⟩
instance : Ty Tryd.prog 26 (Go.TypeDesc.slice 130) 1 (.slice none 0 0) 24 false := ⟨Tryd.underlying26, by kernel_rfl, fun w => Tryd.zeroValue26 w, fun w => Tryd.sizeOf26 w, fun w => Tryd.isAgg26 w⟩
instance : Ty Tryd.prog 27 (Go.TypeDesc.slice 9) 1 (.slice none 0 0) 24 false := ⟨Tryd.underlying27, by kernel_rfl, fun w => Tryd.zeroValue27 w, fun w => Tryd.sizeOf27 w, fun w => Tryd.isAgg27 w⟩
instance : Ty Tryd.prog 28 (Go.TypeDesc.struct #[{ name := "Max", type := 3, offset := 0, embedded := false, tag := "", pkgPath := "", byteOffset := 0 }, { name := "Inputs", type := 22, offset := 1, embedded := false, tag := "", pkgPath := "", byteOffset := 8 }, { name := "Latches", type := 23, offset := 2, embedded := false, tag := "", pkgPath := "", byteOffset := 32 }, { name := "Outputs", type := 22, offset := 3, embedded := false, tag := "", pkgPath := "", byteOffset := 56 }, { name := "Bads", type := 22, offset := 4, embedded := false, tag := "", pkgPath := "", byteOffset := 80 }, { name := "Constraints", type := 22, offset := 5, embedded := false, tag := "", pkgPath := "", byteOffset := 104 }, { name := "Justice", type := 24, offset := 6, embedded := false, tag := "", pkgPath := "", byteOffset := 128 }, { name := "Fairness", type := 22, offset := 7, embedded := false, tag := "", pkgPath := "", byteOffset := 152 }, { name := "Ands", type := 25, offset := 8, embedded := false, tag := "", pkgPath := "", byteOffset := 176 }, { name := "Symbols", type := 26, offset := 9, embedded := false, tag := "", pkgPath := "", byteOffset := 200 }, { name := "Comments", type := 27, offset := 10, embedded := false, tag := "", pkgPath := "", byteOffset := 224 }]) 11 (.agg #[(.int .i64 0), (.slice none 0 0), (.slice none 0 0), (.slice none 0 0), (.slice none 0 0), (.slice none 0 0), (.slice none 0 0), (.slice none 0 0), (.slice none 0 0), (.slice none 0 0), (.slice none 0 0)]) 248 true := ⟨Tryd.underlying28, by kernel_rfl, fun w => Tryd.zeroValue28 w, fun w => Tryd.sizeOf28 w, fun w => Tryd.isAgg28 w⟩
instance : Ty Tryd.prog 29 (Go.TypeDesc.struct #[{ name := "Max", type := 3, offset := 0, embedded := false, tag := "", pkgPath := "", byteOffset := 0 }, { name := "Inputs", type := 22, offset := 1, embedded := false, tag := "", pkgPath := "", byteOffset := 8 }, { name := "Latches", type := 23, offset := 2, embedded := false, tag := "", pkgPath := "", byteOffset := 32 }, { name := "Outputs", type := 22, offset := 3, embedded := false, tag := "", pkgPath := "", byteOffset := 56 }, { name := "Bads", type := 22, offset := 4, embedded := false, tag := "", pkgPath := "", byteOffset := 80 }, { name := "Constraints", type := 22, offset := 5, embedded := false, tag := "", pkgPath := "", byteOffset := 104 }, { name := "Justice", type := 24, offset := 6, embedded := false, tag := "", pkgPath := "", byteOffset := 128 }, { name := "Fairness", type := 22, offset := 7, embedded := false, tag := "", pkgPath := "", byteOffset := 152 }, { name := "Ands", type := 25, offset := 8, embedded := false, tag := "", pkgPath := "", byteOffset := 176 }, { name := "Symbols", type := 26, offset := 9, embedded := false, tag := "", pkgPath := "", byteOffset := 200 }, { name := "Comments", type := 27, offset := 10, embedded := false, tag := "", pkgPath := "", byteOffset := 224 }]) 11 (.agg #[(.int .i64 0), (.slice none 0 0), (.slice none 0 0), (.slice none 0 0), (.slice none 0 0), (.slice none 0 0), (.slice none 0 0), (.slice none 0 0), (.slice none 0 0), (.slice none 0 0), (.slice none 0 0)]) 248 true := ⟨Tryd.underlying29, by kernel_rfl, fun w => Tryd.zeroValue29 w, fun w => Tryd.sizeOf29 w, fun w => Tryd.isAgg29 w⟩
instance : Ty Tryd.prog 30 (Go.TypeDesc.struct #[{ name := "Latches", type := 22, offset := 0, embedded := false, tag := "", pkgPath := "", byteOffset := 0 }, { name := "Inputs", type := 22, offset := 1, embedded := false, tag := "", pkgPath := "", byteOffset := 24 }, { name := "Lits", type := 22, offset := 2, embedded := false, tag := "", pkgPath := "", byteOffset := 48 }]) 3 (.agg #[(.slice none 0 0), (.slice none 0 0), (.slice none 0 0)]) 72 true := ⟨Tryd.underlying30, by kernel_rfl, fun w => Tryd.zeroValue30 w, fun w => Tryd.sizeOf30 w, fun w => Tryd.isAgg30 w⟩
instance : Ty Tryd.prog 31 (Go.TypeDesc.struct #[{ name := "Latches", type := 22, offset := 0, embedded := false, tag := "", pkgPath := "", byteOffset := 0 }, { name := "Inputs", type := 22, offset := 1, embedded := false, tag := "", pkgPath := "", byteOffset := 24 }, { name := "Lits", type := 22, offset := 2, embedded := false, tag := "", pkgPath := "", byteOffset := 48 }]) 3 (.agg #[(.slice none 0 0), (.slice none 0 0), (.slice none 0 0)]) 72 true := ⟨Tryd.underlying31, by kernel_rfl, fun w => Tryd.zeroValue31 w, fun w => Tryd.sizeOf31 w, fun w => Tryd.isAgg31 w⟩
instance : Ty Tryd.prog 34 (Go.TypeDesc.int Go.IntKind.i64) 1 (.int .i64 0) 8 false := ⟨Tryd.underlying34, by kernel_rfl, fun w => Tryd.zeroValue34 w, fun w => Tryd.sizeOf34 w, fun w => Tryd.isAgg34 w⟩
instance : Ty Tryd.prog 52 (Go.TypeDesc.int Go.IntKind.u64) 1 (.int .u64 0) 8 false := ⟨Tryd.underlying52, by kernel_rfl, fun w => Tryd.zeroValue52 w, fun w => Tryd.sizeOf52 w, fun w => Tryd.isAgg52 w⟩
instance : Ty Tryd.prog 53 (Go.TypeDesc.slice 4) 1 (.slice none 0 0) 24 false := ⟨Tryd.underlying53, by kernel_rfl, fun w => Tryd.zeroValue53 w, fun w => Tryd.sizeOf53 w, fun w => Tryd.isAgg53 w⟩
instance : Ty Tryd.prog 55 (Go.TypeDesc.int Go.IntKind.u64) 1 (.int .u64 0) 8 false := ⟨Tryd.underlying55, by kernel_rfl, fun w => Tryd.zeroValue55 w, fun w => Tryd.sizeOf55 w, fun w => Tryd.isAgg55 w⟩
instance : Ty Tryd.prog 58 (Go.TypeDesc.struct #[{ name := "Lit", type := 3, offset := 0, embedded := false, tag := "", pkgPath := "", byteOffset := 0 }, { name := "Next", type := 3, offset := 1, embedded := false, tag := "", pkgPath := "", byteOffset := 8 }, { name := "Reset", type := 3, offset := 2, embedded := false, tag := "", pkgPath := "", byteOffset := 16 }]) 3 (.agg #[(.int .i64 0), (.int .i64 0), (.int .i64 0)]) 24 true := ⟨Tryd.underlying58, by kernel_rfl, fun w => Tryd.zeroValue58 w, fun w => Tryd.sizeOf58 w, fun w => Tryd.isAgg58 w⟩
instance : Ty Tryd.prog 59 (Go.TypeDesc.struct #[{ name := "Lit", type := 3, offset := 0, embedded := false, tag := "", pkgPath := "", byteOffset := 0 }, { name := "Next", type := 3, offset := 1, embedded := false, tag := "", pkgPath := "", byteOffset := 8 }, { name := "Reset", type := 3, offset := 2, embedded := false, tag := "", pkgPath := "", byteOffset := 16 }]) 3 (.agg #[(.int .i64 0), (.int .i64 0), (.int .i64 0)]) 24 true := ⟨Tryd.underlying59, by kernel_rfl, fun w => Tryd.zeroValue59 w, fun w => Tryd.sizeOf59 w, fun w => Tryd.isAgg59 w⟩
instance : Ty Tryd.prog 60 (Go.TypeDesc.struct #[{ name := "Out", type := 3, offset := 0, embedded := false, tag := "", pkgPath := "", byteOffset := 0 }, { name := "Left", type := 3, offset := 1, embedded := false, tag := "", pkgPath := "", byteOffset := 8 }, { name := "Right", type := 3, offset := 2, embedded := false, tag := "", pkgPath := "", byteOffset := 16 }]) 3 (.agg #[(.int .i64 0), (.int .i64 0), (.int .i64 0)]) 24 true := ⟨Tryd.underlying60, by kernel_rfl, fun w => Tryd.zeroValue60 w, fun w => Tryd.sizeOf60 w, fun w => Tryd.isAgg60 w⟩
instance : Ty Tryd.prog 61 (Go.TypeDesc.struct #[{ name := "Out", type := 3, offset := 0, embedded := false, tag := "", pkgPath := "", byteOffset := 0 }, { name := "Left", type := 3, offset := 1, embedded := false, tag := "", pkgPath := "", byteOffset := 8 }, { name := "Right", type := 3, offset := 2, embedded := false, tag := "", pkgPath := "", byteOffset := 16 }]) 3 (.agg #[(.int .i64 0), (.int .i64 0), (.int .i64 0)]) 24 true := ⟨Tryd.underlying61, by kernel_rfl, fun w => Tryd.zeroValue61 w, fun w => Tryd.sizeOf61 w, fun w => Tryd.isAgg61 w⟩
instance : Ty Tryd.prog 63 (Go.TypeDesc.slice 53) 1 (.slice none 0 0) 24 false := ⟨Tryd.underlying63, by kernel_rfl, fun w => Tryd.zeroValue63 w, fun w => Tryd.sizeOf63 w, fun w => Tryd.isAgg63 w⟩
instance : Ty Tryd.prog 64 (Go.TypeDesc.struct #[{ name := "Init", type := 53, offset := 0, embedded := false, tag := "", pkgPath := "", byteOffset := 0 }, { name := "Inputs", type := 63, offset := 1, embedded := false, tag := "", pkgPath := "", byteOffset := 24 }, { name := "Loop", type := 3, offset := 2, embedded := false, tag := "", pkgPath := "", byteOffset := 48 }]) 3 (.agg #[(.slice none 0 0), (.slice none 0 0), (.int .i64 0)]) 56 true := ⟨Tryd.underlying64, by kernel_rfl, fun w => Tryd.zeroValue64 w, fun w => Tryd.sizeOf64 w, fun w => Tryd.isAgg64 w⟩
instance : Ty Tryd.prog 65 (Go.TypeDesc.struct #[{ name := "Init", type := 53, offset := 0, embedded := false, tag := "", pkgPath := "", byteOffset := 0 }, { name := "Inputs", type := 63, offset := 1, embedded := false, tag := "", pkgPath := "", byteOffset := 24 }, { name := "Loop", type := 3, offset := 2, embedded := false, tag := "", pkgPath := "", byteOffset := 48 }]) 3 (.agg #[(.slice none 0 0), (.slice none 0 0), (.int .i64 0)]) 56 true := ⟨Tryd.underlying65, by kernel_rfl, fun w => Tryd.zeroValue65 w, fun w => Tryd.sizeOf65 w, fun w => Tryd.isAgg65 w⟩
instance : Ty Tryd.prog 68 (Go.TypeDesc.slice 73) 1 (.slice none 0 0) 24 false := ⟨Tryd.underlying68, by kernel_rfl, fun w => Tryd.zeroValue68 w, fun w => Tryd.sizeOf68 w, fun w => Tryd.isAgg68 w⟩
instance : Ty Tryd.prog 71 (Go.TypeDesc.slice 127) 1 (.slice none 0 0) 24 false := ⟨Tryd.underlying71, by kernel_rfl, fun w => Tryd.zeroValue71 w, fun w => Tryd.sizeOf71 w, fun w => Tryd.isAgg71 w⟩
instance : Ty Tryd.prog 72 (Go.TypeDesc.struct #[{ name := "State", type := 53, offset := 0, embedded := false, tag := "", pkgPath := "", byteOffset := 0 }, { name := "Holds", type := 4, offset := 1, embedded := false, tag := "", pkgPath := "", byteOffset := 24 }, { name := "Bads", type := 22, offset := 2, embedded := false, tag := "", pkgPath := "", byteOffset := 32 }, { name := "Fair", type := 71, offset := 3, embedded := false, tag := "", pkgPath := "", byteOffset := 56 }]) 4 (.agg #[(.slice none 0 0), (.bool false), (.slice none 0 0), (.slice none 0 0)]) 80 true := ⟨Tryd.underlying72, by kernel_rfl, fun w => Tryd.zeroValue72 w, fun w => Tryd.sizeOf72 w, fun w => Tryd.isAgg72 w⟩
instance : Ty Tryd.prog 73 (Go.TypeDesc.struct #[{ name := "State", type := 53, offset := 0, embedded := false, tag := "", pkgPath := "", byteOffset := 0 }, { name := "Holds", type := 4, offset := 1, embedded := false, tag := "", pkgPath := "", byteOffset := 24 }, { name := "Bads", type := 22, offset := 2, embedded := false, tag := "", pkgPath := "", byteOffset := 32 }, { name := "Fair", type := 71, offset := 3, embedded := false, tag := "", pkgPath := "", byteOffset := 56 }]) 4 (.agg #[(.slice none 0 0), (.bool false), (.slice none 0 0), (.slice none 0 0)]) 80 true := ⟨Tryd.underlying73, by kernel_rfl, fun w => Tryd.zeroValue73 w, fun w => Tryd.sizeOf73 w, fun w => Tryd.isAgg73 w⟩
instance : Ty Tryd.prog 75 (Go.TypeDesc.pointer 103) 1 (.pointer none) 8 false := ⟨Tryd.underlying75, by kernel_rfl, fun w => Tryd.zeroValue75 w, fun w => Tryd.sizeOf75 w, fun w => Tryd.isAgg75 w⟩
instance : Ty Tryd.prog 80 (Go.TypeDesc.func #[3] #[4] false) 1 .nilFunc 8 false := ⟨Tryd.underlying80, by kernel_rfl, fun w => Tryd.zeroValue80 w, fun w => Tryd.sizeOf80 w, fun w => Tryd.isAgg80 w⟩
instance : Ty Tryd.prog 81 (Go.TypeDesc.func #[22] #[4] false) 1 .nilFunc 8 false := ⟨Tryd.underlying81, by kernel_rfl, fun w => Tryd.zeroValue81 w, fun w => Tryd.sizeOf81 w, fun w => Tryd.isAgg81 w⟩
instance : Ty Tryd.prog 91 (Go.TypeDesc.pointer 123) 1 (.pointer none) 8 false := ⟨Tryd.underlying91, by kernel_rfl, fun w => Tryd.zeroValue91 w, fun w => Tryd.sizeOf91 w, fun w => Tryd.isAgg91 w⟩
instance : Ty Tryd.prog 101 (Go.TypeDesc.array 3 3) 3 (.agg #[(.int .i64 0), (.int .i64 0), (.int .i64 0)]) 24 true := ⟨Tryd.underlying101, by kernel_rfl, fun w => Tryd.zeroValue101 w, fun w => Tryd.sizeOf101 w, fun w => Tryd.isAgg101 w⟩
instance : Ty Tryd.prog 102 (Go.TypeDesc.struct #[{ name := "c", type := 29, offset := 0, embedded := false, tag := "", pkgPath := "trestle/tern", byteOffset := 0 }, { name := "order", type := 22, offset := 11, embedded := false, tag := "", pkgPath := "trestle/tern", byteOffset := 248 }]) 12 (.agg #[(.int .i64 0), (.slice none 0 0), (.slice none 0 0), (.slice none 0 0), (.slice none 0 0), (.slice none 0 0), (.slice none 0 0), (.slice none 0 0), (.slice none 0 0), (.slice none 0 0), (.slice none 0 0), (.slice none 0 0)]) 272 true := ⟨Tryd.underlying102, by kernel_rfl, fun w => Tryd.zeroValue102 w, fun w => Tryd.sizeOf102 w, fun w => Tryd.isAgg102 w⟩
instance : Ty Tryd.prog 103 (Go.TypeDesc.struct #[{ name := "c", type := 29, offset := 0, embedded := false, tag := "", pkgPath := "trestle/tern", byteOffset := 0 }, { name := "order", type := 22, offset := 11, embedded := false, tag := "", pkgPath := "trestle/tern", byteOffset := 248 }]) 12 (.agg #[(.int .i64 0), (.slice none 0 0), (.slice none 0 0), (.slice none 0 0), (.slice none 0 0), (.slice none 0 0), (.slice none 0 0), (.slice none 0 0), (.slice none 0 0), (.slice none 0 0), (.slice none 0 0), (.slice none 0 0)]) 272 true := ⟨Tryd.underlying103, by kernel_rfl, fun w => Tryd.zeroValue103 w, fun w => Tryd.sizeOf103 w, fun w => Tryd.isAgg103 w⟩
instance : Ty Tryd.prog 104 (Go.TypeDesc.array 3 101) 9 (.agg #[(.int .i64 0), (.int .i64 0), (.int .i64 0), (.int .i64 0), (.int .i64 0), (.int .i64 0), (.int .i64 0), (.int .i64 0), (.int .i64 0)]) 72 true := ⟨Tryd.underlying104, by kernel_rfl, fun w => Tryd.zeroValue104 w, fun w => Tryd.sizeOf104 w, fun w => Tryd.isAgg104 w⟩
instance : Ty Tryd.prog 112 (Go.TypeDesc.pointer 139) 1 (.pointer none) 8 false := ⟨Tryd.underlying112, by kernel_rfl, fun w => Tryd.zeroValue112 w, fun w => Tryd.sizeOf112 w, fun w => Tryd.isAgg112 w⟩
instance : Ty Tryd.prog 120 (Go.TypeDesc.func #[3, 3] #[3] false) 1 .nilFunc 8 false := ⟨Tryd.underlying120, by kernel_rfl, fun w => Tryd.zeroValue120 w, fun w => Tryd.sizeOf120 w, fun w => Tryd.isAgg120 w⟩
instance : Ty Tryd.prog 122 (Go.TypeDesc.struct #[{ name := "c", type := 29, offset := 0, embedded := false, tag := "", pkgPath := "trestle/sim", byteOffset := 0 }, { name := "order", type := 22, offset := 11, embedded := false, tag := "", pkgPath := "trestle/sim", byteOffset := 248 }]) 12 (.agg #[(.int .i64 0), (.slice none 0 0), (.slice none 0 0), (.slice none 0 0), (.slice none 0 0), (.slice none 0 0), (.slice none 0 0), (.slice none 0 0), (.slice none 0 0), (.slice none 0 0), (.slice none 0 0), (.slice none 0 0)]) 272 true := ⟨Tryd.underlying122, by kernel_rfl, fun w => Tryd.zeroValue122 w, fun w => Tryd.sizeOf122 w, fun w => Tryd.isAgg122 w⟩
instance : Ty Tryd.prog 123 (Go.TypeDesc.struct #[{ name := "c", type := 29, offset := 0, embedded := false, tag := "", pkgPath := "trestle/sim", byteOffset := 0 }, { name := "order", type := 22, offset := 11, embedded := false, tag := "", pkgPath := "trestle/sim", byteOffset := 248 }]) 12 (.agg #[(.int .i64 0), (.slice none 0 0), (.slice none 0 0), (.slice none 0 0), (.slice none 0 0), (.slice none 0 0), (.slice none 0 0), (.slice none 0 0), (.slice none 0 0), (.slice none 0 0), (.slice none 0 0), (.slice none 0 0)]) 272 true := ⟨Tryd.underlying123, by kernel_rfl, fun w => Tryd.zeroValue123 w, fun w => Tryd.sizeOf123 w, fun w => Tryd.isAgg123 w⟩
instance : Ty Tryd.prog 126 (Go.TypeDesc.struct #[{ name := "At", type := 3, offset := 0, embedded := false, tag := "", pkgPath := "", byteOffset := 0 }, { name := "In", type := 3, offset := 1, embedded := false, tag := "", pkgPath := "", byteOffset := 8 }]) 2 (.agg #[(.int .i64 0), (.int .i64 0)]) 16 true := ⟨Tryd.underlying126, by kernel_rfl, fun w => Tryd.zeroValue126 w, fun w => Tryd.sizeOf126 w, fun w => Tryd.isAgg126 w⟩
instance : Ty Tryd.prog 127 (Go.TypeDesc.struct #[{ name := "At", type := 3, offset := 0, embedded := false, tag := "", pkgPath := "", byteOffset := 0 }, { name := "In", type := 3, offset := 1, embedded := false, tag := "", pkgPath := "", byteOffset := 8 }]) 2 (.agg #[(.int .i64 0), (.int .i64 0)]) 16 true := ⟨Tryd.underlying127, by kernel_rfl, fun w => Tryd.zeroValue127 w, fun w => Tryd.sizeOf127 w, fun w => Tryd.isAgg127 w⟩
instance : Ty Tryd.prog 128 (Go.TypeDesc.func #[3, 22] #[] false) 1 .nilFunc 8 false := ⟨Tryd.underlying128, by kernel_rfl, fun w => Tryd.zeroValue128 w, fun w => Tryd.sizeOf128 w, fun w => Tryd.isAgg128 w⟩
instance : Ty Tryd.prog 129 (Go.TypeDesc.struct #[{ name := "Kind", type := 5, offset := 0, embedded := false, tag := "", pkgPath := "", byteOffset := 0 }, { name := "At", type := 3, offset := 1, embedded := false, tag := "", pkgPath := "", byteOffset := 8 }, { name := "Name", type := 9, offset := 2, embedded := false, tag := "", pkgPath := "", byteOffset := 16 }]) 3 (.agg #[(.int .u8 0), (.int .i64 0), (.string ⟨#[]⟩)]) 32 true := ⟨Tryd.underlying129, by kernel_rfl, fun w => Tryd.zeroValue129 w, fun w => Tryd.sizeOf129 w, fun w => Tryd.isAgg129 w⟩
instance : Ty Tryd.prog 130 (Go.TypeDesc.struct #[{ name := "Kind", type := 5, offset := 0, embedded := false, tag := "", pkgPath := "", byteOffset := 0 }, { name := "At", type := 3, offset := 1, embedded := false, tag := "", pkgPath := "", byteOffset := 8 }, { name := "Name", type := 9, offset := 2, embedded := false, tag := "", pkgPath := "", byteOffset := 16 }]) 3 (.agg #[(.int .u8 0), (.int .i64 0), (.string ⟨#[]⟩)]) 32 true := ⟨Tryd.underlying130, by kernel_rfl, fun w => Tryd.zeroValue130 w, fun w => Tryd.sizeOf130 w, fun w => Tryd.isAgg130 w⟩
instance : Ty Tryd.prog 132 (Go.TypeDesc.int Go.IntKind.u32) 1 (.int .u32 0) 4 false := ⟨Tryd.underlying132, by kernel_rfl, fun w => Tryd.zeroValue132 w, fun w => Tryd.sizeOf132 w, fun w => Tryd.isAgg132 w⟩
instance : Ty Tryd.prog 137 (Go.TypeDesc.slice 158) 1 (.slice none 0 0) 24 false := ⟨Tryd.underlying137, by kernel_rfl, fun w => Tryd.zeroValue137 w, fun w => Tryd.sizeOf137 w, fun w => Tryd.isAgg137 w⟩
instance : Ty Tryd.prog 138 (Go.TypeDesc.struct #[{ name := "c", type := 29, offset := 0, embedded := false, tag := "", pkgPath := "trestle/shape", byteOffset := 0 }, { name := "by", type := 137, offset := 11, embedded := false, tag := "", pkgPath := "trestle/shape", byteOffset := 248 }]) 12 (.agg #[(.int .i64 0), (.slice none 0 0), (.slice none 0 0), (.slice none 0 0), (.slice none 0 0), (.slice none 0 0), (.slice none 0 0), (.slice none 0 0), (.slice none 0 0), (.slice none 0 0), (.slice none 0 0), (.slice none 0 0)]) 272 true := ⟨Tryd.underlying138, by kernel_rfl, fun w => Tryd.zeroValue138 w, fun w => Tryd.sizeOf138 w, fun w => Tryd.isAgg138 w⟩
instance : Ty Tryd.prog 139 (Go.TypeDesc.struct #[{ name := "c", type := 29, offset := 0, embedded := false, tag := "", pkgPath := "trestle/shape", byteOffset := 0 }, { name := "by", type := 137, offset := 11, embedded := false, tag := "", pkgPath := "trestle/shape", byteOffset := 248 }]) 12 (.agg #[(.int .i64 0), (.slice none 0 0), (.slice none 0 0), (.slice none 0 0), (.slice none 0 0), (.slice none 0 0), (.slice none 0 0), (.slice none 0 0), (.slice none 0 0), (.slice none 0 0), (.slice none 0 0), (.slice none 0 0)]) 272 true := ⟨Tryd.underlying139, by kernel_rfl, fun w => Tryd.zeroValue139 w, fun w => Tryd.sizeOf139 w, fun w => Tryd.isAgg139 w⟩
instance : Ty Tryd.prog 144 (Go.TypeDesc.slice 5) 1 (.slice none 0 0) 24 false := ⟨Tryd.underlying144, by kernel_rfl, fun w => Tryd.zeroValue144 w, fun w => Tryd.sizeOf144 w, fun w => Tryd.isAgg144 w⟩
instance : Ty Tryd.prog 146 (Go.TypeDesc.array 3 22) 3 (.agg #[(.slice none 0 0), (.slice none 0 0), (.slice none 0 0)]) 72 true := ⟨Tryd.underlying146, by kernel_rfl, fun w => Tryd.zeroValue146 w, fun w => Tryd.sizeOf146 w, fun w => Tryd.isAgg146 w⟩
instance : Ty Tryd.prog 148 (Go.TypeDesc.array 2 3) 2 (.agg #[(.int .i64 0), (.int .i64 0)]) 16 true := ⟨Tryd.underlying148, by kernel_rfl, fun w => Tryd.zeroValue148 w, fun w => Tryd.sizeOf148 w, fun w => Tryd.isAgg148 w⟩
instance : Ty Tryd.prog 153 (Go.TypeDesc.func #[3] #[] false) 1 .nilFunc 8 false := ⟨Tryd.underlying153, by kernel_rfl, fun w => Tryd.zeroValue153 w, fun w => Tryd.sizeOf153 w, fun w => Tryd.isAgg153 w⟩
instance : Ty Tryd.prog 154 (Go.TypeDesc.array 10 3) 10 (.agg #[(.int .i64 0), (.int .i64 0), (.int .i64 0), (.int .i64 0), (.int .i64 0), (.int .i64 0), (.int .i64 0), (.int .i64 0), (.int .i64 0), (.int .i64 0)]) 80 true := ⟨Tryd.underlying154, by kernel_rfl, fun w => Tryd.zeroValue154 w, fun w => Tryd.sizeOf154 w, fun w => Tryd.isAgg154 w⟩
instance : Ty Tryd.prog 157 (Go.TypeDesc.struct #[{ name := "kind", type := 3, offset := 0, embedded := false, tag := "", pkgPath := "trestle/shape", byteOffset := 0 }, { name := "at", type := 3, offset := 1, embedded := false, tag := "", pkgPath := "trestle/shape", byteOffset := 8 }]) 2 (.agg #[(.int .i64 0), (.int .i64 0)]) 16 true := ⟨Tryd.underlying157, by kernel_rfl, fun w => Tryd.zeroValue157 w, fun w => Tryd.sizeOf157 w, fun w => Tryd.isAgg157 w⟩
instance : Ty Tryd.prog 158 (Go.TypeDesc.struct #[{ name := "kind", type := 3, offset := 0, embedded := false, tag := "", pkgPath := "trestle/shape", byteOffset := 0 }, { name := "at", type := 3, offset := 1, embedded := false, tag := "", pkgPath := "trestle/shape", byteOffset := 8 }]) 2 (.agg #[(.int .i64 0), (.int .i64 0)]) 16 true := ⟨Tryd.underlying158, by kernel_rfl, fun w => Tryd.zeroValue158 w, fun w => Tryd.sizeOf158 w, fun w => Tryd.isAgg158 w⟩
instance : Ty Tryd.prog 160 (Go.TypeDesc.map 163 3) 1 (.map none) 8 false := ⟨Tryd.underlying160, by kernel_rfl, fun w => Tryd.zeroValue160 w, fun w => Tryd.sizeOf160 w, fun w => Tryd.isAgg160 w⟩
instance : Ty Tryd.prog 162 (Go.TypeDesc.struct #[{ name := "kind", type := 5, offset := 0, embedded := false, tag := "", pkgPath := "trestle/shape", byteOffset := 0 }, { name := "at", type := 3, offset := 1, embedded := false, tag := "", pkgPath := "trestle/shape", byteOffset := 8 }]) 2 (.agg #[(.int .u8 0), (.int .i64 0)]) 16 true := ⟨Tryd.underlying162, by kernel_rfl, fun w => Tryd.zeroValue162 w, fun w => Tryd.sizeOf162 w, fun w => Tryd.isAgg162 w⟩
instance : Ty Tryd.prog 163 (Go.TypeDesc.struct #[{ name := "kind", type := 5, offset := 0, embedded := false, tag := "", pkgPath := "trestle/shape", byteOffset := 0 }, { name := "at", type := 3, offset := 1, embedded := false, tag := "", pkgPath := "trestle/shape", byteOffset := 8 }]) 2 (.agg #[(.int .u8 0), (.int .i64 0)]) 16 true := ⟨Tryd.underlying163, by kernel_rfl, fun w => Tryd.zeroValue163 w, fun w => Tryd.sizeOf163 w, fun w => Tryd.isAgg163 w⟩
instance : Fld Tryd.prog 29 0 0 := ⟨⟨_, _, _, Tryd.underlying29, rfl, rfl, fun w => Tryd.sizeOf3 w, by decide⟩⟩
instance : Fld Tryd.prog 29 1 1 := ⟨⟨_, _, _, Tryd.underlying29, rfl, rfl, fun w => Tryd.sizeOf22 w, by decide⟩⟩
instance : Fld Tryd.prog 29 2 2 := ⟨⟨_, _, _, Tryd.underlying29, rfl, rfl, fun w => Tryd.sizeOf23 w, by decide⟩⟩
instance : Fld Tryd.prog 29 3 3 := ⟨⟨_, _, _, Tryd.underlying29, rfl, rfl, fun w => Tryd.sizeOf22 w, by decide⟩⟩
instance : Fld Tryd.prog 29 4 4 := ⟨⟨_, _, _, Tryd.underlying29, rfl, rfl, fun w => Tryd.sizeOf22 w, by decide⟩⟩
instance : Fld Tryd.prog 29 5 5 := ⟨⟨_, _, _, Tryd.underlying29, rfl, rfl, fun w => Tryd.sizeOf22 w, by decide⟩⟩
instance : Fld Tryd.prog 29 6 6 := ⟨⟨_, _, _, Tryd.underlying29, rfl, rfl, fun w => Tryd.sizeOf24 w, by decide⟩⟩
instance : Fld Tryd.prog 29 7 7 := ⟨⟨_, _, _, Tryd.underlying29, rfl, rfl, fun w => Tryd.sizeOf22 w, by decide⟩⟩
instance : Fld Tryd.prog 29 8 8 := ⟨⟨_, _, _, Tryd.underlying29, rfl, rfl, fun w => Tryd.sizeOf25 w, by decide⟩⟩
instance : Fld Tryd.prog 29 9 9 := ⟨⟨_, _, _, Tryd.underlying29, rfl, rfl, fun w => Tryd.sizeOf26 w, by decide⟩⟩
instance : Fld Tryd.prog 29 10 10 := ⟨⟨_, _, _, Tryd.underlying29, rfl, rfl, fun w => Tryd.sizeOf27 w, by decide⟩⟩
instance : Fld Tryd.prog 31 0 0 := ⟨⟨_, _, _, Tryd.underlying31, rfl, rfl, fun w => Tryd.sizeOf22 w, by decide⟩⟩
instance : Fld Tryd.prog 31 1 1 := ⟨⟨_, _, _, Tryd.underlying31, rfl, rfl, fun w => Tryd.sizeOf22 w, by decide⟩⟩
instance : Fld Tryd.prog 31 2 2 := ⟨⟨_, _, _, Tryd.underlying31, rfl, rfl, fun w => Tryd.sizeOf22 w, by decide⟩⟩
instance : Fld Tryd.prog 59 0 0 := ⟨⟨_, _, _, Tryd.underlying59, rfl, rfl, fun w => Tryd.sizeOf3 w, by decide⟩⟩
instance : Fld Tryd.prog 59 1 1 := ⟨⟨_, _, _, Tryd.underlying59, rfl, rfl, fun w => Tryd.sizeOf3 w, by decide⟩⟩
instance : Fld Tryd.prog 59 2 2 := ⟨⟨_, _, _, Tryd.underlying59, rfl, rfl, fun w => Tryd.sizeOf3 w, by decide⟩⟩
instance : Fld Tryd.prog 61 0 0 := ⟨⟨_, _, _, Tryd.underlying61, rfl, rfl, fun w => Tryd.sizeOf3 w, by decide⟩⟩
instance : Fld Tryd.prog 61 1 1 := ⟨⟨_, _, _, Tryd.underlying61, rfl, rfl, fun w => Tryd.sizeOf3 w, by decide⟩⟩
instance : Fld Tryd.prog 61 2 2 := ⟨⟨_, _, _, Tryd.underlying61, rfl, rfl, fun w => Tryd.sizeOf3 w, by decide⟩⟩
instance : Fld Tryd.prog 65 0 0 := ⟨⟨_, _, _, Tryd.underlying65, rfl, rfl, fun w => Tryd.sizeOf53 w, by decide⟩⟩
instance : Fld Tryd.prog 65 1 1 := ⟨⟨_, _, _, Tryd.underlying65, rfl, rfl, fun w => Tryd.sizeOf63 w, by decide⟩⟩
instance : Fld Tryd.prog 65 2 2 := ⟨⟨_, _, _, Tryd.underlying65, rfl, rfl, fun w => Tryd.sizeOf3 w, by decide⟩⟩
instance : Fld Tryd.prog 73 0 0 := ⟨⟨_, _, _, Tryd.underlying73, rfl, rfl, fun w => Tryd.sizeOf53 w, by decide⟩⟩
instance : Fld Tryd.prog 73 2 2 := ⟨⟨_, _, _, Tryd.underlying73, rfl, rfl, fun w => Tryd.sizeOf22 w, by decide⟩⟩
instance : Fld Tryd.prog 73 3 3 := ⟨⟨_, _, _, Tryd.underlying73, rfl, rfl, fun w => Tryd.sizeOf71 w, by decide⟩⟩
instance : Fld Tryd.prog 103 0 0 := ⟨⟨_, _, _, Tryd.underlying103, rfl, rfl, fun w => Tryd.sizeOf29 w, by decide⟩⟩
instance : Fld Tryd.prog 103 1 11 := ⟨⟨_, _, _, Tryd.underlying103, rfl, rfl, fun w => Tryd.sizeOf22 w, by decide⟩⟩
instance : Fld Tryd.prog 123 0 0 := ⟨⟨_, _, _, Tryd.underlying123, rfl, rfl, fun w => Tryd.sizeOf29 w, by decide⟩⟩
instance : Fld Tryd.prog 123 1 11 := ⟨⟨_, _, _, Tryd.underlying123, rfl, rfl, fun w => Tryd.sizeOf22 w, by decide⟩⟩
instance : Fld Tryd.prog 130 0 0 := ⟨⟨_, _, _, Tryd.underlying130, rfl, rfl, fun w => Tryd.sizeOf5 w, by decide⟩⟩
instance : Fld Tryd.prog 130 1 1 := ⟨⟨_, _, _, Tryd.underlying130, rfl, rfl, fun w => Tryd.sizeOf3 w, by decide⟩⟩
instance : Fld Tryd.prog 130 2 2 := ⟨⟨_, _, _, Tryd.underlying130, rfl, rfl, fun w => Tryd.sizeOf9 w, by decide⟩⟩
instance : Fld Tryd.prog 139 0 0 := ⟨⟨_, _, _, Tryd.underlying139, rfl, rfl, fun w => Tryd.sizeOf29 w, by decide⟩⟩
instance : Fld Tryd.prog 139 1 11 := ⟨⟨_, _, _, Tryd.underlying139, rfl, rfl, fun w => Tryd.sizeOf137 w, by decide⟩⟩
instance : Fld Tryd.prog 158 0 0 := ⟨⟨_, _, _, Tryd.underlying158, rfl, rfl, fun w => Tryd.sizeOf3 w, by decide⟩⟩
instance : Fld Tryd.prog 158 1 1 := ⟨⟨_, _, _, Tryd.underlying158, rfl, rfl, fun w => Tryd.sizeOf3 w, by decide⟩⟩
theorem build59_0_1 {e : Env} {ty : TypeId} {x0 x1 : Operand} {v0 v1 : Value} (h0 : ev e x0 = some (v0)) (h1 : ev e x1 = some (v1)) (c0 : v0.cells = #[v0] := by rfl) (c1 : v1.cells = #[v1] := by rfl) : Pure Tryd.prog (.build 59 #[(0, x0), (1, x1)]) ty e (.agg #[v0, v1, (.int .i64 0)]) := by
  intro w ρ dst pos af g hρ
  have hr : ∀ w, (Instr.build 59 #[(0, v0), (1, v1)]).run Tryd.prog w = .ok (.agg #[v0, v1, (.int .i64 0)]) w := by
    intro w
    have hb : Tryd.prog.built 59 [(0, v0), (1, v1)] = some #[v0, v1, (.int .i64 0)] := by
      have hz : Tryd.prog.info? 59 = some Tryd.t59 := by kernel_rfl
      simp [Program.built, hz, Tryd.t59, Tryd.underlying59, (show Tryd.prog.info? 3 = some Tryd.t3 by kernel_rfl), Tryd.t3, Instr.fill, agg_cells, c0, c1]
    exact run_build w 59 #[(0, v0), (1, v1)] #[v0, v1, (.int .i64 0)] hb
  simp [execOp, hr, hρ _ _ h0, hρ _ _ h1]
theorem build61_0_1_2 {e : Env} {ty : TypeId} {x0 x1 x2 : Operand} {v0 v1 v2 : Value} (h0 : ev e x0 = some (v0)) (h1 : ev e x1 = some (v1)) (h2 : ev e x2 = some (v2)) (c0 : v0.cells = #[v0] := by rfl) (c1 : v1.cells = #[v1] := by rfl) (c2 : v2.cells = #[v2] := by rfl) : Pure Tryd.prog (.build 61 #[(0, x0), (1, x1), (2, x2)]) ty e (.agg #[v0, v1, v2]) := by
  intro w ρ dst pos af g hρ
  have hr : ∀ w, (Instr.build 61 #[(0, v0), (1, v1), (2, v2)]).run Tryd.prog w = .ok (.agg #[v0, v1, v2]) w := by
    intro w
    have hb : Tryd.prog.built 61 [(0, v0), (1, v1), (2, v2)] = some #[v0, v1, v2] := by
      have hz : Tryd.prog.info? 61 = some Tryd.t61 := by kernel_rfl
      simp [Program.built, hz, Tryd.t61, Tryd.underlying61, (show Tryd.prog.info? 3 = some Tryd.t3 by kernel_rfl), Tryd.t3, Instr.fill, agg_cells, c0, c1, c2]
    exact run_build w 61 #[(0, v0), (1, v1), (2, v2)] #[v0, v1, v2] hb
  simp [execOp, hr, hρ _ _ h0, hρ _ _ h1, hρ _ _ h2]
theorem build29_0_2_8 {e : Env} {ty : TypeId} {x0 x1 x2 : Operand} {v0 v1 v2 : Value} (h0 : ev e x0 = some (v0)) (h1 : ev e x1 = some (v1)) (h2 : ev e x2 = some (v2)) (c0 : v0.cells = #[v0] := by rfl) (c1 : v1.cells = #[v1] := by rfl) (c2 : v2.cells = #[v2] := by rfl) : Pure Tryd.prog (.build 29 #[(0, x0), (2, x1), (8, x2)]) ty e (.agg #[v0, (.slice none 0 0), v1, (.slice none 0 0), (.slice none 0 0), (.slice none 0 0), (.slice none 0 0), (.slice none 0 0), v2, (.slice none 0 0), (.slice none 0 0)]) := by
  intro w ρ dst pos af g hρ
  have hr : ∀ w, (Instr.build 29 #[(0, v0), (2, v1), (8, v2)]).run Tryd.prog w = .ok (.agg #[v0, (.slice none 0 0), v1, (.slice none 0 0), (.slice none 0 0), (.slice none 0 0), (.slice none 0 0), (.slice none 0 0), v2, (.slice none 0 0), (.slice none 0 0)]) w := by
    intro w
    have hb : Tryd.prog.built 29 [(0, v0), (2, v1), (8, v2)] = some #[v0, (.slice none 0 0), v1, (.slice none 0 0), (.slice none 0 0), (.slice none 0 0), (.slice none 0 0), (.slice none 0 0), v2, (.slice none 0 0), (.slice none 0 0)] := by
      have hz : Tryd.prog.info? 29 = some Tryd.t29 := by kernel_rfl
      simp [Program.built, hz, Tryd.t29, Tryd.underlying29, (show Tryd.prog.info? 22 = some Tryd.t22 by kernel_rfl), Tryd.t22, (show Tryd.prog.info? 23 = some Tryd.t23 by kernel_rfl), Tryd.t23, (show Tryd.prog.info? 24 = some Tryd.t24 by kernel_rfl), Tryd.t24, (show Tryd.prog.info? 25 = some Tryd.t25 by kernel_rfl), Tryd.t25, (show Tryd.prog.info? 26 = some Tryd.t26 by kernel_rfl), Tryd.t26, (show Tryd.prog.info? 27 = some Tryd.t27 by kernel_rfl), Tryd.t27, (show Tryd.prog.info? 3 = some Tryd.t3 by kernel_rfl), Tryd.t3, Instr.fill, agg_cells, c0, c1, c2]
    exact run_build w 29 #[(0, v0), (2, v1), (8, v2)] #[v0, (.slice none 0 0), v1, (.slice none 0 0), (.slice none 0 0), (.slice none 0 0), (.slice none 0 0), (.slice none 0 0), v2, (.slice none 0 0), (.slice none 0 0)] hb
  simp [execOp, hr, hρ _ _ h0, hρ _ _ h1, hρ _ _ h2]
theorem build103_0_1 {e : Env} {ty : TypeId} {x0 x1 : Operand} {v0_0 v0_1 v0_2 v0_3 v0_4 v0_5 v0_6 v0_7 v0_8 v0_9 v0_10 v1 : Value} (h0 : ev e x0 = some (.agg #[v0_0, v0_1, v0_2, v0_3, v0_4, v0_5, v0_6, v0_7, v0_8, v0_9, v0_10])) (h1 : ev e x1 = some (v1)) (c1 : v1.cells = #[v1] := by rfl) : Pure Tryd.prog (.build 103 #[(0, x0), (1, x1)]) ty e (.agg #[v0_0, v0_1, v0_2, v0_3, v0_4, v0_5, v0_6, v0_7, v0_8, v0_9, v0_10, v1]) := by
  intro w ρ dst pos af g hρ
  have hr : ∀ w, (Instr.build 103 #[(0, .agg #[v0_0, v0_1, v0_2, v0_3, v0_4, v0_5, v0_6, v0_7, v0_8, v0_9, v0_10]), (1, v1)]).run Tryd.prog w = .ok (.agg #[v0_0, v0_1, v0_2, v0_3, v0_4, v0_5, v0_6, v0_7, v0_8, v0_9, v0_10, v1]) w := by
    intro w
    have hb : Tryd.prog.built 103 [(0, .agg #[v0_0, v0_1, v0_2, v0_3, v0_4, v0_5, v0_6, v0_7, v0_8, v0_9, v0_10]), (1, v1)] = some #[v0_0, v0_1, v0_2, v0_3, v0_4, v0_5, v0_6, v0_7, v0_8, v0_9, v0_10, v1] := by
      have hz : Tryd.prog.info? 103 = some Tryd.t103 := by kernel_rfl
      simp [Program.built, hz, Tryd.t103, Tryd.underlying103, (show Tryd.prog.info? 22 = some Tryd.t22 by kernel_rfl), Tryd.t22, (show Tryd.prog.info? 29 = some Tryd.t29 by kernel_rfl), Tryd.t29, Instr.fill, agg_cells, c1]
    exact run_build w 103 #[(0, .agg #[v0_0, v0_1, v0_2, v0_3, v0_4, v0_5, v0_6, v0_7, v0_8, v0_9, v0_10]), (1, v1)] #[v0_0, v0_1, v0_2, v0_3, v0_4, v0_5, v0_6, v0_7, v0_8, v0_9, v0_10, v1] hb
  simp [execOp, hr, hρ _ _ h0, hρ _ _ h1]
theorem build123_0_1 {e : Env} {ty : TypeId} {x0 x1 : Operand} {v0_0 v0_1 v0_2 v0_3 v0_4 v0_5 v0_6 v0_7 v0_8 v0_9 v0_10 v1 : Value} (h0 : ev e x0 = some (.agg #[v0_0, v0_1, v0_2, v0_3, v0_4, v0_5, v0_6, v0_7, v0_8, v0_9, v0_10])) (h1 : ev e x1 = some (v1)) (c1 : v1.cells = #[v1] := by rfl) : Pure Tryd.prog (.build 123 #[(0, x0), (1, x1)]) ty e (.agg #[v0_0, v0_1, v0_2, v0_3, v0_4, v0_5, v0_6, v0_7, v0_8, v0_9, v0_10, v1]) := by
  intro w ρ dst pos af g hρ
  have hr : ∀ w, (Instr.build 123 #[(0, .agg #[v0_0, v0_1, v0_2, v0_3, v0_4, v0_5, v0_6, v0_7, v0_8, v0_9, v0_10]), (1, v1)]).run Tryd.prog w = .ok (.agg #[v0_0, v0_1, v0_2, v0_3, v0_4, v0_5, v0_6, v0_7, v0_8, v0_9, v0_10, v1]) w := by
    intro w
    have hb : Tryd.prog.built 123 [(0, .agg #[v0_0, v0_1, v0_2, v0_3, v0_4, v0_5, v0_6, v0_7, v0_8, v0_9, v0_10]), (1, v1)] = some #[v0_0, v0_1, v0_2, v0_3, v0_4, v0_5, v0_6, v0_7, v0_8, v0_9, v0_10, v1] := by
      have hz : Tryd.prog.info? 123 = some Tryd.t123 := by kernel_rfl
      simp [Program.built, hz, Tryd.t123, Tryd.underlying123, (show Tryd.prog.info? 22 = some Tryd.t22 by kernel_rfl), Tryd.t22, (show Tryd.prog.info? 29 = some Tryd.t29 by kernel_rfl), Tryd.t29, Instr.fill, agg_cells, c1]
    exact run_build w 123 #[(0, .agg #[v0_0, v0_1, v0_2, v0_3, v0_4, v0_5, v0_6, v0_7, v0_8, v0_9, v0_10]), (1, v1)] #[v0_0, v0_1, v0_2, v0_3, v0_4, v0_5, v0_6, v0_7, v0_8, v0_9, v0_10, v1] hb
  simp [execOp, hr, hρ _ _ h0, hρ _ _ h1]
theorem build139_0_1 {e : Env} {ty : TypeId} {x0 x1 : Operand} {v0_0 v0_1 v0_2 v0_3 v0_4 v0_5 v0_6 v0_7 v0_8 v0_9 v0_10 v1 : Value} (h0 : ev e x0 = some (.agg #[v0_0, v0_1, v0_2, v0_3, v0_4, v0_5, v0_6, v0_7, v0_8, v0_9, v0_10])) (h1 : ev e x1 = some (v1)) (c1 : v1.cells = #[v1] := by rfl) : Pure Tryd.prog (.build 139 #[(0, x0), (1, x1)]) ty e (.agg #[v0_0, v0_1, v0_2, v0_3, v0_4, v0_5, v0_6, v0_7, v0_8, v0_9, v0_10, v1]) := by
  intro w ρ dst pos af g hρ
  have hr : ∀ w, (Instr.build 139 #[(0, .agg #[v0_0, v0_1, v0_2, v0_3, v0_4, v0_5, v0_6, v0_7, v0_8, v0_9, v0_10]), (1, v1)]).run Tryd.prog w = .ok (.agg #[v0_0, v0_1, v0_2, v0_3, v0_4, v0_5, v0_6, v0_7, v0_8, v0_9, v0_10, v1]) w := by
    intro w
    have hb : Tryd.prog.built 139 [(0, .agg #[v0_0, v0_1, v0_2, v0_3, v0_4, v0_5, v0_6, v0_7, v0_8, v0_9, v0_10]), (1, v1)] = some #[v0_0, v0_1, v0_2, v0_3, v0_4, v0_5, v0_6, v0_7, v0_8, v0_9, v0_10, v1] := by
      have hz : Tryd.prog.info? 139 = some Tryd.t139 := by kernel_rfl
      simp [Program.built, hz, Tryd.t139, Tryd.underlying139, (show Tryd.prog.info? 137 = some Tryd.t137 by kernel_rfl), Tryd.t137, (show Tryd.prog.info? 29 = some Tryd.t29 by kernel_rfl), Tryd.t29, Instr.fill, agg_cells, c1]
    exact run_build w 139 #[(0, .agg #[v0_0, v0_1, v0_2, v0_3, v0_4, v0_5, v0_6, v0_7, v0_8, v0_9, v0_10]), (1, v1)] #[v0_0, v0_1, v0_2, v0_3, v0_4, v0_5, v0_6, v0_7, v0_8, v0_9, v0_10, v1] hb
  simp [execOp, hr, hρ _ _ h0, hρ _ _ h1]
theorem build148_0_1 {e : Env} {ty : TypeId} {x0 x1 : Operand} {v0 v1 : Value} (h0 : ev e x0 = some (v0)) (h1 : ev e x1 = some (v1)) (c0 : v0.cells = #[v0] := by rfl) (c1 : v1.cells = #[v1] := by rfl) : Pure Tryd.prog (.build 148 #[(0, x0), (1, x1)]) ty e (.agg #[v0, v1]) := by
  intro w ρ dst pos af g hρ
  have hr : ∀ w, (Instr.build 148 #[(0, v0), (1, v1)]).run Tryd.prog w = .ok (.agg #[v0, v1]) w := by
    intro w
    have hb : Tryd.prog.built 148 [(0, v0), (1, v1)] = some #[v0, v1] := by
      have hz : Tryd.prog.info? 148 = some Tryd.t148 := by kernel_rfl
      simp [Program.built, hz, Tryd.t148, Tryd.underlying148, (show Tryd.prog.info? 3 = some Tryd.t3 by kernel_rfl), Tryd.t3, Instr.fill, agg_cells, c0, c1]
    exact run_build w 148 #[(0, v0), (1, v1)] #[v0, v1] hb
  simp [execOp, hr, hρ _ _ h0, hρ _ _ h1]
theorem build154_0_1_2_3_4_5_6_7_8_9 {e : Env} {ty : TypeId} {x0 x1 x2 x3 x4 x5 x6 x7 x8 x9 : Operand} {v0 v1 v2 v3 v4 v5 v6 v7 v8 v9 : Value} (h0 : ev e x0 = some (v0)) (h1 : ev e x1 = some (v1)) (h2 : ev e x2 = some (v2)) (h3 : ev e x3 = some (v3)) (h4 : ev e x4 = some (v4)) (h5 : ev e x5 = some (v5)) (h6 : ev e x6 = some (v6)) (h7 : ev e x7 = some (v7)) (h8 : ev e x8 = some (v8)) (h9 : ev e x9 = some (v9)) (c0 : v0.cells = #[v0] := by rfl) (c1 : v1.cells = #[v1] := by rfl) (c2 : v2.cells = #[v2] := by rfl) (c3 : v3.cells = #[v3] := by rfl) (c4 : v4.cells = #[v4] := by rfl) (c5 : v5.cells = #[v5] := by rfl) (c6 : v6.cells = #[v6] := by rfl) (c7 : v7.cells = #[v7] := by rfl) (c8 : v8.cells = #[v8] := by rfl) (c9 : v9.cells = #[v9] := by rfl) : Pure Tryd.prog (.build 154 #[(0, x0), (1, x1), (2, x2), (3, x3), (4, x4), (5, x5), (6, x6), (7, x7), (8, x8), (9, x9)]) ty e (.agg #[v0, v1, v2, v3, v4, v5, v6, v7, v8, v9]) := by
  intro w ρ dst pos af g hρ
  have hr : ∀ w, (Instr.build 154 #[(0, v0), (1, v1), (2, v2), (3, v3), (4, v4), (5, v5), (6, v6), (7, v7), (8, v8), (9, v9)]).run Tryd.prog w = .ok (.agg #[v0, v1, v2, v3, v4, v5, v6, v7, v8, v9]) w := by
    intro w
    have hb : Tryd.prog.built 154 [(0, v0), (1, v1), (2, v2), (3, v3), (4, v4), (5, v5), (6, v6), (7, v7), (8, v8), (9, v9)] = some #[v0, v1, v2, v3, v4, v5, v6, v7, v8, v9] := by
      have hz : Tryd.prog.info? 154 = some Tryd.t154 := by kernel_rfl
      simp [Program.built, hz, Tryd.t154, Tryd.underlying154, (show Tryd.prog.info? 3 = some Tryd.t3 by kernel_rfl), Tryd.t3, Instr.fill, agg_cells, c0, c1, c2, c3, c4, c5, c6, c7, c8, c9]
    exact run_build w 154 #[(0, v0), (1, v1), (2, v2), (3, v3), (4, v4), (5, v5), (6, v6), (7, v7), (8, v8), (9, v9)] #[v0, v1, v2, v3, v4, v5, v6, v7, v8, v9] hb
  simp [execOp, hr, hρ _ _ h0, hρ _ _ h1, hρ _ _ h2, hρ _ _ h3, hρ _ _ h4, hρ _ _ h5, hρ _ _ h6, hρ _ _ h7, hρ _ _ h8, hρ _ _ h9]
theorem build158_0_1 {e : Env} {ty : TypeId} {x0 x1 : Operand} {v0 v1 : Value} (h0 : ev e x0 = some (v0)) (h1 : ev e x1 = some (v1)) (c0 : v0.cells = #[v0] := by rfl) (c1 : v1.cells = #[v1] := by rfl) : Pure Tryd.prog (.build 158 #[(0, x0), (1, x1)]) ty e (.agg #[v0, v1]) := by
  intro w ρ dst pos af g hρ
  have hr : ∀ w, (Instr.build 158 #[(0, v0), (1, v1)]).run Tryd.prog w = .ok (.agg #[v0, v1]) w := by
    intro w
    have hb : Tryd.prog.built 158 [(0, v0), (1, v1)] = some #[v0, v1] := by
      have hz : Tryd.prog.info? 158 = some Tryd.t158 := by kernel_rfl
      simp [Program.built, hz, Tryd.t158, Tryd.underlying158, (show Tryd.prog.info? 3 = some Tryd.t3 by kernel_rfl), Tryd.t3, Instr.fill, agg_cells, c0, c1]
    exact run_build w 158 #[(0, v0), (1, v1)] #[v0, v1] hb
  simp [execOp, hr, hρ _ _ h0, hρ _ _ h1]
theorem build163_0_1 {e : Env} {ty : TypeId} {x0 x1 : Operand} {v0 v1 : Value} (h0 : ev e x0 = some (v0)) (h1 : ev e x1 = some (v1)) (c0 : v0.cells = #[v0] := by rfl) (c1 : v1.cells = #[v1] := by rfl) : Pure Tryd.prog (.build 163 #[(0, x0), (1, x1)]) ty e (.agg #[v0, v1]) := by
  intro w ρ dst pos af g hρ
  have hr : ∀ w, (Instr.build 163 #[(0, v0), (1, v1)]).run Tryd.prog w = .ok (.agg #[v0, v1]) w := by
    intro w
    have hb : Tryd.prog.built 163 [(0, v0), (1, v1)] = some #[v0, v1] := by
      have hz : Tryd.prog.info? 163 = some Tryd.t163 := by kernel_rfl
      simp [Program.built, hz, Tryd.t163, Tryd.underlying163, (show Tryd.prog.info? 3 = some Tryd.t3 by kernel_rfl), Tryd.t3, (show Tryd.prog.info? 5 = some Tryd.t5 by kernel_rfl), Tryd.t5, Instr.fill, agg_cells, c0, c1]
    exact run_build w 163 #[(0, v0), (1, v1)] #[v0, v1] hb
  simp [execOp, hr, hρ _ _ h0, hρ _ _ h1]
theorem buildS22_0 {e : Env} {w : World} {ty : TypeId} : Does Tryd.prog (.buildSlice 22 0 #[]) ty e w (.slice (some ⟨w.heap.size, 0, none⟩) 0 0) (w.alloc (.cells #[] 3)) := by
  intro ρ dst pos af g hρ
  simp [execOp, Instr.buildSlice, run_underlying Tryd.underlying22, Tryd.sizeOf3, Instr.fill, newRow, Array.range_zero']
theorem buildS25_1 {e : Env} {w : World} {ty : TypeId} {x0 : Operand} {v0_0 v0_1 v0_2 : Value} (h0 : ev e x0 = some (.agg #[v0_0, v0_1, v0_2])) : Does Tryd.prog (.buildSlice 25 1 #[(0, x0)]) ty e w (.slice (some ⟨w.heap.size, 0, none⟩) 1 1) (w.alloc (.cells #[v0_0, v0_1, v0_2] 61)) := by
  intro ρ dst pos af g hρ
  simp [execOp, Instr.buildSlice, run_underlying Tryd.underlying25, Tryd.sizeOf61, Tryd.zeroValue61, Instr.fill, newRow, agg_cells, Array.range, hρ _ _ h0] <;> rfl
theorem buildS22_1 {e : Env} {w : World} {ty : TypeId} {x0 : Operand} {v0 : Value} (h0 : ev e x0 = some (v0)) (c0 : v0.cells = #[v0] := by rfl) : Does Tryd.prog (.buildSlice 22 1 #[(0, x0)]) ty e w (.slice (some ⟨w.heap.size, 0, none⟩) 1 1) (w.alloc (.cells #[v0] 3)) := by
  intro ρ dst pos af g hρ
  simp [execOp, Instr.buildSlice, run_underlying Tryd.underlying22, Tryd.sizeOf3, Tryd.zeroValue3, Instr.fill, newRow, agg_cells, Array.range, hρ _ _ h0, c0] <;> rfl
theorem buildS23_2 {e : Env} {w : World} {ty : TypeId} {x0 x1 : Operand} {v0_0 v0_1 v0_2 v1_0 v1_1 v1_2 : Value} (h0 : ev e x0 = some (.agg #[v0_0, v0_1, v0_2])) (h1 : ev e x1 = some (.agg #[v1_0, v1_1, v1_2])) : Does Tryd.prog (.buildSlice 23 2 #[(0, x0), (1, x1)]) ty e w (.slice (some ⟨w.heap.size, 0, none⟩) 2 2) (w.alloc (.cells #[v0_0, v0_1, v0_2, v1_0, v1_1, v1_2] 59)) := by
  intro ρ dst pos af g hρ
  simp [execOp, Instr.buildSlice, run_underlying Tryd.underlying23, Tryd.sizeOf59, Tryd.zeroValue59, Instr.fill, newRow, agg_cells, Array.range, hρ _ _ h0, hρ _ _ h1] <;> rfl
theorem buildS22_2 {e : Env} {w : World} {ty : TypeId} {x0 x1 : Operand} {v0 v1 : Value} (h0 : ev e x0 = some (v0)) (h1 : ev e x1 = some (v1)) (c0 : v0.cells = #[v0] := by rfl) (c1 : v1.cells = #[v1] := by rfl) : Does Tryd.prog (.buildSlice 22 2 #[(0, x0), (1, x1)]) ty e w (.slice (some ⟨w.heap.size, 0, none⟩) 2 2) (w.alloc (.cells #[v0, v1] 3)) := by
  intro ρ dst pos af g hρ
  simp [execOp, Instr.buildSlice, run_underlying Tryd.underlying22, Tryd.sizeOf3, Tryd.zeroValue3, Instr.fill, newRow, agg_cells, Array.range, hρ _ _ h0, hρ _ _ h1, c0, c1] <;> rfl
theorem buildS24_3 {e : Env} {w : World} {ty : TypeId} {x0 x1 x2 : Operand} {v0 v1 v2 : Value} (h0 : ev e x0 = some (v0)) (h1 : ev e x1 = some (v1)) (h2 : ev e x2 = some (v2)) (c0 : v0.cells = #[v0] := by rfl) (c1 : v1.cells = #[v1] := by rfl) (c2 : v2.cells = #[v2] := by rfl) : Does Tryd.prog (.buildSlice 24 3 #[(0, x0), (1, x1), (2, x2)]) ty e w (.slice (some ⟨w.heap.size, 0, none⟩) 3 3) (w.alloc (.cells #[v0, v1, v2] 22)) := by
  intro ρ dst pos af g hρ
  simp [execOp, Instr.buildSlice, run_underlying Tryd.underlying24, Tryd.sizeOf22, Tryd.zeroValue22, Instr.fill, newRow, agg_cells, Array.range, hρ _ _ h0, hρ _ _ h1, hρ _ _ h2, c0, c1, c2] <;> rfl
end SC
end Go.Proofs.YtclihihdgodloaaDoor
end
section
/- Circuits: the plain word, and what lies in memory. -/
set_option linter.unusedVariables false
set_option linter.unusedSimpArgs false
namespace Go.Proofs.YtclihihdgodloaaDoor
namespace SC
open Go.Proofs
abbrev nu (a : Int) : Value := .int .i64 a
/-- A row of things, each of sz cells, as its elements' addresses tell it. -/
def RowA {α : Type} (w : World) (enc : α → List Value) (sz : Nat) (A : Option Addr) (l : List α) : Prop :=
  ∀ k (hk : k < l.length), ∃ p, A = some p ∧ ∀ j u, (enc l[k])[j]? = some u → w.cell? ((p.add ((k : Int).toNat * sz)).add j) = some u
theorem RowA.chg {α : Type} {w w' : World} {enc : α → List Value} {sz : Nat} {A : Option Addr} {l : List α} (h : RowA w enc sz A l) (hc : Chg w w' none_) : RowA w' enc sz A l := fun k hk => by
  obtain ⟨p, h1, h2⟩ := h k hk
  exact ⟨p, h1, fun j u hj => cel_chg (h2 j u hj) hc id⟩
theorem add_zero' (p : Addr) : p.add 0 = p := rfl
theorem RowA.one {α : Type} {w : World} {enc : α → List Value} {sz : Nat} {A : Option Addr} {l : List α} (h : RowA w enc sz A l) {k : Nat} (hk : k < l.length) {v : Value} (hv : (enc l[k])[0]? = some v) : ∃ p, A = some p ∧ w.cell? (p.add ((k : Int).toNat * sz)) = some v := by
  obtain ⟨p, h1, h2⟩ := h k hk
  exact ⟨p, h1, h2 0 v hv⟩
theorem flatMap_get {α : Type} (enc : α → List Value) (sz : Nat) (hsz : ∀ a, (enc a).length = sz) : ∀ (l : List α) (k : Nat) (hk : k < l.length) (j : Nat), j < sz → (l.flatMap enc)[k * sz + j]? = (enc l[k])[j]?
  | a :: r, 0, _, j, hj => by
    have h0 : j < (enc a).length := by rw [hsz]; exact hj
    simp only [List.flatMap_cons, Nat.zero_mul, Nat.zero_add, List.getElem_cons_zero]
    rw [List.getElem?_append_left h0]
  | a :: r, k + 1, hk, j, hj => by
    have ih := flatMap_get enc sz hsz r k (by simpa using hk) j hj
    simp only [List.flatMap_cons, List.getElem_cons_succ]
    rw [List.getElem?_append_right (by rw [hsz, Nat.succ_mul]; omega), hsz]
    have e : (k + 1) * sz + j - sz = k * sz + j := by rw [Nat.succ_mul]; omega
    rw [e]
    exact ih
/-- An own row, as its elements' addresses tell it. -/
theorem RowA.own {α : Type} {w : World} {enc : α → List Value} {sz base : Nat} {t : TypeId} {A : Option Addr} {c : Nat} {l : List α} (hsz : ∀ a, (enc a).length = sz) (h : w.ownsRow base t sz (.slice A l.length c) l.length (l.flatMap enc)) : RowA w enc sz A l := fun k hk => by
  rcases h.2 with ⟨hv, hn⟩ | ⟨g, cap, cur, hv, h0, hcur, hcap, hm, hs, ht⟩
  · omega
  · cases hv
    refine ⟨⟨g, 0, none⟩, rfl, fun j u hj => ?_⟩
    have hjl : j < sz := by have := (List.getElem?_eq_some_iff.1 hj).1; rwa [hsz] at this
    have e : (k : Int).toNat = k := by omega
    rw [e, add_at, add_at, Nat.zero_add]
    have hlt : k * sz + j < l.length * sz := by
      have : (k + 1) * sz ≤ l.length * sz := Nat.mul_le_mul_right sz hk
      rw [Nat.succ_mul] at this
      omega
    rw [cell_of_row w g (k * sz + j) cur t (0, 0) hcur]
    have h2 := flatMap_get enc sz hsz l k hk j hjl
    rw [← ht, List.getElem?_take_of_lt hlt] at h2
    rw [← Array.getElem?_toList, h2]
    exact hj
def icell (a : Int) : List Value := [nu a]
abbrev Tri := Int × Int × Int
def tcells (g : Tri) : List Value := [nu g.1, nu g.2.1, nu g.2.2]
structure Sym where
  kind : Int
  at_ : Int
  name : ByteArray
def scells (s : Sym) : List Value := [.int .u8 s.kind, nu s.at_, .string s.name]
def bcell (s : ByteArray) : List Value := [.string s]
structure Circ where
  max : Int
  inputs : List Int
  latches : List Tri
  outputs : List Int
  bads : List Int
  constraints : List Int
  justice : List (List Int)
  fairness : List Int
  ands : List Tri
  symbols : List Sym
  comments : List ByteArray
abbrev Hd := Nat → Option Addr × Nat
/-- The struct's cells. -/
def ccells (c : Circ) (h : Hd) : List Value :=
  [nu c.max, .slice (h 1).1 c.inputs.length (h 1).2, .slice (h 2).1 c.latches.length (h 2).2, .slice (h 3).1 c.outputs.length (h 3).2, .slice (h 4).1 c.bads.length (h 4).2, .slice (h 5).1 c.constraints.length (h 5).2,
   .slice (h 6).1 c.justice.length (h 6).2, .slice (h 7).1 c.fairness.length (h 7).2, .slice (h 8).1 c.ands.length (h 8).2, .slice (h 9).1 c.symbols.length (h 9).2, .slice (h 10).1 c.comments.length (h 10).2]
structure CirAt (w : World) (c : Circ) (h js : Hd) : Prop where
  inputs : RowA w icell 1 (h 1).1 c.inputs
  latches : RowA w tcells 3 (h 2).1 c.latches
  outputs : RowA w icell 1 (h 3).1 c.outputs
  bads : RowA w icell 1 (h 4).1 c.bads
  constraints : RowA w icell 1 (h 5).1 c.constraints
  justice : ∀ k (hk : k < c.justice.length), ∃ p, (h 6).1 = some p ∧ w.cell? (p.add ((k : Int).toNat * 1)) = some (.slice (js k).1 c.justice[k].length (js k).2)
  each : ∀ k (hk : k < c.justice.length), RowA w icell 1 (js k).1 c.justice[k]
  fairness : RowA w icell 1 (h 7).1 c.fairness
  ands : RowA w tcells 3 (h 8).1 c.ands
  symbols : RowA w scells 3 (h 9).1 c.symbols
  comments : RowA w bcell 1 (h 10).1 c.comments
/-- What any value in memory meets. -/
structure Circ.Sane (c : Circ) : Prop where
  just : ∀ l ∈ c.justice, l.length ≤ 9223372036854775807
  kinds : ∀ s ∈ c.symbols, 0 ≤ s.kind ∧ s.kind ≤ 255
  ats : ∀ s ∈ c.symbols, -9223372036854775808 ≤ s.at_ ∧ s.at_ ≤ 9223372036854775807
  names : ∀ s ∈ c.symbols, s.name.size ≤ 9223372036854775807
  texts : ∀ s ∈ c.comments, s.size ≤ 9223372036854775807
  lens : c.inputs.length ≤ 9223372036854775807 ∧ c.latches.length ≤ 9223372036854775807 ∧ c.outputs.length ≤ 9223372036854775807 ∧ c.bads.length ≤ 9223372036854775807 ∧ c.constraints.length ≤ 9223372036854775807 ∧ c.justice.length ≤ 9223372036854775807 ∧ c.fairness.length ≤ 9223372036854775807 ∧ c.ands.length ≤ 9223372036854775807 ∧ c.symbols.length ≤ 9223372036854775807 ∧ c.comments.length ≤ 9223372036854775807
theorem CirAt.chg {w w' : World} {c : Circ} {h js : Hd} (H : CirAt w c h js) (hc : Chg w w' none_) : CirAt w' c h js :=
  ⟨H.inputs.chg hc, H.latches.chg hc, H.outputs.chg hc, H.bads.chg hc, H.constraints.chg hc, fun k hk => by obtain ⟨p, h1, h2⟩ := H.justice k hk; exact ⟨p, h1, cel_chg h2 hc id⟩, fun k hk => (H.each k hk).chg hc, H.fairness.chg hc, H.ands.chg hc, H.symbols.chg hc, H.comments.chg hc⟩
end SC
end Go.Proofs.YtclihihdgodloaaDoor
end
section
/- shape: how much there is. -/
set_option linter.unusedVariables false
set_option linter.unusedSimpArgs false
namespace Go.Proofs.YtclihihdgodloaaDoor
namespace SC
open Go.Proofs
attribute [local irreducible] WC WL WX WS WO OX Does DoesU Enters CV Pure thenQ blockQ retQ Wants
set_option maxRecDepth 100000
section
variable {P : Program} {ty : TypeId} {e : Env} {w : World} {x y : Operand} {t t0 : TypeId} {d0 : TypeDesc} {zv v : Value} {by_ m sz by1 : Nat} {z1 : Value} {n : Nat} {all rest : List Oper} {K : Env → World → Prop} {d : Option Tmp}
theorem p_indexArr (hu : P.underlying t = some (.array m t0)) (T : Ty P t0 d0 1 zv by_ false) {vs : Array Value} {k : IntKind} {i : Int} (h : ev e x = some (.agg vs)) (h1 : ev e y = some (.int k i)) (h0 : 0 ≤ i) (h2 : i < m) (hv : vs.toList[i.toNat]? = some v) : Pure P (.index t x y) ty e v := by
  unfold Pure Does
  intro w ρ dst pos af g hρ
  have hv' : vs[i.toNat]? = some v := by rw [← Array.getElem?_toList]; exact hv
  simp [execOp, hρ _ _ h, hρ _ _ h1, Instr.index, asIntOf, run_underlying hu, h0, h2, T.size, part, T.agg, hv']
theorem X_indexArr [U : Ty P t (.array m t0) sz z1 by1 true] [T : Ty P t0 d0 1 zv by_ false] {vs : Array Value} {k : IntKind} {i : Int} (h : ev e x = some (.agg vs)) (h1 : ev e y = some (.int k i)) (h0 : 0 ≤ i) (h2 : i < m) (hv : vs.toList[i.toNat]? = some v) (hr : WL P n all K rest (push d v e) w) :
    WX P n all K rest d (.index t x y) ty e w := X_pure (p_indexArr U.und T h h1 h0 h2 hv) hr
end
def sumL (l : List (List Int)) : Nat := (l.map List.length).sum
theorem sumL_take {l : List (List Int)} {k : Nat} (hk : k < l.length) : sumL (l.take (k + 1)) = sumL (l.take k) + l[k].length := by
  unfold sumL
  rw [List.take_succ_eq_append_getElem hk, List.map_append, List.sum_append]
  rfl
/-- The row of lists. -/
def JusAt (w : World) (A : Option Addr) (ls : List (List Int)) (js : Hd) : Prop := ∀ k (hk : k < ls.length), ∃ p, A = some p ∧ w.cell? (p.add ((k : Int).toNat * 1)) = some (.slice (js k).1 ls[k].length (js k).2)
/-- The sum as the machine has it. -/
def sumW (l : List (List Int)) : Int := IntKind.i64.wrap (sumL l)
theorem sumW_take {l : List (List Int)} {k : Nat} (hk : k < l.length) : IntKind.i64.wrap (sumW (l.take k) + l[k].length) = sumW (l.take (k + 1)) := by
  unfold sumW
  rw [sumL_take hk]
  simp only [IntKind.wrap_i64]
  omega
theorem total_cv {w : World} {A : Option Addr} {c : Nat} {ls : List (List Int)} {js : Hd} (hj : JusAt w A ls js) (hn : ls.length ≤ 16384) :
    CV Tryd.prog 111 [.slice A ls.length c] w fun v w' => v = nu (sumW ls) ∧ w' = w := by
  refine enter 18 [2] Tryd.func111 rfl rfl rfl (by decide) rfl ?_
  repeat' (first
|(apply WC_seqK;intro K hK)
|(apply hK;clear hK)
|(apply WC_block)
|(apply WC_region)
|(apply WL_nil)
|(apply thenQ_normal)
|(apply WL_on0;eq_refl)
|(apply X_pv;eq_refl;first|exact trivial|omega)
|(apply X_len;eq_refl))
  refine WC_loop (fun k : Nat => [(6, .slice A ls.length c), (7, nu ls.length), (8, nu k), (3, nu (sumW (ls.take k)))]) (fun k w1 => w1 = w ∧ k ≤ ls.length) (fun k => ls.length - k) 0 ⟨rfl, rfl, rfl, rfl, trivial⟩ ⟨rfl, Nat.zero_le _⟩ ?_
  rintro k w1 ⟨rfl, hk⟩
  rcases Nat.lt_or_ge k ls.length with hlt | hge
  · obtain ⟨p, rfl, hc⟩ := hj k hlt
    have h3 := sumW_take hlt
    repeat' (first
|(apply X_pure;apply (p_addW (a := sumW (ls.take k)) (b := (ls[k].length : Int)));eq_refl;eq_refl)
|(apply WC_seqK;intro K hK)
|(apply hK;clear hK)
|(apply WC_block)
|(apply WC_region)
|(apply WL_nil)
|(apply thenQ_normal)
|(apply blockQ_normal)
|(apply WC_skip)
|(apply WC_if_true;eq_refl)
|(apply WL_on0;eq_refl)
|(apply X_pv;eq_refl;first|exact trivial|omega)
|(apply X_loadC;eq_refl;(first|assumption|(apply cel;first|assumption|(apply cel;assumption))))
|(apply X_cmpT;eq_refl;eq_refl;omega)
|(apply X_len;eq_refl)
|(apply X_indexP;eq_refl;eq_refl;omega;omega))
    exact ⟨k + 1, ⟨rfl, rfl, rfl, by rw [← h3]; rfl, trivial⟩, ⟨rfl, hlt⟩, by omega⟩
  · repeat' (first
|(apply WC_seqK;intro K hK)
|(apply hK;clear hK)
|(clear hK;apply hK;clear hK)
|(apply WC_region)
|(apply WL_nil)
|(apply thenQ_normal)
|(apply thenQ_exit)
|(apply blockQ_hit)
|(apply WC_ret)
|(apply WC_exit)
|(apply WC_if_false;eq_refl)
|(apply ret1;eq_refl)
|(apply WL_on0;eq_refl)
|(apply X_pv;eq_refl;first|exact trivial|omega)
|(apply X_cmpF;eq_refl;eq_refl;omega))
    rw [List.take_of_length_le hge]
    exact ⟨rfl, rfl⟩
/-- What is wrong with how much there is. -/
def Circ.lens (c : Circ) : List Int := [c.inputs.length, c.latches.length, c.outputs.length, c.bads.length, c.constraints.length, c.justice.length, c.fairness.length, c.ands.length, c.symbols.length, c.comments.length]
def sizesM (c : Circ) : Int :=
  if c.max < 0 ∨ 16384 < c.max then 1
  else if (∃ n ∈ c.lens, 16384 < n) ∨ 16384 < sumW c.justice then 2 else 0
theorem len_lens (c : Circ) : c.lens.length = 10 := rfl
theorem sizes_cv {w : World} {c : Circ} {h js : Hd} (H : CirAt w c h js) (hs : c.Sane) : CV Tryd.prog 96 [.agg (ccells c h).toArray] w fun v w' => v = nu (sizesM c) ∧ Chg w w' none_ := by
  have hN : Blk (w.alloc (.cells (ccells c h).toArray 29)) w.heap.size 29 (ccells c h) := Blk.new w _ _
  have hC := Chg.alloc w (.cells (ccells c h).toArray 29) none_
  have H1 := H.chg hC
  by_cases hm : c.max < 0 ∨ 16384 < c.max
  · refine enter 54 [2] Tryd.func96 rfl rfl rfl (by decide) rfl ?_
    repeat' (first
|(apply WC_seqK;intro K hK)
|(apply hK;clear hK)
|(apply WC_region)
|(apply WL_nil)
|(apply thenQ_normal)
|(apply thenQ_ret)
|(apply WC_ret)
|(apply WC_if_true;eq_refl)
|(apply ret1;eq_refl)
|(apply WL_on0;eq_refl)
|(apply WL_onG;eq_refl;eq_refl;eq_refl;eq_refl)
|(apply WL_noG;eq_refl;eq_refl;eq_refl;eq_refl)
|(apply X_pv;eq_refl;first|exact trivial|omega)
|(apply X_field;eq_refl)
|(apply X_loadR;eq_refl;(first|assumption|(apply Blk.alloc;assumption)|apply Blk.new|apply Blk.newA|(apply Blk.alloc;first|apply Blk.newA|(apply Blk.alloc;first|assumption|apply Blk.newA)));eq_refl)
|(apply X_cmpT;eq_refl;eq_refl;omega)
|(apply X_cmp;eq_refl;eq_refl;all_goals intro _)
|(apply X_box;eq_refl))
    all_goals exact ⟨by unfold sizesM; rw [if_pos hm], hC⟩
  refine enter 54 [2] Tryd.func96 rfl rfl rfl (by decide) rfl ?_
  repeat' (first
|(apply WC_seqK;intro K hK)
|(apply hK;clear hK)
|(apply WC_block)
|(apply WC_region)
|(apply WL_nil)
|(apply thenQ_normal)
|(apply WC_skip)
|(apply WC_if_false;eq_refl)
|(apply WL_on0;eq_refl)
|(apply WL_onG;eq_refl;eq_refl;eq_refl;eq_refl)
|(apply X_pv;eq_refl;first|exact trivial|omega)
|(apply X_field;eq_refl)
|(apply X_loadR;eq_refl;(first|assumption|(apply Blk.alloc;assumption)|apply Blk.new|apply Blk.newA|(apply Blk.alloc;first|apply Blk.newA|(apply Blk.alloc;first|assumption|apply Blk.newA)));eq_refl)
|(apply X_cmpF;eq_refl;eq_refl;omega)
|(apply X_len;eq_refl)
|(apply X_box;eq_refl)
|(apply X_pure;apply build154_0_1_2_3_4_5_6_7_8_9 <;> eq_refl))
  refine WC_loop (fun k : Nat => [(1, .pointer (some ⟨w.heap.size, 0, none⟩)), (43, .agg (c.lens.map nu).toArray), (44, nu k)]) (fun k w1 => w1 = w.alloc (.cells (ccells c h).toArray 29) ∧ k ≤ 10 ∧ ∀ n ∈ c.lens.take k, n ≤ 16384) (fun k => 10 - k) 0 ⟨rfl, rfl, rfl, trivial⟩ ⟨rfl, by decide, by simp⟩ ?_
  rintro k w1 ⟨rfl, hk, hall⟩
  rcases Nat.lt_or_ge k 10 with hlt | hge
  · have hkl : k < c.lens.length := hlt
    have hv : (c.lens.map nu).toArray.toList[(k : Int).toNat]? = some (nu c.lens[k]) := by
      have e : (k : Int).toNat = k := by omega
      simp [e, hkl]
    repeat' (first
|(apply X_indexArr;eq_refl;eq_refl;omega;omega;exact hv)
|(apply WC_seqK;intro K hK)
|(apply hK;clear hK)
|(apply WC_block)
|(apply WC_region)
|(apply WL_nil)
|(apply thenQ_normal)
|(apply thenQ_ret)
|(apply blockQ_ret)
|(apply blockQ_normal)
|(apply WC_ret)
|(apply WC_skip)
|(apply WC_if_true;eq_refl)
|(apply WC_if_false;eq_refl)
|(apply ret1;eq_refl)
|(apply WL_on0;eq_refl)
|(apply X_pv;eq_refl;first|exact trivial|omega)
|(apply X_cmpT;eq_refl;eq_refl;omega)
|(apply X_cmp;eq_refl;eq_refl;all_goals intro _))
    · refine ⟨?_, hC⟩
      unfold sizesM
      rw [if_neg hm, if_pos (.inl ⟨c.lens[k], List.getElem_mem hkl, by assumption⟩)]
    · refine ⟨k + 1, ⟨rfl, rfl, rfl, trivial⟩, ⟨rfl, hlt, ?_⟩, by omega⟩
      intro n hn
      rw [List.take_succ_eq_append_getElem hkl] at hn
      simp only [List.mem_append, List.mem_singleton] at hn
      rcases hn with hn | rfl
      · exact hall n hn
      · omega
  · have hall' : ∀ n ∈ c.lens, n ≤ 16384 := by rwa [List.take_of_length_le (by rw [len_lens]; exact hge)] at hall
    have hjl : c.justice.length ≤ 16384 := by have := hall' c.justice.length (by simp [Circ.lens]); omega
    have hno : ¬ ∃ n ∈ c.lens, 16384 < n := fun ⟨n, hn, hh⟩ => by have := hall' n hn; omega
    have hj : JusAt (w.alloc (.cells (ccells c h).toArray 29)) (h 6).1 c.justice js := H1.justice
    have ht : ∀ {cc : Nat}, CV Tryd.prog 111 [.slice (h 6).1 c.justice.length cc] (w.alloc (.cells (ccells c h).toArray 29)) fun v w' => v = nu (sumW c.justice) ∧ w' = w.alloc (.cells (ccells c h).toArray 29) := total_cv hj hjl
    repeat' (first
|(apply X_fn;eq_refl;exact ht;rintro _ _ ⟨rfl, rfl⟩)
|(apply WC_seqK;intro K hK)
|(apply hK;clear hK)
|(clear hK;apply hK;clear hK)
|(apply WC_region)
|(apply WL_nil)
|(apply thenQ_normal)
|(apply thenQ_ret)
|(apply thenQ_exit)
|(apply blockQ_hit)
|(apply WC_ret)
|(apply WC_exit)
|(apply WC_skip)
|(apply WC_if_true;eq_refl)
|(apply WC_if_false;eq_refl)
|(apply ret1;eq_refl)
|(apply WL_on0;eq_refl)
|(apply X_pv;eq_refl;first|exact trivial|omega)
|(apply X_field;eq_refl)
|(apply X_loadR;eq_refl;(first|assumption|(apply Blk.alloc;assumption)|apply Blk.new|apply Blk.newA|(apply Blk.alloc;first|apply Blk.newA|(apply Blk.alloc;first|assumption|apply Blk.newA)));eq_refl)
|(apply X_cmpF;eq_refl;eq_refl;omega)
|(apply X_cmp;eq_refl;eq_refl;all_goals intro _))
    · refine ⟨?_, hC⟩
      unfold sizesM
      rw [if_neg hm, if_pos (.inr (by omega))]
    · refine ⟨?_, hC⟩
      unfold sizesM
      rw [if_neg hm, if_neg (fun hh => hh.elim hno (by omega))]
end SC
end Go.Proofs.YtclihihdgodloaaDoor
end
section
/- shape: what defines each variable. -/
set_option linter.unusedVariables false
set_option linter.unusedSimpArgs false
namespace Go.Proofs.YtclihihdgodloaaDoor
namespace SC
open Go.Proofs
attribute [local irreducible] WC WL WX WS WO OX Does DoesU Enters CV Pure thenQ blockQ retQ Wants
set_option maxRecDepth 100000
theorem mixed : Tryd.prog.follows .mixedOrders = true := by kernel_rfl
abbrev pt (g : Nat) : Value := .pointer (some ⟨g, 0, none⟩)
/-- Of each variable: what defines it, and its number. -/
abbrev Tab := List (Int × Int)
def mcells (m : Int × Int) : List Value := [nu m.1, nu m.2]
def kindAt (t : Tab) (v : Int) : Int := ((t[v.toNat]?).map (·.1)).getD 0
theorem mlen (m : Int × Int) : (mcells m).length = 2 := rfl
theorem length_flatMap2 {α : Type} (enc : α → List Value) (sz : Nat) (hsz : ∀ a, (enc a).length = sz) : ∀ l : List α, (l.flatMap enc).length = l.length * sz
  | [] => by simp
  | a :: r => by simp only [List.flatMap_cons, List.length_append, length_flatMap2 enc sz hsz r, hsz, List.length_cons, Nat.succ_mul]; omega
theorem splice_set {α : Type} (enc : α → List Value) (sz : Nat) (hsz : ∀ a, (enc a).length = sz) : ∀ (l : List α) (k : Nat) (a : α), k < l.length → splice (l.flatMap enc) (k * sz) (enc a) = (l.set k a).flatMap enc
  | x :: r, 0, a, _ => by
    unfold splice
    simp only [Nat.zero_mul, List.take_zero, List.nil_append, Nat.zero_add, List.set_cons_zero, List.flatMap_cons]
    rw [hsz, List.drop_append_of_le_length (by rw [hsz]; exact Nat.le_refl _), List.drop_of_length_le (by rw [hsz]; exact Nat.le_refl _), List.nil_append]
  | x :: r, k + 1, a, hk => by
    have ih := splice_set enc sz hsz r k a (by simpa using hk)
    unfold splice at *
    simp only [List.flatMap_cons, List.set_cons_succ]
    rw [← ih]
    have e1 : (k + 1) * sz = (enc x).length + k * sz := by rw [hsz, Nat.succ_mul]; omega
    rw [e1, List.take_length_add_append, show (enc x).length + k * sz + (enc a).length = (enc x).length + (k * sz + (enc a).length) by omega, List.drop_length_add_append]
    simp
/-- A looker. -/
structure Lk (w : World) (k b : Nat) (c : Circ) (h js : Hd) (t : Tab) : Prop where
  head : Blk w k 139 (ccells c h ++ [.slice (some ⟨b, 0, none⟩) t.length t.length])
  tab : Blk w b 158 (t.flatMap mcells)
  cir : ∀ w', Chg w w' (fun q => q = b) → CirAt w' c h js
/-- What is known of its numbers. -/
structure LkOk (c : Circ) (t : Tab) : Prop where
  len : (t.length : Int) = c.max + 1
  lo : 0 ≤ c.max
  hi : c.max ≤ 16384
theorem Lk.chg {w w' : World} {k b : Nat} {c : Circ} {h js : Hd} {t : Tab} (H : Lk w k b c h js t) (hc : Chg w w' none_) : Lk w' k b c h js t := ⟨H.head.chg hc id, H.tab.chg hc id, fun w2 h2 => H.cir w2 (hc.any.trans h2 fun _ _ h => h)⟩
def defBad (max : Int) (l : Int) : Prop := l < 2 ∨ l % 2 = 1 ∨ 2 * max < l
instance (max l : Int) : Decidable (defBad max l) := by unfold defBad; infer_instance
/-- A definition: an error's number, and the table behind it. -/
def defM (max : Int) (t : Tab) (l : Int) (m : Int × Int) : Int × Tab :=
  if defBad max l then (30, t) else if kindAt t (l / 2) ≠ 0 then (31, t) else (0, t.set (l / 2).toNat m)
theorem tab_get {t : Tab} {v : Int} (h0 : 0 ≤ v) (h1 : v < t.length) : (t.flatMap mcells)[0 + v.toNat * 2 + 0]? = some (nu (kindAt t v)) ∧ ∃ m, t[v.toNat]? = some m ∧ (t.flatMap mcells)[0 + v.toNat * 2 + 1]? = some (nu m.2) := by
  have hlt : v.toNat < t.length := by omega
  have e : t[v.toNat]? = some t[v.toNat] := List.getElem?_eq_getElem hlt
  refine ⟨?_, t[v.toNat], e, ?_⟩
  · rw [Nat.zero_add, flatMap_get mcells 2 mlen t v.toNat hlt 0 (by decide)]
    simp [kindAt, e, mcells]
  · rw [Nat.zero_add, flatMap_get mcells 2 mlen t v.toNat hlt 1 (by decide)]
    rfl
/-- Two blocks alone have been turned: the looker's table. -/
def tabOf (b : Nat) : Nat → Prop := fun q => q = b
theorem define_cv {w : World} {k b : Nat} {c : Circ} {h js : Hd} {t : Tab} {l m1 m2 : Int} (H : Lk w k b c h js t) (O : LkOk c t) :
    CV Tryd.prog 112 [pt k, nu l, .agg #[nu m1, nu m2]] w fun v w' => v = nu (defM c.max t l (m1, m2)).1 ∧ Lk w' k b c h js (defM c.max t l (m1, m2)).2 ∧ Chg w w' (tabOf b) := by
  have hN : Blk (w.alloc (.cells #[nu m1, nu m2] 158)) w.heap.size 158 [nu m1, nu m2] := Blk.newA w _ _
  have hC := Chg.alloc w (.cells #[nu m1, nu m2] 158) none_
  have H1 := H.chg hC
  have hH := H1.head
  have hT := H1.tab
  have hlen := O.len
  have hlo := O.lo
  have hhi := O.hi
  have hbk : b ≠ k := by
    rintro rfl
    have e1 := H.head
    have e2 := H.tab
    unfold Blk at e1 e2
    rw [e1] at e2
    simp at e2
  by_cases hbad : defBad c.max l
  · have hbad' := hbad
    unfold defBad at hbad'
    refine enter 42 [6] Tryd.func112 rfl rfl rfl (by decide) rfl ?_
    repeat' (first
|(apply WC_seqK;intro K hK)
|(apply hK;clear hK)
|(apply WC_region)
|(apply WL_nil)
|(apply thenQ_normal)
|(apply thenQ_ret)
|(apply WC_ret)
|(apply WC_if_true;eq_refl)
|(apply ret1;eq_refl)
|(apply WL_on0;eq_refl)
|(apply WL_onG;eq_refl;eq_refl;eq_refl;eq_refl)
|(apply WL_noG;eq_refl;eq_refl;eq_refl;eq_refl)
|(apply X_pv;eq_refl;first|exact trivial|omega)
|(apply X_field;eq_refl)
|(apply X_loadR;eq_refl;(first|assumption|(apply Blk.alloc;assumption)|apply Blk.new|apply Blk.newA|(apply Blk.alloc;first|apply Blk.newA|(apply Blk.alloc;first|assumption|apply Blk.newA)));eq_refl)
|(apply X_cmpT;eq_refl;eq_refl;omega)
|(apply X_cmp;eq_refl;eq_refl;all_goals intro _)
|(apply X_box;eq_refl))
    all_goals exact ⟨by unfold defM; rw [if_pos hbad], by unfold defM; rw [if_pos hbad]; exact H1, hC.any⟩
  have hnb := hbad
  unfold defBad at hnb
  have hr0 : 0 ≤ l / 2 := by omega
  have hr1 : l / 2 < t.length := by omega
  obtain ⟨g0, m, _, g1⟩ := tab_get hr0 hr1
  by_cases hk : kindAt t (l / 2) ≠ 0
  · refine enter 42 [6] Tryd.func112 rfl rfl rfl (by decide) rfl ?_
    repeat' (first
|(apply X_loadR;eq_refl;assumption;exact g0)
|(apply WC_seqK;intro K hK)
|(apply hK;clear hK)
|(apply WC_region)
|(apply WL_nil)
|(apply thenQ_normal)
|(apply thenQ_ret)
|(apply WC_ret)
|(apply WC_skip)
|(apply WC_if_true;eq_refl)
|(apply WC_if_false;eq_refl)
|(apply ret1;eq_refl)
|(apply WL_on0;eq_refl)
|(apply WL_onG;eq_refl;eq_refl;eq_refl;eq_refl)
|(apply X_pv;eq_refl;first|exact trivial|omega)
|(apply X_field;eq_refl)
|(apply X_loadR;eq_refl;(first|assumption|(apply Blk.alloc;assumption)|apply Blk.new|apply Blk.newA|(apply Blk.alloc;first|apply Blk.newA|(apply Blk.alloc;first|assumption|apply Blk.newA)));eq_refl)
|(apply X_cmpT;eq_refl;eq_refl;omega)
|(apply X_cmpF;eq_refl;eq_refl;omega)
|(apply X_index;eq_refl;eq_refl;omega;omega)
|(apply X_box;eq_refl))
    exact ⟨by unfold defM; rw [if_neg hbad, if_pos hk], by unfold defM; rw [if_neg hbad, if_pos hk]; exact H1, hC.any⟩
  refine enter 42 [6] Tryd.func112 rfl rfl rfl (by decide) rfl ?_
  repeat' (first
|(apply X_loadR;eq_refl;assumption;exact g0)
|(apply WC_seqK;intro K hK)
|(apply hK;clear hK)
|(apply WC_region)
|(apply WL_nil)
|(apply thenQ_normal)
|(apply WC_skip)
|(apply WC_if_false;eq_refl)
|(apply WL_on0;eq_refl)
|(apply WL_onG;eq_refl;eq_refl;eq_refl;eq_refl)
|(apply X_pv;eq_refl;first|exact trivial|omega)
|(apply X_field;eq_refl)
|(apply X_loadR;eq_refl;(first|assumption|(apply Blk.alloc;assumption)|apply Blk.new|apply Blk.newA|(apply Blk.alloc;first|apply Blk.newA|(apply Blk.alloc;first|assumption|apply Blk.newA)));eq_refl)
|(apply X_cmpF;eq_refl;eq_refl;omega)
|(apply X_index;eq_refl;eq_refl;omega;omega)
|(apply X_box;eq_refl))
  refine WC_draws [(0, true), (1, true), (2, true), (3, true), (4, true), (5, true), (6, true), (7, true), (8, false)] (fun w1 => Blk w1 k 139 (ccells c h ++ [.slice (some ⟨b, 0, none⟩) t.length t.length]) ∧ Blk w1 w.heap.size 158 [nu m1, nu m2]) mixed (by kernel_rfl) (by kernel_rfl) ?_
  have hS : Blk (w.alloc (.cells #[nu m1, nu m2] 158)).drew k 139 (ccells c h ++ [.slice (some ⟨b, 0, none⟩) t.length t.length]) ∧ Blk (w.alloc (.cells #[nu m1, nu m2] 158)).drew w.heap.size 158 [nu m1, nu m2] := ⟨hH, hN⟩
  repeat' (first
|(apply WS_next;eq_refl)
|(apply WO_on0;eq_refl)
|(apply O_pv;eq_refl;(first|exact trivial|omega);(first|assumption|exact trivial))
|(apply O_field;eq_refl;(first|assumption|exact trivial))
|(apply O_loadR;eq_refl;(first|(intro _ h;exact h)|(intro _ h;exact h.1)|(intro _ h;exact h.2)|(intro _ h;exact h.2.1)|(intro _ h;exact h.2.2)|(intro _ h;exact h.2.2.1)|(intro _ h;exact h.2.2.2));eq_refl;(first|assumption|exact trivial))
|(apply O_loadW;eq_refl;(first|(intro _ h;exact h)|(intro _ h;exact h.1)|(intro _ h;exact h.2)|(intro _ h;exact h.2.1)|(intro _ h;exact h.2.2)|(intro _ h;exact h.2.2.1)|(intro _ h;exact h.2.2.2));eq_refl;(first|assumption|exact trivial))
|(apply O_index;eq_refl;eq_refl;omega;omega;(first|assumption|exact trivial)))
  refine O_doesU (does_storeA (vs := mcells (m1, m2)) (o := 0 + (l / 2).toNat * 2) (b := b) (by eq_refl) (by eq_refl) (w := (w.alloc (.cells #[nu m1, nu m2] 158)).drew) hT rfl (by rw [length_flatMap2 mcells 2 mlen, mlen]; omega) (by simp [mcells, Value.oneCell'])) (lo (by kernel_rfl)) ?_
  have hsp : splice (t.flatMap mcells) (0 + (l / 2).toNat * 2) (mcells (m1, m2)) = (t.set (l / 2).toNat (m1, m2)).flatMap mcells := by rw [Nat.zero_add]; exact splice_set mcells 2 mlen t _ _ (by omega)
  rw [hsp]
  have hC5 : Chg w ((w.alloc (.cells #[nu m1, nu m2] 158)).drew.setRow b ((t.set (l / 2).toNat (m1, m2)).flatMap mcells).toArray) (tabOf b) := hC.dr.any.trans (Chg.setRow _ b _ (S := tabOf b) rfl) fun _ _ h => h
  have hL : Lk ((w.alloc (.cells #[nu m1, nu m2] 158)).drew.setRow b ((t.set (l / 2).toNat (m1, m2)).flatMap mcells).toArray) k b c h js (t.set (l / 2).toNat (m1, m2)) := by
    refine ⟨?_, Blk.set (w := (w.alloc (.cells #[nu m1, nu m2] 158)).drew) hT _, fun w2 h2 => H.cir w2 (hC5.trans h2 fun _ _ h => h)⟩
    rw [List.length_set]
    exact Blk.chg (w := (w.alloc (.cells #[nu m1, nu m2] 158)).drew) hH (Chg.setRow _ b _ (S := fun q => q = b) rfl) (fun hh => hbk hh.symm)
  repeat' (first
|(apply WC_seqK;intro K hK)
|(apply hK;clear hK)
|(apply WC_region)
|(apply WL_nil)
|(apply thenQ_normal)
|(apply WC_ret)
|(apply ret1;eq_refl)
|(apply WS_nil)
|(apply WL_on0;eq_refl)
|(apply X_pv;eq_refl;first|exact trivial|omega))
  exact ⟨by unfold defM; rw [if_neg hbad, if_neg hk], by unfold defM; rw [if_neg hbad, if_neg hk]; exact hL, hC5⟩
end SC
end Go.Proofs.YtclihihdgodloaaDoor
end
section
/- shape: all definitions. -/
set_option linter.unusedVariables false
set_option linter.unusedSimpArgs false
namespace Go.Proofs.YtclihihdgodloaaDoor
namespace SC
open Go.Proofs
attribute [local irreducible] WC WL WX WS WO OX Does DoesU Enters CV Pure thenQ blockQ retQ Wants
set_option maxRecDepth 100000
def goDef (max kind : Int) : List Int → Nat → Tab → (Int × Int) × Tab
  | [], _, t => ((0, 0), t)
  | l :: r, i, t => if (defM max t l (kind, i)).1 ≠ 0 then ((i, (defM max t l (kind, i)).1), (defM max t l (kind, i)).2) else goDef max kind r (i + 1) (defM max t l (kind, i)).2
def badReset (x : Tri) : Prop := x.2.2 ≠ 0 ∧ x.2.2 ≠ 1 ∧ x.2.2 ≠ x.1
instance (x : Tri) : Decidable (badReset x) := by unfold badReset; infer_instance
def goDefL (max : Int) : List Tri → Nat → Tab → (Int × Int) × Tab
  | [], _, t => ((0, 0), t)
  | x :: r, i, t => if (defM max t x.1 (2, i)).1 ≠ 0 then ((i, (defM max t x.1 (2, i)).1), (defM max t x.1 (2, i)).2) else if badReset x then ((i, 33), (defM max t x.1 (2, i)).2) else goDefL max r (i + 1) (defM max t x.1 (2, i)).2
def definesM (c : Circ) (t : Tab) : (Int × Int) × Tab :=
  if (goDef c.max 1 c.inputs 0 t).1.2 ≠ 0 then goDef c.max 1 c.inputs 0 t
  else if (goDefL c.max c.latches 0 (goDef c.max 1 c.inputs 0 t).2).1.2 ≠ 0 then goDefL c.max c.latches 0 (goDef c.max 1 c.inputs 0 t).2
  else goDef c.max 3 (c.ands.map (·.1)) 0 (goDefL c.max c.latches 0 (goDef c.max 1 c.inputs 0 t).2).2
theorem len_defM (max : Int) (t : Tab) (l : Int) (m : Int × Int) : (defM max t l m).2.length = t.length := by
  unfold defM; split
  · rfl
  · split <;> simp
theorem LkOk.defM {c : Circ} {t : Tab} (h : LkOk c t) (l : Int) (m : Int × Int) : LkOk c (SC.defM c.max t l m).2 := ⟨by rw [len_defM]; exact h.len, h.lo, h.hi⟩
theorem goDef_step {max kind : Int} {ls : List Int} {k : Nat} {t : Tab} (hk : k < ls.length) : goDef max kind (ls.drop k) k t = if (defM max t ls[k] (kind, k)).1 ≠ 0 then (((k : Int), (defM max t ls[k] (kind, k)).1), (defM max t ls[k] (kind, k)).2) else goDef max kind (ls.drop (k + 1)) (k + 1) (defM max t ls[k] (kind, k)).2 := by
  rw [List.drop_eq_getElem_cons hk]
  rfl
theorem goDefL_step {max : Int} {ls : List Tri} {k : Nat} {t : Tab} (hk : k < ls.length) : goDefL max (ls.drop k) k t = if (defM max t ls[k].1 (2, k)).1 ≠ 0 then (((k : Int), (defM max t ls[k].1 (2, k)).1), (defM max t ls[k].1 (2, k)).2) else if badReset ls[k] then (((k : Int), 33), (defM max t ls[k].1 (2, k)).2) else goDefL max (ls.drop (k + 1)) (k + 1) (defM max t ls[k].1 (2, k)).2 := by
  rw [List.drop_eq_getElem_cons hk]
  rfl
theorem tlen (x : Tri) : (tcells x).length = 3 := rfl
theorem defines_cv {w : World} {q b : Nat} {c : Circ} {h js : Hd} {t : Tab} (H : Lk w q b c h js t) (O : LkOk c t) (hs : c.Sane) :
    CV Tryd.prog 97 [pt q] w fun v w' => v = .tuple #[nu (definesM c t).1.1, nu (definesM c t).1.2] ∧ Lk w' q b c h js (definesM c t).2 ∧ LkOk c (definesM c t).2 ∧ Chg w w' (tabOf b) := by
  have hlens := hs.lens
  have hH := H.head
  refine enter 94 [2, 3] Tryd.func97 rfl rfl rfl (by decide) rfl ?_
  repeat' (first
|(apply WC_seqK;intro K hK)
|(apply hK;clear hK)
|(apply WC_block)
|(apply WC_region)
|(apply WL_nil)
|(apply thenQ_normal)
|(apply WL_on0;eq_refl)
|(apply X_pv;eq_refl;first|exact trivial|omega)
|(apply X_field;eq_refl)
|(apply X_loadR;eq_refl;(first|assumption|(apply Blk.alloc;assumption)|apply Blk.new|apply Blk.newA|(apply Blk.alloc;first|apply Blk.newA|(apply Blk.alloc;first|assumption|apply Blk.newA)));eq_refl)
|(apply X_len;eq_refl))
  refine WC_loop (fun s : Nat × Tab => [(0, pt q), (17, .slice (h 1).1 c.inputs.length (h 1).2), (18, nu c.inputs.length), (19, nu s.1)])
    (fun s w1 => Lk w1 q b c h js s.2 ∧ LkOk c s.2 ∧ Chg w w1 (tabOf b) ∧ s.1 ≤ c.inputs.length ∧ goDef c.max 1 (c.inputs.drop s.1) s.1 s.2 = goDef c.max 1 c.inputs 0 t) (fun s => c.inputs.length - s.1) (0, t) ⟨rfl, rfl, rfl, rfl, trivial⟩ ⟨H, O, Chg.refl _ _, Nat.zero_le _, rfl⟩ ?_
  rintro ⟨k, t1⟩ w1 ⟨H1, O1, hC1, hk, hgo⟩
  simp only at H1 O1 hk hgo
  have hH1 := H1.head
  rcases Nat.lt_or_ge k c.inputs.length with hlt | hge
  · obtain ⟨p, hp, hc⟩ := RowA.one (H1.cir w1 (Chg.refl _ _)).inputs hlt (v := nu c.inputs[k]) rfl
    rw [goDef_step hlt] at hgo
    rw [hp]
    have hok := O1.defM c.inputs[k] (1, (k : Int))
    repeat' (first
|(apply X_fn;eq_refl;exact define_cv H1 O1;rintro _ w2 ⟨rfl, hL2, hC2⟩)
|(apply WC_seqK;intro K hK)
|(apply hK;clear hK)
|(apply WC_block)
|(apply WC_region)
|(apply WL_nil)
|(apply thenQ_normal)
|(apply thenQ_ret)
|(apply blockQ_ret)
|(apply blockQ_normal)
|(apply WC_ret)
|(apply WC_skip)
|(apply WC_if_true;eq_refl)
|(apply WC_if_false;eq_refl)
|(apply ret2;eq_refl;eq_refl)
|(apply WL_on0;eq_refl)
|(apply X_pv;eq_refl;first|exact trivial|omega)
|(apply X_loadC;eq_refl;(first|assumption|(apply cel;first|assumption|(apply cel;assumption))))
|(apply X_cmpT;eq_refl;eq_refl;omega)
|(apply X_cmp;eq_refl;eq_refl;all_goals intro _)
|(apply X_indexP;eq_refl;eq_refl;omega;omega)
|(apply X_pure;apply build158_0_1 <;> eq_refl))
    · rw [if_pos (by assumption)] at hgo
      have e : definesM c t = goDef c.max 1 c.inputs 0 t := by unfold definesM; rw [if_pos (by rw [← hgo]; assumption)]
      rw [e, ← hgo]
      exact ⟨rfl, hL2, hok, hC1.trans hC2 fun _ _ h => h⟩
    · rw [if_neg (by assumption)] at hgo
      exact ⟨(k + 1, (defM c.max t1 c.inputs[k] (1, (k : Int))).2), ⟨rfl, by first | rfl | (rw [hp]; rfl), rfl, rfl, trivial⟩, ⟨hL2, hok, hC1.trans hC2 fun _ _ h => h, hlt, hgo⟩, by simp only; omega⟩
  rw [List.drop_eq_nil_of_le hge] at hgo
  have e1 : (goDef c.max 1 c.inputs 0 t).1.2 = 0 := by rw [← hgo]; rfl
  have e2 : (goDef c.max 1 c.inputs 0 t).2 = t1 := by rw [← hgo]; rfl
  have e3 : definesM c t = if (goDefL c.max c.latches 0 t1).1.2 ≠ 0 then goDefL c.max c.latches 0 t1 else goDef c.max 3 (c.ands.map (·.1)) 0 (goDefL c.max c.latches 0 t1).2 := by unfold definesM; rw [if_neg (by simp [e1]), e2]
  clear e1 e2 hgo
  repeat' (first
|(apply WC_seqK;intro K hK)
|(apply hK;clear hK)
|(clear hK;apply hK;clear hK)
|(apply WC_block)
|(apply WC_region)
|(apply WL_nil)
|(apply thenQ_normal)
|(apply thenQ_exit)
|(apply blockQ_hit)
|(apply WC_exit)
|(apply WC_if_false;eq_refl)
|(apply WL_on0;eq_refl)
|(apply X_pv;eq_refl;first|exact trivial|omega)
|(apply X_field;eq_refl)
|(apply X_loadR;eq_refl;(first|assumption|(apply Blk.alloc;assumption)|apply Blk.new|apply Blk.newA|(apply Blk.alloc;first|apply Blk.newA|(apply Blk.alloc;first|assumption|apply Blk.newA)));eq_refl)
|(apply X_cmpF;eq_refl;eq_refl;omega)
|(apply X_len;eq_refl))
  refine WC_loop (fun s : Nat × Tab => [(0, pt q), (38, .slice (h 2).1 c.latches.length (h 2).2), (39, nu c.latches.length), (40, nu s.1)])
    (fun s w2 => Lk w2 q b c h js s.2 ∧ LkOk c s.2 ∧ Chg w w2 (tabOf b) ∧ s.1 ≤ c.latches.length ∧ goDefL c.max (c.latches.drop s.1) s.1 s.2 = goDefL c.max c.latches 0 t1) (fun s => c.latches.length - s.1) (0, t1) ⟨rfl, rfl, rfl, rfl, trivial⟩ ⟨H1, O1, hC1, Nat.zero_le _, rfl⟩ ?_
  clear hge hk
  rintro ⟨k, t2⟩ w2 ⟨H2, O2, hC2, hk, hgo⟩
  simp only at H2 O2 hk hgo
  have hH2 := H2.head
  rcases Nat.lt_or_ge k c.latches.length with hlt | hge
  · obtain ⟨p, hp, hc⟩ := (H2.cir w2 (Chg.refl _ _)).latches k hlt
    rw [goDefL_step hlt] at hgo
    rw [hp]
    generalize hx : c.latches[k] = x at *
    have hok := O2.defM x.1 (2, (k : Int))
    repeat' (first
|(apply X_loadAP (tcells x);eq_refl;eq_refl;exact hc)
|(apply WC_seqK;intro K hK)
|(apply hK;clear hK)
|(apply WC_block)
|(apply WC_region)
|(apply WL_nil)
|(apply thenQ_normal)
|(apply WC_skip)
|(apply WC_if_true;eq_refl)
|(apply WL_on0;eq_refl)
|(apply X_pv;eq_refl;first|exact trivial|omega)
|(apply X_cmpT;eq_refl;eq_refl;omega)
|(apply X_indexP;eq_refl;eq_refl;omega;omega)
|(apply X_alloc))
    refine X_doesU (does_storeA (vs := tcells x) (o := 0) (b := w2.heap.size) (by eq_refl) (by eq_refl) (Blk.newA w2 _ _) rfl (by exact Nat.le_refl 3) (by simp [tcells, Value.oneCell'])) ?_
    refine WL_turn (fun w3 => Lk w3 q b c h js t2 ∧ Blk w3 w2.heap.size 59 (tcells x) ∧ Chg w w3 (tabOf b)) ?_ ?_
    · have hcc : Chg w2 ((w2.alloc (.cells #[nu 0, nu 0, nu 0] 59)).setRow w2.heap.size (tcells x).toArray) none_ := (Chg.alloc w2 _ none_).trans (Chg.setRow _ w2.heap.size _ (S := fun k => k = w2.heap.size) rfl) fun k hk h => by omega
      exact ⟨H2.chg hcc, (Blk.newA w2 _ 59).set (tcells x), hC2.trans hcc fun _ _ h => h.elim⟩
    rintro w3 ⟨H3, hN3, hC3⟩
    have hH3 := H3.head
    repeat' (first
|(apply X_fn;eq_refl;exact define_cv H3 O2;rintro _ w4 ⟨rfl, hL4, hC4⟩;have hN4 := hN3.chg hC4 (fun hh => by unfold tabOf at hh;have := H2.tab.lt;omega))
|(apply WC_seqK;intro K hK)
|(apply hK;clear hK)
|(apply WC_region)
|(apply WL_nil)
|(apply thenQ_normal)
|(apply thenQ_ret)
|(apply blockQ_ret)
|(apply blockQ_normal)
|(apply WC_ret)
|(apply WC_skip)
|(apply WC_if_true;eq_refl)
|(apply WC_if_false;eq_refl)
|(apply ret2;eq_refl;eq_refl)
|(apply WL_on0;eq_refl)
|(apply WL_onG;eq_refl;eq_refl;eq_refl;eq_refl)
|(apply WL_noG;eq_refl;eq_refl;eq_refl;eq_refl)
|(apply X_pv;eq_refl;first|exact trivial|omega)
|(apply X_field;eq_refl)
|(apply X_loadR;eq_refl;(first|assumption|(apply Blk.alloc;assumption)|apply Blk.new|apply Blk.newA|(apply Blk.alloc;first|apply Blk.newA|(apply Blk.alloc;first|assumption|apply Blk.newA)));eq_refl)
|(apply X_cmp;eq_refl;eq_refl;all_goals intro _)
|(apply X_pure;apply build158_0_1 <;> eq_refl))
    all_goals simp only at *
    · rw [if_pos (by assumption)] at hgo
      have e : definesM c t = goDefL c.max c.latches 0 t1 := by rw [e3, if_pos (by rw [← hgo]; assumption)]
      rw [e, ← hgo]
      exact ⟨rfl, hL4, hok, hC3.trans hC4 fun _ _ h => h⟩
    · rw [if_neg (by assumption), if_pos (by unfold badReset; refine ⟨?_, ?_, ?_⟩ <;> assumption)] at hgo
      have e : definesM c t = goDefL c.max c.latches 0 t1 := by rw [e3, if_pos (by rw [← hgo]; show (33 : Int) ≠ 0; decide)]
      rw [e, ← hgo]
      exact ⟨rfl, hL4, hok, hC3.trans hC4 fun _ _ h => h⟩
    all_goals
      rw [if_neg (by assumption), if_neg (by unfold badReset; omega)] at hgo
      exact ⟨(k + 1, (defM c.max t2 x.1 (2, (k : Int))).2), ⟨rfl, by first | rfl | (rw [hp]; rfl), rfl, rfl, trivial⟩, ⟨hL4, hok, hC3.trans hC4 fun _ _ h => h, hlt, hgo⟩, by simp only; omega⟩
  rw [List.drop_eq_nil_of_le hge] at hgo
  have e1 : (goDefL c.max c.latches 0 t1).1.2 = 0 := by rw [← hgo]; rfl
  have e2 : (goDefL c.max c.latches 0 t1).2 = t2 := by rw [← hgo]; rfl
  have e4 : definesM c t = goDef c.max 3 (c.ands.map (·.1)) 0 t2 := by rw [e3, if_neg (by simp [e1]), e2]
  clear e1 e2 hgo e3
  repeat' (first
|(apply WC_seqK;intro K hK)
|(apply hK;clear hK)
|(clear hK;apply hK;clear hK)
|(apply WC_block)
|(apply WC_region)
|(apply WL_nil)
|(apply thenQ_normal)
|(apply thenQ_exit)
|(apply blockQ_hit)
|(apply WC_exit)
|(apply WC_if_false;eq_refl)
|(apply WL_on0;eq_refl)
|(apply X_pv;eq_refl;first|exact trivial|omega)
|(apply X_field;eq_refl)
|(apply X_loadR;eq_refl;(first|assumption|(apply Blk.alloc;assumption)|apply Blk.new|apply Blk.newA|(apply Blk.alloc;first|apply Blk.newA|(apply Blk.alloc;first|assumption|apply Blk.newA)));eq_refl)
|(apply X_cmpF;eq_refl;eq_refl;omega)
|(apply X_len;eq_refl))
  refine WC_loop (fun s : Nat × Tab => [(0, pt q), (76, .slice (h 8).1 c.ands.length (h 8).2), (77, nu c.ands.length), (78, nu s.1)])
    (fun s w3 => Lk w3 q b c h js s.2 ∧ LkOk c s.2 ∧ Chg w w3 (tabOf b) ∧ s.1 ≤ c.ands.length ∧ goDef c.max 3 ((c.ands.map (·.1)).drop s.1) s.1 s.2 = goDef c.max 3 (c.ands.map (·.1)) 0 t2) (fun s => c.ands.length - s.1) (0, t2) ⟨rfl, rfl, rfl, rfl, trivial⟩ ⟨H2, O2, hC2, Nat.zero_le _, rfl⟩ ?_
  clear hge hk
  rintro ⟨k, t3⟩ w3 ⟨H3, O3, hC3, hk, hgo⟩
  simp only at H3 O3 hk hgo
  have hH3 := H3.head
  rcases Nat.lt_or_ge k c.ands.length with hlt | hge
  · obtain ⟨p, hp, hc⟩ := (H3.cir w3 (Chg.refl _ _)).ands k hlt
    rw [goDef_step (by simpa using hlt), List.getElem_map] at hgo
    rw [hp]
    generalize hx : c.ands[k] = x at *
    have hok := O3.defM x.1 (3, (k : Int))
    repeat' (first
|(apply X_loadAP (tcells x);eq_refl;eq_refl;exact hc)
|(apply WC_seqK;intro K hK)
|(apply hK;clear hK)
|(apply WC_block)
|(apply WC_region)
|(apply WL_nil)
|(apply thenQ_normal)
|(apply WC_skip)
|(apply WC_if_true;eq_refl)
|(apply WL_on0;eq_refl)
|(apply X_pv;eq_refl;first|exact trivial|omega)
|(apply X_cmpT;eq_refl;eq_refl;omega)
|(apply X_indexP;eq_refl;eq_refl;omega;omega)
|(apply X_alloc))
    refine X_doesU (does_storeA (vs := tcells x) (o := 0) (b := w3.heap.size) (by eq_refl) (by eq_refl) (Blk.newA w3 _ _) rfl (by exact Nat.le_refl 3) (by simp [tcells, Value.oneCell'])) ?_
    refine WL_turn (fun w4 => Lk w4 q b c h js t3 ∧ Blk w4 w3.heap.size 61 (tcells x) ∧ Chg w w4 (tabOf b)) ?_ ?_
    · have hcc : Chg w3 ((w3.alloc (.cells #[nu 0, nu 0, nu 0] 61)).setRow w3.heap.size (tcells x).toArray) none_ := (Chg.alloc w3 _ none_).trans (Chg.setRow _ w3.heap.size _ (S := fun k => k = w3.heap.size) rfl) fun k hk h => by omega
      exact ⟨H3.chg hcc, (Blk.newA w3 _ 61).set (tcells x), hC3.trans hcc fun _ _ h => h.elim⟩
    rintro w4 ⟨H4, hN4, hC4⟩
    have hH4 := H4.head
    repeat' (first
|(apply X_fn;eq_refl;exact define_cv H4 O3;rintro _ w5 ⟨rfl, hL5, hC5⟩)
|(apply WC_seqK;intro K hK)
|(apply hK;clear hK)
|(apply WC_region)
|(apply WL_nil)
|(apply thenQ_normal)
|(apply thenQ_ret)
|(apply blockQ_ret)
|(apply blockQ_normal)
|(apply WC_ret)
|(apply WC_skip)
|(apply WC_if_true;eq_refl)
|(apply WC_if_false;eq_refl)
|(apply ret2;eq_refl;eq_refl)
|(apply WL_on0;eq_refl)
|(apply X_pv;eq_refl;first|exact trivial|omega)
|(apply X_field;eq_refl)
|(apply X_loadR;eq_refl;(first|assumption|(apply Blk.alloc;assumption)|apply Blk.new|apply Blk.newA|(apply Blk.alloc;first|apply Blk.newA|(apply Blk.alloc;first|assumption|apply Blk.newA)));eq_refl)
|(apply X_cmp;eq_refl;eq_refl;all_goals intro _)
|(apply X_pure;apply build158_0_1 <;> eq_refl))
    all_goals simp only at *
    · rw [if_pos (by assumption)] at hgo
      rw [e4, ← hgo]
      exact ⟨rfl, hL5, hok, hC4.trans hC5 fun _ _ h => h⟩
    · rw [if_neg (by assumption)] at hgo
      exact ⟨(k + 1, (defM c.max t3 x.1 (3, (k : Int))).2), ⟨rfl, by first | rfl | (rw [hp]; rfl), rfl, rfl, trivial⟩, ⟨hL5, hok, hC4.trans hC5 fun _ _ h => h, hlt, hgo⟩, by simp only; omega⟩
  rw [List.drop_eq_nil_of_le (by simpa using hge)] at hgo
  repeat' (first
|(apply WC_seqK;intro K hK)
|(apply hK;clear hK)
|(clear hK;apply hK;clear hK)
|(apply WC_region)
|(apply WL_nil)
|(apply thenQ_normal)
|(apply thenQ_exit)
|(apply blockQ_hit)
|(apply WC_ret)
|(apply WC_exit)
|(apply WC_if_false;eq_refl)
|(apply ret2;eq_refl;eq_refl)
|(apply WL_on0;eq_refl)
|(apply X_pv;eq_refl;first|exact trivial|omega)
|(apply X_cmpF;eq_refl;eq_refl;omega))
  rw [e4, ← hgo]
  exact ⟨rfl, H3, O3, hC3⟩
end SC
end Go.Proofs.YtclihihdgodloaaDoor
end
section
/- shape: all uses. -/
set_option linter.unusedVariables false
set_option linter.unusedSimpArgs false
namespace Go.Proofs.YtclihihdgodloaaDoor
namespace SC
open Go.Proofs
attribute [local irreducible] WC WL WX WS WO OX Does DoesU Enters CV Pure thenQ blockQ retQ Wants
set_option maxRecDepth 100000
def useOne (max : Int) (t : Tab) (x : Int) : Int := if x < 0 ∨ 2 * max + 1 < x then 30 else if 1 < x ∧ kindAt t (x / 2) = 0 then 32 else 0
def useM (max : Int) (t : Tab) : List Int → Int
  | [] => 0
  | x :: r => if useOne max t x ≠ 0 then useOne max t x else useM max t r
theorem useM_step {max : Int} {t : Tab} {ls : List Int} {k : Nat} (hk : k < ls.length) : useM max t (ls.drop k) = if useOne max t ls[k] ≠ 0 then useOne max t ls[k] else useM max t (ls.drop (k + 1)) := by
  rw [List.drop_eq_getElem_cons hk]
  rfl
theorem use_cv {w : World} {q b : Nat} {c : Circ} {h js : Hd} {t : Tab} {A : Option Addr} {cp : Nat} {ls : List Int} (H : Lk w q b c h js t) (O : LkOk c t) (R : RowA w icell 1 A ls) (hl : ls.length ≤ 9223372036854775807) :
    CV Tryd.prog 113 [pt q, .slice A ls.length cp] w fun v w' => v = nu (useM c.max t ls) ∧ w' = w := by
  have hH := H.head
  have hT := H.tab
  have hlen := O.len
  have hlo := O.lo
  have hhi := O.hi
  refine enter 41 [4] Tryd.func113 rfl rfl rfl (by decide) rfl ?_
  repeat' (first
|(apply WC_seqK;intro K hK)
|(apply hK;clear hK)
|(apply WC_block)
|(apply WC_region)
|(apply WL_nil)
|(apply thenQ_normal)
|(apply WL_on0;eq_refl)
|(apply X_pv;eq_refl;first|exact trivial|omega)
|(apply X_len;eq_refl))
  refine WC_loop (fun k : Nat => [(0, pt q), (7, .slice A ls.length cp), (8, nu ls.length), (9, nu k)]) (fun k w1 => w1 = w ∧ k ≤ ls.length ∧ useM c.max t (ls.drop k) = useM c.max t ls) (fun k => ls.length - k) 0 ⟨rfl, rfl, rfl, rfl, trivial⟩ ⟨rfl, Nat.zero_le _, rfl⟩ ?_
  rintro k w1 ⟨rfl, hk, hgo⟩
  rcases Nat.lt_or_ge k ls.length with hlt | hge
  · obtain ⟨p, hp, hc⟩ := R.one hlt (v := nu ls[k]) rfl
    rw [useM_step hlt] at hgo
    rw [hp]
    generalize hx : ls[k] = x at *
    by_cases hb : x < 0 ∨ 2 * c.max + 1 < x
    · repeat' (first
|(apply WC_seqK;intro K hK)
|(apply hK;clear hK)
|(apply WC_block)
|(apply WC_region)
|(apply WL_nil)
|(apply thenQ_normal)
|(apply thenQ_ret)
|(apply blockQ_ret)
|(apply WC_ret)
|(apply WC_skip)
|(apply WC_if_true;eq_refl)
|(apply ret1;eq_refl)
|(apply WL_on0;eq_refl)
|(apply WL_onG;eq_refl;eq_refl;eq_refl;eq_refl)
|(apply WL_noG;eq_refl;eq_refl;eq_refl;eq_refl)
|(apply X_pv;eq_refl;first|exact trivial|omega)
|(apply X_field;eq_refl)
|(apply X_loadR;eq_refl;(first|assumption|(apply Blk.alloc;assumption)|apply Blk.new|apply Blk.newA|(apply Blk.alloc;first|apply Blk.newA|(apply Blk.alloc;first|assumption|apply Blk.newA)));eq_refl)
|(apply X_loadC;eq_refl;(first|assumption|(apply cel;first|assumption|(apply cel;assumption))))
|(apply X_cmpT;eq_refl;eq_refl;omega)
|(apply X_cmp;eq_refl;eq_refl;all_goals intro _)
|(apply X_indexP;eq_refl;eq_refl;omega;omega))
      all_goals
        have e : useOne c.max t x = 30 := if_pos hb
        rw [e, if_pos (by decide)] at hgo
        exact ⟨by rw [← hgo], rfl⟩
    · obtain ⟨g0, _⟩ := tab_get (t := t) (v := x / 2) (by omega) (by omega)
      have e0 : useOne c.max t x = if 1 < x ∧ kindAt t (x / 2) = 0 then 32 else 0 := if_neg hb
      repeat' (first
|(apply X_loadR;eq_refl;assumption;exact g0)
|(apply WC_seqK;intro K hK)
|(apply hK;clear hK)
|(apply WC_block)
|(apply WC_region)
|(apply WL_nil)
|(apply thenQ_normal)
|(apply thenQ_ret)
|(apply blockQ_ret)
|(apply blockQ_normal)
|(apply WC_ret)
|(apply WC_skip)
|(apply WC_if_true;eq_refl)
|(apply WC_if_false;eq_refl)
|(apply ret1;eq_refl)
|(apply WL_on0;eq_refl)
|(apply WL_onG;eq_refl;eq_refl;eq_refl;eq_refl)
|(apply WL_noG;eq_refl;eq_refl;eq_refl;eq_refl)
|(apply X_pv;eq_refl;first|exact trivial|omega)
|(apply X_field;eq_refl)
|(apply X_loadR;eq_refl;(first|assumption|(apply Blk.alloc;assumption)|apply Blk.new|apply Blk.newA|(apply Blk.alloc;first|apply Blk.newA|(apply Blk.alloc;first|assumption|apply Blk.newA)));eq_refl)
|(apply X_loadC;eq_refl;(first|assumption|(apply cel;first|assumption|(apply cel;assumption))))
|(apply X_cmpT;eq_refl;eq_refl;omega)
|(apply X_cmpF;eq_refl;eq_refl;omega)
|(apply X_cmp;eq_refl;eq_refl;all_goals intro _)
|(apply X_index;eq_refl;eq_refl;omega;omega)
|(apply X_indexP;eq_refl;eq_refl;omega;omega))
      · rw [if_pos ⟨by assumption, by assumption⟩] at e0
        rw [e0, if_pos (by decide)] at hgo
        exact ⟨by rw [← hgo], rfl⟩
      all_goals
        rw [if_neg (fun hh => by have := hh.1; have := hh.2; contradiction)] at e0
        rw [e0, if_neg (by decide)] at hgo
        exact ⟨k + 1, ⟨rfl, by first | rfl | (rw [hp]; rfl), rfl, rfl, trivial⟩, ⟨rfl, hlt, hgo⟩, by omega⟩
  · repeat' (first
|(apply WC_seqK;intro K hK)
|(apply hK;clear hK)
|(clear hK;apply hK;clear hK)
|(apply WC_region)
|(apply WL_nil)
|(apply thenQ_normal)
|(apply thenQ_exit)
|(apply blockQ_hit)
|(apply WC_ret)
|(apply WC_exit)
|(apply WC_if_false;eq_refl)
|(apply ret1;eq_refl)
|(apply WL_on0;eq_refl)
|(apply X_pv;eq_refl;first|exact trivial|omega)
|(apply X_cmpF;eq_refl;eq_refl;omega))
    rw [List.drop_eq_nil_of_le hge] at hgo
    exact ⟨by rw [← hgo]; rfl, rfl⟩
def goUse (max : Int) (t : Tab) : List (List Int) → Nat → Int × Int
  | [], _ => (0, 0)
  | l :: r, i => if useM max t l ≠ 0 then (i, useM max t l) else goUse max t r (i + 1)
theorem goUse_step {max : Int} {t : Tab} {ls : List (List Int)} {k : Nat} (hk : k < ls.length) : goUse max t (ls.drop k) k = if useM max t ls[k] ≠ 0 then ((k : Int), useM max t ls[k]) else goUse max t (ls.drop (k + 1)) (k + 1) := by
  rw [List.drop_eq_getElem_cons hk]
  rfl
def thenE (a b : Int × Int) : Int × Int := if a.2 ≠ 0 then a else b
theorem thenE_err {a b : Int × Int} (h : a.2 ≠ 0) : thenE a b = a := if_pos h
theorem thenE_ok {a b : Int × Int} (h : a.2 = 0) : thenE a b = b := if_neg (fun hh => hh h)
def ones (l : List Int) : List (List Int) := l.map fun x => [x]
theorem ones_len (l : List Int) : (ones l).length = l.length := by simp [ones]
def usesM (c : Circ) (t : Tab) : Int × Int :=
  thenE (goUse c.max t (c.latches.map fun x => [x.2.1]) 0) (thenE (goUse c.max t (ones c.outputs) 0) (thenE (goUse c.max t (ones c.bads) 0) (thenE (goUse c.max t (ones c.constraints) 0) (thenE (goUse c.max t c.justice 0) (thenE (goUse c.max t (ones c.fairness) 0) (goUse c.max t (c.ands.map fun x => [x.2.1, x.2.2]) 0))))))
def restOf (max : Int) (t : Tab) (R : Int × Int) : List (List Int) → Int × Int
  | [] => R
  | l :: r => thenE (goUse max t (ones l) 0) (restOf max t R r)
theorem RowA.lit (w : World) (l : List Int) : RowA (w.alloc (.cells (l.map nu).toArray 3)) icell 1 (some ⟨w.heap.size, 0, none⟩) l := fun k hk => by
  refine ⟨⟨w.heap.size, 0, none⟩, rfl, fun j u hj => ?_⟩
  have hj0 : j = 0 := by have := (List.getElem?_eq_some_iff.1 hj).1; simp [icell] at this; exact this
  subst hj0
  have e : (k : Int).toNat * 1 = k := by omega
  rw [e, add_at, add_at, Nat.zero_add, Nat.add_zero, (Blk.new w (l.map nu) 3).cell]
  simpa [icell, hk] using hj
theorem use1_cv {w : World} {q b : Nat} {c : Circ} {h js : Hd} {t : Tab} {x : Int} (H : Lk w q b c h js t) (O : LkOk c t) :
    CV Tryd.prog 113 [pt q, .slice (some ⟨w.heap.size, 0, none⟩) 1 1] (w.alloc (.cells #[nu x] 3)) fun v w' => v = nu (useM c.max t [x]) ∧ w' = w.alloc (.cells #[nu x] 3) :=
  use_cv (H.chg (Chg.alloc w _ none_)) O (RowA.lit w [x]) (by simp)
theorem use2_cv {w : World} {q b : Nat} {c : Circ} {h js : Hd} {t : Tab} {x y : Int} (H : Lk w q b c h js t) (O : LkOk c t) :
    CV Tryd.prog 113 [pt q, .slice (some ⟨w.heap.size, 0, none⟩) 2 2] (w.alloc (.cells #[nu x, nu y] 3)) fun v w' => v = nu (useM c.max t [x, y]) ∧ w' = w.alloc (.cells #[nu x, nu y] 3) :=
  use_cv (H.chg (Chg.alloc w _ none_)) O (RowA.lit w [x, y]) (by simp)
theorem uses_cv {w : World} {q b : Nat} {c : Circ} {h js : Hd} {t : Tab} (H : Lk w q b c h js t) (O : LkOk c t) (hs : c.Sane) :
    CV Tryd.prog 98 [pt q] w fun v w' => v = .tuple #[nu (usesM c t).1, nu (usesM c t).2] ∧ Chg w w' none_ := by
  have hlens := hs.lens
  have hH := H.head
  refine enter 142 [2, 3] Tryd.func98 rfl rfl rfl (by decide) rfl ?_
  repeat' (first
|(apply WC_seqK;intro K hK)
|(apply hK;clear hK)
|(apply WC_block)
|(apply WC_region)
|(apply WL_nil)
|(apply thenQ_normal)
|(apply WL_on0;eq_refl)
|(apply X_pv;eq_refl;first|exact trivial|omega)
|(apply X_field;eq_refl)
|(apply X_loadR;eq_refl;(first|assumption|(apply Blk.alloc;assumption)|apply Blk.new|apply Blk.newA|(apply Blk.alloc;first|apply Blk.newA|(apply Blk.alloc;first|assumption|apply Blk.newA)));eq_refl)
|(apply X_len;eq_refl))
  have E : usesM c t = thenE (goUse c.max t (c.latches.map fun x => [x.2.1]) 0) (thenE (goUse c.max t (ones c.outputs) 0) (thenE (goUse c.max t (ones c.bads) 0) (thenE (goUse c.max t (ones c.constraints) 0) (thenE (goUse c.max t c.justice 0) (thenE (goUse c.max t (ones c.fairness) 0) (goUse c.max t (c.ands.map fun x => [x.2.1, x.2.2]) 0)))))) := rfl
  refine WC_loop (fun k : Nat => [(0, pt q), (25, .slice (h 2).1 c.latches.length (h 2).2), (26, nu c.latches.length), (27, nu k)])
    (fun k w1 => Lk w1 q b c h js t ∧ Chg w w1 none_ ∧ k ≤ c.latches.length ∧ goUse c.max t ((c.latches.map fun x => [x.2.1]).drop k) k = goUse c.max t (c.latches.map fun x => [x.2.1]) 0) (fun k => c.latches.length - k) 0 ⟨rfl, rfl, rfl, rfl, trivial⟩ ⟨H, Chg.refl _ _, Nat.zero_le _, rfl⟩ ?_
  rintro k w1 ⟨H1, hC1, hk, hgo⟩
  have hH1 := H1.head
  rcases Nat.lt_or_ge k c.latches.length with hlt | hge
  · obtain ⟨p, hp, hc⟩ := (H1.cir w1 (Chg.refl _ _)).latches k hlt
    rw [goUse_step (by simpa using hlt), List.getElem_map] at hgo
    rw [hp]
    generalize hx : c.latches[k] = x at *
    repeat' (first
|(apply X_loadAP (tcells x);eq_refl;eq_refl;exact hc)
|(apply WC_seqK;intro K hK)
|(apply hK;clear hK)
|(apply WC_block)
|(apply WC_region)
|(apply WL_nil)
|(apply thenQ_normal)
|(apply WC_skip)
|(apply WC_if_true;eq_refl)
|(apply WL_on0;eq_refl)
|(apply X_pv;eq_refl;first|exact trivial|omega)
|(apply X_cmpT;eq_refl;eq_refl;omega)
|(apply X_indexP;eq_refl;eq_refl;omega;omega)
|(apply X_alloc))
    refine X_doesU (does_storeA (vs := tcells x) (o := 0) (b := w1.heap.size) (by eq_refl) (by eq_refl) (Blk.newA w1 _ _) rfl (by exact Nat.le_refl 3) (by simp [tcells, Value.oneCell'])) ?_
    refine WL_turn (fun w2 => Lk w2 q b c h js t ∧ Blk w2 w1.heap.size 59 (tcells x) ∧ Chg w w2 none_) ?_ ?_
    · have hcc : Chg w1 ((w1.alloc (.cells #[nu 0, nu 0, nu 0] 59)).setRow w1.heap.size (tcells x).toArray) none_ := (Chg.alloc w1 _ none_).trans (Chg.setRow _ w1.heap.size _ (S := fun k => k = w1.heap.size) rfl) fun k hk h => by omega
      exact ⟨H1.chg hcc, (Blk.newA w1 _ 59).set (tcells x), hC1.trans hcc fun _ _ h => h⟩
    rintro w2 ⟨H2, hN2, hC2⟩
    repeat' (first
|(apply X_fn;eq_refl;exact use1_cv H2 O;rintro _ _ ⟨rfl, rfl⟩)
|(apply WC_seqK;intro K hK)
|(apply hK;clear hK)
|(apply WC_region)
|(apply WL_nil)
|(apply thenQ_normal)
|(apply thenQ_ret)
|(apply blockQ_ret)
|(apply blockQ_normal)
|(apply WC_ret)
|(apply WC_skip)
|(apply WC_if_true;eq_refl)
|(apply WC_if_false;eq_refl)
|(apply ret2;eq_refl;eq_refl)
|(apply WL_on0;eq_refl)
|(apply X_pv;eq_refl;first|exact trivial|omega)
|(apply X_field;eq_refl)
|(apply X_loadR;eq_refl;(first|assumption|(apply Blk.alloc;assumption)|apply Blk.new|apply Blk.newA|(apply Blk.alloc;first|apply Blk.newA|(apply Blk.alloc;first|assumption|apply Blk.newA)));eq_refl)
|(apply X_cmp;eq_refl;eq_refl;all_goals intro _)
|(apply X_does;apply buildS22_1 <;> eq_refl))
    · rw [if_pos (by assumption)] at hgo
      rw [E, thenE_err (by rw [← hgo]; assumption), ← hgo]
      exact ⟨rfl, hC2.al _⟩
    · rw [if_neg (by assumption)] at hgo
      exact ⟨k + 1, ⟨rfl, by first | rfl | (rw [hp]; rfl), rfl, rfl, trivial⟩, ⟨H2.chg (Chg.alloc _ _ _), hC2.al _, hlt, hgo⟩, by omega⟩
  rw [List.drop_eq_nil_of_le (by simpa using hge)] at hgo
  rw [thenE_ok (by rw [← hgo]; rfl)] at E
  clear hgo
  repeat' (first
|(apply WC_seqK;intro K hK)
|(apply hK;clear hK)
|(clear hK;apply hK;clear hK)
|(apply WC_region)
|(apply WL_nil)
|(apply thenQ_normal)
|(apply thenQ_exit)
|(apply blockQ_hit)
|(apply WC_exit)
|(apply WC_if_false;eq_refl)
|(apply WL_on0;eq_refl)
|(apply X_cmpF;eq_refl;eq_refl;omega))
  refine WC_draws [(0, true), (1, true), (2, true), (3, true), (4, true), (5, true), (6, true), (7, true), (8, true), (9, true), (10, true), (11, true), (12, true), (13, true), (14, true), (17, true), (15, false), (16, true)] (fun w => Blk w q 139 (ccells c h ++ [.slice (some ⟨b, 0, none⟩) t.length t.length])) mixed (by kernel_rfl) (by kernel_rfl) ?_
  have hS : Blk w1.drew q 139 (ccells c h ++ [.slice (some ⟨b, 0, none⟩) t.length t.length]) := hH1
  repeat' (first
|(apply WS_next;eq_refl)
|(apply WO_on0;eq_refl)
|(apply O_pv;eq_refl;(first|exact trivial|omega);(first|assumption|exact trivial))
|(apply O_field;eq_refl;(first|assumption|exact trivial))
|(apply O_loadR;eq_refl;(first|(intro _ h;exact h)|(intro _ h;exact h.1)|(intro _ h;exact h.2)|(intro _ h;exact h.2.1)|(intro _ h;exact h.2.2)|(intro _ h;exact h.2.2.1)|(intro _ h;exact h.2.2.2));eq_refl;(first|assumption|exact trivial)))
  apply O_does
  · apply buildS24_3 <;> eq_refl
  · intro _; exact hS.alloc _
  refine WS_turn (fun w2 => Lk w2 q b c h js t ∧ Chg w w2 none_ ∧ Blk w2 w1.drew.heap.size 22 [.slice (h 3).1 c.outputs.length (h 3).2, .slice (h 4).1 c.bads.length (h 4).2, .slice (h 5).1 c.constraints.length (h 5).2]) ⟨(H1.chg (Chg.drew _ _)).chg (Chg.alloc _ _ _), hC1.dr.al _, Blk.newA _ _ _⟩ ?_
  rintro w2 ⟨H2, hC2, hN2⟩
  replace hS := H2.head
  generalize w1.drew.heap.size = nb at *
  clear hH1 hC1 hge hk
  repeat' (first
|(apply hK;clear hK)
|(apply WC_block)
|(apply thenQ_normal)
|(apply WS_nil)
|(apply WS_next;eq_refl)
|(apply WO_on0;eq_refl)
|(apply O_len;eq_refl;(first|assumption|exact trivial)))
  have hLs : ∀ j (hj : j < 3), ∃ l : List Int, ([c.outputs, c.bads, c.constraints] : List (List Int))[j]? = some l ∧ l.length ≤ 9223372036854775807 ∧ (∀ w', CirAt w' c h js → RowA w' icell 1 (h (3 + j)).1 l) ∧ ([.slice (h 3).1 c.outputs.length (h 3).2, .slice (h 4).1 c.bads.length (h 4).2, .slice (h 5).1 c.constraints.length (h 5).2] : List Value)[0 + (j : Int).toNat * 1]? = some (.slice (h (3 + j)).1 l.length (h (3 + j)).2) := by
    intro j hj
    match j, hj with
    | 0, _ => exact ⟨_, rfl, hlens.2.2.1, fun w' hw => hw.outputs, rfl⟩
    | 1, _ => exact ⟨_, rfl, hlens.2.2.2.1, fun w' hw => hw.bads, rfl⟩
    | 2, _ => exact ⟨_, rfl, hlens.2.2.2.2.1, fun w' hw => hw.constraints, rfl⟩
  have E' : usesM c t = restOf c.max t (thenE (goUse c.max t c.justice 0) (thenE (goUse c.max t (ones c.fairness) 0) (goUse c.max t (c.ands.map fun x => [x.2.1, x.2.2]) 0))) ([c.outputs, c.bads, c.constraints].drop 0) := E
  clear E
  generalize hR : thenE (goUse c.max t c.justice 0) (thenE (goUse c.max t (ones c.fairness) 0) (goUse c.max t (c.ands.map fun x => [x.2.1, x.2.2]) 0)) = REST at *
  refine WC_loop (fun j : Nat => [(0, pt q), (57, .slice (some ⟨nb, 0, none⟩) 3 3), (58, nu 3), (59, nu j)])
    (fun j w3 => Lk w3 q b c h js t ∧ Chg w w3 none_ ∧ Blk w3 nb 22 [.slice (h 3).1 c.outputs.length (h 3).2, .slice (h 4).1 c.bads.length (h 4).2, .slice (h 5).1 c.constraints.length (h 5).2] ∧ j ≤ 3 ∧ usesM c t = restOf c.max t REST ([c.outputs, c.bads, c.constraints].drop j)) (fun j => 3 - j) 0 ⟨rfl, rfl, rfl, rfl, trivial⟩ ⟨H2, hC2, hN2, by decide, E'⟩ ?_
  clear E' hN2 hS
  rintro j w3 ⟨H3, hC3, hN3, hj, hgo⟩
  rcases Nat.lt_or_ge j 3 with hlt | hge
  · obtain ⟨l, hl1, hl2, hl3, hl4⟩ := hLs j hlt
    rw [List.drop_eq_getElem_cons (by exact hlt)] at hgo
    have hl5 : ([c.outputs, c.bads, c.constraints] : List (List Int))[j]'(by exact hlt) = l := by
      rw [List.getElem?_eq_getElem (by exact hlt)] at hl1
      exact Option.some.inj hl1
    rw [hl5] at hgo
    have hgo' : usesM c t = thenE (goUse c.max t (ones l) 0) (restOf c.max t REST ([c.outputs, c.bads, c.constraints].drop (j + 1))) := hgo
    clear hgo
    repeat' (first
|(apply X_loadR;eq_refl;assumption;exact hl4)
|(apply WC_seqK;intro K hK)
|(apply hK;clear hK)
|(apply WC_block)
|(apply WC_region)
|(apply WL_nil)
|(apply thenQ_normal)
|(apply WC_skip)
|(apply WC_if_true;eq_refl)
|(apply WL_on0;eq_refl)
|(apply X_pv;eq_refl;first|exact trivial|omega)
|(apply X_cmpT;eq_refl;eq_refl;omega)
|(apply X_len;eq_refl)
|(apply X_index;eq_refl;eq_refl;omega;omega))
    refine WC_loop (fun k : Nat => [(0, pt q), (57, .slice (some ⟨nb, 0, none⟩) 3 3), (58, nu 3), (59, nu j), (63, .slice (h (3 + j)).1 l.length (h (3 + j)).2), (64, nu l.length), (65, nu k)])
      (fun k w4 => Lk w4 q b c h js t ∧ Chg w w4 none_ ∧ Blk w4 nb 22 [.slice (h 3).1 c.outputs.length (h 3).2, .slice (h 4).1 c.bads.length (h 4).2, .slice (h 5).1 c.constraints.length (h 5).2] ∧ k ≤ l.length ∧ goUse c.max t ((ones l).drop k) k = goUse c.max t (ones l) 0) (fun k => l.length - k) 0 ⟨rfl, rfl, rfl, rfl, rfl, rfl, rfl, trivial⟩ ⟨H3, hC3, hN3, Nat.zero_le _, rfl⟩ ?_
    rintro k w4 ⟨H4, hC4, hN4, hk, hgo⟩
    rcases Nat.lt_or_ge k l.length with hlt2 | hge2
    · obtain ⟨p, hp, hc⟩ := (hl3 w4 (H4.cir w4 (Chg.refl _ _))).one hlt2 (v := nu l[k]) rfl
      rw [goUse_step (by rw [ones_len]; exact hlt2)] at hgo
      simp only [ones, List.getElem_map] at hgo
      rw [hp]
      generalize hx : l[k] = x at *
      repeat' (first
|(apply X_fn;eq_refl;exact use1_cv H4 O;rintro _ _ ⟨rfl, rfl⟩)
|(apply WC_seqK;intro K hK)
|(apply hK;clear hK)
|(apply WC_block)
|(apply WC_region)
|(apply WL_nil)
|(apply thenQ_normal)
|(apply thenQ_ret)
|(apply blockQ_ret)
|(apply blockQ_normal)
|(apply WC_ret)
|(apply WC_skip)
|(apply WC_if_true;eq_refl)
|(apply WC_if_false;eq_refl)
|(apply ret2;eq_refl;eq_refl)
|(apply WL_on0;eq_refl)
|(apply X_pv;eq_refl;first|exact trivial|omega)
|(apply X_loadC;eq_refl;(first|assumption|(apply cel;first|assumption|(apply cel;assumption))))
|(apply X_cmpT;eq_refl;eq_refl;omega)
|(apply X_cmp;eq_refl;eq_refl;all_goals intro _)
|(apply X_indexP;eq_refl;eq_refl;omega;omega)
|(apply X_does;apply buildS22_1 <;> eq_refl))
      · rw [if_pos (by assumption)] at hgo
        rw [hgo', thenE_err (by simp only [ones]; rw [← hgo]; assumption)]
        simp only [ones]
        rw [← hgo]
        exact ⟨rfl, hC4.al _⟩
      · rw [if_neg (by assumption)] at hgo
        exact ⟨k + 1, ⟨rfl, rfl, rfl, rfl, by first | rfl | (rw [hp]; rfl), rfl, rfl, trivial⟩, ⟨H4.chg (Chg.alloc _ _ _), hC4.al _, hN4.alloc _, hlt2, hgo⟩, by omega⟩
    · repeat' (first
|(apply WC_seqK;intro K hK)
|(apply hK;clear hK)
|(clear hK;apply hK;clear hK)
|(apply WC_region)
|(apply WL_nil)
|(apply thenQ_normal)
|(apply thenQ_exit)
|(apply blockQ_hit)
|(apply blockQ_normal)
|(apply WC_exit)
|(apply WC_if_false;eq_refl)
|(apply WL_on0;eq_refl)
|(apply X_pv;eq_refl;first|exact trivial|omega)
|(apply X_cmpF;eq_refl;eq_refl;omega))
      rw [List.drop_eq_nil_of_le (by rw [ones_len]; exact hge2)] at hgo
      rw [thenE_ok (by rw [← hgo]; rfl)] at hgo'
      exact ⟨j + 1, ⟨rfl, rfl, rfl, rfl, trivial⟩, ⟨H4, hC4, hN4, hlt, hgo'⟩, by omega⟩
  have E : usesM c t = REST := by
    rw [List.drop_eq_nil_of_le (by exact hge)] at hgo
    exact hgo
  rw [← hR] at E
  clear hgo hLs
  have hH3 := H3.head
  repeat' (first
|(apply WC_seqK;intro K hK)
|(apply hK;clear hK)
|(clear hK;apply hK;clear hK)
|(apply WC_block)
|(apply WC_region)
|(apply WL_nil)
|(apply thenQ_normal)
|(apply thenQ_exit)
|(apply blockQ_hit)
|(apply WC_exit)
|(apply WC_if_false;eq_refl)
|(apply WL_on0;eq_refl)
|(apply X_pv;eq_refl;first|exact trivial|omega)
|(apply X_field;eq_refl)
|(apply X_loadR;eq_refl;(first|assumption|(apply Blk.alloc;assumption)|apply Blk.new|apply Blk.newA|(apply Blk.alloc;first|apply Blk.newA|(apply Blk.alloc;first|assumption|apply Blk.newA)));eq_refl)
|(apply X_cmpF;eq_refl;eq_refl;omega)
|(apply X_len;eq_refl))
  refine WC_loop (fun k : Nat => [(0, pt q), (84, .slice (h 6).1 c.justice.length (h 6).2), (85, nu c.justice.length), (86, nu k)])
    (fun k w4 => Lk w4 q b c h js t ∧ Chg w w4 none_ ∧ k ≤ c.justice.length ∧ goUse c.max t (c.justice.drop k) k = goUse c.max t c.justice 0) (fun k => c.justice.length - k) 0 ⟨rfl, rfl, rfl, rfl, trivial⟩ ⟨H3, hC3, Nat.zero_le _, rfl⟩ ?_
  clear hge hj hH3 hN3
  rintro k w4 ⟨H4, hC4, hk, hgo⟩
  have hH4 := H4.head
  rcases Nat.lt_or_ge k c.justice.length with hlt | hge
  · obtain ⟨p, hp, hc⟩ := (H4.cir w4 (Chg.refl _ _)).justice k hlt
    have hrow := (H4.cir w4 (Chg.refl _ _)).each k hlt
    have hsm := hs.just _ (List.getElem_mem hlt)
    rw [goUse_step hlt] at hgo
    rw [hp]
    generalize hx : c.justice[k] = x at *
    repeat' (first
|(apply X_fn;eq_refl;exact use_cv H4 O hrow hsm;rintro _ _ ⟨rfl, rfl⟩)
|(apply WC_seqK;intro K hK)
|(apply hK;clear hK)
|(apply WC_block)
|(apply WC_region)
|(apply WL_nil)
|(apply thenQ_normal)
|(apply thenQ_ret)
|(apply blockQ_ret)
|(apply blockQ_normal)
|(apply WC_ret)
|(apply WC_skip)
|(apply WC_if_true;eq_refl)
|(apply WC_if_false;eq_refl)
|(apply ret2;eq_refl;eq_refl)
|(apply WL_on0;eq_refl)
|(apply X_pv;eq_refl;first|exact trivial|omega)
|(apply X_loadC;eq_refl;(first|assumption|(apply cel;first|assumption|(apply cel;assumption))))
|(apply X_cmpT;eq_refl;eq_refl;omega)
|(apply X_cmp;eq_refl;eq_refl;all_goals intro _)
|(apply X_indexP;eq_refl;eq_refl;omega;omega))
    · rw [if_pos (by assumption)] at hgo
      rw [E, thenE_err (by rw [← hgo]; assumption), ← hgo]
      exact ⟨rfl, hC4⟩
    · rw [if_neg (by assumption)] at hgo
      exact ⟨k + 1, ⟨rfl, by first | rfl | (rw [hp]; rfl), rfl, rfl, trivial⟩, ⟨H4, hC4, hlt, hgo⟩, by omega⟩
  rw [List.drop_eq_nil_of_le hge] at hgo
  rw [thenE_ok (by rw [← hgo]; rfl)] at E
  clear hgo
  repeat' (first
|(apply WC_seqK;intro K hK)
|(apply hK;clear hK)
|(clear hK;apply hK;clear hK)
|(apply WC_block)
|(apply WC_region)
|(apply WL_nil)
|(apply thenQ_normal)
|(apply thenQ_exit)
|(apply blockQ_hit)
|(apply WC_exit)
|(apply WC_if_false;eq_refl)
|(apply WL_on0;eq_refl)
|(apply X_pv;eq_refl;first|exact trivial|omega)
|(apply X_field;eq_refl)
|(apply X_loadR;eq_refl;(first|assumption|(apply Blk.alloc;assumption)|apply Blk.new|apply Blk.newA|(apply Blk.alloc;first|apply Blk.newA|(apply Blk.alloc;first|assumption|apply Blk.newA)));eq_refl)
|(apply X_cmpF;eq_refl;eq_refl;omega)
|(apply X_len;eq_refl))
  refine WC_loop (fun k : Nat => [(0, pt q), (103, .slice (h 7).1 c.fairness.length (h 7).2), (104, nu c.fairness.length), (105, nu k)])
    (fun k w5 => Lk w5 q b c h js t ∧ Chg w w5 none_ ∧ k ≤ c.fairness.length ∧ goUse c.max t ((ones c.fairness).drop k) k = goUse c.max t (ones c.fairness) 0) (fun k => c.fairness.length - k) 0 ⟨rfl, rfl, rfl, rfl, trivial⟩ ⟨H4, hC4, Nat.zero_le _, rfl⟩ ?_
  clear hge hk
  rintro k w5 ⟨H5, hC5, hk, hgo⟩
  have hH5 := H5.head
  rcases Nat.lt_or_ge k c.fairness.length with hlt | hge
  · obtain ⟨p, hp, hc⟩ := ((H5.cir w5 (Chg.refl _ _)).fairness).one hlt (v := nu c.fairness[k]) rfl
    rw [goUse_step (by rw [ones_len]; exact hlt)] at hgo
    simp only [ones, List.getElem_map] at hgo
    rw [hp]
    generalize hx : c.fairness[k] = x at *
    repeat' (first
|(apply X_fn;eq_refl;exact use1_cv H5 O;rintro _ _ ⟨rfl, rfl⟩)
|(apply WC_seqK;intro K hK)
|(apply hK;clear hK)
|(apply WC_block)
|(apply WC_region)
|(apply WL_nil)
|(apply thenQ_normal)
|(apply thenQ_ret)
|(apply blockQ_ret)
|(apply blockQ_normal)
|(apply WC_ret)
|(apply WC_skip)
|(apply WC_if_true;eq_refl)
|(apply WC_if_false;eq_refl)
|(apply ret2;eq_refl;eq_refl)
|(apply WL_on0;eq_refl)
|(apply X_pv;eq_refl;first|exact trivial|omega)
|(apply X_loadC;eq_refl;(first|assumption|(apply cel;first|assumption|(apply cel;assumption))))
|(apply X_cmpT;eq_refl;eq_refl;omega)
|(apply X_cmp;eq_refl;eq_refl;all_goals intro _)
|(apply X_indexP;eq_refl;eq_refl;omega;omega)
|(apply X_does;apply buildS22_1 <;> eq_refl))
    · rw [if_pos (by assumption)] at hgo
      rw [E, thenE_err (by simp only [ones]; rw [← hgo]; assumption)]
      simp only [ones]
      rw [← hgo]
      exact ⟨rfl, hC5.al _⟩
    · rw [if_neg (by assumption)] at hgo
      exact ⟨k + 1, ⟨rfl, by first | rfl | (rw [hp]; rfl), rfl, rfl, trivial⟩, ⟨H5.chg (Chg.alloc _ _ _), hC5.al _, hlt, hgo⟩, by omega⟩
  rw [List.drop_eq_nil_of_le (by rw [ones_len]; exact hge)] at hgo
  rw [thenE_ok (by rw [← hgo]; rfl)] at E
  clear hgo
  repeat' (first
|(apply WC_seqK;intro K hK)
|(apply hK;clear hK)
|(clear hK;apply hK;clear hK)
|(apply WC_block)
|(apply WC_region)
|(apply WL_nil)
|(apply thenQ_normal)
|(apply thenQ_exit)
|(apply blockQ_hit)
|(apply WC_exit)
|(apply WC_if_false;eq_refl)
|(apply WL_on0;eq_refl)
|(apply X_pv;eq_refl;first|exact trivial|omega)
|(apply X_field;eq_refl)
|(apply X_loadR;eq_refl;(first|assumption|(apply Blk.alloc;assumption)|apply Blk.new|apply Blk.newA|(apply Blk.alloc;first|apply Blk.newA|(apply Blk.alloc;first|assumption|apply Blk.newA)));eq_refl)
|(apply X_cmpF;eq_refl;eq_refl;omega)
|(apply X_len;eq_refl))
  refine WC_loop (fun k : Nat => [(0, pt q), (123, .slice (h 8).1 c.ands.length (h 8).2), (124, nu c.ands.length), (125, nu k)])
    (fun k w6 => Lk w6 q b c h js t ∧ Chg w w6 none_ ∧ k ≤ c.ands.length ∧ goUse c.max t ((c.ands.map fun x => [x.2.1, x.2.2]).drop k) k = goUse c.max t (c.ands.map fun x => [x.2.1, x.2.2]) 0) (fun k => c.ands.length - k) 0 ⟨rfl, rfl, rfl, rfl, trivial⟩ ⟨H5, hC5, Nat.zero_le _, rfl⟩ ?_
  clear hge hk
  rintro k w6 ⟨H6, hC6, hk, hgo⟩
  have hH6 := H6.head
  rcases Nat.lt_or_ge k c.ands.length with hlt | hge
  · obtain ⟨p, hp, hc⟩ := (H6.cir w6 (Chg.refl _ _)).ands k hlt
    rw [goUse_step (by simpa using hlt), List.getElem_map] at hgo
    rw [hp]
    generalize hx : c.ands[k] = x at *
    repeat' (first
|(apply X_loadAP (tcells x);eq_refl;eq_refl;exact hc)
|(apply WC_seqK;intro K hK)
|(apply hK;clear hK)
|(apply WC_block)
|(apply WC_region)
|(apply WL_nil)
|(apply thenQ_normal)
|(apply WC_skip)
|(apply WC_if_true;eq_refl)
|(apply WL_on0;eq_refl)
|(apply X_pv;eq_refl;first|exact trivial|omega)
|(apply X_cmpT;eq_refl;eq_refl;omega)
|(apply X_indexP;eq_refl;eq_refl;omega;omega)
|(apply X_alloc))
    refine X_doesU (does_storeA (vs := tcells x) (o := 0) (b := w6.heap.size) (by eq_refl) (by eq_refl) (Blk.newA w6 _ _) rfl (by exact Nat.le_refl 3) (by simp [tcells, Value.oneCell'])) ?_
    refine WL_turn (fun w7 => Lk w7 q b c h js t ∧ Blk w7 w6.heap.size 61 (tcells x) ∧ Chg w w7 none_) ?_ ?_
    · have hcc : Chg w6 ((w6.alloc (.cells #[nu 0, nu 0, nu 0] 61)).setRow w6.heap.size (tcells x).toArray) none_ := (Chg.alloc w6 _ none_).trans (Chg.setRow _ w6.heap.size _ (S := fun k => k = w6.heap.size) rfl) fun k hk h => by omega
      exact ⟨H6.chg hcc, (Blk.newA w6 _ 61).set (tcells x), hC6.trans hcc fun _ _ h => h⟩
    rintro w7 ⟨H7, hN7, hC7⟩
    repeat' (first
|(apply X_fn;eq_refl;exact use2_cv H7 O;rintro _ _ ⟨rfl, rfl⟩)
|(apply WC_seqK;intro K hK)
|(apply hK;clear hK)
|(apply WC_region)
|(apply WL_nil)
|(apply thenQ_normal)
|(apply thenQ_ret)
|(apply blockQ_ret)
|(apply blockQ_normal)
|(apply WC_ret)
|(apply WC_skip)
|(apply WC_if_true;eq_refl)
|(apply WC_if_false;eq_refl)
|(apply ret2;eq_refl;eq_refl)
|(apply WL_on0;eq_refl)
|(apply X_pv;eq_refl;first|exact trivial|omega)
|(apply X_field;eq_refl)
|(apply X_loadR;eq_refl;(first|assumption|(apply Blk.alloc;assumption)|apply Blk.new|apply Blk.newA|(apply Blk.alloc;first|apply Blk.newA|(apply Blk.alloc;first|assumption|apply Blk.newA)));eq_refl)
|(apply X_cmp;eq_refl;eq_refl;all_goals intro _)
|(apply X_does;apply buildS22_2 <;> eq_refl))
    · rw [if_pos (by assumption)] at hgo
      rw [E, ← hgo]
      exact ⟨rfl, hC7.al _⟩
    · rw [if_neg (by assumption)] at hgo
      exact ⟨k + 1, ⟨rfl, by first | rfl | (rw [hp]; rfl), rfl, rfl, trivial⟩, ⟨H7.chg (Chg.alloc _ _ _), hC7.al _, hlt, hgo⟩, by omega⟩
  rw [List.drop_eq_nil_of_le (by simpa using hge)] at hgo
  repeat' (first
|(apply WC_seqK;intro K hK)
|(apply hK;clear hK)
|(clear hK;apply hK;clear hK)
|(apply WC_region)
|(apply WL_nil)
|(apply thenQ_normal)
|(apply thenQ_exit)
|(apply blockQ_hit)
|(apply WC_ret)
|(apply WC_exit)
|(apply WC_if_false;eq_refl)
|(apply ret2;eq_refl;eq_refl)
|(apply WL_on0;eq_refl)
|(apply X_pv;eq_refl;first|exact trivial|omega)
|(apply X_cmpF;eq_refl;eq_refl;omega))
  rw [E, ← hgo]
  exact ⟨rfl, hC6⟩
end SC
end Go.Proofs.YtclihihdgodloaaDoor
end
section
/- shape: the gates below a gate. -/
set_option linter.unusedVariables false
set_option linter.unusedSimpArgs false
namespace Go.Proofs.YtclihihdgodloaaDoor
namespace SC
open Go.Proofs
attribute [local irreducible] WC WL WX WS WO OX Does DoesU Enters CV Pure thenQ blockQ retQ Wants
set_option maxRecDepth 100000
def atOf (t : Tab) (v : Int) : Int := ((t[v.toNat]?).map (·.2)).getD 0
def belowL (t : Tab) : List Int → List Int
  | [] => []
  | l :: r => if kindAt t (l / 2) = 3 then atOf t (l / 2) :: belowL t r else belowL t r
def belowM (t : Tab) (x : Tri) : List Int := belowL t [x.2.1, x.2.2]
theorem belowL_append (t : Tab) : ∀ a b : List Int, belowL t (a ++ b) = belowL t a ++ belowL t b
  | [], b => rfl
  | x :: r, b => by simp only [List.cons_append, belowL, belowL_append t r b]; split <;> simp
theorem belowL_len (t : Tab) : ∀ a : List Int, (belowL t a).length ≤ a.length
  | [] => Nat.le_refl _
  | x :: r => by have := belowL_len t r; unfold belowL; split <;> simp <;> omega
theorem tab_cells {w : World} {b : Nat} {t : Tab} (hT : Blk w b 158 (t.flatMap mcells)) {v : Int} (h0 : 0 ≤ v) (h1 : v < t.length) : ∀ j u, [nu (kindAt t v), nu (atOf t v)][j]? = some u → w.cell? ⟨b, 0 + v.toNat * 2 + j, none⟩ = some u := by
  obtain ⟨g0, m, hm, g1⟩ := tab_get h0 h1
  intro j u hj
  rw [hT.cell]
  match j with
  | 0 => simp at hj; rw [← hj]; exact g0
  | 1 => simp [atOf, hm] at hj; rw [← hj]; exact g1
  | j + 2 => simp at hj
theorem row_form' {w : World} {base : Nat} {v : Value} {n : Nat} {e : TypeId} {sz : Nat} {xs : List Value} (h : w.ownsRow base e sz v n xs) : ∃ A c, v = .slice A n c := by
  rcases h.2 with ⟨rfl, rfl⟩ | ⟨g', cap, cur, rfl, _⟩
  · exact ⟨_, _, rfl⟩
  · exact ⟨_, _, rfl⟩
theorem own_chg {w w' : World} {base : Nat} {v : Value} {n : Nat} {e : TypeId} {sz : Nat} {xs : List Value} {T : Nat → Prop} (h : w.ownsRow base e sz v n xs) (hc : Chg w w' T) (hn : ∀ k, v.ownBlock = some k → ¬ T k) : w'.ownsRow base e sz v n xs := by
  obtain ⟨h1, h2⟩ := h
  refine ⟨h1, ?_⟩
  rcases h2 with h2 | ⟨g, cap, cur, rfl, hb, hg, rest⟩
  · exact .inl h2
  · exact .inr ⟨g, cap, cur, rfl, hb, (hc.block g (Array.getElem?_eq_some_iff.1 hg).1 (hn g rfl)).trans hg, rest⟩
theorem below_cv {w : World} {q b : Nat} {c : Circ} {h js : Hd} {t : Tab} {i : Nat} (H : Lk w q b c h js t) (O : LkOk c t) (hi : i < c.ands.length) (hl : c.ands.length ≤ 281474976710656)
    (hr : ∀ x ∈ c.ands, 0 ≤ x.2.1 ∧ x.2.1 ≤ 2 * c.max + 1 ∧ 0 ≤ x.2.2 ∧ x.2.2 ≤ 2 * c.max + 1) :
    CV Tryd.prog 106 [pt q, nu i] w fun v w' => w'.ownsRow w.heap.size 3 1 v (belowM t c.ands[i]).length ((belowM t c.ands[i]).map nu) ∧ Chg w w' none_ := by
  have hH := H.head
  have hlen := O.len
  have hlo := O.lo
  have hhi := O.hi
  obtain ⟨p, hp, hc⟩ := (H.cir w (Chg.refl _ _)).ands i hi
  have hrx := hr c.ands[i] (List.getElem_mem hi)
  generalize hx : c.ands[i] = x at *
  have c1 := hc 1 (nu x.2.1) rfl
  have c2 := hc 2 (nu x.2.2) rfl
  refine enter 49 [4] Tryd.func106 rfl rfl rfl (by decide) rfl ?_
  have hH' : Blk w q 139 ([nu c.max, .slice (h 1).1 c.inputs.length (h 1).2, .slice (h 2).1 c.latches.length (h 2).2, .slice (h 3).1 c.outputs.length (h 3).2, .slice (h 4).1 c.bads.length (h 4).2, .slice (h 5).1 c.constraints.length (h 5).2,
    .slice (h 6).1 c.justice.length (h 6).2, .slice (h 7).1 c.fairness.length (h 7).2, .slice (some p) c.ands.length (h 8).2, .slice (h 9).1 c.symbols.length (h 9).2, .slice (h 10).1 c.comments.length (h 10).2] ++ [.slice (some ⟨b, 0, none⟩) t.length t.length]) := by
    have := hH
    unfold ccells at this
    rwa [hp] at this
  generalize hcs : ([nu c.max, .slice (h 1).1 c.inputs.length (h 1).2, .slice (h 2).1 c.latches.length (h 2).2, .slice (h 3).1 c.outputs.length (h 3).2, .slice (h 4).1 c.bads.length (h 4).2, .slice (h 5).1 c.constraints.length (h 5).2,
    .slice (h 6).1 c.justice.length (h 6).2, .slice (h 7).1 c.fairness.length (h 7).2, .slice (some p) c.ands.length (h 8).2, .slice (h 9).1 c.symbols.length (h 9).2, .slice (h 10).1 c.comments.length (h 10).2] ++ [.slice (some ⟨b, 0, none⟩) t.length t.length] : List Value) = cs at hH'
  have k8 : cs[0 + 0 + 8]? = some (.slice (some p) c.ands.length (h 8).2) := by rw [← hcs]; rfl
  have k11 : cs[0 + 11]? = some (.slice (some ⟨b, 0, none⟩) t.length t.length) := by rw [← hcs]; rfl
  repeat' (first
|(apply WC_seqK;intro K hK)
|(apply hK;clear hK)
|(apply WC_region)
|(apply WL_nil)
|(apply thenQ_normal)
|(apply WL_on0;eq_refl)
|(apply X_pv;eq_refl;first|exact trivial|omega))
  refine WC_draws [(0, true), (1, true), (2, true), (3, true), (4, true), (5, true), (6, true), (7, true), (8, true), (9, true), (10, true), (11, true), (12, true), (13, true), (14, true), (15, true), (16, true), (17, true), (18, true), (19, true)] (fun w => Blk w q 139 cs ∧ w.cell? ((p.add ((i : Int).toNat * 3)).add 1) = some (nu x.2.1) ∧ w.cell? ((p.add ((i : Int).toNat * 3)).add 2) = some (nu x.2.2)) mixed (by kernel_rfl) (by kernel_rfl) ?_
  have hS : Blk w.drew q 139 cs ∧ w.drew.cell? ((p.add ((i : Int).toNat * 3)).add 1) = some (nu x.2.1) ∧ w.drew.cell? ((p.add ((i : Int).toNat * 3)).add 2) = some (nu x.2.2) := ⟨hH', c1, c2⟩
  repeat' (first
|(apply O_loadR;eq_refl;(intro _ h;exact h.1);exact k8;assumption)
|(apply O_loadC;eq_refl;(first|(intro _ h;exact h.2.1)|(intro _ h;exact h.2.2));assumption)
|(apply hK;clear hK)
|(apply WC_block)
|(apply thenQ_normal)
|(apply WS_nil)
|(apply WS_next;eq_refl)
|(apply WO_on0;eq_refl)
|(apply O_pv;eq_refl;(first|exact trivial|omega);(first|assumption|exact trivial))
|(apply O_field;eq_refl;(first|assumption|exact trivial))
|(apply O_indexP;eq_refl;eq_refl;omega;omega;(first|assumption|exact trivial))
|(apply O_fieldP;eq_refl;(first|assumption|exact trivial))
|(apply O_pure;apply build148_0_1 <;> eq_refl;(first|assumption|exact trivial)))
  clear hS
  have hls : ∀ l ∈ ([x.2.1, x.2.2] : List Int), 0 ≤ l ∧ l ≤ 2 * c.max + 1 := by
    intro l hl
    simp only [List.mem_cons, List.not_mem_nil, or_false] at hl
    rcases hl with rfl | rfl
    · exact ⟨hrx.1, hrx.2.1⟩
    · exact ⟨hrx.2.2.1, hrx.2.2.2⟩
  have eM : belowM t x = belowL t [x.2.1, x.2.2] := rfl
  have e27 : (#[nu x.2.1, nu x.2.2] : Array Value) = (([x.2.1, x.2.2] : List Int).map nu).toArray := rfl
  have l2 : ([x.2.1, x.2.2] : List Int).length = 2 := rfl
  refine WC_loop (fun s : Nat × Value => [(0, pt q), (5, s.2), (27, .agg (([x.2.1, x.2.2] : List Int).map nu).toArray), (28, nu s.1)])
    (fun s w1 => Chg w w1 none_ ∧ s.1 ≤ 2 ∧ w1.ownsRow w.heap.size 3 1 s.2 (belowL t (([x.2.1, x.2.2] : List Int).take s.1)).length ((belowL t (([x.2.1, x.2.2] : List Int).take s.1)).map nu)) (fun s => 2 - s.1) (0, .slice none 0 0) ⟨rfl, rfl, rfl, rfl, trivial⟩ ⟨Chg.drew w none_, by decide, World.ownsRow_nil _ _ _ _⟩ ?_
  generalize ([x.2.1, x.2.2] : List Int) = ls at *
  rintro ⟨k, v⟩ w1 ⟨hC1, hk, hrow⟩
  simp only at hk hrow
  rcases Nat.lt_or_ge k 2 with hlt | hge
  · have hkl : k < ls.length := by omega
    have hl := hls ls[k] (List.getElem_mem hkl)
    have htk := List.take_succ_eq_append_getElem hkl
    have hx27 : ((ls.map nu).toArray).toList[(k : Int).toNat]? = some (nu ls[k]) := by
      have e : (k : Int).toNat = k := by omega
      simp [e, hkl]
    have hsz := belowL_len t (ls.take k)
    rw [List.length_take, Nat.min_eq_left (by omega)] at hsz
    generalize hlk : ls[k] = l at *
    have hH1 := hH'.chg hC1 id
    have hT1 := H.tab.chg hC1 id
    have hcell := tab_cells hT1 (v := l / 2) (by omega) (by omega)
    repeat' (first
|(apply X_indexArr;eq_refl;eq_refl;omega;omega;exact hx27)
|(apply X_loadR;eq_refl;assumption;exact k11)
|(apply X_loadA [nu (kindAt t (l / 2)), nu (atOf t (l / 2))];eq_refl;eq_refl;exact hcell)
|(apply WC_seqK;intro K hK)
|(apply hK;clear hK)
|(apply WC_block)
|(apply WC_region)
|(apply WL_nil)
|(apply thenQ_normal)
|(apply WC_skip)
|(apply WC_if_true;eq_refl)
|(apply WL_on0;eq_refl)
|(apply X_pv;eq_refl;first|exact trivial|omega)
|(apply X_field;eq_refl)
|(apply X_cmpT;eq_refl;eq_refl;omega)
|(apply X_index;eq_refl;eq_refl;omega;omega)
|(apply X_alloc))
    refine X_doesU (does_storeA (vs := [nu (kindAt t (l / 2)), nu (atOf t (l / 2))]) (o := 0) (b := w1.heap.size) (by eq_refl) (by eq_refl) (Blk.newA w1 _ _) rfl (by exact Nat.le_refl 2) (by simp [Value.oneCell'])) ?_
    refine WL_turn (fun w2 => w2.ownsRow w.heap.size 3 1 v (belowL t (ls.take k)).length ((belowL t (ls.take k)).map nu) ∧ Blk w2 w1.heap.size 158 [nu (kindAt t (l / 2)), nu (atOf t (l / 2))] ∧ Chg w w2 none_ ∧ w1.heap.size < w2.heap.size) ?_ ?_
    · have hcc : Chg w1 ((w1.alloc (.cells #[nu 0, nu 0] 158)).setRow w1.heap.size [nu (kindAt t (l / 2)), nu (atOf t (l / 2))].toArray) none_ := (Chg.alloc w1 _ none_).trans (Chg.setRow _ w1.heap.size _ (S := fun k => k = w1.heap.size) rfl) fun k hk h => by omega
      exact ⟨own_chg hrow hcc fun _ _ => id, (Blk.newA w1 _ 158).set _, hC1.trans hcc fun _ _ h => h, by simp [World.setRow]⟩
    rintro w2 ⟨hrow2, hN2, hC2, hz2⟩
    repeat' (first
|(apply WC_seqK;intro K hK)
|(apply hK;clear hK)
|(apply WC_region)
|(apply WL_nil)
|(apply thenQ_normal)
|(apply blockQ_normal)
|(apply WC_skip)
|(apply WC_if_true;eq_refl)
|(apply WC_if_false;eq_refl)
|(apply WL_on0;eq_refl)
|(apply X_pv;eq_refl;first|exact trivial|omega)
|(apply X_field;eq_refl)
|(apply X_loadR;eq_refl;(first|assumption|(apply Blk.alloc;assumption)|apply Blk.new|apply Blk.newA|(apply Blk.alloc;first|apply Blk.newA|(apply Blk.alloc;first|assumption|apply Blk.newA)));eq_refl)
|(apply X_cmp;eq_refl;eq_refl;all_goals intro _)
|(apply X_does;apply buildS22_1 <;> eq_refl))
    · refine X_append w.heap.size (by eq_refl) (by eq_refl) (hrow2.alloc _) (Blk.newA w2 _ _) rfl rfl (by decide) (by simp [Value.oneCell']) (by omega) (by decide) (by have := hC2.size; simp; omega) ?_
      intro v' w3 hrow3 hC3 hown hnil
      have hC4 : Chg w w3 none_ := (hC2.al _).trans hC3 fun k hk hh => by have := (hrow2.lt k hh).1; omega
      repeat' (first
|(apply hK;clear hK)
|(apply WC_region)
|(apply WL_nil)
|(apply thenQ_normal)
|(apply blockQ_normal)
|(apply WL_on0;eq_refl)
|(apply X_pv;eq_refl;first|exact trivial|omega))
      refine ⟨(k + 1, v'), ⟨rfl, rfl, rfl, rfl, trivial⟩, ⟨hC4, hlt, ?_⟩, by simp only; omega⟩
      have e : belowL t (ls.take (k + 1)) = belowL t (ls.take k) ++ [atOf t (l / 2)] := by
        rw [htk, belowL_append]
        simp only [belowL]
        rw [if_pos (by assumption)]
      simp only [e, List.length_append, List.length_singleton, List.map_append, List.map_cons, List.map_nil]
      exact hrow3
    · refine ⟨(k + 1, v), ⟨rfl, rfl, rfl, rfl, trivial⟩, ⟨hC2, hlt, ?_⟩, by simp only; omega⟩
      have e : belowL t (ls.take (k + 1)) = belowL t (ls.take k) := by
        rw [htk, belowL_append]
        simp only [belowL]
        rw [if_neg (by assumption), List.append_nil]
      simp only [e]
      exact hrow2
  · repeat' (first
|(apply WC_seqK;intro K hK)
|(apply hK;clear hK)
|(clear hK;apply hK;clear hK)
|(apply WC_region)
|(apply WL_nil)
|(apply thenQ_normal)
|(apply thenQ_exit)
|(apply blockQ_hit)
|(apply WC_ret)
|(apply WC_exit)
|(apply WC_if_false;eq_refl)
|(apply ret1;eq_refl)
|(apply WL_on0;eq_refl)
|(apply X_pv;eq_refl;first|exact trivial|omega)
|(apply X_cmpF;eq_refl;eq_refl;omega))
    rw [List.take_of_length_le (by omega)] at hrow
    rw [eM]
    exact ⟨hrow, hC1⟩
end SC
end Go.Proofs.YtclihihdgodloaaDoor
end
section
/- Memory as a list of entries: each holds, and no two own a block together. -/
set_option linter.unusedVariables false
set_option linter.unusedSimpArgs false
namespace Go.Proofs.YtclihihdgodloaaDoor
namespace SC
open Go.Proofs
/-- An entry of a kind of its own. -/
structure EntX where
  own : Nat → Prop
  ok : World → Prop
  lt : ∀ w, ok w → ∀ k, own k → k < w.heap.size
  keep : ∀ w w' S, ok w → Chg w w' S → (∀ k, own k → ¬ S k) → ok w'
/-- box: a block of these cells; vec: a slice of things, each of sz cells, whose array is its own; old: what was there in the world w, but for S. -/
inductive Ent where
  | box (b : Nat) (t : TypeId) (cs : List Value)
  | vec {α : Type} (enc : α → List Value) (sz : Nat) (t : TypeId) (A : Option Addr) (c : Nat) (l : List α)
  | old (w : World) (S : Nat → Prop)
  | any (X : EntX)
def Ent.own : Ent → Nat → Prop
  | .box b _ _ => fun k => k = b
  | .vec _ _ _ A c l => fun k => (Value.slice A l.length c).ownBlock = some k
  | .old w S => fun k => k < w.heap.size ∧ ¬ S k
  | .any X => X.own
def Ent.ok : Ent → World → Prop
  | .box b t cs => fun w => Blk w b t cs
  | .vec enc sz t A c l => fun w => w.ownsRow 0 t sz (.slice A l.length c) l.length (l.flatMap enc)
  | .old w0 S => fun w => Chg w0 w S
  | .any X => X.ok
theorem Ent.lt : ∀ {E : Ent} {w : World}, E.ok w → ∀ k, E.own k → k < w.heap.size
  | .box b t cs, w, h, k, hk => by cases hk; exact Blk.lt h
  | .vec enc sz t A c l, w, h, k, hk => (World.ownsRow.lt h k hk).2
  | .old w0 S, w, h, k, hk => Nat.lt_of_lt_of_le hk.1 h.size
  | .any X, w, h, k, hk => X.lt w h k hk
theorem Ent.keep : ∀ {E : Ent} {w w' : World} {S : Nat → Prop}, E.ok w → Chg w w' S → (∀ k, E.own k → ¬ S k) → E.ok w'
  | .box b t cs, w, w', S, h, hc, hn => Blk.chg h hc (hn b rfl)
  | .vec enc sz t A c l, w, w', S, h, hc, hn => own_chg h hc hn
  | .old w0 S0, w, w', S, h, hc, hn => h.trans hc fun k hk hs => by
    by_cases h0 : S0 k
    · exact h0
    · exact absurd hs (hn k ⟨hk, h0⟩)
  | .any X, w, w', S, h, hc, hn => X.keep w w' S h hc hn
def Ent.apart (E F : Ent) : Prop := ∀ k, E.own k → ¬ F.own k
theorem Ent.apart.symm {E F : Ent} (h : E.apart F) : F.apart E := fun k h1 h2 => h k h2 h1
abbrev Mm := List Ent
structure Mem (w : World) (Γ : Mm) : Prop where
  ok : ∀ E ∈ Γ, E.ok w
  ap : Γ.Pairwise Ent.apart
def owns (Γ : Mm) : Nat → Prop := fun k => ∃ E ∈ Γ, E.own k
section
variable {w w' : World} {Γ Γ' Δ N : Mm} {E F : Ent}
theorem Mem.lt (M : Mem w Γ) {k : Nat} (h : owns Γ k) : k < w.heap.size := by obtain ⟨E, hE, hk⟩ := h; exact Ent.lt (M.ok E hE) k hk
theorem Mem.chg {S : Nat → Prop} (M : Mem w Γ) (hc : Chg w w' S) (hn : ∀ k, owns Γ k → ¬ S k) : Mem w' Γ := ⟨fun E hE => Ent.keep (M.ok E hE) hc fun k hk => hn k ⟨E, hE, hk⟩, M.ap⟩
theorem Mem.chg0 (M : Mem w Γ) (hc : Chg w w' none_) : Mem w' Γ := M.chg hc fun _ _ => id
theorem Mem.drew (M : Mem w Γ) : Mem w.drew Γ := M.chg0 (Chg.drew w _)
theorem Mem.perm (M : Mem w Γ) (h : Γ.Perm Γ') : Mem w Γ' := ⟨fun E hE => M.ok E (h.mem_iff.2 hE), (h.pairwise_iff fun h => Ent.apart.symm h).1 M.ap⟩
theorem Mem.tail (M : Mem w (E :: Γ)) : Mem w Γ := ⟨fun F hF => M.ok F (by simp [hF]), (List.pairwise_cons.1 M.ap).2⟩
theorem Mem.right (M : Mem w (Δ ++ Γ)) : Mem w Γ := ⟨fun F hF => M.ok F (by simp [hF]), (List.pairwise_append.1 M.ap).2.1⟩
theorem Mem.dropMid {X Θ : Mm} (M : Mem w (X ++ (Θ ++ Γ))) : Mem w (X ++ Γ) := by
  refine Mem.right (Δ := Θ) (M.perm ?_)
  rw [← List.append_assoc, ← List.append_assoc]
  exact (List.perm_append_comm).append_right _
theorem Mem.left (M : Mem w (Δ ++ Γ)) : Mem w Δ := ⟨fun F hF => M.ok F (by simp [hF]), (List.pairwise_append.1 M.ap).1⟩
theorem Mem.sep (M : Mem w (Δ ++ Γ)) : ∀ k, owns Δ k → ¬ owns Γ k := fun k ⟨E, hE, h1⟩ ⟨F, hF, h2⟩ => (List.pairwise_append.1 M.ap).2.2 E hE F hF k h1 h2
theorem Mem.join (M : Mem w Δ) (M' : Mem w Γ) (h : ∀ k, owns Δ k → ¬ owns Γ k) : Mem w (Δ ++ Γ) :=
  ⟨fun E hE => by rcases List.mem_append.1 hE with h1 | h1 <;> first | exact M.ok E h1 | exact M'.ok E h1, List.pairwise_append.2 ⟨M.ap, M'.ap, fun E hE F hF k h1 h2 => h k ⟨E, hE, h1⟩ ⟨F, hF, h2⟩⟩⟩
theorem Mem.nil : Mem w [] := ⟨fun _ h => (by cases h), .nil⟩
theorem Mem.one (h : E.ok w) : Mem w [E] := ⟨fun F hF => by simp at hF; subst hF; exact h, by simp⟩
theorem Mem.cons (M : Mem w Γ) (h : E.ok w) (hn : ∀ k, E.own k → ¬ owns Γ k) : Mem w (E :: Γ) := Mem.join (Δ := [E]) (.one h) M fun k ⟨F, hF, hk⟩ => by simp at hF; subst hF; exact hn k hk
theorem owns_nil {k : Nat} : ¬ owns [] k := fun ⟨_, h, _⟩ => by cases h
theorem owns_cons {k : Nat} : owns (E :: Γ) k ↔ E.own k ∨ owns Γ k := by simp [owns]
theorem owns_append {k : Nat} : owns (Δ ++ Γ) k ↔ owns Δ k ∨ owns Γ k := by simp only [owns, List.mem_append, or_and_right, exists_or]
theorem Mem.head (M : Mem w (E :: Γ)) : E.ok w := M.ok E (by simp)
theorem Mem.new (M : Mem w Γ) (cs : Array Value) (t : TypeId) : Mem (w.alloc (.cells cs t)) (.box w.heap.size t cs.toList :: Γ) :=
  (M.chg0 (Chg.alloc w _ _)).cons (Blk.newA w cs t) fun k hk ho => by cases hk; exact absurd (M.lt ho) (Nat.lt_irrefl _)
theorem Mem.start (w : World) : Mem w [.old w none_] := .one (Chg.refl w none_)
theorem Mem.startS {C : Mm} (M : Mem w C) : Mem w (C ++ [.old w (owns C)]) := M.join (.one (Chg.refl w _)) fun k h1 ⟨F, hF, h2⟩ => by simp at hF; subst hF; exact h2.2 h1
/-- What a call adds, set beside what there was. -/
theorem Mem.add (M : Mem w Γ) (M' : Mem w' (N ++ [.old w none_])) : Mem w' (N ++ Γ) := by
  have hc : Chg w w' none_ := M'.right.ok (.old w none_) (by simp)
  refine M'.left.join (M.chg0 hc) fun k h1 h2 => M'.sep k h1 ⟨.old w none_, by simp, ?_⟩
  exact ⟨M.lt h2, id⟩
/-! ### one entry changed; entries taken out -/
inductive Upd : Mm → Ent → Ent → Mm → Prop
  | here {E F : Ent} {Γ : Mm} : Upd (E :: Γ) E F (F :: Γ)
  | there {E F D : Ent} {Γ Γ' : Mm} : Upd Γ E F Γ' → Upd (D :: Γ) E F (D :: Γ')
inductive Rem : Mm → Ent → Mm → Prop
  | here {E : Ent} {Γ : Mm} : Rem (E :: Γ) E Γ
  | there {E D : Ent} {Γ Γ' : Mm} : Rem Γ E Γ' → Rem (D :: Γ) E (D :: Γ')
inductive Rems : Mm → Mm → Mm → Prop
  | nil {Γ : Mm} : Rems Γ [] Γ
  | cons {E : Ent} {C Γ Γ1 Γ2 : Mm} : Rem Γ E Γ1 → Rems Γ1 C Γ2 → Rems Γ (E :: C) Γ2
theorem Rem.perm (h : Rem Γ E Γ') : Γ.Perm (E :: Γ') := by
  induction h with
  | here => exact .refl _
  | there _ ih => exact (ih.cons _).trans (.swap ..)
theorem Upd.perm (h : Upd Γ E F Γ') : ∃ R, Γ.Perm (E :: R) ∧ Γ'.Perm (F :: R) := by
  induction h with
  | here => exact ⟨_, .refl _, .refl _⟩
  | @there E F D Γ Γ' _ ih =>
    obtain ⟨R, h1, h2⟩ := ih
    exact ⟨D :: R, (h1.cons _).trans (.swap ..), (h2.cons _).trans (.swap ..)⟩
theorem Rems.perm {C : Mm} (h : Rems Γ C Γ') : Γ.Perm (C ++ Γ') := by
  induction h with
  | nil => exact .refl _
  | cons h1 _ ih => exact h1.perm.trans (ih.cons _)
theorem Rem.mem (h : Rem Γ E Γ') : E ∈ Γ := h.perm.mem_iff.2 (by simp)
/-- An entry changes in place: what is changed is its own, or new. -/
theorem Mem.upd {S : Nat → Prop} (h : Upd Γ E F Γ') (M : Mem w (Δ ++ Γ)) (hc : Chg w w' S) (hS : ∀ k, k < w.heap.size → S k → E.own k) (hF : F.ok w') (hFo : ∀ k, F.own k → E.own k ∨ w.heap.size ≤ k) : Mem w' (Δ ++ Γ') := by
  obtain ⟨R, h1, h2⟩ := h.perm
  have p1 : (Δ ++ Γ).Perm (E :: (Δ ++ R)) := (h1.append_left Δ).trans List.perm_middle
  have p2 : (Δ ++ Γ').Perm (F :: (Δ ++ R)) := (h2.append_left Δ).trans List.perm_middle
  have M1 := M.perm p1
  have ap := (List.pairwise_cons.1 M1.ap).1
  refine Mem.perm ?_ p2.symm
  refine (M1.tail.chg hc fun k hk hs => ?_).cons hF fun k hk hk2 => ?_
  · have hlt := M1.tail.lt hk
    obtain ⟨D, hD, hDk⟩ := hk
    exact ap D hD k (hS k hlt hs) hDk
  · have hlt := M1.tail.lt hk2
    rcases hFo k hk with h | h
    · obtain ⟨D, hD, hDk⟩ := hk2
      exact ap D hD k h hDk
    · omega
theorem Mem.take {C : Mm} (h : Rems Γ C Γ') (M : Mem w (Δ ++ Γ)) : Mem w (C ++ (Δ ++ Γ')) := by
  refine M.perm ?_
  have p1 := h.perm.append_left Δ
  refine p1.trans ?_
  rw [← List.append_assoc, ← List.append_assoc]
  exact (List.perm_append_comm).append_right _
/-- Weaker: fewer entries, in another order. -/
structure Wk (Γ Γ' : Mm) : Prop where
  mem : ∀ w, Mem w Γ → Mem w Γ'
  sub : ∀ k, owns Γ' k → owns Γ k
theorem Wk.refl : Wk Γ Γ := ⟨fun _ M => M, fun _ h => h⟩
theorem Wk.trans {Γ1 Γ2 : Mm} (h : Wk Γ Γ1) (h' : Wk Γ1 Γ2) : Wk Γ Γ2 := ⟨fun w M => h'.mem w (h.mem w M), fun k hk => h.sub k (h'.sub k hk)⟩
theorem Wk.nil : Wk Γ [] := ⟨fun _ _ => .nil, fun _ h => absurd h owns_nil⟩
theorem owns_perm (h : Γ.Perm Γ') {k : Nat} : owns Γ k ↔ owns Γ' k := ⟨fun ⟨E, hE, hk⟩ => ⟨E, h.mem_iff.1 hE, hk⟩, fun ⟨E, hE, hk⟩ => ⟨E, h.mem_iff.2 hE, hk⟩⟩
theorem Wk.cons {Γ1 : Mm} (h : Rem Γ E Γ1) (h2 : Wk Γ1 Γ') : Wk Γ (E :: Γ') := ⟨fun w M => by
  have M1 := M.perm h.perm
  refine (h2.mem w M1.tail).cons M1.head fun k hk hk2 => ?_
  obtain ⟨D, hD, hDk⟩ := h2.sub k hk2
  exact (List.pairwise_cons.1 M1.ap).1 D hD k hk hDk, fun k hk => by
  rw [owns_perm h.perm, owns_cons]
  exact (owns_cons.1 hk).imp id (h2.sub k)⟩
end
end SC
end Go.Proofs.YtclihihdgodloaaDoor
end
section
/- The kit's contract of slices.Insert at numbers, laid at this program. -/
set_option linter.unusedVariables false
set_option linter.unusedSimpArgs false
namespace Go.Proofs.YtclihihdgodloaaDoor
namespace SC
open Go.Proofs Go.Shelf
set_option maxRecDepth 100000
def insRen : Ren := ⟨fun | 21 => 110 | 27 => 116 | 28 => 117 | 35 => 118 | 39 => 119 | n => n, fun | 0 => 0 | 3 => 3 | 4 => 4 | 22 => 22 | n => n, fun n => n⟩
theorem insLay : Lays2.n21 Tryd.prog insRen := {
  mixed := by kernel_rfl
  f21 := by kernel_rfl
  f27 := by kernel_rfl
  f28 := by kernel_rfl
  f35 := by kernel_rfl
  f39 := by kernel_rfl
  t0 := by kernel_rfl
  a0 := fun w => by kernel_rfl
  z0 := fun w => by kernel_rfl
  v0 := fun w => by kernel_rfl
  t3 := by kernel_rfl
  a3 := fun w => by kernel_rfl
  z3 := fun w => by kernel_rfl
  v3 := fun w => by kernel_rfl
  t4 := by kernel_rfl
  a4 := fun w => by kernel_rfl
  z4 := fun w => by kernel_rfl
  v4 := fun w => by kernel_rfl
  t22 := by kernel_rfl
  a22 := fun w => by kernel_rfl
  z22 := fun w => by kernel_rfl
  v22 := fun w => by kernel_rfl
  i3 := by kernel_rfl }
end SC
end Go.Proofs.YtclihihdgodloaaDoor
end
section
/- slices.Insert of one number into an own row. -/
set_option linter.unusedVariables false
set_option linter.unusedSimpArgs false
namespace Go.Proofs.YtclihihdgodloaaDoor
namespace SC
open Go.Proofs Go.Shelf
set_option maxRecDepth 100000
theorem blk_setCell {w : World} {b : Nat} {t : TypeId} {cs : List Value} (h : Blk w b t cs) (o : Nat) (v : Value) : Blk (w.setCell ⟨b, o, none⟩ v) b t (cs.set o v) := by
  unfold Blk at *
  simp [World.setCell, Array.getElem?_modify, h]
theorem splice_cons (cs : List Value) (o : Nat) (v : Value) (r : List Value) (hl : o + (v :: r).length ≤ cs.length) : splice (cs.set o v) (o + 1) r = splice cs o (v :: r) := by
  unfold splice
  simp only [List.length_cons] at hl ⊢
  have e1 : (cs.set o v).take (o + 1) = cs.take o ++ [v] := by
    rw [List.take_set, List.take_succ_eq_append_getElem (by omega), List.set_append_right _ _ (by rw [List.length_take]; omega), List.length_take, Nat.min_eq_left (by omega)]
    simp
  have e2 : (cs.set o v).drop (o + 1 + r.length) = cs.drop (o + (r.length + 1)) := by
    rw [List.drop_set_of_lt (by omega)]
    congr 1; omega
  rw [e1, e2]
  simp
theorem splice_nil (cs : List Value) (o : Nat) : splice cs o [] = cs := by simp [splice]
theorem blk_setCells {b : Nat} {t : TypeId} : ∀ (vs : List Value) (o : Nat) (w : World) (cs : List Value), Blk w b t cs → o + vs.length ≤ cs.length → Blk (w.setCells b o vs) b t (splice cs o vs)
  | [], o, w, cs, h, _ => by rw [splice_nil]; exact h
  | v :: r, o, w, cs, h, hl => by
    have := blk_setCells r (o + 1) (w.setCell ⟨b, o, none⟩ v) (cs.set o v) (blk_setCell h o v) (by simp at hl ⊢; omega)
    rw [splice_cons cs o v r hl] at this
    exact this
theorem chg_setCells {b : Nat} : ∀ (vs : List Value) (o : Nat) (w : World), Chg w (w.setCells b o vs) (fun k => k = b)
  | [], _, w => Chg.refl _ _
  | v :: r, o, w => (Chg.setCell w ⟨b, o, none⟩ v (S := fun k => k = b) rfl).trans (chg_setCells r (o + 1) _) fun _ _ h => h
theorem own_of_blk {w : World} {g base n cap : Nat} {cs xs : List Value} (hb : Blk w g 3 cs) (hg : base ≤ g) (hc : cs.length = cap) (hn : n ≤ cap) (hm : cap ≤ maxLen) (ht : cs.take n = xs) : w.ownsRow base 3 1 (.slice (some ⟨g, 0, none⟩) n cap) n xs := by
  refine ⟨by rw [← ht, List.length_take]; omega, .inr ⟨g, cap, cs.toArray, rfl, hg, hb, hn, hm, by simp [hc], by simpa using ht⟩⟩
theorem cv_of {P : Program} {f : FuncId} {args : List Value} {w : World} {R : Value → World → Prop} {v0 : Value} {w0 : World} (h : Calls P f args.toArray w fun e w' => e = .returned v0 ∧ w' = w0) (hR : R v0 w0) : CV P f args w R :=
  Calls.mono h fun e w' he => by obtain ⟨rfl, rfl⟩ := he; exact hR
theorem nu_one (l : List Int) : ∀ u ∈ l.map nu, u.oneCell' = true := by
  intro u hu
  obtain ⟨a, _, rfl⟩ := List.mem_map.1 hu
  rfl
theorem ins_list {L A : List Value} {n i : Nat} {a : Value} (hA : A.length = n) (ht : L.take n = A) (hi : i ≤ n) (hL : n + 1 ≤ L.length) : (splice (splice L (i + 1) (A.drop i)) i [a]).take (n + 1) = A.take i ++ a :: A.drop i := by
  have h1 : splice L (i + 1) (A.drop i) = L.take (i + 1) ++ (A.drop i ++ L.drop (i + 1 + (A.drop i).length)) := by unfold splice; simp
  have hl1 : (L.take (i + 1)).length = i + 1 := by rw [List.length_take]; omega
  have h2 : (splice L (i + 1) (A.drop i)).take i = A.take i := by
    rw [h1, List.take_append_of_le_length (by omega), List.take_take, Nat.min_eq_left (by omega), ← ht, List.take_take, Nat.min_eq_left hi]
  have h3 : (splice L (i + 1) (A.drop i)).drop (i + 1) = A.drop i ++ L.drop (i + 1 + (A.drop i).length) := by
    rw [h1]
    have := List.drop_append_of_le_length (l₁ := L.take (i + 1)) (l₂ := A.drop i ++ L.drop (i + 1 + (A.drop i).length)) (i := i + 1) (by omega)
    rw [this, List.drop_of_length_le (by omega), List.nil_append]
  have h4 : splice (splice L (i + 1) (A.drop i)) i [a] = (A.take i ++ a :: A.drop i) ++ L.drop (i + 1 + (A.drop i).length) := by
    show (splice L (i + 1) (A.drop i)).take i ++ [a] ++ (splice L (i + 1) (A.drop i)).drop (i + [a].length) = _
    rw [h2, show i + [a].length = i + 1 from rfl, h3]
    simp
  rw [h4, List.take_append_of_le_length (by simp; omega), List.take_of_length_le (by simp; omega)]
theorem ins_list2 {Z A : List Value} {n i : Nat} {a : Value} (hA : A.length = n) (ht : Z.take i = A.take i) (hi : i ≤ n) (hL : n + 1 ≤ Z.length) : (splice (splice Z i [a]) (i + 1) (A.drop i)).take (n + 1) = A.take i ++ a :: A.drop i := by
  have hl : (A.take i).length = i := by rw [List.length_take]; omega
  have h1 : splice Z i [a] = (A.take i ++ [a]) ++ Z.drop (i + 1) := by unfold splice; rw [ht]; rfl
  have h2 : (splice Z i [a]).take (i + 1) = A.take i ++ [a] := by
    rw [h1, List.take_append_of_le_length (by simp [hl]), List.take_of_length_le (by simp [hl])]
  unfold splice at h2 ⊢
  rw [h2, List.take_append_of_le_length (by simp; omega), List.take_of_length_le (by simp; omega)]
  simp
theorem insert_cv {w : World} {base vb i : Nat} {v : Value} {xs : List Int} {x : Int} (hown : w.ownsRow base 3 1 v xs.length (xs.map nu)) (hi : i ≤ xs.length) (hvb : Blk w vb 3 [nu x]) (hne : v.ownBlock ≠ some vb) (hbig : (xs.length + 1) * 8 ≤ 140737488355328) (hbase : base ≤ w.heap.size) :
    CV Tryd.prog 110 [v, nu i, .slice (some ⟨vb, 0, none⟩) 1 1] w fun v' w' => w'.ownsRow base 3 1 v' (xs.length + 1) ((xs.take i ++ x :: xs.drop i).map nu) ∧ Chg w w' (fun k => v.ownBlock = some k) ∧ (v'.ownBlock = v.ownBlock ∨ v'.ownBlock = some w.heap.size) := by
  have hvs : ∀ j u, [nu x][j]? = some u → w.cell? ⟨vb, 0 + j, none⟩ = some u := fun j u hj => by
    rw [Nat.zero_add, hvb.cell]; exact hj
  have h1v : ∀ u ∈ [nu x], u.oneCell' = true := by simp [Value.oneCell']
  have hml : xs.length + 1 ≤ maxLen := by simp only [maxLen]; omega
  rcases hown.2 with ⟨rfl, hn⟩ | ⟨g, cap, cur, rfl, hg, hcur, hcap, hm, hsz, htk⟩
  · obtain rfl : xs = [] := List.length_eq_zero_iff.1 hn
    obtain rfl : i = 0 := by simpa using hi
    have hc := Any2.slices_Insert_int_end_grow insLay none 0 0 vb 0 1 1 [] [nu x] w (by decide) (by decide) (by decide) (by decide) rfl rfl (fun _ => rfl) (fun a ha => by cases ha) hvs h1v
    simp only [show insRen.t 3 = 3 from rfl] at hc
    refine cv_of hc ⟨?_, (Chg.drew w _).al _, .inr rfl⟩
    refine own_of_blk (cs := ([nu x] ++ (Builtin.zeroCells (Value.int .i64 0).cells (grownCap w 1 0 3 - 1)).toList)) ?_ hbase ?_ (grownCap_ge _ _ _ _) (grownCap_le_maxLen _ _ _ _ (by decide)) ?_
    · have := Blk.newA w.drew (([] ++ [nu x]).toArray ++ Builtin.zeroCells (Value.int .i64 0).cells (grownCap w (0 + 1) 0 3 - (0 + 1))) 3
      simpa using this
    · have h1 := grownCap_ge w 1 0 3
      have h2 : (Value.int .i64 0).cells.size = 1 := rfl
      simp [size_zeroCells, h2]; omega
    · simp
  · have hB : Blk w g 3 cur.toList := by simpa [Blk] using hcur
    have hcl : cur.toList.length = cap := by simp [hsz]
    have hz : ∀ n, (Builtin.zeroCells (Value.int .i64 0).cells n).toList.length = n := fun n => by
      have h2 : (Value.int .i64 0).cells.size = 1 := rfl
      rw [Array.length_toList, size_zeroCells, h2]; omega
    rw [Nat.mul_one] at htk
    have hcs : ∀ j u, (xs.map nu)[j]? = some u → w.cell? ⟨g, 0 + j, none⟩ = some u := fun j u hj => by
      rw [Nat.zero_add, hB.cell]
      have hjl : j < xs.length := by have := (List.getElem?_eq_some_iff.1 hj).1; simpa using this
      rw [← htk, List.getElem?_take_of_lt hjl] at hj
      exact hj
    have hne' : vb ≠ g := fun hh => hne (by rw [hh]; rfl)
    have hglt := hB.lt
    have hxl : (xs.map nu).length = xs.length := by simp
    have htd : ∀ j, j ≤ xs.length → (cur.toList.take j) = (xs.map nu).take j := fun j hj => by rw [← htk, List.take_take, Nat.min_eq_left hj]
    rcases Nat.lt_or_ge xs.length cap with hroom | hfull
    · have hsome : ∀ j, j < cap → (w.cell? ⟨g, j, none⟩).isSome = true := fun j hj => by rw [hB.cell]; simp [hsz, hj]
      rcases Nat.lt_or_ge i xs.length with hlt | hge
      · have hc := Any2.slices_Insert_int_shift insLay g 0 xs.length cap i vb 0 1 1 (xs.map nu) [nu x] w hlt (by decide) hroom (by simp only [maxLen] at hm; omega) hne' hxl rfl hcs (fun j hj => by rw [Nat.zero_add]; exact hsome j (by omega)) (fun j hj => hB.frozen _) hvs (nu_one xs) h1v 3 3 1 cap
          (by unfold World.shape?; have := hvb; unfold Blk at this; simp [this]) (by unfold World.shape?; simp [hcur, hsz]) (by omega) (hvb.frozen _) (hvb.frozen _)
        refine cv_of hc ⟨?_, ?_, .inl rfl⟩
        · have hB1 := blk_setCells ((xs.map nu).drop i) (0 + (i + 1)) w.drew cur.toList hB (by rw [List.length_drop, hxl, hcl]; omega)
          have hl1 : (splice cur.toList (0 + (i + 1)) ((xs.map nu).drop i)).length = cap := by unfold splice; simp [hsz]; omega
          have hB2 := blk_setCells [nu x] (0 + i) _ _ hB1 (by rw [hl1]; simp; omega)
          refine own_of_blk hB2 hg (by unfold splice at hl1 ⊢; simp at hl1 ⊢; omega) (by omega) hm ?_
          have := ins_list (a := nu x) hxl htk hi (by rw [hcl]; omega)
          simp only [Nat.zero_add, List.map_append, List.map_cons, List.map_take, List.map_drop]
          exact this
        · exact ((Chg.drew w _).trans (chg_setCells _ _ _) fun _ _ h => h).trans (chg_setCells _ _ _) (fun _ _ h => h) |>.mono fun k hk => by subst hk; rfl
      · obtain rfl : i = xs.length := by omega
        have hc := Any2.slices_Insert_int_end_room insLay g 0 xs.length cap vb 0 1 1 [nu x] w (by decide) hroom (by simp only [maxLen] at hm; omega) rfl (fun j hj => by rw [hB.cell]; simp [hsz]; omega) (fun j hj => hB.frozen _) hvs h1v
        refine cv_of hc ⟨?_, (chg_setCells _ _ _).mono fun k hk => by subst hk; rfl, .inl rfl⟩
        have hB1 := blk_setCells [nu x] (0 + xs.length) w cur.toList hB (by rw [hcl]; simp; omega)
        refine own_of_blk hB1 hg (by unfold splice; simp [hsz]; omega) (by omega) hm ?_
        unfold splice
        rw [Nat.zero_add, htd _ (Nat.le_refl _), show (xs.map nu).take xs.length = xs.map nu from List.take_of_length_le (by rw [hxl]; exact Nat.le_refl _), List.take_append_of_le_length (by simp), List.take_of_length_le (by simp)]
        simp
    · have hfe : cap = xs.length := by omega
      have hca : ∀ a : Addr, some ⟨g, 0, none⟩ = some a → ∀ j u, (xs.map nu)[j]? = some u → w.cell? (a.add j) = some u := fun a ha j u hj => by
        cases ha
        rw [add_at]
        exact hcs j u hj
      rcases Nat.lt_or_ge i xs.length with hlt | hge
      · have hc := Any2.slices_Insert_int_grow insLay g 0 xs.length cap i vb 0 1 1 (xs.map nu) [nu x] w hlt (by decide) hcap (by omega) hbig hxl rfl hcs hvs (nu_one xs) h1v
        simp only [show insRen.t 3 = 3 from rfl] at hc
        have hne2 : ∀ k, k < w.heap.size → ¬ (k = w.heap.size) := fun k hk hh => by omega
        have hB0 := Blk.newA w (((xs.map nu).take i).toArray ++ Builtin.zeroCells (Value.int .i64 0).cells (xs.length + 1 - i) ++ Builtin.zeroCells (Value.int .i64 0).cells (grownCap w (xs.length + 1) cap 3 - (xs.length + 1))) 3
        have hgc := grownCap_ge w (xs.length + 1) cap 3
        have hl0 : (((xs.map nu).take i).toArray ++ Builtin.zeroCells (Value.int .i64 0).cells (xs.length + 1 - i) ++ Builtin.zeroCells (Value.int .i64 0).cells (grownCap w (xs.length + 1) cap 3 - (xs.length + 1))).toList.length = grownCap w (xs.length + 1) cap 3 := by
          have a1 := hz (xs.length + 1 - i)
          have a2 := hz (grownCap w (xs.length + 1) cap 3 - (xs.length + 1))
          rw [Array.length_toList] at a1 a2 ⊢
          simp only [Array.size_append, a1, a2, List.size_toArray, List.length_take, hxl]
          omega
        have ht0 : (((xs.map nu).take i).toArray ++ Builtin.zeroCells (Value.int .i64 0).cells (xs.length + 1 - i) ++ Builtin.zeroCells (Value.int .i64 0).cells (grownCap w (xs.length + 1) cap 3 - (xs.length + 1))).toList.take i = (xs.map nu).take i := by
          simp only [Array.toList_append, List.append_assoc]
          rw [List.take_append_of_le_length (by simp; omega), List.take_of_length_le (by simp; omega)]
        generalize (((xs.map nu).take i).toArray ++ Builtin.zeroCells (Value.int .i64 0).cells (xs.length + 1 - i) ++ Builtin.zeroCells (Value.int .i64 0).cells (grownCap w (xs.length + 1) cap 3 - (xs.length + 1))) = arr at *
        generalize hZ : arr.toList = Z at *
        refine cv_of hc ⟨?_, ?_, .inr rfl⟩
        · have hB1 := blk_setCells [nu x] i _ _ (Blk.drew hB0) (by rw [hl0]; simp; omega)
          have hl1 : (splice Z i [nu x]).length = grownCap w (xs.length + 1) cap 3 := by unfold splice; simp [hl0]; omega
          have hB2 := blk_setCells ((xs.map nu).drop i) (i + 1) _ _ (Blk.drew hB1) (by rw [hl1, List.length_drop, hxl]; omega)
          refine own_of_blk hB2 hbase ?_ (grownCap_ge _ _ _ _) (grownCap_le_maxLen _ _ _ _ hml) ?_
          · generalize splice Z i [nu x] = Y at hl1
            unfold splice; simp [hl1]; omega
          · have := ins_list2 (a := nu x) hxl ht0 hi (by rw [hl0]; exact hgc)
            simp only [List.map_append, List.map_cons, List.map_take, List.map_drop] at this ⊢
            exact this
        · exact ((((Chg.alloc w _ none_).dr.trans (chg_setCells _ _ _) fun k hk hh => hne2 k hk hh).dr).trans (chg_setCells _ _ _) fun k hk hh => hne2 k hk hh).any
      · obtain rfl : i = xs.length := by omega
        have hc := Any2.slices_Insert_int_end_grow insLay (some ⟨g, 0, none⟩) xs.length cap vb 0 1 1 (xs.map nu) [nu x] w (by decide) hcap (by omega) hbig hxl rfl (fun hh => by cases hh) hca hvs h1v
        simp only [show insRen.t 3 = 3 from rfl] at hc
        refine cv_of hc ⟨?_, (Chg.drew w _).al _, .inr rfl⟩
        refine own_of_blk (cs := (xs.map nu ++ [nu x]) ++ (Builtin.zeroCells (Value.int .i64 0).cells (grownCap w (xs.length + 1) cap 3 - (xs.length + 1))).toList) ?_ hbase ?_ (grownCap_ge _ _ _ _) (grownCap_le_maxLen _ _ _ _ hml) ?_
        · have := Blk.newA w.drew ((xs.map nu ++ [nu x]).toArray ++ Builtin.zeroCells (Value.int .i64 0).cells (grownCap w (xs.length + 1) cap 3 - (xs.length + 1))) 3
          simpa using this
        · have h1 := grownCap_ge w (xs.length + 1) cap 3
          rw [List.length_append, hz]; simp; omega
        · rw [List.take_append_of_le_length (by simp), List.take_of_length_le (by simp)]
          simp
end SC
end Go.Proofs.YtclihihdgodloaaDoor
end
section
/- slices.BinarySearchFunc under order's closure; the closure that pushes. -/
set_option linter.unusedVariables false
set_option linter.unusedSimpArgs false
namespace Go.Proofs.YtclihihdgodloaaDoor
namespace SC
open Go.Proofs
attribute [local irreducible] WC WL WX WS WO OX Does DoesU Enters CV Pure thenQ blockQ retQ Wants
set_option maxRecDepth 100000
instance : SC.Fn Tryd.prog 107 := ⟨fun args w => Tryd.call107 args w⟩
instance : SC.Fn Tryd.prog 108 := ⟨fun args w => Tryd.call108 args w⟩
instance : SC.Fn Tryd.prog 109 := ⟨fun args w => Tryd.call109 args w⟩
instance : SC.Fn Tryd.prog 110 := ⟨fun args w => Tryd.call110 args w⟩
theorem minus_cv {w : World} {a b : Int} (h1 : -9223372036854775808 ≤ b - a) (h2 : b - a ≤ 9223372036854775807) : CV Tryd.prog 109 [nu a, nu b] w fun v w' => v = nu (b - a) ∧ w' = w := by
  refine enter 8 [4] Tryd.func109 rfl rfl rfl (by decide) rfl ?_
  repeat' (first
|(apply WC_seqK;intro K hK)
|(apply hK;clear hK)
|(apply WC_region)
|(apply WL_nil)
|(apply thenQ_normal)
|(apply WC_ret)
|(apply ret1;eq_refl)
|(apply WL_on0;eq_refl)
|(apply X_pv;eq_refl;first|exact trivial|omega))
  exact ⟨rfl, rfl⟩
section
variable {e : Env} {x y : Operand} {ty t t' : TypeId}
theorem p_toU {a : Int} (h : ev e x = some (nu a)) (h0 : 0 ≤ a) (h1 : a ≤ 9223372036854775807) : Pure Tryd.prog (.convert 3 55 x) ty e (.int .u64 a) := by
  unfold Pure Does
  intro w ρ dst pos af g hρ
  have hw : IntKind.u64.wrap a = a := by rw [IntKind.wrap_u64]; omega
  simp [execOp, hρ _ _ h, convert, Conv.intToInt, run_underlying Tryd.underlying3, run_underlying Tryd.underlying55, hw]
theorem p_ofU {a : Int} (h : ev e x = some (.int .u64 a)) (h0 : 0 ≤ a) (h1 : a ≤ 9223372036854775807) : Pure Tryd.prog (.convert 55 3 x) ty e (nu a) := by
  unfold Pure Does
  intro w ρ dst pos af g hρ
  simp [execOp, hρ _ _ h, convert, Conv.intToInt, run_underlying Tryd.underlying3, run_underlying Tryd.underlying55, wrap64_id (n := a) (by omega) (by omega)]
theorem p_shrU {a : Int} {k : IntKind} (h : ev e x = some (.int .u64 a)) (h1 : ev e y = some (.int k 1)) (h0 : 0 ≤ a) : Pure Tryd.prog (.binOp .shr t x y t') ty e (.int .u64 (a / 2)) := by
  unfold Pure Does
  intro w ρ dst pos af g hρ
  have : a.fdiv 2 = a / 2 := Int.fdiv_eq_ediv_of_nonneg a (by decide)
  simp [execOp, hρ _ _ h, hρ _ _ h1, eqGuard, binOp, Op.shift, IntKind.bits, this]
end
theorem X_clo {n : Nat} {all rest : List Oper} {K : Env → World → Prop} {e : Env} {w : World} {d : Option Tmp} {ty : TypeId} {x : Operand} {f : FuncId} [F : SC.Fn Tryd.prog f] {args : Array Operand} {ats : Array TypeId} {vs : List Value} {cap : Array Value} {R : Value → World → Prop} (hx : ev e x = some (.func (.func f) #[] cap)) (h : evs e args.toList = some vs) (hc : CV Tryd.prog f (vs ++ cap.toList) w R) (hr : ∀ v w', R v w' → WL Tryd.prog n all K rest (push d v e) w') : WX Tryd.prog n all K rest d (.call { callee := .value x, args := args, argTypes := ats }) ty e w := X_fnC hx h hc hr
/-- Where x comes into a list that goes down. -/
theorem bsearch_cv {w : World} {A : Option Addr} {c : Nat} {xs : List Int} {x : Int} (R : RowA w icell 1 A xs) (hn : xs.length ≤ 100000) (hx : 0 ≤ x ∧ x ≤ 100000) (hxs : ∀ y ∈ xs, 0 ≤ y ∧ y ≤ 100000) (hd : ∀ (i j : Nat) (hi : i < xs.length) (hj : j < xs.length), i ≤ j → xs[j] ≤ xs[i]) :
    CV Tryd.prog 108 [.slice A xs.length c, nu x, .func (.func 109) #[] #[]] w fun v w' => w' = w ∧ ∃ (i : Nat) (f : Bool), v = .tuple #[nu i, .bool f] ∧ i ≤ xs.length ∧ (∀ j (hj : j < xs.length), j < i → x < xs[j]) ∧ (∀ j (hj : j < xs.length), i ≤ j → xs[j] ≤ x) := by
  refine enter 49 [6, 7] Tryd.func108 rfl rfl rfl (by decide) rfl ?_
  repeat' (first
|(apply WC_seqK;intro K hK)
|(apply hK;clear hK)
|(apply WC_block)
|(apply WC_region)
|(apply WL_nil)
|(apply thenQ_normal)
|(apply WL_on0;eq_refl)
|(apply X_pv;eq_refl;first|exact trivial|omega)
|(apply X_len;eq_refl))
  refine WC_loop (fun s : Nat × Nat => [(0, .slice A xs.length c), (1, nu x), (2, .func (.func 109) #[] #[]), (8, nu xs.length), (9, nu s.1), (10, nu s.2)])
    (fun s w1 => w1 = w ∧ s.1 ≤ s.2 ∧ s.2 ≤ xs.length ∧ (∀ j (hj : j < xs.length), j < s.1 → x < xs[j]) ∧ (∀ j (hj : j < xs.length), s.2 ≤ j → xs[j] ≤ x)) (fun s => s.2 - s.1) (0, xs.length) ⟨rfl, rfl, rfl, rfl, rfl, rfl, trivial⟩ ⟨rfl, Nat.zero_le _, Nat.le_refl _, fun _ _ h => absurd h (Nat.not_lt_zero _), fun j hj h => by simp only at h; omega⟩ ?_
  rintro ⟨a, b⟩ w1 ⟨rfl, hab, hb, hlo, hhi⟩
  simp only at hab hb hlo hhi
  rcases Nat.lt_or_ge a b with hlt | hge
  · have hm : (a + b) / 2 < xs.length := by omega
    have em : ((a : Int) + b) / 2 = (((a + b) / 2 : Nat) : Int) := by omega
    obtain ⟨p, hp, hc⟩ := R.one hm (v := nu xs[(a + b) / 2]) rfl
    rw [← em] at hc
    have hy := hxs xs[(a + b) / 2] (List.getElem_mem hm)
    rw [hp]
    repeat' (first
|(apply X_pure;apply p_toU;eq_refl;omega;omega)
|(apply X_pure;apply p_ofU;eq_refl;omega;omega)
|(apply X_pure;apply p_shrU;eq_refl;eq_refl;omega)
|(apply X_clo (f := 109);eq_refl;eq_refl;(apply minus_cv;omega;omega);rintro _ _ ⟨rfl, rfl⟩)
|(apply WC_seqK;intro K hK)
|(apply hK;clear hK)
|(apply WC_block)
|(apply WC_region)
|(apply WL_nil)
|(apply thenQ_normal)
|(apply blockQ_normal)
|(apply WC_skip)
|(apply WC_if_true;eq_refl)
|(apply WC_if_false;eq_refl)
|(apply WL_on0;eq_refl)
|(apply X_pv;eq_refl;first|exact trivial|omega)
|(apply X_loadC;eq_refl;(first|assumption|(apply cel;first|assumption|(apply cel;assumption))))
|(apply X_cmpT;eq_refl;eq_refl;omega)
|(apply X_cmp;eq_refl;eq_refl;all_goals intro _)
|(apply X_indexP;eq_refl;eq_refl;omega;omega))
    · refine ⟨((a + b) / 2 + 1, b), ⟨by first | rfl | (rw [hp]; rfl), rfl, rfl, rfl, by first | rfl | (simp only [em]; rfl), rfl, trivial⟩, ⟨rfl, by simp only; omega, hb, ?_, hhi⟩, by simp only; omega⟩
      · intro j hj hlt2
        have := hd j ((a + b) / 2) hj hm (by simp only at hlt2; omega)
        omega
    · refine ⟨(a, (a + b) / 2), ⟨by first | rfl | (rw [hp]; rfl), rfl, rfl, rfl, rfl, by first | rfl | (simp only [em]; rfl), trivial⟩, ⟨rfl, by simp only; omega, by simp only; omega, hlo, ?_⟩, by simp only; omega⟩
      · intro j hj hle
        have := hd ((a + b) / 2) j hm hj (by simp only at hle; omega)
        omega
  · obtain rfl : a = b := by omega
    by_cases ha : a < xs.length
    · obtain ⟨p, hp, hc⟩ := R.one ha (v := nu xs[a]) rfl
      have hy := hxs xs[a] (List.getElem_mem ha)
      rw [hp]
      repeat' (first
|(apply X_clo (f := 109);eq_refl;eq_refl;(apply minus_cv;omega;omega);rintro _ _ ⟨rfl, rfl⟩)
|(apply WC_seqK;intro K hK)
|(apply hK;clear hK)
|(clear hK;apply hK;clear hK)
|(apply WC_region)
|(apply WL_nil)
|(apply thenQ_normal)
|(apply thenQ_exit)
|(apply blockQ_hit)
|(apply WC_ret)
|(apply WC_exit)
|(apply WC_if_false;eq_refl)
|(apply ret2;eq_refl;eq_refl)
|(apply WL_on0;eq_refl)
|(apply WL_onG;eq_refl;eq_refl;eq_refl;eq_refl)
|(apply X_pv;eq_refl;first|exact trivial|omega)
|(apply X_loadC;eq_refl;(first|assumption|(apply cel;first|assumption|(apply cel;assumption))))
|(apply X_cmpT;eq_refl;eq_refl;omega)
|(apply X_cmpF;eq_refl;eq_refl;omega)
|(apply X_cmp;eq_refl;eq_refl;all_goals intro _)
|(apply X_indexP;eq_refl;eq_refl;omega;omega))
      all_goals exact ⟨rfl, a, _, rfl, by omega, hlo, hhi⟩
    · repeat' (first
|(apply WC_seqK;intro K hK)
|(apply hK;clear hK)
|(clear hK;apply hK;clear hK)
|(apply WC_region)
|(apply WL_nil)
|(apply thenQ_normal)
|(apply thenQ_exit)
|(apply blockQ_hit)
|(apply WC_ret)
|(apply WC_exit)
|(apply WC_if_false;eq_refl)
|(apply ret2;eq_refl;eq_refl)
|(apply WL_on0;eq_refl)
|(apply WL_noG;eq_refl;eq_refl;eq_refl;eq_refl)
|(apply X_pv;eq_refl;first|exact trivial|omega)
|(apply X_cmpF;eq_refl;eq_refl;omega))
      all_goals exact ⟨rfl, a, _, rfl, by omega, hlo, hhi⟩
end SC
end Go.Proofs.YtclihihdgodloaaDoor
end
