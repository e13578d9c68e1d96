/- A small calculus over the walk's own predicate: environments as lists, plain regions operation by operation, regions that draw by a plan of steps, loops by a ghost state. -/
import Derived.WalkKit
import Derived.Orders
import Derived.Deep.Draws
namespace Go.Proofs.Ytkndegjodnciaaa
namespace SC

/-! ### environments -/
abbrev Env := List (Nat × Value)
def look : Env → Nat → Option Value
  | [], _ => none
  | (k, v) :: r, t => bif Nat.beq k t then some v else look r t
def ev (e : Env) : Operand → Option Value
  | .tmp t => look e t
  | .const v => some v
  | .global g => some (.pointer (some ⟨g, 0, none⟩))
  | .func f => some (.func (.func f) #[] #[])
def push (d : Option Nat) (v : Value) (e : Env) : Env :=
  match d with
  | some k => (k, v) :: e
  | none => e
/-- What the environment says is what the temporaries hold; n: how many there are. -/
structure Agree (n : Nat) (e : Env) (a : Act) : Prop where
  size : a.tmps.size = n
  defers : a.defers = []
  tmps : ∀ t v, look e t = some v → a.tmps[t]? = some v
theorem Agree.eval {n : Nat} {e : Env} {a : Act} (h : Agree n e a) {x : Operand} {v : Value} (hx : ev e x = some v) : a.eval x = v := by
  cases x with
  | tmp t =>
    have := h.tmps t v hx
    simp [Act.eval, this]
  | const u => simpa [ev, Act.eval] using hx
  | global g => simpa [ev, Act.eval] using hx
  | func f => simpa [ev, Act.eval] using hx
def slotOk (n : Nat) : Option Nat → Bool
  | some d => Nat.blt d n
  | none => true
theorem Agree.put {n : Nat} {e : Env} {a : Act} (h : Agree n e a) (d : Option Nat) (v : Value) (hd : slotOk n d = true) : Agree n (push d v e) (a.put d v) := by
  cases d with
  | none => exact h
  | some d =>
    have hlt : d < n := by simpa [slotOk, Nat.blt_eq] using hd
    refine ⟨by simp [Act.put, h.size], h.defers, fun t u hu => ?_⟩
    simp only [Act.put]
    simp only [push, look] at hu
    by_cases hk : d = t
    · subst hk
      have : u = v := by simpa using hu.symm
      subst this
      simp [h.size, hlt]
    · have hb : Nat.beq d t = false := by
        cases hq : Nat.beq d t
        · rfl
        · exact absurd (Nat.eq_of_beq_eq_true hq) hk
      rw [hb] at hu
      simp only [cond_false] at hu
      rw [Array.getElem?_setIfInBounds_ne hk]
      exact h.tmps t u hu
/-- e' says no more than e. -/
def Sub : Env → Env → Prop
  | [], _ => True
  | (k, v) :: r, e => look e k = some v ∧ Sub r e
theorem Sub.look {e' e : Env} (h : Sub e' e) : ∀ t v, look e' t = some v → SC.look e t = some v := by
  induction e' with
  | nil => intro t v hv; simp [SC.look] at hv
  | cons p r ih =>
    obtain ⟨k, u⟩ := p
    intro t v hv
    simp only [SC.look] at hv
    cases hb : Nat.beq k t with
    | true =>
      rw [hb] at hv
      obtain rfl : u = v := by simpa using hv
      obtain rfl := Nat.eq_of_beq_eq_true hb
      exact h.1
    | false =>
      rw [hb] at hv
      exact ih h.2 t v (by simpa using hv)
theorem Agree.sub {n : Nat} {e e' : Env} {a : Act} (h : Agree n e a) (hs : Sub e' e) : Agree n e' a := ⟨h.size, h.defers, fun t v hv => h.tmps t v (hs.look t v hv)⟩

/-! ### code -/
abbrev Post := Exit → Env → World → Prop
def lift (n : Nat) (Q : Post) : Exit → Act → World → Prop
  | .panic _, _, _ => False
  | .outgrown, _, _ => False
  | s, a, w => ∃ e, Agree n e a ∧ Q s e w
theorem lift_panic {n : Nat} {Q : Post} (c : List PanicEntry) (a : Act) (w : World) : ¬ lift n Q (.panic c) a w := id
def WC (P : Program) (n : Nat) (c : Code) (Q : Post) (e : Env) (w : World) : Prop := ∀ a, Agree n e a → c.wp P (lift n Q) a w
def thenQ (K : Env → World → Prop) (Q : Post) : Post
  | .normal, e, w => K e w
  | s, e, w => Q s e w
def blockQ (id : Nat) (Q : Post) : Post
  | .exit i, e, w => if i = id then Q .normal e w else Q (.exit i) e w
  | s, e, w => Q s e w
section code
variable {P : Program} {n : Nat} {Q : Post} {e : Env} {w : World}
theorem thenQ_normal {K : Env → World → Prop} (h : K e w) : thenQ K Q .normal e w := h
theorem thenQ_exit {K : Env → World → Prop} {i : Nat} (h : Q (.exit i) e w) : thenQ K Q (.exit i) e w := h
theorem thenQ_ret {K : Env → World → Prop} (h : Q .ret e w) : thenQ K Q .ret e w := h
theorem blockQ_hit {i : Nat} (h : Q .normal e w) : blockQ i Q (.exit i) e w := by simpa [blockQ] using h
theorem blockQ_miss {i j : Nat} (hij : Nat.beq j i = false) (h : Q (.exit j) e w) : blockQ i Q (.exit j) e w := by
  have : j ≠ i := fun hh => by subst hh; simp at hij
  simpa [blockQ, this] using h
theorem blockQ_ret {i : Nat} (h : Q .ret e w) : blockQ i Q .ret e w := h
theorem blockQ_normal {i : Nat} (h : Q .normal e w) : blockQ i Q .normal e w := h
theorem lift_mono {n : Nat} {Q Q' : Post} (h : ∀ s e w, Q s e w → Q' s e w) : ∀ s a w, lift n Q s a w → lift n Q' s a w := by
  intro s a w hq
  cases s <;> first | exact hq.elim | exact hq.imp fun e h' => ⟨h'.1, h _ _ _ h'.2⟩
theorem WC.mono {c : Code} {Q Q' : Post} (h : WC P n c Q e w) (hq : ∀ s e w, Q s e w → Q' s e w) : WC P n c Q' e w :=
  fun a ha => wp_mono (h a ha) (lift_mono hq)
theorem WC.weaken {c : Code} {e' : Env} (h : WC P n c Q e' w) (hs : Sub e' e) : WC P n c Q e w := fun a ha => h a (ha.sub hs)
theorem WC_skip (h : Q .normal e w) : WC P n .skip Q e w := fun _ ha => wp_skip ⟨e, ha, h⟩
theorem WC_label {l : Nat} (h : Q .normal e w) : WC P n (.label l) Q e w := fun _ ha => wp_label ⟨e, ha, h⟩
theorem WC_exit {i : Nat} (h : Q (.exit i) e w) : WC P n (.exit i) Q e w := fun _ ha => wp_exit ⟨e, ha, h⟩
theorem WC_ret (h : Q .ret e w) : WC P n .ret Q e w := fun _ ha => wp_ret ⟨e, ha, h⟩
theorem WC_seq {x y : Code} (h : WC P n x (thenQ (fun e w => WC P n y Q e w) Q) e w) : WC P n (.seq x y) Q e w := by
  intro a ha
  refine wp_seq (wp_mono (h a ha) ?_)
  intro s a' w' hs
  cases s with
  | normal => obtain ⟨e', ha', hq⟩ := hs; exact hq a' ha'
  | exit i => exact hs
  | goto l => exact hs
  | ret => exact hs
  | panic c => exact hs.elim
  | outgrown => exact hs.elim
theorem WC_if_true {c : Operand} {x y : Code} (hc : ev e c = some (.bool true)) (h : WC P n x Q e w) : WC P n (.cond c x y) Q e w :=
  fun a ha => wp_cond_true (ha.eval hc) (h a ha)
theorem WC_if_false {c : Operand} {x y : Code} (hc : ev e c = some (.bool false)) (h : WC P n y Q e w) : WC P n (.cond c x y) Q e w :=
  fun a ha => wp_cond_false (ha.eval hc) (h a ha)
theorem WC_if {c : Operand} {x y : Code} {t : Bool} (hc : ev e c = some (.bool t)) (h1 : t = true → WC P n x Q e w) (h2 : t = false → WC P n y Q e w) : WC P n (.cond c x y) Q e w := by
  cases t
  · exact WC_if_false hc (h2 rfl)
  · exact WC_if_true hc (h1 rfl)
theorem WC_block {i : Nat} {c : Code} (h : WC P n c (blockQ i Q) e w) : WC P n (.block i c) Q e w := by
  intro a ha
  refine wp_block (wp_mono (h a ha) ?_)
  intro s a' w' hs
  cases s with
  | normal => exact hs
  | exit j =>
    obtain ⟨e', ha', hq⟩ := hs
    simp only [Exit.inBlock]
    simp only [blockQ] at hq
    split
    · rename_i hj; rw [if_pos hj] at hq; exact ⟨e', ha', hq⟩
    · rename_i hj; rw [if_neg hj] at hq; exact ⟨e', ha', hq⟩
  | goto l => exact hs
  | ret => exact hs
  | panic c => exact hs.elim
  | outgrown => exact hs.elim
/-- A loop, by a ghost state s: E s is what is known of the slots at the head, I s what is known of the world, m s goes down. -/
theorem WC_loop {c : Code} {σ : Type} (E : σ → Env) (I : σ → World → Prop) (m : σ → Nat) (s0 : σ) (h0 : Sub (E s0) e) (hI : I s0 w)
    (round : ∀ s w, I s w → WC P n c (thenQ (fun e' w' => ∃ s', Sub (E s') e' ∧ I s' w' ∧ m s' < m s) Q) (E s) w) : WC P n (.loop c) Q e w := by
  intro a ha b k cs
  have key : ∀ r s a w, m s = r → I s w → Agree n (E s) a →
      ∃ x a' w', lift n Q x a' w' ∧ Arrives P (lone (b.at a (.code c :: .inLoop c :: k)) cs w) b k cs x a' w' := by
    intro r
    induction r using Nat.strongRecOn with
    | _ r ih =>
      intro s a w hr hs hA
      obtain ⟨x, a1, w1, hq, harr⟩ := round s w hs a hA b (.inLoop c :: k) cs
      cases x with
      | normal =>
        obtain ⟨e1, hA1, s', hsub, hI1, hlt⟩ := hq
        obtain ⟨x2, a2, w2, hq2, harr2⟩ := ih (m s') (hr ▸ hlt) s' a1 w1 rfl hI1 (hA1.sub hsub)
        exact ⟨x2, a2, w2, hq2, .of_steps (Steps.trans harr (.one step_inLoop)) harr2⟩
      | exit i => exact ⟨.exit i, a1, w1, hq, .pass (x := .inLoop c) rfl (fun _ _ => .inl (by simp)) harr⟩
      | goto l => exact ⟨.goto l, a1, w1, hq, .pass (x := .inLoop c) rfl (fun _ _ => .inl (by simp)) harr⟩
      | ret => exact ⟨.ret, a1, w1, hq, .pass (x := .inLoop c) rfl (fun _ _ => .inl (by simp)) harr⟩
      | panic ch => exact hq.elim
      | outgrown => exact hq.elim
  obtain ⟨x, a', w', hq, harr⟩ := key _ s0 a w rfl hI (ha.sub h0)
  exact ⟨x, a', w', hq, .of_steps (.one step_loop) harr⟩
/-- Ways that meet: what holds where x ends. -/
theorem WC_cut {x : Code} {σ : Type} (E : σ → Env) (I : σ → World → Prop) {K : Env → World → Prop}
    (h : WC P n x (thenQ (fun e' w' => ∃ s, Sub (E s) e' ∧ I s w') Q) e w) (hK : ∀ s w', I s w' → ∀ e', Sub (E s) e' → K e' w') : WC P n x (thenQ K Q) e w :=
  h.mono fun s e' w' hs => by
    cases s with
    | normal => obtain ⟨s, h1, h2⟩ := hs; exact hK s w' h2 e' h1
    | exit i => exact hs
    | goto l => exact hs
    | ret => exact hs
    | panic c => exact hs
    | outgrown => exact hs
end code

/-! ### a call -/
/-- The call returns; R of its value and the world behind it. -/
def CV (P : Program) (f : FuncId) (args : List Value) (w : World) (R : Value → World → Prop) : Prop := Calls P f args.toArray w fun x w' => match x with | .returned v => R v w' | _ => False
theorem CV.mono {P : Program} {f : FuncId} {args : List Value} {w : World} {R R' : Value → World → Prop} (h : CV P f args w R) (hr : ∀ v w', R v w' → R' v w') : CV P f args w R' :=
  Calls.mono h fun x w' hx => by cases x <;> first | exact hr _ _ hx | exact hx
def argEnv : List Value → Nat → Env
  | [], _ => []
  | v :: r, k => (k, v) :: argEnv r (k + 1)
theorem argEnv_look : ∀ (l : List Value) (k t : Nat) (v : Value), look (argEnv l k) t = some v → k ≤ t ∧ l[t - k]? = some v
  | [], _, _, _, h => by simp [argEnv, look] at h
  | u :: r, k, t, v, h => by
    simp only [argEnv, look] at h
    cases hb : Nat.beq k t with
    | true =>
      rw [hb] at h
      obtain rfl := Nat.eq_of_beq_eq_true hb
      exact ⟨Nat.le_refl _, by simpa using h⟩
    | false =>
      rw [hb] at h
      obtain ⟨h1, h2⟩ := argEnv_look r (k + 1) t v (by simpa using h)
      refine ⟨by omega, ?_⟩
      have : t - k = (t - (k + 1)) + 1 := by omega
      rw [this]
      simpa using h2
def retVal : List Value → Value
  | [v] => v
  | vs => .tuple vs.toArray
def retQ (rs : List Nat) (R : Value → World → Prop) : Post
  | .ret, e, w => ∃ vs, rs.map (look e) = vs.map some ∧ R (retVal vs) w
  | .normal, e, w => ∃ vs, rs.map (look e) = vs.map some ∧ R (retVal vs) w
  | _, _, _ => False
theorem results_of {P : Program} {fn : Func} {n : Nat} {e : Env} {a : Act} (ha : Agree n e a) (w : World) (rs : List Nat) (hl : rs.length ≤ 4) (hr : fn.results = (rs.map ResultVar.tmp).toArray) (vs : List Value) (h : rs.map (look e) = vs.map some) :
    (results fn a.tmps).run P w = .ok (retVal vs) w := by
  have ht : ∀ t v, look e t = some v → a.tmps[t]? = some v := ha.tmps
  rcases rs with _ | ⟨r1, _ | ⟨r2, _ | ⟨r3, _ | ⟨r4, _ | ⟨r5, rr⟩⟩⟩⟩⟩
  · obtain rfl : vs = [] := by simpa using h.symm
    simp [results, hr, retVal]
  · rcases vs with _ | ⟨v1, _ | ⟨v2, vv⟩⟩ <;> simp at h
    simp [results, hr, retVal, ht _ _ h]
  · rcases vs with _ | ⟨v1, _ | ⟨v2, _ | ⟨v3, vv⟩⟩⟩ <;> simp at h
    simp [results, hr, retVal, ht _ _ h.1, ht _ _ h.2]
  · rcases vs with _ | ⟨v1, _ | ⟨v2, _ | ⟨v3, _ | ⟨v4, vv⟩⟩⟩⟩ <;> simp at h
    simp [results, hr, retVal, ht _ _ h.1, ht _ _ h.2.1, ht _ _ h.2.2]
  · rcases vs with _ | ⟨v1, _ | ⟨v2, _ | ⟨v3, _ | ⟨v4, _ | ⟨v5, vv⟩⟩⟩⟩⟩ <;> simp at h
    simp [results, hr, retVal, ht _ _ h.1, ht _ _ h.2.1, ht _ _ h.2.2.1, ht _ _ h.2.2.2]
  · simp at hl
theorem enter {P : Program} {f : FuncId} {fn : Func} {c : Code} {args : List Value} {w : World} {R : Value → World → Prop} (n : Nat) (rs : List Nat) (hf : P.funcs[f]? = some fn) (hb : fn.body = some c)
    (hn : fn.ntmps = n) (hr : fn.results = (rs.map ResultVar.tmp).toArray) (hl : rs.length ≤ 4) (hs : Nat.ble args.length n = true) (h : WC P n c (retQ rs R) (argEnv args 0) w) : CV P f args w R := by
  refine calls_of_wp hf hb ?_
  have hA : Agree n (argEnv args 0) { tmps := args.toArray ++ Array.replicate (fn.ntmps - args.toArray.size) undef, defers := [] } := by
    have hs' := Nat.le_of_ble_eq_true hs
    refine ⟨by simp [hn]; omega, rfl, fun t v hv => ?_⟩
    obtain ⟨_, h2⟩ := argEnv_look args 0 t v hv
    have hlt : t < args.length := (List.getElem?_eq_some_iff.1 h2).1
    rw [Array.getElem?_append_left (by simpa using hlt)]
    simpa using h2
  refine wp_mono (h _ hA) ?_
  intro s a w' hq
  cases s with
  | normal => obtain ⟨e, ha, vs, h1, h2⟩ := hq; exact ⟨ha.defers, _, results_of ha w' rs hl hr vs h1, h2⟩
  | ret => obtain ⟨e, ha, vs, h1, h2⟩ := hq; exact ⟨ha.defers, _, results_of ha w' rs hl hr vs h1, h2⟩
  | exit i => obtain ⟨e, _, h⟩ := hq; exact h
  | goto l => obtain ⟨e, _, h⟩ := hq; exact h
  | panic c => exact hq.elim
  | outgrown => exact hq.elim
end SC
end Go.Proofs.Ytkndegjodnciaaa
