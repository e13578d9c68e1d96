/- Texts of this seat, one behind the other: N41 N40 N29 N42. -/
import Derived.Test.YticndofcfacopaaY4
section
/- Families of rows bound together: one row taken out and put back; a slice of slices that grows by another one; the circuit that Build makes put together. -/
set_option linter.unusedVariables false
set_option linter.unusedSimpArgs false
namespace Go.Proofs.Yticndofcfacopaa
namespace SC
open Go.Proofs
section
variable {P : Program} {n : Nat} {all : List Oper} {K : Env → Mm → Prop} {m : Md} {e : Env} {Γ Γ' Γ1 Γ2 Θ : Mm} {d : Option Tmp} {ty t t0 : TypeId} {x y : Operand} {c : Code} {Q : PostG} {td : TypeDesc} {sz by_ : Nat} {zv : Value} {ag : Bool}
theorem Wk.part {C D : Mm} (hR : Rems Γ C Γ1) (h : Wk C D) (h2 : Wk Γ1 Γ') : Wk Γ (D ++ Γ') := by
  refine ⟨fun w M => ?_, fun k hk => ?_⟩
  · have M1 := M.perm hR.perm
    exact (h.mem w M1.left).join (h2.mem w M1.right) fun k k1 k2 => M1.sep k (h.sub k k1) (h2.sub k k2)
  · rw [owns_perm hR.perm, owns_append]
    exact (owns_append.1 hk).imp (h.sub k) (h2.sub k)
/-- One entry becomes others. -/
theorem GC_wk {E : Ent} {D : Mm} (hR : Rem Γ E Γ1) (h : Wk [E] D) (hr : GC P n c Q e (D ++ Γ1)) : GC P n c Q e Γ := fun w M => hr w ((Wk.part (.cons hR .nil) h .refl).mem w M)
theorem bun_in {D : Mm} : Wk D [.any (bun D)] := ⟨fun w M => Mem.one (E := .any (bun D)) M, fun k hk => (owns_cons.1 hk).elim id fun h => absurd h owns_nil⟩
theorem bun_out {D : Mm} : Wk [.any (bun D)] D := ⟨fun w M => M.head, fun k hk => owns_cons.2 (.inl hk)⟩
theorem fam_mid (a b : List (Hdl × List Int)) (x : Hdl × List Int) : (fam rowJ (a ++ x :: b)).Perm (rowL x :: fam rowJ (a ++ b)) := by
  refine (fam_perm _).symm.trans ?_
  rw [List.map_append, List.map_cons]
  refine List.perm_middle.trans ((List.Perm.cons _) ?_)
  rw [← List.map_append]
  exact fam_perm _
theorem row_out (a b : List (Hdl × List Int)) (x : Hdl × List Int) : Wk [.any (bun (fam rowJ (a ++ x :: b)))] [rowL x, .any (bun (fam rowJ (a ++ b)))] :=
  bun_out.trans ((Wk.perm (fam_mid a b x)).trans (Wk.cons .here bun_in))
theorem row_in (a b : List (Hdl × List Int)) (x : Hdl × List Int) : Wk [rowL x, .any (bun (fam rowJ (a ++ b)))] [.any (bun (fam rowJ (a ++ x :: b)))] :=
  (Wk.cons .here bun_out).trans ((Wk.perm (fam_mid a b x).symm).trans bun_in)
/-- A store into a box that is kept apart. -/
theorem G_stBP {b o : Nat} {t1 : TypeId} {cs : List Value} {v : Value} {Θ Θ' : Mm} {A : List Fl} {r : List PStep} {j : Nat} [T : Ty P t td 1 zv by_ ag] (h : ev e x = some (.pointer (some ⟨b, o, none⟩))) (h1 : ev e y = some v) (hv : v.cells = #[v]) (h2 : v.oneCell' = true) (hU : Upd Θ (.box b t1 cs) (.box b t1 (cs.set o v)) Θ') (hlt : o < cs.length)
    (hr : GS P n all K A Θ' r (push d undef e) Γ) : GX P n all K (.c j A Θ r) d (.store t x y) ty e Γ := fun pos af g ho hg hd hA =>
  GS_priv (R := fun v Θ1 N => v = undef ∧ Θ1 = Θ' ∧ N = []) ho hg hd hA (fun Δ w M => by
    have hU' := hU.left (Γ := Γ)
    have hb : Blk w b t1 cs := by obtain ⟨R, p, _⟩ := hU'.perm; exact M.right.ok (.box b t1 cs) (p.mem_iff.2 (by simp))
    refine .inr (.inr ⟨_, does_store1 h h1 hb hlt hv h2, Θ', [], ?_, rfl, rfl, rfl⟩)
    exact Mem.upd hU' M (Chg.setRow w b _ (S := fun k => k = b) rfl) (fun k _ h => h) (hb.set _) fun k hk => .inl hk) fun v Θ1 N ⟨e1, e2, e3⟩ => by rw [e1, e2, e3]; exact hr
theorem G_stWP {b : Nat} {t1 : TypeId} {cs vs : List Value} {Θ Θ' : Mm} {A : List Fl} {r : List PStep} {j : Nat} [T : Ty P t td sz zv by_ ag] (h : ev e x = some (.pointer (some ⟨b, 0, none⟩))) (h1 : ev e y = some (.agg vs.toArray)) (hl : vs.length = sz) (h2 : vs.all Value.oneCell' = true) (hU : Upd Θ (.box b t1 cs) (.box b t1 vs) Θ') (hlt : cs.length = sz)
    (hr : GS P n all K A Θ' r (push d undef e) Γ) : GX P n all K (.c j A Θ r) d (.store t x y) ty e Γ := fun pos af g ho hg hd hA =>
  GS_priv (R := fun v Θ1 N => v = undef ∧ Θ1 = Θ' ∧ N = []) ho hg hd hA (fun Δ w M => by
    have e1 : splice cs 0 vs = vs := by unfold splice; simp; omega
    have hU' := hU.left (Γ := Γ)
    have hb : Blk w b t1 cs := by obtain ⟨R, p, _⟩ := hU'.perm; exact M.right.ok (.box b t1 cs) (p.mem_iff.2 (by simp))
    refine .inr (.inr ⟨_, does_storeA h h1 hb hl (by omega) (fun v hv => List.all_eq_true.1 h2 v hv), Θ', [], ?_, rfl, rfl, rfl⟩)
    rw [e1]
    exact Mem.upd hU' M (Chg.setRow w b _ (S := fun k => k = b) rfl) (fun k _ h => h) (hb.set _) fun k hk => .inl hk) fun v Θ1 N ⟨e1, e2, e3⟩ => by rw [e1, e2, e3]; exact hr
/-- A call that changes what is kept apart. -/
theorem G_callMP {f : FuncId} [F : Go.Proofs.Yticndofcfacopaa.SC.Fn P f] {args : Array Operand} {ats : Array TypeId} {vs : List Value} {C Θ Θ' : Mm} {A : List Fl} {r : List PStep} {j : Nat} {R : Value → Mm → Prop} (h : evs e args.toList = some vs) (hc : ∀ w, Mem w C → CVM P f vs w C R) (hC : Rems Θ C Θ') (hr : ∀ v N, R v N → GS P n all K A (N ++ Θ') r (push d v e) Γ) :
    GX P n all K (.c j A Θ r) d (.call { callee := .value (.func f), args := args, argTypes := ats }) ty e Γ := fun pos af g ho hg hd hA =>
  GS_priv (R := fun v Θ1 N => N = [] ∧ ∃ N1, Θ1 = N1 ++ Θ' ∧ R v N1) ho hg hd hA (fun Δ w M => by
    have p1 : (Δ ++ (Θ ++ Γ)).Perm (C ++ (Δ ++ (Θ' ++ Γ))) := by
      refine ((hC.perm.append_right Γ).append_left Δ).trans ?_
      rw [List.append_assoc]
      exact List.perm_append_comm_assoc ..
    have M1 := M.perm p1
    refine .inr (.inl ⟨f, vs, enters (evs_map h), CV.mono (hc w M1.left) fun v w' ⟨N, M', hR⟩ => ⟨N ++ Θ', [], ?_, rfl, N, rfl, hR⟩⟩)
    refine (M1.addS M').perm ?_
    rw [List.nil_append, List.append_assoc]
    exact List.perm_append_comm_assoc ..) fun v Θ1 N ⟨e1, N1, e2, hR⟩ => by rw [e1, e2]; exact hr v N1 hR
/-- A call of a closure that also looks at what is kept apart. -/
theorem G_callFP {f : FuncId} {args : Array Operand} {ats : Array TypeId} {vs : List Value} {cap : Array Value} {Θ : Mm} {A : List Fl} {r : List PStep} {j : Nat} {R : Value → Mm → Prop} (hx : ev e x = some (.func (.func f) #[] cap)) (F : Go.Proofs.Yticndofcfacopaa.SC.Fn P f) (h : evs e args.toList = some vs) (hc : ∀ w, Mem w (Θ ++ Γ) → CVN P f (vs ++ cap.toList) w R) (hr : ∀ v N, R v N → GS P n all K A Θ r (push d v e) (N ++ Γ)) :
    GX P n all K (.c j A Θ r) d (.call { callee := .value x, args := args, argTypes := ats }) ty e Γ := fun pos af g ho hg hd hA =>
  GS_priv (R := fun v Θ1 N => Θ1 = Θ ∧ R v N) ho hg hd hA (fun Δ w M => by
    refine .inr (.inl ⟨f, vs ++ cap.toList, entersC hx (evs_map h), CV.mono (hc w M.right) fun v w' ⟨N, M', hR⟩ => ⟨Θ, N, ?_, rfl, hR⟩⟩)
    refine (M.add M').perm ?_
    exact (List.perm_append_comm_assoc ..).trans ((List.perm_append_comm_assoc ..).append_left _)) fun v Θ1 N ⟨e1, hR⟩ => by rw [e1]; exact hr v N hR
/-- Appended: to a box, an own slice. -/
theorem G_appBV {α : Type} {enc : α → List Value} [U : Ty P t (.slice t0) 1 (.slice none 0 0) 24 false] [T : Ty P t0 td sz zv by_ ag] {A2 : Option Addr} {b c k1 k2 c2 : Nat} {l2 : List α} {cs : List Value} {t2 : TypeId} {Γ1 : Mm} {Γ2 : Option Addr → Nat → Mm} (l : List α) (hm : wrOk all m = true) (h : ev e x = some (.slice (some ⟨b, 0, none⟩) k1 c)) (h1 : ev e y = some (.slice A2 k2 c2)) (N : Enc enc sz)
    (hU1 : Upd Γ (.box b t0 cs) (.vec enc sz t0 (some ⟨b, 0, none⟩) c l) Γ1) (hD : Dec enc cs l) (hi : In Γ1 (.vec enc sz t2 A2 c2 l2)) (hU : ∀ A' c', Upd Γ1 (.vec enc sz t0 (some ⟨b, 0, none⟩) c l) (.vec enc sz t0 A' c' (l ++ l2)) (Γ2 A' c')) (hk1 : k1 = l.length) (hc : c = l.length) (hl : l.length ≤ 1000) (hk : k2 = l2.length) (hzs : zv.cells.size = sz) (hby : (l.length + l2.length) * by_ ≤ 140737488355328) (hby1 : 1 ≤ by_)
    (hr : ∀ A' c', GN P n all K m (push d (.slice A' (l ++ l2).length c') e) (Γ2 A' c')) : GX P n all K m d (.call { callee := .builtin .append, args := #[x, y], argTypes := #[t, t] }) ty e Γ := by
  subst hc
  exact GX_acts hm (acts_box hU1 hD (by unfold maxLen; omega) (acts_appendR h hk1 h1 hk hU (Rd.own hi N) (fun w M hA => by
    have := hi.ok M
    rcases this.2 with ⟨h1, _⟩ | ⟨g, cap, cur, h1, _⟩
    · simp only [Value.slice.injEq] at h1; exact h1.2.2
    · simp only [Value.slice.injEq] at h1; rw [h1.1] at hA; cases hA) hzs hby hby1)) fun v Γ1 ⟨A', c', e1, e2⟩ => by rw [e1, e2]; exact hr A' c'
end
theorem Wk.app {C D Γ : Mm} (h : Wk C D) : Wk (C ++ Γ) (D ++ Γ) := ⟨fun w M => (h.mem w M.left).join M.right fun k k1 k2 => M.sep k (h.sub k k1) k2, fun k hk => owns_append.2 ((owns_append.1 hk).imp (h.sub k) id)⟩
theorem Wk.appL {C D Γ : Mm} (h : Wk C D) : Wk (Γ ++ C) (Γ ++ D) := (Wk.perm List.perm_append_comm).trans (h.app.trans (Wk.perm List.perm_append_comm))
theorem CVN.wk {P : Program} {f : FuncId} {args : List Value} {w : World} {R R' : Value → Mm → Prop} (h : CVN P f args w R) (hR : ∀ v N, R v N → ∃ N', Wk N N' ∧ R' v N') : CVN P f args w R' :=
  CV.mono h fun v w' ⟨N, M, hv⟩ => by
    obtain ⟨N', h1, h2⟩ := hR v N hv
    exact ⟨N', h1.app.mem w' M, h2⟩
/-- shape.Copy: its lists of numbers bound together. -/
theorem CopyB {w : World} {c : Circ} {h js : Hd} (H : CirAt w c h js) (hf : c.Fits) : CVN Try.prog 70 [.agg (ccells c h).toArray] w fun v N => ∃ h' js', v = .agg (ccells c h').toArray ∧ N = [.vec tcells 3 83 (h' 2).1 (h' 2).2 c.latches, .vec encS 1 22 (h' 6).1 (h' 6).2 (jps c js'), .vec tcells 3 57 (h' 8).1 (h' 8).2 c.ands, .vec scells 3 110 (h' 9).1 (h' 9).2 c.symbols, .vec bcell 1 9 (h' 10).1 (h' 10).2 c.comments, .any (bun (fam rowJ (rowsOf c h' js')))] :=
  (CopyG H hf).wk fun v N ⟨h', js', e1, e2⟩ => by
    subst e2
    exact ⟨_, Wk.appL (Γ := [.vec tcells 3 83 (h' 2).1 (h' 2).2 c.latches, .vec encS 1 22 (h' 6).1 (h' 6).2 (jps c js'), .vec tcells 3 57 (h' 8).1 (h' 8).2 c.ands, .vec scells 3 110 (h' 9).1 (h' 9).2 c.symbols, .vec bcell 1 9 (h' 10).1 (h' 10).2 c.comments]) bun_in, h', js', e1, rfl⟩
/-- A row whose literals have gone through a map. -/
def rowF (to : List Int) (p : Hdl × List Int) : Hdl × List Int := (p.1, p.2.map (litX to))
def hd8 (h : Hd) (A : Option Addr) (k : Nat) : Hd := fun i => if i = 8 then (A, k) else h i
theorem rows_built {c : Circ} {h js : Hd} {A : Option Addr} {k : Nat} : (rowsOf c h js).map (rowF (bT c)) = rowsOf (bC c) (hd8 h A k) js := by
  have e : (jps c js).map (rowF (bT c)) = jps (bC c) js := by
    unfold jps
    rw [List.map_map]
    have e1 : (bC c).justice.length = c.justice.length := List.length_map _
    rw [e1]
    refine List.map_congr_left fun i hi => ?_
    have := List.mem_range.1 hi
    show (js i, (c.justice.getD i []).map (litX (bT c))) = (js i, (c.justice.map fun l => l.map (litX (bT c))).getD i [])
    simp [List.getD, this]
  unfold rowsOf
  rw [List.map_append, e]
  rfl
theorem just_built {c : Circ} {js : Hd} : (jps c js).flatMap encS = (jps (bC c) js).flatMap encS := by
  rw [jps_cells, jps_cells]
  unfold jcells
  have e1 : (bC c).justice.length = c.justice.length := List.length_map _
  rw [e1]
  refine List.map_congr_left fun i hi => ?_
  have := List.mem_range.1 hi
  show slc js i (c.justice.getD i []).length = slc js i ((c.justice.map fun l => l.map (litX (bT c))).getD i []).length
  simp [List.getD, this]
theorem Wk.same {E F : Ent} (h1 : ∀ w, E.ok w → F.ok w) (h2 : ∀ k, F.own k → E.own k) : Wk [E] [F] := ⟨fun w M => Mem.one (h1 w M.head), fun k hk => owns_cons.2 ((owns_cons.1 hk).imp (h2 k) fun h => absurd h owns_nil)⟩
theorem just_wk {c : Circ} {js : Hd} {A : Option Addr} {k : Nat} : Wk [.vec encS 1 22 A k (jps c js)] [.vec encS 1 22 A k (jps (bC c) js)] := by
  have e1 : (jps (bC c) js).length = (jps c js).length := by rw [jps_len, jps_len]; exact List.length_map _
  refine Wk.same (fun w H => ?_) fun b hb => ?_
  · show w.ownsRow 0 22 1 (.slice A (jps (bC c) js).length k) (jps (bC c) js).length ((jps (bC c) js).flatMap encS)
    rw [e1, ← just_built]
    exact H
  · show (Value.slice A (jps c js).length k).ownBlock = some b
    rw [← e1]
    exact hb
/-- The parts of what Build makes, put together. -/
theorem built_wk {c : Circ} {h js : Hd} {A : Option Addr} {k : Nat} : Wk [.vec encS 1 22 (h 6).1 (h 6).2 (jps c js), .any (bun (fam rowJ ((rowsOf c h js).map (rowF (bT c))))), .vec tcells 3 83 (h 2).1 (h 2).2 (c.latches.map (bLatch (bT c))), .vec tcells 3 57 A k (bG c), .vec scells 3 110 (h 9).1 (h 9).2 c.symbols, .vec bcell 1 9 (h 10).1 (h 10).2 c.comments] [.any (cirX 0 (bC c) (hd8 h A k) js)] := by
  rw [rows_built (A := A) (k := k)]
  refine Wk.trans (Wk.part (C := [.vec encS 1 22 (h 6).1 (h 6).2 (jps c js)]) (.cons .here .nil) just_wk (Wk.part (C := [.any (bun (fam rowJ (rowsOf (bC c) (hd8 h A k) js)))]) (.cons .here .nil) bun_out .refl)) ?_
  refine Wk.trans (Wk.perm ?_) (bE_cir (bC c) (hd8 h A k) js)
  unfold bE
  show ([Ent.vec encS 1 22 (h 6).1 (h 6).2 (jps (bC c) js)] ++ (fam rowJ (rowsOf (bC c) (hd8 h A k) js) ++ [Ent.vec tcells 3 83 (h 2).1 (h 2).2 (bC c).latches, .vec tcells 3 57 A k (bC c).ands, .vec scells 3 110 (h 9).1 (h 9).2 (bC c).symbols, .vec bcell 1 9 (h 10).1 (h 10).2 (bC c).comments])).Perm (Ent.vec tcells 3 83 (h 2).1 (h 2).2 (bC c).latches :: Ent.vec encS 1 22 (h 6).1 (h 6).2 (jps (bC c) js) :: .vec tcells 3 57 A k (bC c).ands :: .vec scells 3 110 (h 9).1 (h 9).2 (bC c).symbols :: .vec bcell 1 9 (h 10).1 (h 10).2 (bC c).comments :: fam rowJ (rowsOf (bC c) (hd8 h A k) js))
  generalize fam rowJ (rowsOf (bC c) (hd8 h A k) js) = Φ
  refine ((List.perm_append_comm (l₁ := Φ)).append_left _).trans ?_
  exact List.Perm.swap ..
end SC
end Go.Proofs.Yticndofcfacopaa
end
section
/- hash: Build of a right circuit: the walk. -/
set_option linter.unusedVariables false
set_option linter.unusedSimpArgs false
namespace Go.Proofs.Yticndofcfacopaa
namespace SC
open Go.Proofs
theorem map_step {max : Int} {ks : List Int} {i : Nat} {x y : Int} (h : i < ks.length) (hx : ks[i] = x) (hy : y = 2 * (i : Int) + 2) : mapOf max (ks.take (i + 1)) = (mapOf max (ks.take i)).set (x / 2).toNat y := by
  rw [List.take_succ_eq_append_getElem h, mapOf_snoc, List.length_take, Nat.min_eq_left (by omega), hx, hy]
theorem gt_and (c : Circ) (i : Int) : gt c.ands i = andAt c i := rfl
theorem mix_get {α : Type} [Inhabited α] {a b : List α} {i : Nat} (h : a.length = b.length) (hi : i < b.length) : gt (mix a b i) (i : Int) = gt b (i : Int) := by
  have e : (a.take i).length = i := by rw [List.length_take]; omega
  rw [gt_nat (by rw [mix_len h]; exact hi), gt_nat hi]
  unfold mix
  rw [List.getElem_append_right (by omega)]
  simp [e]
theorem mix_rows {f : Hdl × List Int → Hdl × List Int} {ps : List (Hdl × List Int)} {i : Nat} (h : i < ps.length) : mix (ps.map f) ps i = (ps.map f).take i ++ gt ps (i : Int) :: ps.drop (i + 1) ∧ mix (ps.map f) ps (i + 1) = (ps.map f).take i ++ f (gt ps (i : Int)) :: ps.drop (i + 1) := by
  rw [gt_nat h]
  unfold mix
  refine ⟨by rw [List.drop_eq_getElem_cons h], ?_⟩
  rw [List.take_succ_eq_append_getElem (by rw [List.length_map]; exact h), List.append_assoc, List.getElem_map]
  rfl
theorem rows_ok {c : Circ} (R : Right c) (hf : c.Fits) {h js : Hd} : ∀ p ∈ rowsOf c h js, (∀ l ∈ p.2, inR c l) ∧ p.2.length ≤ 16384 := by
  intro p hp
  unfold rowsOf at hp
  rcases List.mem_append.1 hp with hp | hp
  · simp only [List.mem_cons, List.not_mem_nil, or_false] at hp
    rcases hp with rfl | rfl | rfl | rfl | rfl
    · exact ⟨fun l hl => (R.inp hl).in, R.nIn⟩
    · exact ⟨fun l hl => ⟨(R.use.outputs l hl).1, (R.use.outputs l hl).2.1⟩, by have h9 := R.lens c.outputs.length (by simp [Circ.lens]); simp only; omega⟩
    · exact ⟨fun l hl => R.bad hl, R.nBad⟩
    · exact ⟨fun l hl => R.con hl, R.nCon⟩
    · exact ⟨fun l hl => R.fair hl, R.nFair⟩
  · have h1 : p.2 ∈ (jps c js).map (·.2) := List.mem_map_of_mem hp
    rw [jps_snd] at h1
    refine ⟨fun l hl => R.just h1 hl, ?_⟩
    have h2 := sumL_mem h1
    have h3 := R.sumJ hf
    omega
theorem bAt_zero (c : Circ) : mapOf c.max ((defsOf c (ordM c)).take (c.inputs.length + c.latches.length)) = (bAt c 0).1 := by
  unfold bAt defsOf
  rw [List.take_zero, List.take_left' (by simp)]
  rfl
attribute [local irreducible] WC WL WX WS WO OX Does DoesU Enters CV Pure thenQ blockQ retQ Wants retQC GC GL GS GX RdB thenG blockG retG Rd At gt CVN CVM
attribute [local irreducible] bldX cirX fam
set_option maxRecDepth 100000
set_option maxHeartbeats 3200000 in
theorem build_ok {w : World} {c : Circ} {h js : Hd} (H : CirIn w c h js) (he : (lookM c).2 = 0) : CVN Try.prog 32 [.agg (ccells c h).toArray] w fun v N => ∃ h' js' A k, v = .tuple #[.agg (ccells (bC c) h').toArray, .slice A (bT c).length k, nu 0] ∧ N = [.any (cirX 0 (bC c) h' js'), .vec icell 1 3 A k (bT c)] := by
  have R := right_of H.at_ H.sane he
  have hord : ∀ Γ, In Γ (.old w none_) → ∀ w', Mem w' Γ → CVN Try.prog 61 [.agg (ccells c h).toArray] w' fun v N => ∃ A k, v = .tuple #[.slice A (ordM c).length k, nu 0] ∧ N = [.vec icell 1 3 A k (ordM c)] := fun Γ hi w' M => (OrderG (H.at_.chg (hi.old M)) H.sane).mono fun v N hv => by
    rcases hv with ⟨h1, _⟩ | ⟨_, hv⟩
    · exact absurd he h1
    · exact hv
  have m0 := R.m0
  have m1 := R.m1
  have n1 := R.nIn
  have n2 := R.nLat
  have n3 := R.nAnd
  have nd := R.nDefs
  have nl := R.nDefs_le
  have ol := R.ordLen
  have hN : ∀ w', CVN Try.prog 39 [nu c.inputs.length, nu c.latches.length] w' _ := fun w' => NewG (by unfold newBad; omega)
  have hInp := H.at_.inputs
  have hLat := H.at_.latches
  have hAnd := H.at_.ands
  refine CVN.enterC (t := 29) 202 2 [3, 4] Try.func32 rfl rfl rfl (.inr rfl) rfl ?_
  repeat' (first
      | (apply G_call; eq_refl; eq_refl; (apply hord; (repeat first | exact In.here | apply In.there | apply In.skip)); rintro _ _ ⟨Ao, ko, rfl, rfl⟩)
      | (apply G_call; eq_refl; eq_refl; (exact fun w' _ => hN w'); rintro _ _ ⟨g, S0, rfl, rfl⟩)
      | (apply GC_seqK; intro K hK)
      | (apply hK; clear hK K)
      | (apply GC_block)
      | (apply GC_region)
      | (apply GL_nil)
      | (apply thenG_normal)
      | (apply GC_skip)
      | (apply GC_if_false; eq_refl)
      | (apply GL_on; eq_refl; eq_refl)
      | (apply G_pv; eq_refl; first | exact trivial | omega)
      | (apply G_field; eq_refl)
      | (apply G_ld; eq_refl; (repeat first | exact In.here | apply In.there | apply In.skip); eq_refl)
      | (apply G_ldW; eq_refl; (repeat first | exact In.here | apply In.there | apply In.skip); eq_refl)
      | (apply G_cmpF; eq_refl; eq_refl; omega)
      | (apply G_len; eq_refl)
      | (apply G_alloc; eq_refl; intro _)
      | (apply G_box; eq_refl; eq_refl; intro _)
      | (apply G_st; (first | exact wr_p | kernel_rfl); eq_refl; eq_refl; eq_refl; eq_refl; (repeat first | exact Upd.here | apply Upd.there | apply Upd.skip); (first | decide | exact Nat.le_of_ble_eq_true rfl))
      | (apply G_makeI icell; eq_refl; eq_refl; omega; eq_refl; omega; decide; intro _)
      | (apply G_fun; eq_refl))
  rename_i b1 b2 bm b8
  refine GC_loopK [1, 2, 5, 7, 8, 9, 52, 53] (fun i : Nat => [(54, nu i)]) (fun i => [.vec icell 1 3 (some ⟨bm, 0, none⟩) (c.max + 1).toNat (mapOf c.max ((defsOf c (ordM c)).take i)), .any (bldX g S0 c.inputs.length c.latches.length []), .vec icell 1 3 Ao ko (ordM c), .box b8 22 [.slice (some ⟨bm, 0, none⟩) (c.max + 1).toNat (c.max + 1).toNat], .box b2 29 Zc, .box b1 29 (ccells c h), .old w none_]) (fun i => i ≤ c.inputs.length) (fun i => c.inputs.length - i) 0 (by repeat first | exact Pick.nil | (apply Pick.cons; eq_refl)) (by repeat first | exact trivial | refine ⟨rfl, ?_⟩) (by repeat first | exact Wk.nil | exact Wk.refl | (apply Wk.cons; (focus ((repeat first | exact Rem.here | apply Rem.there | apply Rem.skip); done))) | apply Wk.nilv | apply Wk.last | apply Wk.drop) (Nat.zero_le _) ?_
  intro i hi
  rcases Nat.lt_or_ge i c.inputs.length with hlt | hge
  · obtain ⟨hd, e2⟩ := R.def_inp hlt
    have e4 : mapOf c.max ((defsOf c (ordM c)).take (i + 1)) = (mapOf c.max ((defsOf c (ordM c)).take i)).set (gt c.inputs (i : Int) / 2).toNat (2 * ((i : Int) + 1)) := map_step hd (by rw [e2, gt_nat hlt]) (by omega)
    have e7 := R.defs_rg (k := gt c.inputs (i : Int)) (by rw [gt_nat hlt, ← e2]; exact List.getElem_mem hd)
    unfold rg at e7
    have e8 : (mapOf c.max ((defsOf c (ordM c)).take i)).length = (c.max + 1).toNat := mapOf_len _ _
    generalize mapOf c.max ((defsOf c (ordM c)).take i) = mm at *
    repeat' (first
      | (apply GC_seqK; intro K hK)
      | (apply hK; clear hK K)
      | (apply GC_block)
      | (apply GC_region)
      | (apply GL_nil)
      | (apply thenG_normal)
      | (apply blockG_normal)
      | (apply GC_skip)
      | (apply GC_if_true; eq_refl)
      | (apply GL_on; eq_refl; eq_refl)
      | (apply G_pv; eq_refl; first | exact trivial | omega)
      | (apply G_ld; eq_refl; (repeat first | exact In.here | apply In.there | apply In.skip); eq_refl)
      | (apply G_rd; eq_refl; (first | (apply Rd.own; (repeat first | exact In.here | apply In.there | apply In.skip); infer_instance) | (apply Rd.old; (repeat first | exact In.here | apply In.there | apply In.skip); assumption) | (apply Rd.oldR; (repeat first | exact In.here | apply In.there | apply In.skip); assumption) | exact Rd.nil | assumption); (case ih => infer_instance); omega; omega; eq_refl)
      | (apply G_cmpT; eq_refl; eq_refl; omega)
      | (apply G_ix; eq_refl; eq_refl; (first | (apply Rd.own; (repeat first | exact In.here | apply In.there | apply In.skip); infer_instance) | (apply Rd.old; (repeat first | exact In.here | apply In.there | apply In.skip); assumption) | (apply Rd.oldR; (repeat first | exact In.here | apply In.there | apply In.skip); assumption) | exact Rd.nil | assumption); (first | eq_refl | omega); omega; omega)
      | (apply G_stV; (first | exact wr_p | kernel_rfl); eq_refl; eq_refl; eq_refl; eq_refl; (repeat first | exact Upd.here | apply Upd.there | apply Upd.skip); infer_instance; infer_instance; eq_refl; omega; (try simp only [List.length_set, List.length_append, List.length_replicate]); omega))
    refine ⟨i + 1, (by repeat first | exact trivial | refine ⟨rfl, ?_⟩), ?_, hlt, by omega⟩
    rw [e4]
    exact (by repeat first | exact Wk.nil | exact Wk.refl | (apply Wk.cons; (focus ((repeat first | exact Rem.here | apply Rem.there | apply Rem.skip); done))) | apply Wk.nilv | apply Wk.last | apply Wk.drop)
  obtain rfl : i = c.inputs.length := by omega
  repeat' (first
      | (apply GC_seqK; intro K hK)
      | (apply hK; clear hK K)
      | (clear hK K; apply hK; clear hK K)
      | (apply GC_block)
      | (apply GC_region)
      | (apply GL_nil)
      | (apply thenG_normal)
      | (apply thenG_exit)
      | (apply blockG_hit)
      | (apply GC_exit)
      | (apply GC_if_false; eq_refl)
      | (apply GL_on; eq_refl; eq_refl)
      | (apply G_pv; eq_refl; first | exact trivial | omega)
      | (apply G_field; eq_refl)
      | (apply G_ld; eq_refl; (repeat first | exact In.here | apply In.there | apply In.skip); eq_refl)
      | (apply G_cmpF; eq_refl; eq_refl; omega)
      | (apply G_len; eq_refl))
  refine GC_loopK [1, 2, 5, 7, 8, 9, 68, 69] (fun i : Nat => [(70, nu i)]) (fun i => [.vec icell 1 3 (some ⟨bm, 0, none⟩) (c.max + 1).toNat (mapOf c.max ((defsOf c (ordM c)).take (c.inputs.length + i))), .any (bldX g S0 c.inputs.length c.latches.length []), .vec icell 1 3 Ao ko (ordM c), .box b8 22 [.slice (some ⟨bm, 0, none⟩) (c.max + 1).toNat (c.max + 1).toNat], .box b2 29 Zc, .box b1 29 (ccells c h), .old w none_]) (fun i => i ≤ c.latches.length) (fun i => c.latches.length - i) 0 (by repeat first | exact Pick.nil | (apply Pick.cons; eq_refl)) (by repeat first | exact trivial | refine ⟨rfl, ?_⟩) (by repeat first | exact Wk.nil | exact Wk.refl | (apply Wk.cons; (focus ((repeat first | exact Rem.here | apply Rem.there | apply Rem.skip); done))) | apply Wk.nilv | apply Wk.last | apply Wk.drop) (Nat.zero_le _) ?_
  intro i hi2
  rcases Nat.lt_or_ge i c.latches.length with hlt | hge2
  · obtain ⟨hd, e2⟩ := R.def_lat hlt
    have e4 : mapOf c.max ((defsOf c (ordM c)).take (c.inputs.length + (i + 1))) = (mapOf c.max ((defsOf c (ordM c)).take (c.inputs.length + i))).set ((gt c.latches (i : Int)).1 / 2).toNat (2 * ((c.inputs.length : Int) + (i : Int) + 1)) := map_step (i := c.inputs.length + i) hd (by rw [e2, gt_nat hlt]) (by omega)
    have e7 := R.defs_rg (k := (gt c.latches (i : Int)).1) (by rw [gt_nat hlt, ← e2]; exact List.getElem_mem hd)
    unfold rg at e7
    have e8 : (mapOf c.max ((defsOf c (ordM c)).take (c.inputs.length + i))).length = (c.max + 1).toNat := mapOf_len _ _
    generalize mapOf c.max ((defsOf c (ordM c)).take (c.inputs.length + i)) = mm at *
    repeat' (first
      | (apply G_ldIn; eq_refl; (focus ((repeat first | exact In.here | apply In.there | apply In.skip); done)))
      | (apply GC_seqK; intro K hK)
      | (apply hK; clear hK K)
      | (apply GC_block)
      | (apply GC_region)
      | (apply GL_nil)
      | (apply thenG_normal)
      | (apply blockG_normal)
      | (apply GC_skip)
      | (apply GC_if_true; eq_refl)
      | (apply GL_on; eq_refl; eq_refl)
      | (refine GC_draws (id := 17) [.q 0, .q 1, .q 2, .q 3, .q 4, .q 5, .q 6, .q 7, .q 8, .q 9, .q 10, .q 11, .q 12, .c 13] mixed (by kernel_rfl) (by kernel_rfl) ?_)
      | (apply GS_nil)
      | (apply GS_qon; eq_refl; eq_refl; eq_refl; eq_refl)
      | (apply GS_con; eq_refl; eq_refl; eq_refl; eq_refl)
      | (apply G_pv; eq_refl; first | exact trivial | omega)
      | (apply G_field; eq_refl)
      | (apply G_ld; eq_refl; (repeat first | exact In.here | apply In.there | apply In.skip); eq_refl)
      | (apply G_rdW; eq_refl; (first | (apply Rd.own; (repeat first | exact In.here | apply In.there | apply In.skip); infer_instance) | (apply Rd.old; (repeat first | exact In.here | apply In.there | apply In.skip); assumption) | (apply Rd.oldR; (repeat first | exact In.here | apply In.there | apply In.skip); assumption) | exact Rd.nil | assumption); infer_instance; (case ih => infer_instance); omega; omega)
      | (apply G_cmpT; eq_refl; eq_refl; omega)
      | (apply G_ix; eq_refl; eq_refl; (first | (apply Rd.own; (repeat first | exact In.here | apply In.there | apply In.skip); infer_instance) | (apply Rd.old; (repeat first | exact In.here | apply In.there | apply In.skip); assumption) | (apply Rd.oldR; (repeat first | exact In.here | apply In.there | apply In.skip); assumption) | exact Rd.nil | assumption); (first | eq_refl | omega); omega; omega)
      | (apply G_alloc; eq_refl; intro _)
      | (apply G_stV; (first | exact wr_p | kernel_rfl); eq_refl; eq_refl; eq_refl; eq_refl; (repeat first | exact Upd.here | apply Upd.there | apply Upd.skip); infer_instance; infer_instance; eq_refl; omega; (try simp only [List.length_set, List.length_append, List.length_replicate]); omega)
      | (apply G_stW; (first | exact wr_p | kernel_rfl); eq_refl; eq_refl; eq_refl; eq_refl; (repeat first | exact Upd.here | apply Upd.there | apply Upd.skip); eq_refl))
    refine ⟨i + 1, (by repeat first | exact trivial | refine ⟨rfl, ?_⟩), ?_, hlt, by omega⟩
    rw [e4]
    exact (by repeat first | exact Wk.nil | exact Wk.refl | (apply Wk.cons; (focus ((repeat first | exact Rem.here | apply Rem.there | apply Rem.skip); done))) | apply Wk.nilv | apply Wk.last | apply Wk.drop)
  obtain rfl : i = c.latches.length := by omega
  rw [bAt_zero c]
  repeat' (first
      | (apply GC_seqK; intro K hK)
      | (apply hK; clear hK K)
      | (clear hK K; apply hK; clear hK K)
      | (apply GC_block)
      | (apply GC_region)
      | (apply GL_nil)
      | (apply thenG_normal)
      | (apply thenG_exit)
      | (apply blockG_hit)
      | (apply GC_exit)
      | (apply GC_if_false; eq_refl)
      | (apply GL_on; eq_refl; eq_refl)
      | (apply G_pv; eq_refl; first | exact trivial | omega)
      | (apply G_cmpF; eq_refl; eq_refl; omega)
      | (apply G_len; eq_refl))
  refine GC_loopK [1, 2, 7, 8, 9, 89, 90] (fun s : Nat × (Nat → Prop) => [(91, nu s.1)]) (fun s => [.vec icell 1 3 (some ⟨bm, 0, none⟩) (c.max + 1).toNat (bAt c s.1).1, .any (bldX g s.2 c.inputs.length c.latches.length (bAt c s.1).2), .vec icell 1 3 Ao ko (ordM c), .box b8 22 [.slice (some ⟨bm, 0, none⟩) (c.max + 1).toNat (c.max + 1).toNat], .box b2 29 Zc, .box b1 29 (ccells c h), .old w none_]) (fun s => s.1 ≤ (ordM c).length) (fun s => (ordM c).length - s.1) (0, S0) (by repeat first | exact Pick.nil | (apply Pick.cons; eq_refl)) (by repeat first | exact trivial | refine ⟨rfl, ?_⟩) (by repeat first | exact Wk.nil | exact Wk.refl | (apply Wk.cons; (focus ((repeat first | exact Rem.here | apply Rem.there | apply Rem.skip); done))) | apply Wk.nilv | apply Wk.last | apply Wk.drop) (Nat.zero_le _) ?_
  rintro ⟨i, S⟩ hi3
  dsimp only at hi3 ⊢
  rcases Nat.lt_or_ge i (ordM c).length with hlt | hge3
  · have I := R.bInv i (by omega)
    have M := R.bMade hlt I
    have ho := R.ord (gt_mem (l := ordM c) (i := (i : Int)) (by omega) (by omega))
    have hm := gt_mem (l := c.ands) (i := gt (ordM c) (i : Int)) (by omega) (by omega)
    obtain ⟨g1, g2, g3⟩ := R.gate hm
    have ea : andAt c (ordM c)[i] = gt c.ands (gt (ordM c) (i : Int)) := by rw [gt_and, gt_nat hlt]
    have e4 := bAt_succ hlt
    have hb := R.nB_le
    unfold bStep at e4
    rw [ea] at e4 M
    have i1 := I.gs
    have i2 := I.len
    have i3 := I.mlen
    have i4 := I.ok
    have i5 : ∀ {l : Int}, 0 ≤ l → okM (nB c) (bAt c i).2 (litX (bAt c i).1 l) := fun h => BInv.lit I h
    clear I
    generalize bAt c i = s at *
    obtain ⟨mm, gs⟩ := s
    dsimp only at *
    unfold inR at g2 g3
    unfold defR at g1
    have hcl : ∀ l : Int, 0 ≤ l → l ≤ 2 * c.max + 1 → ∀ Γ, In Γ (.box b8 22 [.slice (some ⟨bm, 0, none⟩) (c.max + 1).toNat (c.max + 1).toNat]) → In Γ (.vec icell 1 3 (some ⟨bm, 0, none⟩) (c.max + 1).toNat mm) → ∀ w', Mem w' Γ → CVN Try.prog 68 ([nu l] ++ (#[pt b8] : Array Value).toList) w' fun v N => N = [] ∧ v = nu (litX mm l) := fun l h0 h1 Γ k1 k2 w' M' => by
      have k3 := i4 (l / 2) (by omega)
      unfold okM nB at k3
      rw [← gt_L] at k3
      exact litB_cv (k := (c.max + 1).toNat) (by rw [i3]; exact k1.ok M') (k2.row M') h0 (by omega) (by omega) (by unfold nB at hb; omega)
    have hc1 := hcl (gt c.ands (gt (ordM c) (i : Int))).2.1 g2.1 g2.2
    have hc2 := hcl (gt c.ands (gt (ordM c) (i : Int))).2.2 g3.1 g3.2
    have hand : ∀ w', Mem w' [.any (bldX g S c.inputs.length c.latches.length gs)] → CVM Try.prog 69 [ptr g, nu (litX mm (gt c.ands (gt (ordM c) (i : Int))).2.1), nu (litX mm (gt c.ands (gt (ordM c) (i : Int))).2.2)] w' [.any (bldX g S c.inputs.length c.latches.length gs)] fun v N => v = .tuple #[nu (andM (nB c) gs (litX mm (gt c.ands (gt (ordM c) (i : Int))).2.1) (litX mm (gt c.ands (gt (ordM c) (i : Int))).2.2)).1, nu 0] ∧ ∃ S', N = [.any (bldX g S' c.inputs.length c.latches.length (andM (nB c) gs (litX mm (gt c.ands (gt (ordM c) (i : Int))).2.1) (litX mm (gt c.ands (gt (ordM c) (i : Int))).2.2)).2.2)] := fun w' M' => by
      have := andG (by omega) (by omega) i1 (by unfold nB at hb; omega) (i5 g2.1) (i5 g3.1) M'
      unfold BldR at this
      rw [show (c.inputs.length : Int) + (c.latches.length : Int) = nB c from rfl, M.err] at this
      exact this
    clear hcl
    generalize andM (nB c) gs (litX mm (gt c.ands (gt (ordM c) (i : Int))).2.1) (litX mm (gt c.ands (gt (ordM c) (i : Int))).2.2) = r at *
    repeat' (first
      | (apply G_callFP; eq_refl; infer_instance; eq_refl; (first | (apply hc1; (repeat first | exact In.here | apply In.there | apply In.skip); (repeat first | exact In.here | apply In.there | apply In.skip)) | (apply hc2; (repeat first | exact In.here | apply In.there | apply In.skip); (repeat first | exact In.here | apply In.there | apply In.skip))); rintro _ _ ⟨rfl, rfl⟩)
      | (apply GC_drawsP (id := 23) (C := [.any (bldX g S c.inputs.length c.latches.length gs), .vec icell 1 3 (some ⟨bm, 0, none⟩) (c.max + 1).toNat mm]) [.q 0, .q 1, .q 2, .q 3, .q 4, .q 5, .q 6, .q 7, .q 9, .q 10, .q 11, .c 8, .c 12, .c 13, .q 14, .q 15, .q 16, .q 17, .c 18, .q 19]; exact mixed; kernel_rfl; kernel_rfl; (repeat first | exact Rems.nil | (apply Rems.cons; (focus ((repeat first | exact Rem.here | apply Rem.there | apply Rem.skip); done)))))
      | (apply GS_nilP)
      | (apply G_callMP; eq_refl; (exact hand); (repeat first | exact Rems.nil | (apply Rems.cons; (focus ((repeat first | exact Rem.here | apply Rem.there | apply Rem.skip); done)))); rintro _ _ ⟨rfl, S1, rfl⟩)
      | (apply G_stVP (enc := icell) r.1; eq_refl; eq_refl; eq_refl; eq_refl; (repeat first | exact Upd.here | apply Upd.there | apply Upd.skip); infer_instance; infer_instance; eq_refl; omega; omega)
      | (apply GC_seqK; intro K hK)
      | (apply hK; clear hK K)
      | (apply GC_block)
      | (apply GC_region)
      | (apply GL_nil)
      | (apply thenG_normal)
      | (apply blockG_normal)
      | (apply GC_skip)
      | (apply GC_if_true; eq_refl)
      | (apply GC_if_false; eq_refl)
      | (apply GL_on; eq_refl; eq_refl)
      | (apply GS_qon; eq_refl; eq_refl; eq_refl; eq_refl)
      | (apply GS_con; eq_refl; eq_refl; eq_refl; eq_refl)
      | (apply G_pv; eq_refl; first | exact trivial | omega)
      | (apply G_field; eq_refl)
      | (apply G_ld; eq_refl; (repeat first | exact In.here | apply In.there | apply In.skip); eq_refl)
      | (apply G_rd; eq_refl; (first | (apply Rd.own; (repeat first | exact In.here | apply In.there | apply In.skip); infer_instance) | (apply Rd.old; (repeat first | exact In.here | apply In.there | apply In.skip); assumption) | (apply Rd.oldR; (repeat first | exact In.here | apply In.there | apply In.skip); assumption) | exact Rd.nil | assumption); (case ih => infer_instance); omega; omega; eq_refl)
      | (apply G_rdW; eq_refl; (first | (apply Rd.own; (repeat first | exact In.here | apply In.there | apply In.skip); infer_instance) | (apply Rd.old; (repeat first | exact In.here | apply In.there | apply In.skip); assumption) | (apply Rd.oldR; (repeat first | exact In.here | apply In.there | apply In.skip); assumption) | exact Rd.nil | assumption); infer_instance; (case ih => infer_instance); omega; omega)
      | (apply G_cmpT; eq_refl; eq_refl; omega)
      | (apply G_cmpF; eq_refl; eq_refl; omega)
      | (apply G_ix; eq_refl; eq_refl; (first | (apply Rd.own; (repeat first | exact In.here | apply In.there | apply In.skip); infer_instance) | (apply Rd.old; (repeat first | exact In.here | apply In.there | apply In.skip); assumption) | (apply Rd.oldR; (repeat first | exact In.here | apply In.there | apply In.skip); assumption) | exact Rd.nil | assumption); (first | eq_refl | omega); omega; omega)
      | (apply G_ixA; eq_refl; eq_refl; omega; omega)
      | (apply G_alloc; eq_refl; intro _)
      | (apply G_stW; (first | exact wr_p | kernel_rfl); eq_refl; eq_refl; eq_refl; eq_refl; (repeat first | exact Upd.here | apply Upd.there | apply Upd.skip); eq_refl))
    refine ⟨(i + 1, S1), (by repeat first | exact trivial | refine ⟨rfl, ?_⟩), ?_, hlt, by simp only; omega⟩
    dsimp only
    rw [e4]
    exact (by repeat first | exact Wk.nil | exact Wk.refl | (apply Wk.cons; (focus ((repeat first | exact Rem.here | apply Rem.there | apply Rem.skip); done))) | apply Wk.nilv | apply Wk.last | apply Wk.drop)
  obtain rfl : i = (ordM c).length := by omega
  rw [show (bAt c (ordM c).length).1 = bT c from rfl, show (bAt c (ordM c).length).2 = bG c from rfl]
  have hcp : ∀ Γ, In Γ (.old w none_) → ∀ w', Mem w' Γ → CVN Try.prog 70 [.agg (ccells c h).toArray] w' _ := fun Γ hi w' M => CopyB (H.at_.chg (hi.old M)) H.fits
  have hjl : ∀ js, (jps c js).length ≤ 16384 := fun js => by rw [jps_len]; exact R.nJust
  repeat' (first
      | (apply G_call; eq_refl; eq_refl; (apply hcp; (repeat first | exact In.here | apply In.there | apply In.skip)); rintro _ _ ⟨h', js', rfl, rfl⟩)
      | (apply G_appBV (enc := encS) [(h' 1, c.inputs), (h' 3, c.outputs), (h' 4, c.bads), (h' 5, c.constraints), (h' 7, c.fairness)]; (first | exact wr_p | kernel_rfl); eq_refl; eq_refl; infer_instance; (repeat first | exact Upd.here | apply Upd.there | apply Upd.skip); (repeat first | exact Dec.nil | (apply Dec.c1; exact rfl)); (repeat first | exact In.here | apply In.there | apply In.skip); (intro A c; (repeat first | exact Upd.here | apply Upd.there | apply Upd.skip)); eq_refl; eq_refl; exact Nat.le_of_ble_eq_true rfl; exact (jps_len _ _).symm; eq_refl; (simp only [List.length_cons, List.length_nil]; have := hjl js'; omega); decide; intro A8 k8)
      | (apply GC_seqK; intro K hK)
      | (apply hK; clear hK K)
      | (clear hK K; apply hK; clear hK K)
      | (apply GC_block)
      | (apply GC_region)
      | (apply GL_nil)
      | (apply thenG_normal)
      | (apply thenG_exit)
      | (apply blockG_hit)
      | (apply GC_exit)
      | (apply GC_if_false; eq_refl)
      | (apply GL_on; eq_refl; eq_refl)
      | (apply G_pv; eq_refl; first | exact trivial | omega)
      | (apply G_field; eq_refl)
      | (apply G_ld; eq_refl; (repeat first | exact In.here | apply In.there | apply In.skip); eq_refl)
      | (apply G_ldW; eq_refl; (repeat first | exact In.here | apply In.there | apply In.skip); eq_refl)
      | (apply G_cmpF; eq_refl; eq_refl; omega)
      | (apply G_len; eq_refl)
      | (apply G_alloc; eq_refl; intro _)
      | (apply G_stW; (first | exact wr_p | kernel_rfl); eq_refl; eq_refl; eq_refl; eq_refl; (repeat first | exact Upd.here | apply Upd.there | apply Upd.skip); eq_refl)
      | (apply G_new (fun b => .slice (some ⟨b, 0, none⟩) 5 5); eq_refl; (intro _; apply buildS24_5 <;> eq_refl); intro _))
  rename_i b17 b5
  have hT := R.bI
  have tl : (bT c).length = (c.max + 1).toNat := hT.mlen
  have bmx := R.b_max
  have hro := rows_ok R H.fits (h := h') (js := js')
  have hrl : (rowsOf c h' js').length = 5 + c.justice.length := by unfold rowsOf; rw [List.length_append, jps_len]; rfl
  have hnj := R.nJust
  have hcl : ∀ l : Int, inR c l → ∀ Γ, In Γ (.box b8 22 [.slice (some ⟨bm, 0, none⟩) (c.max + 1).toNat (c.max + 1).toNat]) → In Γ (.vec icell 1 3 (some ⟨bm, 0, none⟩) (c.max + 1).toNat (bT c)) → ∀ w', Mem w' Γ → CVN Try.prog 68 ([nu l] ++ (#[pt b8] : Array Value).toList) w' fun v N => N = [] ∧ v = nu (litX (bT c) l) := fun l hl Γ k1 k2 w' M' => by
    unfold inR at hl
    have k3 := hT.ok (l / 2) (by omega)
    unfold okM at k3
    rw [← gt_L] at k3
    exact litB_cv (k := (c.max + 1).toNat) (by rw [tl]; exact k1.ok M') (k2.row M') hl.1 (by omega) (by omega) ⟨k3.1, by have := k3.2; dsimp only at this; omega⟩
  rw [show [(h' 1, c.inputs), (h' 3, c.outputs), (h' 4, c.bads), (h' 5, c.constraints), (h' 7, c.fairness)] ++ jps c js' = rowsOf c h' js' from rfl]
  skip
  generalize hps : rowsOf c h' js' = ps at *
  have pl : (ps.map (rowF (bT c))).length = ps.length := List.length_map _
  refine GC_loopK [1, 2, 7, 8, 9, 17, 138, 139] (fun i : Nat => [(140, nu i)]) (fun i => [.any (bun (fam rowJ (mix (ps.map (rowF (bT c))) ps i))), .vec encS 1 22 A8 k8 ps, .vec tcells 3 83 (h' 2).1 (h' 2).2 c.latches, .vec encS 1 22 (h' 6).1 (h' 6).2 (jps c js'), .vec scells 3 110 (h' 9).1 (h' 9).2 c.symbols, .vec bcell 1 9 (h' 10).1 (h' 10).2 c.comments, .vec icell 1 3 (some ⟨bm, 0, none⟩) (c.max + 1).toNat (bT c), .any (bldX g S c.inputs.length c.latches.length (bG c)), .box b8 22 [.slice (some ⟨bm, 0, none⟩) (c.max + 1).toNat (c.max + 1).toNat], .box b17 29 (ccells c h'), .box b2 29 Zc, .box b1 29 (ccells c h), .old w none_]) (fun i => i ≤ ps.length) (fun i => ps.length - i) 0 (by repeat first | exact Pick.nil | (apply Pick.cons; eq_refl)) (by repeat first | exact trivial | refine ⟨rfl, ?_⟩) (by repeat first | exact Wk.nil | exact Wk.refl | (apply Wk.cons; (focus ((repeat first | exact Rem.here | apply Rem.there | apply Rem.skip); done))) | apply Wk.nilv | apply Wk.last | apply Wk.drop) (Nat.zero_le _) ?_
  intro i hi4
  rcases Nat.lt_or_ge i ps.length with hlt | hge4
  · obtain ⟨q1, q2⟩ := mix_rows (f := rowF (bT c)) hlt
    obtain ⟨ro1, ro2⟩ := hro _ (gt_mem (l := ps) (i := (i : Int)) (by omega) (by omega))
    rw [q1]
    generalize (ps.map (rowF (bT c))).take i = aa at *
    generalize ps.drop (i + 1) = dd at *
    generalize hx : gt ps (i : Int) = x at *
    obtain ⟨x1, ls⟩ := x
    dsimp only at ro1 ro2
    refine GC_wk .here (row_out aa dd (x1, ls)) ?_
    repeat' (first
      | (apply G_rd; eq_refl; (first | (apply Rd.own; (repeat first | exact In.here | apply In.there | apply In.skip); infer_instance) | (apply Rd.old; (repeat first | exact In.here | apply In.there | apply In.skip); assumption) | (apply Rd.oldR; (repeat first | exact In.here | apply In.there | apply In.skip); assumption) | exact Rd.nil | assumption); (case ih => infer_instance); omega; omega; (rw [hx]; dsimp only [encS]; eq_refl))
      | (apply GC_seqK; intro K hK)
      | (apply hK; clear hK K)
      | (apply GC_block)
      | (apply GC_region)
      | (apply GL_nil)
      | (apply thenG_normal)
      | (apply GC_skip)
      | (apply GC_if_true; eq_refl)
      | (apply GL_on; eq_refl; eq_refl)
      | (apply G_pv; eq_refl; first | exact trivial | omega)
      | (apply G_cmpT; eq_refl; eq_refl; omega)
      | (apply G_len; eq_refl)
      | (apply G_ix; eq_refl; eq_refl; (first | (apply Rd.own; (repeat first | exact In.here | apply In.there | apply In.skip); infer_instance) | (apply Rd.old; (repeat first | exact In.here | apply In.there | apply In.skip); assumption) | (apply Rd.oldR; (repeat first | exact In.here | apply In.there | apply In.skip); assumption) | exact Rd.nil | assumption); (first | eq_refl | omega); omega; omega))
    have lm : (ls.map (litX (bT c))).length = ls.length := List.length_map _
    refine GC_loopK [1, 2, 7, 8, 9, 17, 138, 139, 140, 19, 144, 145] (fun j : Nat => [(146, nu j)]) (fun j => [.vec icell 1 3 x1.1 x1.2 (mix (ls.map (litX (bT c))) ls j), .any (bun (fam rowJ (aa ++ dd))), .vec encS 1 22 A8 k8 ps, .vec tcells 3 83 (h' 2).1 (h' 2).2 c.latches, .vec encS 1 22 (h' 6).1 (h' 6).2 (jps c js'), .vec scells 3 110 (h' 9).1 (h' 9).2 c.symbols, .vec bcell 1 9 (h' 10).1 (h' 10).2 c.comments, .vec icell 1 3 (some ⟨bm, 0, none⟩) (c.max + 1).toNat (bT c), .any (bldX g S c.inputs.length c.latches.length (bG c)), .box b8 22 [.slice (some ⟨bm, 0, none⟩) (c.max + 1).toNat (c.max + 1).toNat], .box b17 29 (ccells c h'), .box b2 29 Zc, .box b1 29 (ccells c h), .old w none_]) (fun j => j ≤ ls.length) (fun j => ls.length - j) 0 (by repeat first | exact Pick.nil | (apply Pick.cons; eq_refl)) (by repeat first | exact trivial | refine ⟨rfl, ?_⟩) (by repeat first | exact Wk.nil | exact Wk.refl | (apply Wk.cons; (focus ((repeat first | exact Rem.here | apply Rem.there | apply Rem.skip); done))) | apply Wk.nilv | apply Wk.last | apply Wk.drop) (Nat.zero_le _) ?_
    intro j hj
    rcases Nat.lt_or_ge j ls.length with hjl | hjg
    · have f1 := mix_get (i := j) lm hjl
      have hin := ro1 _ (gt_mem (l := ls) (i := (j : Int)) (by omega) (by omega))
      have e5 : mix (ls.map (litX (bT c))) ls (j + 1) = (mix (ls.map (litX (bT c))) ls j).set (j : Int).toNat (litX (bT c) (gt ls (j : Int))) := (mix_step (by omega) lm (by rw [List.getElem_map, gt_nat hjl])).symm
      have e6 : (mix (ls.map (litX (bT c))) ls j).length = ls.length := mix_len lm
      rw [← f1] at e5 hin
      generalize mix (ls.map (litX (bT c))) ls j = ml at *
      repeat' (first
      | (apply G_callF; eq_refl; eq_refl; infer_instance; eq_refl; (apply hcl; (first | exact hin | exact hin1 | exact hin2); (repeat first | exact In.here | apply In.there | apply In.skip); (repeat first | exact In.here | apply In.there | apply In.skip)); rintro _ _ ⟨rfl, rfl⟩)
      | (apply GC_seqK; intro K hK)
      | (apply hK; clear hK K)
      | (apply GC_block)
      | (apply GC_region)
      | (apply GL_nil)
      | (apply thenG_normal)
      | (apply blockG_normal)
      | (apply GC_skip)
      | (apply GC_if_true; eq_refl)
      | (apply GL_on; eq_refl; eq_refl)
      | (apply G_pv; eq_refl; first | exact trivial | omega)
      | (apply G_rd; eq_refl; (first | (apply Rd.own; (repeat first | exact In.here | apply In.there | apply In.skip); infer_instance) | (apply Rd.old; (repeat first | exact In.here | apply In.there | apply In.skip); assumption) | (apply Rd.oldR; (repeat first | exact In.here | apply In.there | apply In.skip); assumption) | exact Rd.nil | assumption); (case ih => infer_instance); omega; omega; eq_refl)
      | (apply G_cmpT; eq_refl; eq_refl; omega)
      | (apply G_ix; eq_refl; eq_refl; (first | (apply Rd.own; (repeat first | exact In.here | apply In.there | apply In.skip); infer_instance) | (apply Rd.old; (repeat first | exact In.here | apply In.there | apply In.skip); assumption) | (apply Rd.oldR; (repeat first | exact In.here | apply In.there | apply In.skip); assumption) | exact Rd.nil | assumption); (first | eq_refl | omega); omega; omega)
      | (apply G_stV; (first | exact wr_p | kernel_rfl); eq_refl; eq_refl; eq_refl; eq_refl; (repeat first | exact Upd.here | apply Upd.there | apply Upd.skip); infer_instance; infer_instance; eq_refl; omega; (try simp only [List.length_set, List.length_append, List.length_replicate]); omega))
      refine ⟨j + 1, (by repeat first | exact trivial | refine ⟨rfl, ?_⟩), ?_, hjl, by omega⟩
      rw [e5]
      exact (by repeat first | exact Wk.nil | exact Wk.refl | (apply Wk.cons; (focus ((repeat first | exact Rem.here | apply Rem.there | apply Rem.skip); done))) | apply Wk.nilv | apply Wk.last | apply Wk.drop)
    obtain rfl : j = ls.length := by omega
    rw [show mix (ls.map (litX (bT c))) ls ls.length = ls.map (litX (bT c)) from mix_all (by omega) (Nat.le_refl _)]
    repeat' (first
      | (apply GC_seqK; intro K hK)
      | (apply hK; clear hK K)
      | (clear hK K; apply hK; clear hK K)
      | (apply GC_region)
      | (apply GL_nil)
      | (apply thenG_normal)
      | (apply thenG_exit)
      | (apply blockG_hit)
      | (apply blockG_normal)
      | (apply GC_exit)
      | (apply GC_if_false; eq_refl)
      | (apply GL_on; eq_refl; eq_refl)
      | (apply G_pv; eq_refl; first | exact trivial | omega)
      | (apply G_cmpF; eq_refl; eq_refl; omega))
    refine ⟨i + 1, (by repeat first | exact trivial | refine ⟨rfl, ?_⟩), ?_, hlt, by omega⟩
    rw [q2]
    exact Wk.part (C := [rowL (x1, ls.map (litX (bT c))), .any (bun (fam rowJ (aa ++ dd)))]) (by (repeat first | exact Rems.nil | (apply Rems.cons; (focus ((repeat first | exact Rem.here | apply Rem.there | apply Rem.skip); done))))) (row_in aa dd (x1, ls.map (litX (bT c)))) (by repeat first | exact Wk.nil | exact Wk.refl | (apply Wk.cons; (focus ((repeat first | exact Rem.here | apply Rem.there | apply Rem.skip); done))) | apply Wk.nilv | apply Wk.last | apply Wk.drop)
  obtain rfl : i = ps.length := by omega
  rw [show mix (ps.map (rowF (bT c))) ps ps.length = ps.map (rowF (bT c)) from mix_all (by omega) (Nat.le_refl _)]
  repeat' (first
      | (apply GC_seqK; intro K hK)
      | (apply hK; clear hK K)
      | (clear hK K; apply hK; clear hK K)
      | (apply GC_block)
      | (apply GC_region)
      | (apply GL_nil)
      | (apply thenG_normal)
      | (apply thenG_exit)
      | (apply blockG_hit)
      | (apply GC_exit)
      | (apply GC_if_false; eq_refl)
      | (apply GL_on; eq_refl; eq_refl)
      | (apply G_pv; eq_refl; first | exact trivial | omega)
      | (apply G_field; eq_refl)
      | (apply G_ld; eq_refl; (repeat first | exact In.here | apply In.there | apply In.skip); eq_refl)
      | (apply G_cmpF; eq_refl; eq_refl; omega)
      | (apply G_len; eq_refl))
  have kl : (c.latches.map (bLatch (bT c))).length = c.latches.length := List.length_map _
  refine GC_loopK [1, 2, 7, 8, 9, 17, 161, 162] (fun i : Nat => [(163, nu i)]) (fun i => [.vec tcells 3 83 (h' 2).1 (h' 2).2 (mix (c.latches.map (bLatch (bT c))) c.latches i), .any (bun (fam rowJ (ps.map (rowF (bT c))))), .vec encS 1 22 (h' 6).1 (h' 6).2 (jps c js'), .vec scells 3 110 (h' 9).1 (h' 9).2 c.symbols, .vec bcell 1 9 (h' 10).1 (h' 10).2 c.comments, .vec icell 1 3 (some ⟨bm, 0, none⟩) (c.max + 1).toNat (bT c), .any (bldX g S c.inputs.length c.latches.length (bG c)), .box b8 22 [.slice (some ⟨bm, 0, none⟩) (c.max + 1).toNat (c.max + 1).toNat], .box b17 29 (ccells c h'), .box b2 29 Zc, .box b1 29 (ccells c h), .old w none_]) (fun i => i ≤ c.latches.length) (fun i => c.latches.length - i) 0 (by repeat first | exact Pick.nil | (apply Pick.cons; eq_refl)) (by repeat first | exact trivial | refine ⟨rfl, ?_⟩) (by repeat first | exact Wk.nil | exact Wk.refl | (apply Wk.cons; (focus ((repeat first | exact Rem.here | apply Rem.there | apply Rem.skip); done))) | apply Wk.nilv | apply Wk.last | apply Wk.drop) (Nat.zero_le _) ?_
  intro i hi5
  rcases Nat.lt_or_ge i c.latches.length with hlt | hge5
  · have hm := gt_mem (l := c.latches) (i := (i : Int)) (by omega) (by omega)
    obtain ⟨g1, hin1, g3⟩ := R.lat hm
    have hin0 := g1.in
    have hin2 : inR c (gt c.latches (i : Int)).2.2 := by
      unfold inR at hin0 ⊢
      rcases g3 with g3 | g3 | g3 <;> omega
    have e5 : mix (c.latches.map (bLatch (bT c))) c.latches (i + 1) = (mix (c.latches.map (bLatch (bT c))) c.latches i).set (i : Int).toNat (bLatch (bT c) (gt c.latches (i : Int))) := (mix_step (by omega) kl (by rw [List.getElem_map, gt_nat hlt])).symm
    have e6 : (mix (c.latches.map (bLatch (bT c))) c.latches i).length = c.latches.length := mix_len kl
    generalize mix (c.latches.map (bLatch (bT c))) c.latches i = ml at *
    by_cases hr : 1 < (gt c.latches (i : Int)).2.2
    · have e9 : tcells (bLatch (bT c) (gt c.latches (i : Int))) = [nu (litX (bT c) (gt c.latches (i : Int)).1), nu (litX (bT c) (gt c.latches (i : Int)).2.1), nu (litX (bT c) (gt c.latches (i : Int)).2.2)] := by
        unfold bLatch tcells
        rw [if_pos hr]
      repeat' (first
      | (apply G_callF; eq_refl; eq_refl; infer_instance; eq_refl; (apply hcl; (first | exact hin0 | exact hin1 | exact hin2); (repeat first | exact In.here | apply In.there | apply In.skip); (repeat first | exact In.here | apply In.there | apply In.skip)); rintro _ _ ⟨rfl, rfl⟩)
      | (apply G_stVW (bLatch (bT c) (gt c.latches (i : Int))); (first | exact wr_p | kernel_rfl); eq_refl; eq_refl; exact e9.symm; (repeat first | exact Upd.here | apply Upd.there | apply Upd.skip); infer_instance; omega; omega)
      | (apply GC_seqK; intro K hK)
      | (apply hK; clear hK K)
      | (apply GC_block)
      | (apply GC_region)
      | (apply GL_nil)
      | (apply thenG_normal)
      | (apply blockG_normal)
      | (apply GC_skip)
      | (apply GC_if_true; eq_refl)
      | (apply GL_on; eq_refl; eq_refl)
      | (refine GC_draws (id := 42) [.q 0, .q 1, .q 2, .q 3, .q 4, .q 5, .q 7, .q 8, .q 9, .q 11, .q 12, .c 6, .c 10, .q 13, .q 14, .c 15] mixed (by kernel_rfl) (by kernel_rfl) ?_)
      | (apply GS_nil)
      | (apply GS_qon; eq_refl; eq_refl; eq_refl; eq_refl)
      | (apply GS_con; eq_refl; eq_refl; eq_refl; eq_refl)
      | (apply G_pv; eq_refl; first | exact trivial | omega)
      | (apply G_field; eq_refl)
      | (apply G_ld; eq_refl; (repeat first | exact In.here | apply In.there | apply In.skip); eq_refl)
      | (apply G_rdW; eq_refl; (first | (apply Rd.own; (repeat first | exact In.here | apply In.there | apply In.skip); infer_instance) | (apply Rd.old; (repeat first | exact In.here | apply In.there | apply In.skip); assumption) | (apply Rd.oldR; (repeat first | exact In.here | apply In.there | apply In.skip); assumption) | exact Rd.nil | assumption); infer_instance; (case ih => infer_instance); omega; omega)
      | (apply G_cmpT; eq_refl; eq_refl; omega)
      | (apply G_ix; eq_refl; eq_refl; (first | (apply Rd.own; (repeat first | exact In.here | apply In.there | apply In.skip); infer_instance) | (apply Rd.old; (repeat first | exact In.here | apply In.there | apply In.skip); assumption) | (apply Rd.oldR; (repeat first | exact In.here | apply In.there | apply In.skip); assumption) | exact Rd.nil | assumption); (first | eq_refl | omega); omega; omega)
      | (apply G_alloc; eq_refl; intro _)
      | (apply G_st; (first | exact wr_p | kernel_rfl); eq_refl; eq_refl; eq_refl; eq_refl; (repeat first | exact Upd.here | apply Upd.there | apply Upd.skip); (first | decide | exact Nat.le_of_ble_eq_true rfl))
      | (apply G_stW; (first | exact wr_p | kernel_rfl); eq_refl; eq_refl; eq_refl; eq_refl; (repeat first | exact Upd.here | apply Upd.there | apply Upd.skip); eq_refl)
      | (apply GX_pure; apply build83_0_1_2 <;> eq_refl))
      refine ⟨i + 1, (by repeat first | exact trivial | refine ⟨rfl, ?_⟩), ?_, hlt, by omega⟩
      rw [e5]
      exact (by repeat first | exact Wk.nil | exact Wk.refl | (apply Wk.cons; (focus ((repeat first | exact Rem.here | apply Rem.there | apply Rem.skip); done))) | apply Wk.nilv | apply Wk.last | apply Wk.drop)
    · have e9 : tcells (bLatch (bT c) (gt c.latches (i : Int))) = [nu (litX (bT c) (gt c.latches (i : Int)).1), nu (litX (bT c) (gt c.latches (i : Int)).2.1), nu (gt c.latches (i : Int)).2.2] := by
        unfold bLatch tcells
        rw [if_neg hr]
      repeat' (first
      | (apply G_callF; eq_refl; eq_refl; infer_instance; eq_refl; (apply hcl; (first | exact hin0 | exact hin1 | exact hin2); (repeat first | exact In.here | apply In.there | apply In.skip); (repeat first | exact In.here | apply In.there | apply In.skip)); rintro _ _ ⟨rfl, rfl⟩)
      | (apply G_stVW (bLatch (bT c) (gt c.latches (i : Int))); (first | exact wr_p | kernel_rfl); eq_refl; eq_refl; exact e9.symm; (repeat first | exact Upd.here | apply Upd.there | apply Upd.skip); infer_instance; omega; omega)
      | (apply GC_seqK; intro K hK)
      | (apply hK; clear hK K)
      | (apply GC_block)
      | (apply GC_region)
      | (apply GL_nil)
      | (apply thenG_normal)
      | (apply blockG_normal)
      | (apply GC_skip)
      | (apply GC_if_true; eq_refl)
      | (apply GC_if_false; eq_refl)
      | (apply GL_on; eq_refl; eq_refl)
      | (refine GC_draws (id := 42) [.q 0, .q 1, .q 2, .q 3, .q 4, .q 5, .q 7, .q 8, .q 9, .q 11, .q 12, .c 6, .c 10, .q 13, .q 14, .c 15] mixed (by kernel_rfl) (by kernel_rfl) ?_)
      | (apply GS_nil)
      | (apply GS_qon; eq_refl; eq_refl; eq_refl; eq_refl)
      | (apply GS_con; eq_refl; eq_refl; eq_refl; eq_refl)
      | (apply G_pv; eq_refl; first | exact trivial | omega)
      | (apply G_field; eq_refl)
      | (apply G_ld; eq_refl; (repeat first | exact In.here | apply In.there | apply In.skip); eq_refl)
      | (apply G_rdW; eq_refl; (first | (apply Rd.own; (repeat first | exact In.here | apply In.there | apply In.skip); infer_instance) | (apply Rd.old; (repeat first | exact In.here | apply In.there | apply In.skip); assumption) | (apply Rd.oldR; (repeat first | exact In.here | apply In.there | apply In.skip); assumption) | exact Rd.nil | assumption); infer_instance; (case ih => infer_instance); omega; omega)
      | (apply G_cmpT; eq_refl; eq_refl; omega)
      | (apply G_cmpF; eq_refl; eq_refl; omega)
      | (apply G_ix; eq_refl; eq_refl; (first | (apply Rd.own; (repeat first | exact In.here | apply In.there | apply In.skip); infer_instance) | (apply Rd.old; (repeat first | exact In.here | apply In.there | apply In.skip); assumption) | (apply Rd.oldR; (repeat first | exact In.here | apply In.there | apply In.skip); assumption) | exact Rd.nil | assumption); (first | eq_refl | omega); omega; omega)
      | (apply G_alloc; eq_refl; intro _)
      | (apply G_stW; (first | exact wr_p | kernel_rfl); eq_refl; eq_refl; eq_refl; eq_refl; (repeat first | exact Upd.here | apply Upd.there | apply Upd.skip); eq_refl)
      | (apply GX_pure; apply build83_0_1_2 <;> eq_refl))
      refine ⟨i + 1, (by repeat first | exact trivial | refine ⟨rfl, ?_⟩), ?_, hlt, by omega⟩
      rw [e5]
      exact (by repeat first | exact Wk.nil | exact Wk.refl | (apply Wk.cons; (focus ((repeat first | exact Rem.here | apply Rem.there | apply Rem.skip); done))) | apply Wk.nilv | apply Wk.last | apply Wk.drop)
  obtain rfl : i = c.latches.length := by omega
  rw [show mix (c.latches.map (bLatch (bT c))) c.latches c.latches.length = c.latches.map (bLatch (bT c)) from mix_all (by omega) (Nat.le_refl _)]
  refine GC_bld (by repeat first | exact Rem.here | apply Rem.there) ?_
  intro AB cB mB
  have hgr : ∀ Γ, In Γ (.box g 101 [num c.inputs.length, num c.latches.length, .slice AB (bG c).length cB, .map (some mB)]) → ∀ w', Mem w' Γ → CVN Try.prog 71 [ptr g] w' fun v N => N = [] ∧ v = num (nB c + (bG c).length) := fun Γ hi w' M => greatestG (hi.ok M) (by omega) (by omega) (by unfold nB at bmx; omega)
  repeat' (first
      | (apply G_call; eq_refl; eq_refl; (apply hgr; (repeat first | exact In.here | apply In.there | apply In.skip)); rintro _ _ ⟨rfl, rfl⟩)
      | (apply GC_drawsP (id := 44) (C := [.box b17 29 (ccells c h')]) [.q 0, .q 2, .q 3, .q 4, .q 5, .c 1, .q 6, .c 7, .q 8, .c 9]; exact mixed; kernel_rfl; kernel_rfl; (repeat first | exact Rems.nil | (apply Rems.cons; (focus ((repeat first | exact Rem.here | apply Rem.there | apply Rem.skip); done)))))
      | (apply GS_nilP)
      | (apply G_stBP; eq_refl; eq_refl; eq_refl; eq_refl; (repeat first | exact Upd.here | apply Upd.there | apply Upd.skip); exact Nat.le_of_ble_eq_true rfl)
      | (apply GC_drawsP (id := 45) (C := [.box b2 29 Zc]) [.q 0, .q 1, .c 2, .q 3, .q 4]; exact mixed; kernel_rfl; kernel_rfl; (repeat first | exact Rems.nil | (apply Rems.cons; (focus ((repeat first | exact Rem.here | apply Rem.there | apply Rem.skip); done)))))
      | (apply G_stWP; eq_refl; eq_refl; eq_refl; eq_refl; (repeat first | exact Upd.here | apply Upd.there | apply Upd.skip); eq_refl)
      | (apply GC_seqK; intro K hK)
      | (apply hK; clear hK K)
      | (clear hK K; apply hK; clear hK K)
      | (apply GC_region)
      | (apply GL_nil)
      | (apply thenG_normal)
      | (apply thenG_exit)
      | (apply blockG_hit)
      | (apply GC_ret)
      | (apply GC_exit)
      | (apply GC_if_false; eq_refl)
      | (apply retGC2; eq_refl; (repeat first | exact In.here | apply In.there | apply In.skip); eq_refl; eq_refl; eq_refl)
      | (apply GL_on; eq_refl; eq_refl)
      | (apply GS_qon; eq_refl; eq_refl; eq_refl; eq_refl)
      | (apply GS_con; eq_refl; eq_refl; eq_refl; eq_refl)
      | (apply G_pv; eq_refl; first | exact trivial | omega)
      | (apply G_field; eq_refl)
      | (apply G_ld; eq_refl; (repeat first | exact In.here | apply In.there | apply In.skip); eq_refl)
      | (apply G_ldW; eq_refl; (repeat first | exact In.here | apply In.there | apply In.skip); eq_refl)
      | (apply G_cmpF; eq_refl; eq_refl; omega))
  have hcells : ((ccells c h').set (0 + 0) (num (nB c + (bG c).length))).set (0 + 8) (.slice AB (bG c).length cB) = ccells (bC c) (hd8 h' AB cB) := by simp [ccells, bC, hd8]
  rw [hcells]
  have hW := built_wk (c := c) (h := h') (js := js') (A := AB) (k := cB)
  rw [hps] at hW
  refine ⟨[.any (cirX 0 (bC c) (hd8 h' AB cB) js'), .vec icell 1 3 (some ⟨bm, 0, none⟩) (c.max + 1).toNat (bT c)], ?_, _, js', _, _, by rw [tl], rfl⟩
  exact Wk.part (D := [.any (cirX 0 (bC c) (hd8 h' AB cB) js')]) (Γ' := [.vec icell 1 3 (some ⟨bm, 0, none⟩) (c.max + 1).toNat (bT c), .old w none_]) (C := [.vec encS 1 22 (h' 6).1 (h' 6).2 (jps c js'), .any (bun (fam rowJ (ps.map (rowF (bT c))))), .vec tcells 3 83 (h' 2).1 (h' 2).2 (c.latches.map (bLatch (bT c))), .vec tcells 3 57 AB cB (bG c), .vec scells 3 110 (h' 9).1 (h' 9).2 c.symbols, .vec bcell 1 9 (h' 10).1 (h' 10).2 c.comments]) (by (repeat first | exact Rems.nil | (apply Rems.cons; (focus ((repeat first | exact Rem.here | apply Rem.there | apply Rem.skip); done))))) hW (by repeat first | exact Wk.nil | exact Wk.refl | (apply Wk.cons; (focus ((repeat first | exact Rem.here | apply Rem.there | apply Rem.skip); done))) | apply Wk.nilv | apply Wk.last | apply Wk.drop)
end SC
end Go.Proofs.Yticndofcfacopaa
end
section
/- trestlelaw09: works, by entries. -/
set_option linter.unusedVariables false
set_option linter.unusedSimpArgs false
namespace Go.Proofs.Yticndofcfacopaa
namespace SC
open Go.Proofs
theorem AndG {w : World} {g : Nat} {S : Nat → Prop} {i l : Int} {gs : List Gate} {x y : Int} (hi : 0 ≤ i) (hl : 0 ≤ l) (G : Gs (i + l) gs) (hn : i + l + gs.length ≤ 16384) (hx : okM (i + l) gs x) (hy : okM (i + l) gs y) (M : Mem w [.any (bldX g S i l gs)]) :
    CVM Try.prog 79 [ptr g, num x, num y] w [.any (bldX g S i l gs)] (BldR g i l (andM (i + l) gs x y)) := by
  have := And_cv (x := x) (y := y) (M.head : Bld w g S i l gs) hi hl (G.inv hn)
  rw [AndM_ok hx hy] at this
  exact After.cvm this
attribute [local irreducible] WC WL WX WS WO OX Does DoesU Enters CV Pure thenQ blockQ retQ Wants retQC GC GL GS GX RdB thenG blockG retG Rd At gt CVN CVM
set_option maxRecDepth 100000
theorem works09_cv {w : World} : CVN Try.prog 38 [] w fun v N => N = [] ∧ v = .bool true := by
  have G0 : Gs 2 [] := Gs.nil (by decide)
  have M1 := andM_made (x := 4) (y := 2) G0 (by unfold okM; decide) (by unfold okM; decide) (by decide)
  have e1 : andM 2 [] 4 2 = (6, 0, [(6, 4, 2)]) := by decide
  rw [e1] at M1
  have G1 : Gs 2 [(6, 4, 2)] := M1.good
  have M2 := xorM_made (x := 2) (y := 4) G1 (by unfold okM; decide) (by unfold okM; decide) (by decide)
  have e2 : xorM 2 [(6, 4, 2)] 2 4 = (10, 0, [(6, 4, 2), (8, 5, 3), (10, 9, 7)]) := by decide
  rw [e2] at M2
  have G2 : Gs 2 [(6, 4, 2), (8, 5, 3), (10, 9, 7)] := M2.good
  have e3 : orM 2 [(6, 4, 2), (8, 5, 3), (10, 9, 7)] 2 4 = (9, 0, [(6, 4, 2), (8, 5, 3), (10, 9, 7)]) := by decide
  have hN : ∀ w', CVN Try.prog 39 [nu 2, nu 0] w' _ := fun w' => NewG (by unfold newBad; decide)
  have hA : ∀ g S w', Mem w' [.any (bldX g S 2 0 [])] → CVM Try.prog 79 [ptr g, nu 4, nu 2] w' [.any (bldX g S 2 0 [])] (BldR g 2 0 (6, 0, [(6, 4, 2)])) := fun g S w' M => by
    have := AndG (x := 4) (y := 2) (by decide) (by decide) G0 (by decide) (by unfold okM; decide) (by unfold okM; decide) M
    rwa [show (2 : Int) + 0 = 2 from rfl, e1] at this
  have hX : ∀ g S w', Mem w' [.any (bldX g S 2 0 [(6, 4, 2)])] → CVM Try.prog 41 [ptr g, nu 2, nu 4] w' [.any (bldX g S 2 0 [(6, 4, 2)])] (BldR g 2 0 (10, 0, [(6, 4, 2), (8, 5, 3), (10, 9, 7)])) := fun g S w' M => by
    have := XorG (x := 2) (y := 4) (by decide) (by decide) G1 (by decide) (by unfold okM; decide) (by unfold okM; decide) M
    rwa [show (2 : Int) + 0 = 2 from rfl, e2] at this
  have hO : ∀ g S w', Mem w' [.any (bldX g S 2 0 [(6, 4, 2), (8, 5, 3), (10, 9, 7)])] → CVM Try.prog 40 [ptr g, nu 2, nu 4] w' [.any (bldX g S 2 0 [(6, 4, 2), (8, 5, 3), (10, 9, 7)])] (BldR g 2 0 (9, 0, [(6, 4, 2), (8, 5, 3), (10, 9, 7)])) := fun g S w' M => by
    have := OrG (x := 2) (y := 4) (by decide) (by decide) G2 (by decide) (by unfold okM; decide) (by unfold okM; decide) M
    rwa [show (2 : Int) + 0 = 2 from rfl, e3] at this
  have hS : ∀ Γ g S, In Γ (.any (bldX g S 2 0 [(6, 4, 2), (8, 5, 3), (10, 9, 7)])) → ∀ w', Mem w' Γ → CVN Try.prog 43 [ptr g] w' fun v N => N = [] ∧ v = nu 3 := fun Γ g S hi w' M => SizeG hi M
  refine CVN.enter 61 [0] Try.func38 rfl rfl rfl (by decide) rfl ?_
  repeat' (first
      | (simp only [Option.isNone_some])
      | (apply G_call; eq_refl; eq_refl; (exact fun w' _ => hN w'); rintro _ _ ⟨g, S, rfl, rfl⟩)
      | (apply G_callM2; exact wr_p; eq_refl; (exact hA g S); (repeat first | exact Rems.nil | (apply Rems.cons; (focus ((repeat first | exact Rem.here | apply Rem.there | apply Rem.skip); done)))); rintro _ _ ⟨rfl, S1, rfl⟩)
      | (apply G_callM2; exact wr_p; eq_refl; (exact hX g S1); (repeat first | exact Rems.nil | (apply Rems.cons; (focus ((repeat first | exact Rem.here | apply Rem.there | apply Rem.skip); done)))); rintro _ _ ⟨rfl, S2, rfl⟩)
      | (apply G_callM2; exact wr_p; eq_refl; (exact hO g S2); (repeat first | exact Rems.nil | (apply Rems.cons; (focus ((repeat first | exact Rem.here | apply Rem.there | apply Rem.skip); done)))); rintro _ _ ⟨rfl, S3, rfl⟩)
      | (apply G_call; eq_refl; eq_refl; (apply hS; (repeat first | exact In.here | apply In.there | apply In.skip)); rintro _ _ ⟨rfl, rfl⟩)
      | (apply GC_seqK; intro K hK)
      | (apply hK; clear hK K)
      | (clear hK K; apply hK; clear hK K)
      | (clear hK K; clear hK K; apply hK; clear hK K)
      | (clear hK K; clear hK K; clear hK K; apply hK; clear hK K)
      | (apply GC_block)
      | (apply GC_region)
      | (apply GL_nil)
      | (apply thenG_normal)
      | (apply thenG_ret)
      | (apply thenG_exit)
      | (apply blockG_hit)
      | (apply blockG_miss; eq_refl)
      | (apply blockG_ret)
      | (apply blockG_normal)
      | (apply GC_ret)
      | (apply GC_exit)
      | (apply GC_skip)
      | (apply GC_if_true; eq_refl)
      | (apply GC_if_false; eq_refl)
      | (apply GC_ifD; eq_refl; all_goals intro _)
      | (apply GC_if; eq_refl; all_goals intro _)
      | (apply retG1; eq_refl)
      | (apply retG2; eq_refl; eq_refl)
      | (apply retG3; eq_refl; eq_refl; eq_refl)
      | (apply retG0)
      | (apply retG0n)
      | (apply GL_on; eq_refl; eq_refl)
      | (apply GL_off; eq_refl; eq_refl)
      | (apply GL_offU; eq_refl; eq_refl; eq_refl)
      | (apply GL_split; eq_refl; eq_refl; all_goals intro _)
      | (apply G_pv; eq_refl; first | exact trivial | omega)
      | (apply G_cmpT; eq_refl; eq_refl; omega)
      | (apply G_cmpF; eq_refl; eq_refl; omega)
      | (apply G_cmp; eq_refl; eq_refl; all_goals intro _)
      | (apply G_eqB; eq_refl; eq_refl)
      | (apply G_neqB; eq_refl; eq_refl)
      | (apply G_eqP; eq_refl; eq_refl)
      | (apply G_eqL; eq_refl; eq_refl)
      | (apply G_pickAnd; eq_refl; eq_refl)
      | (apply G_pickOr; eq_refl; eq_refl))
  exact ⟨[], (by repeat first | exact Wk.nil | exact Wk.refl | (apply Wk.cons; (focus ((repeat first | exact Rem.here | apply Rem.there | apply Rem.skip); done))) | apply Wk.nilv | apply Wk.last | apply Wk.drop), rfl, by first | trivial | rfl⟩
end SC
end Go.Proofs.Yticndofcfacopaa
end
section
/- trestlelaw09: HashSettles: the walk. -/
set_option linter.unusedVariables false
set_option linter.unusedSimpArgs false
namespace Go.Proofs.Yticndofcfacopaa
namespace SC
open Go.Proofs
theorem In.cirB {Γ : Mm} {w w0 : World} {base : Nat} {c : Circ} {h js h' js' : Hd} (H : CirIn w0 c h js) (he : (lookM c).2 = 0) (hi : In Γ (.any (cirX base (bC c) h' js'))) (M : Mem w Γ) : CirIn w (bC c) h' js' := by
  have R := right_of H.at_ H.sane he
  exact ⟨CirOwn.at (hi.ok M), R.b_sane H.sane, R.b_okay H.okay, R.b_fits H.fits⟩
theorem Rd.cirA {Γ : Mm} {base : Nat} {c : Circ} {h js : Hd} (hi : In Γ (.any (cirX base c h js))) : Rd Γ tcells 3 (h 8).1 c.ands := fun w M => (hi.cirAt M).ands
theorem sameCirG {w : World} {c : Circ} {h k js ks : Hd} (H : CirAt w c h js) (H' : CirAt w c k ks) (hc : c.Okay) : CVN Try.prog 49 [.agg (ccells c h).toArray, .agg (ccells c k).toArray] w fun v N => N = [] ∧ v = .bool true :=
  CVN.of (Same_cv H H' hc hc) fun v w' ⟨b, e1, e2, e3⟩ => ⟨e3, by rw [e1, e2.2 rfl]⟩
theorem b_gs {c : Circ} (R : Right c) : Gs (nB (bC c)) (bC c).ands := by
  have e : nB (bC c) = nB c := by
    unfold nB
    rw [show (bC c).inputs.length = c.inputs.length from List.length_map _, show (bC c).latches.length = c.latches.length from List.length_map _]
  rw [e]
  exact R.bI.gs
attribute [local irreducible] WC WL WX WS WO OX Does DoesU Enters CV Pure thenQ blockQ retQ Wants retQC GC GL GS GX RdB thenG blockG retG Rd At gt CVN CVM
attribute [local irreducible] bldX cirX fam
set_option maxRecDepth 100000
theorem build_no {w : World} {c : Circ} {h js : Hd} (H : CirIn w c h js) (he : (lookM c).2 ≠ 0) : CVN Try.prog 32 [.agg (ccells c h).toArray] w fun v N => v = .tuple #[.agg Zc.toArray, .slice none 0 0, nu (lookM c).2] ∧ N = [] := by
  have hord : ∀ Γ, In Γ (.old w none_) → ∀ w', Mem w' Γ → CVN Try.prog 61 [.agg (ccells c h).toArray] w' (OrdR c) := fun Γ hi w' M => OrderG (H.at_.chg (hi.old M)) H.sane
  refine CVN.enterC (t := 29) 202 2 [3, 4] Try.func32 rfl rfl rfl (.inr rfl) rfl ?_
  repeat' (first
      | (apply G_call; eq_refl; eq_refl; (apply hord; (repeat first | exact In.here | apply In.there | apply In.skip)); rintro _ _ (⟨_, rfl, rfl⟩ | ⟨he', A1, k1, rfl, rfl⟩); rotate_left; (exact absurd he' he))
      | (apply GC_seqK; intro K hK)
      | (apply hK; clear hK K)
      | (apply GC_region)
      | (apply GL_nil)
      | (apply thenG_normal)
      | (apply thenG_ret)
      | (apply GC_ret)
      | (apply GC_if_true; eq_refl)
      | (apply retGC2; eq_refl; (repeat first | exact In.here | apply In.there | apply In.skip); eq_refl; eq_refl; eq_refl)
      | (apply GL_on; eq_refl; eq_refl)
      | (apply G_pv; eq_refl; first | exact trivial | omega)
      | (apply G_ldW; eq_refl; (repeat first | exact In.here | apply In.there | apply In.skip); eq_refl)
      | (apply G_cmpT; eq_refl; eq_refl; omega)
      | (apply G_alloc; eq_refl; intro _)
      | (apply G_box; eq_refl; eq_refl; intro _)
      | (apply G_stW; (first | exact wr_p | kernel_rfl); eq_refl; eq_refl; eq_refl; eq_refl; (repeat first | exact Upd.here | apply Upd.there | apply Upd.skip); eq_refl)
      | (apply GX_pure; apply build29_))
  exact ⟨[], (by repeat first | exact Wk.nil | exact Wk.refl | (apply Wk.cons; (focus ((repeat first | exact Rem.here | apply Rem.there | apply Rem.skip); done))) | apply Wk.nilv | apply Wk.last | apply Wk.drop), rfl, rfl⟩
set_option maxHeartbeats 1600000 in
theorem hashSettles_cv {w : World} {c : Circ} {h js : Hd} (H : CirIn w c h js) : CVN Try.prog 11 [.agg (ccells c h).toArray] w fun v N => N = [] ∧ v = .bool true := by
  have hW : ∀ w', CVN Try.prog 38 [] w' _ := fun w' => works09_cv
  refine CVN.enter 116 [2] Try.func11 rfl rfl rfl (by decide) rfl ?_
  by_cases he : (lookM c).2 = 0
  · have R := right_of H.at_ H.sane he
    have Q := R.b_seq he
    have G := b_gs R
    have he2 : (lookM (bC c)).2 = 0 := by rw [Q.look]
    have hB : ∀ Γ, In Γ (.old w none_) → ∀ w', Mem w' Γ → CVN Try.prog 32 [.agg (ccells c h).toArray] w' _ := fun Γ hi w' M => build_ok (H.chg (hi.old M)) he
    have hB2 : ∀ Γ h1 js1, In Γ (.any (cirX 0 (bC c) h1 js1)) → ∀ w', Mem w' Γ → CVN Try.prog 32 [.agg (ccells (bC c) h1).toArray] w' fun v N => ∃ h' js' A k n, v = .tuple #[.agg (ccells (bC c) h').toArray, .slice A n k, nu 0] ∧ N = [.any (cirX 0 (bC c) h' js')] := fun Γ h1 js1 hi w' M => (build_ok (In.cirB H he hi M) he2).wk fun v N ⟨h', js', A, k, e1, e2⟩ => by
      rw [fix_build Q G] at e1 e2
      subst e2
      exact ⟨_, Wk.one, h', js', A, k, _, e1, rfl⟩
    have hI : ∀ Γ h1 js1, In Γ (.any (cirX 0 (bC c) h1 js1)) → ∀ w', Mem w' Γ → CVN Try.prog 48 [.agg (ccells (bC c) h1).toArray] w' fun v N => N = [] ∧ v = .tuple #[.bool true, nu 0] := fun Γ h1 js1 hi w' M => (isBinary_cv (In.cirB H he hi M)).mono fun v N hv => by
      rw [he2, (isBin_iff he2).2 (fix_bin Q G)] at hv
      exact hv
    have hS : ∀ Γ h1 js1 h2 js2, In Γ (.any (cirX 0 (bC c) h1 js1)) → In Γ (.any (cirX 0 (bC c) h2 js2)) → ∀ w', Mem w' Γ → CVN Try.prog 49 [.agg (ccells (bC c) h1).toArray, .agg (ccells (bC c) h2).toArray] w' fun v N => N = [] ∧ v = .bool true := fun Γ h1 js1 h2 js2 h3 h4 w' M => sameCirG (h3.cirAt M) (h4.cirAt M) (R.b_okay H.okay)
    have hle : (bC c).ands.length ≤ c.ands.length := R.bG_len
    have hna := R.nAnd
    have hlow : ∀ k : Nat, k < (bC c).ands.length → 2 ≤ (gt (bC c).ands (k : Int)).2.2 ∧ (gt (bC c).ands (k : Int)).2.2 / 2 ≠ (gt (bC c).ands (k : Int)).2.1 / 2 ∧ (gt (bC c).ands (k : Int)).2.2 < (gt (bC c).ands (k : Int)).2.1 ∧ (gt (bC c).ands (k : Int)).2.1 ≤ 100000 := fun k hk => by
      have g1 := G.low k hk
      have g2 := G.out k hk
      have g3 := Q.max
      have g4 := Q.m1
      rw [gt_nat hk]
      unfold nB at g2
      omega
    have hone : ∀ j k : Nat, j < (bC c).ands.length → k < j → ¬ ((gt (bC c).ands (k : Int)).2.1 = (gt (bC c).ands (j : Int)).2.1 ∧ (gt (bC c).ands (k : Int)).2.2 = (gt (bC c).ands (j : Int)).2.2) := fun j k hj hk ⟨e1, e2⟩ => by
      rw [gt_nat hj, gt_nat (show k < (bC c).ands.length by omega)] at e1 e2
      have := G.one k j (by omega) hj (Prod.ext e1 e2)
      omega
    clear Q G he2
    generalize bT c = T at *
    generalize bC c = x at *
    repeat' (first
      | (apply G_call; eq_refl; eq_refl; (exact fun w' _ => hW w'); rintro _ _ ⟨rfl, rfl⟩)
      | (apply G_call; eq_refl; eq_refl; (apply hB; (repeat first | exact In.here | apply In.there | apply In.skip)); rintro _ _ ⟨h1, js1, A1, k1, rfl, rfl⟩)
      | (apply G_call; eq_refl; eq_refl; (apply hB2; (repeat first | exact In.here | apply In.there | apply In.skip)); rintro _ _ ⟨h2, js2, A2, k2, n2, rfl, rfl⟩)
      | (apply G_call; eq_refl; eq_refl; (apply hI; (repeat first | exact In.here | apply In.there | apply In.skip)); rintro _ _ ⟨rfl, rfl⟩)
      | (apply G_call; eq_refl; eq_refl; (apply hS; (repeat first | exact In.here | apply In.there | apply In.skip); (repeat first | exact In.here | apply In.there | apply In.skip)); rintro _ _ ⟨rfl, rfl⟩)
      | (apply GC_seqK; intro K hK)
      | (apply hK; clear hK K)
      | (apply GC_block)
      | (apply GC_region)
      | (apply GL_nil)
      | (apply thenG_normal)
      | (apply GC_skip)
      | (apply GC_if_false; eq_refl)
      | (apply GL_on; eq_refl; eq_refl)
      | (apply G_pv; eq_refl; first | exact trivial | omega)
      | (apply G_field; eq_refl)
      | (apply G_ld; eq_refl; (repeat first | exact In.here | apply In.there | apply In.skip); eq_refl)
      | (apply G_ldW; eq_refl; (repeat first | exact In.here | apply In.there | apply In.skip); eq_refl)
      | (apply G_cmpF; eq_refl; eq_refl; omega)
      | (apply G_len; eq_refl)
      | (apply G_alloc; eq_refl; intro _)
      | (apply G_box; eq_refl; eq_refl; intro _)
      | (apply G_stW; (first | exact wr_p | kernel_rfl); eq_refl; eq_refl; eq_refl; eq_refl; (repeat first | exact Upd.here | apply Upd.there | apply Upd.skip); eq_refl))
    rename_i b1 b3 b6
    refine GC_loopK [1, 3, 65, 66] (fun i : Nat => [(67, nu i)]) (fun i => [.any (cirX 0 x h1 js1), .box b3 29 (ccells x h1), .box b1 29 (ccells c h), .old w none_]) (fun i => i ≤ x.ands.length) (fun i => x.ands.length - i) 0 (by repeat first | exact Pick.nil | (apply Pick.cons; eq_refl)) (by repeat first | exact trivial | refine ⟨rfl, ?_⟩) (by repeat first | exact Wk.nil | exact Wk.refl | (apply Wk.cons; (focus ((repeat first | exact Rem.here | apply Rem.there | apply Rem.skip); done))) | apply Wk.nilv | apply Wk.last | apply Wk.drop) (Nat.zero_le _) ?_
    intro i hi
    rcases Nat.lt_or_ge i x.ands.length with hlt | hge
    · obtain ⟨l1, l2, l3, l4⟩ := hlow i hlt
      repeat' (first
      | (apply G_rdW; eq_refl; (apply Rd.cirA; (repeat first | exact In.here | apply In.there | apply In.skip)); infer_instance; (case ih => infer_instance); omega; omega)
      | (apply G_ix; eq_refl; eq_refl; (apply Rd.cirA; (repeat first | exact In.here | apply In.there | apply In.skip)); (first | eq_refl | omega); omega; omega)
      | (apply GC_seqK; intro K hK)
      | (apply hK; clear hK K)
      | (apply GC_block)
      | (apply GC_region)
      | (apply GL_nil)
      | (apply thenG_normal)
      | (apply GC_skip)
      | (apply GC_if_true; eq_refl)
      | (apply GC_if_false; eq_refl)
      | (apply GL_on; eq_refl; eq_refl)
      | (apply G_pv; eq_refl; first | exact trivial | omega)
      | (apply G_field; eq_refl)
      | (apply G_ld; eq_refl; (repeat first | exact In.here | apply In.there | apply In.skip); eq_refl)
      | (apply G_cmpT; eq_refl; eq_refl; omega)
      | (apply G_cmpF; eq_refl; eq_refl; omega)
      | (apply G_alloc; eq_refl; intro _)
      | (apply G_stW; (first | exact wr_p | kernel_rfl); eq_refl; eq_refl; eq_refl; eq_refl; (repeat first | exact Upd.here | apply Upd.there | apply Upd.skip); eq_refl))
      rename_i b12
      refine GC_loopK [1, 3, 11, 12, 65, 66, 67] (fun k : Nat => [(13, nu k)]) (fun k => [.box b12 57 (tcells (gt x.ands (i : Int))), .any (cirX 0 x h1 js1), .box b3 29 (ccells x h1), .box b1 29 (ccells c h), .old w none_]) (fun k => k ≤ i) (fun k => i - k) 0 (by repeat first | exact Pick.nil | (apply Pick.cons; eq_refl)) (by repeat first | exact trivial | refine ⟨rfl, ?_⟩) (by repeat first | exact Wk.nil | exact Wk.refl | (apply Wk.cons; (focus ((repeat first | exact Rem.here | apply Rem.there | apply Rem.skip); done))) | apply Wk.nilv | apply Wk.last | apply Wk.drop) (Nat.zero_le _) ?_
      intro k hk
      by_cases hkl : k < i ∧ x.ands.length < 300
      · obtain ⟨hki, hl3⟩ := hkl
        have hk2 : k < x.ands.length := by omega
        obtain ⟨m1, m2, m3, m4⟩ := hlow k hk2
        have hne := hone i k hlt hki
        by_cases hle : (gt x.ands (k : Int)).2.1 = (gt x.ands (i : Int)).2.1
        · have hne2 : (gt x.ands (k : Int)).2.2 ≠ (gt x.ands (i : Int)).2.2 := fun e => hne ⟨hle, e⟩
          clear hne
          repeat' (first
      | (apply G_ix; eq_refl; eq_refl; (apply Rd.cirA; (repeat first | exact In.here | apply In.there | apply In.skip)); (first | eq_refl | omega); omega; omega)
      | (apply G_rdF; eq_refl; (apply Rd.cirA; (repeat first | exact In.here | apply In.there | apply In.skip)); (case ih => infer_instance); omega; omega; eq_refl)
      | (apply GC_seqK; intro K hK)
      | (apply hK; clear hK K)
      | (apply GC_block)
      | (apply GC_region)
      | (apply GL_nil)
      | (apply thenG_normal)
      | (apply blockG_normal)
      | (apply GC_skip)
      | (apply GC_if_true; eq_refl)
      | (apply GC_if_false; eq_refl)
      | (apply GL_on; eq_refl; eq_refl)
      | (refine GC_draws (id := 18) [.q 0, .q 1, .q 2, .q 3, .q 4, .q 5, .q 6, .q 7, .q 8, .q 9, .q 10, .q 11, .q 12, .q 13, .q 14, .q 15, .q 16, .q 17, .q 18, .q 19] mixed (by kernel_rfl) (by kernel_rfl) ?_)
      | (apply GS_nil)
      | (apply GS_qon; eq_refl; eq_refl; eq_refl; eq_refl)
      | (apply G_pv; eq_refl; first | exact trivial | omega)
      | (apply G_field; eq_refl)
      | (apply G_fieldP; eq_refl)
      | (apply G_ld; eq_refl; (repeat first | exact In.here | apply In.there | apply In.skip); eq_refl)
      | (apply G_cmpT; eq_refl; eq_refl; omega)
      | (apply G_cmpF; eq_refl; eq_refl; omega)
      | (apply G_len; eq_refl))
          exact ⟨k + 1, (by repeat first | exact trivial | refine ⟨rfl, ?_⟩), (by repeat first | exact Wk.nil | exact Wk.refl | (apply Wk.cons; (focus ((repeat first | exact Rem.here | apply Rem.there | apply Rem.skip); done))) | apply Wk.nilv | apply Wk.last | apply Wk.drop), by omega, by omega⟩
        · clear hne
          repeat' (first
      | (apply G_ix; eq_refl; eq_refl; (apply Rd.cirA; (repeat first | exact In.here | apply In.there | apply In.skip)); (first | eq_refl | omega); omega; omega)
      | (apply G_rdF; eq_refl; (apply Rd.cirA; (repeat first | exact In.here | apply In.there | apply In.skip)); (case ih => infer_instance); omega; omega; eq_refl)
      | (apply GC_seqK; intro K hK)
      | (apply hK; clear hK K)
      | (apply GC_block)
      | (apply GC_region)
      | (apply GL_nil)
      | (apply thenG_normal)
      | (apply blockG_normal)
      | (apply GC_skip)
      | (apply GC_if_true; eq_refl)
      | (apply GC_if_false; eq_refl)
      | (apply GL_on; eq_refl; eq_refl)
      | (refine GC_draws (id := 18) [.q 0, .q 1, .q 2, .q 3, .q 4, .q 5, .q 6, .q 7, .q 8, .q 9, .q 10, .q 11, .q 12, .q 13, .q 14, .q 15, .q 16, .q 17, .q 18, .q 19] mixed (by kernel_rfl) (by kernel_rfl) ?_)
      | (apply GS_nil)
      | (apply GS_qon; eq_refl; eq_refl; eq_refl; eq_refl)
      | (apply GS_qoff; eq_refl; eq_refl; eq_refl; eq_refl)
      | (apply G_pv; eq_refl; first | exact trivial | omega)
      | (apply G_field; eq_refl)
      | (apply G_fieldP; eq_refl)
      | (apply G_ld; eq_refl; (repeat first | exact In.here | apply In.there | apply In.skip); eq_refl)
      | (apply G_cmpT; eq_refl; eq_refl; omega)
      | (apply G_cmpF; eq_refl; eq_refl; omega)
      | (apply G_len; eq_refl))
          exact ⟨k + 1, (by repeat first | exact trivial | refine ⟨rfl, ?_⟩), (by repeat first | exact Wk.nil | exact Wk.refl | (apply Wk.cons; (focus ((repeat first | exact Rem.here | apply Rem.there | apply Rem.skip); done))) | apply Wk.nilv | apply Wk.last | apply Wk.drop), by omega, by omega⟩
      · by_cases hki : k < i
        · have hl3 : ¬ x.ands.length < 300 := fun h => hkl ⟨hki, h⟩
          clear hkl
          repeat' (first
      | (apply GC_seqK; intro K hK)
      | (apply hK; clear hK K)
      | (clear hK K; apply hK; clear hK K)
      | (apply GC_region)
      | (apply GL_nil)
      | (apply thenG_normal)
      | (apply thenG_exit)
      | (apply blockG_hit)
      | (apply blockG_normal)
      | (apply GC_exit)
      | (apply GC_if_false; eq_refl)
      | (apply GL_on; eq_refl; eq_refl)
      | (apply G_pv; eq_refl; first | exact trivial | omega)
      | (apply G_field; eq_refl)
      | (apply G_ld; eq_refl; (repeat first | exact In.here | apply In.there | apply In.skip); eq_refl)
      | (apply G_cmpT; eq_refl; eq_refl; omega)
      | (apply G_cmpF; eq_refl; eq_refl; omega)
      | (apply G_len; eq_refl))
          exact ⟨i + 1, (by repeat first | exact trivial | refine ⟨rfl, ?_⟩), (by repeat first | exact Wk.nil | exact Wk.refl | (apply Wk.cons; (focus ((repeat first | exact Rem.here | apply Rem.there | apply Rem.skip); done))) | apply Wk.nilv | apply Wk.last | apply Wk.drop), hlt, by omega⟩
        · clear hkl
          repeat' (first
      | (apply GC_seqK; intro K hK)
      | (apply hK; clear hK K)
      | (clear hK K; apply hK; clear hK K)
      | (apply GC_region)
      | (apply GL_nil)
      | (apply thenG_normal)
      | (apply thenG_exit)
      | (apply blockG_hit)
      | (apply blockG_normal)
      | (apply GC_exit)
      | (apply GC_if_false; eq_refl)
      | (apply GL_on; eq_refl; eq_refl)
      | (apply GL_off; eq_refl; eq_refl)
      | (apply G_pv; eq_refl; first | exact trivial | omega)
      | (apply G_cmpF; eq_refl; eq_refl; omega))
          exact ⟨i + 1, (by repeat first | exact trivial | refine ⟨rfl, ?_⟩), (by repeat first | exact Wk.nil | exact Wk.refl | (apply Wk.cons; (focus ((repeat first | exact Rem.here | apply Rem.there | apply Rem.skip); done))) | apply Wk.nilv | apply Wk.last | apply Wk.drop), hlt, by omega⟩
    · repeat' (first
      | (apply GC_seqK; intro K hK)
      | (apply hK; clear hK K)
      | (clear hK K; apply hK; clear hK K)
      | (apply GC_region)
      | (apply GL_nil)
      | (apply thenG_normal)
      | (apply thenG_exit)
      | (apply blockG_hit)
      | (apply GC_ret)
      | (apply GC_exit)
      | (apply GC_if_false; eq_refl)
      | (apply retG1; eq_refl)
      | (apply GL_on; eq_refl; eq_refl)
      | (apply G_pv; eq_refl; first | exact trivial | omega)
      | (apply G_cmpF; eq_refl; eq_refl; omega))
      exact ⟨[], (by repeat first | exact Wk.nil | exact Wk.refl | (apply Wk.cons; (focus ((repeat first | exact Rem.here | apply Rem.there | apply Rem.skip); done))) | apply Wk.nilv | apply Wk.last | apply Wk.drop), rfl, rfl⟩
  · have hB : ∀ Γ, In Γ (.old w none_) → ∀ w', Mem w' Γ → CVN Try.prog 32 [.agg (ccells c h).toArray] w' _ := fun Γ hi w' M => build_no (H.chg (hi.old M)) he
    generalize (lookM c).2 = ε at *
    repeat' (first
      | (apply G_call; eq_refl; eq_refl; (exact fun w' _ => hW w'); rintro _ _ ⟨rfl, rfl⟩)
      | (apply G_call; eq_refl; eq_refl; (apply hB; (repeat first | exact In.here | apply In.there | apply In.skip)); rintro _ _ ⟨rfl, rfl⟩)
      | (apply GC_seqK; intro K hK)
      | (apply hK; clear hK K)
      | (apply GC_region)
      | (apply GL_nil)
      | (apply thenG_normal)
      | (apply thenG_ret)
      | (apply GC_ret)
      | (apply GC_skip)
      | (apply GC_if_true; eq_refl)
      | (apply GC_if_false; eq_refl)
      | (apply retG1; eq_refl)
      | (apply GL_on; eq_refl; eq_refl)
      | (apply G_pv; eq_refl; first | exact trivial | omega)
      | (apply G_field; eq_refl)
      | (apply G_ld; eq_refl; (repeat first | exact In.here | apply In.there | apply In.skip); eq_refl)
      | (apply G_ldW; eq_refl; (repeat first | exact In.here | apply In.there | apply In.skip); eq_refl)
      | (apply G_cmpT; eq_refl; eq_refl; omega)
      | (apply G_len; eq_refl)
      | (apply G_alloc; eq_refl; intro _)
      | (apply G_box; eq_refl; eq_refl; intro _)
      | (apply G_stW; (first | exact wr_p | kernel_rfl); eq_refl; eq_refl; eq_refl; eq_refl; (repeat first | exact Upd.here | apply Upd.there | apply Upd.skip); eq_refl))
    exact ⟨[], (by repeat first | exact Wk.nil | exact Wk.refl | (apply Wk.cons; (focus ((repeat first | exact Rem.here | apply Rem.there | apply Rem.skip); done))) | apply Wk.nilv | apply Wk.last | apply Wk.drop), rfl, rfl⟩
end SC
end Go.Proofs.Yticndofcfacopaa
end
